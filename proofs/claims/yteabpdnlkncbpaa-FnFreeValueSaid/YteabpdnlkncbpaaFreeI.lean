/- FreeValue of the program. -/
import Derived.Test.YteabpdnlkncbpaaDelete
import Derived.WalkKit
import Derived.WalkSpells
import Derived.WalkLawsBesides
import Derived.Outline
namespace Go.Proofs.Yteabpdnlkncbpaa
open Go.RowKit
set_option linter.unusedVariables false

theorem split_at {ps : List (Int × Int)} {k : Nat} {v y : Int} (h : keptB ps = true) (hk : ps[k]? = some (v, y)) : ps = ps.take k ++ (v, y) :: ps.drop (k + 1) ∧ (∀ p ∈ ps.take k, p.1 < v) ∧ (∀ p ∈ ps.drop (k + 1), v < p.1) := by
  obtain ⟨hl, hx⟩ := List.getElem?_eq_some_iff.1 hk
  have e : ps = ps.take k ++ (v, y) :: ps.drop (k + 1) := by rw [← hx, ← List.drop_eq_getElem_cons hl, List.take_append_drop]
  have hs := ((kept_iff ps).1 h).2.2
  rw [e] at hs
  have h1 := List.pairwise_append.1 hs
  exact ⟨e, fun p hp => h1.2.2 p hp (v, y) (by simp), fun p hp => (List.pairwise_cons.1 h1.2.1).1 p hp⟩
theorem free_set {ps : List (Int × Int)} {k : Nat} {v y : Int} (h : keptB ps = true) (hk : ps[k]? = some (v, y)) (hy : 1 < y) : freeValue ps v = (ps.set k (v, y - 1), true) := by
  obtain ⟨e, hL, hR⟩ := split_at h hk
  have hl := (List.getElem?_eq_some_iff.1 hk).1
  have hp := kept_pos h
  unfold freeValue
  rw [h, if_pos rfl]
  have e1 : freeRaw ps v = ps.set k (v, y - 1) := by
    have := freeRaw_at hL hR (by rw [← e]; exact hp)
    rw [← e, if_pos hy] at this
    rw [this, List.set_eq_take_append_cons_drop, if_pos hl]; simp
  have e2 : hasV ps v = true := by rw [e]; exact hasV_yes
  rw [e1, e2]
theorem free_del {ps : List (Int × Int)} {k : Nat} {v y : Int} (h : keptB ps = true) (hk : ps[k]? = some (v, y)) (hy : y = 1) : freeValue ps v = (ps.eraseIdx k, true) := by
  obtain ⟨e, hL, hR⟩ := split_at h hk
  have hp := kept_pos h
  unfold freeValue
  rw [h, if_pos rfl]
  have e1 : freeRaw ps v = ps.eraseIdx k := by
    have := freeRaw_at hL hR (by rw [← e]; exact hp)
    rw [← e, if_neg (by omega)] at this
    rw [this, List.eraseIdx_eq_take_drop_succ]; simp
  have e2 : hasV ps v = true := by rw [e]; exact hasV_yes
  rw [e1, e2]
theorem free_none {ps : List (Int × Int)} {v : Int} (h : keptB ps = true) (hn : ∀ p ∈ ps, p.1 ≠ v) : freeValue ps v = (ps, false) := by
  unfold freeValue
  rw [h, if_pos rfl, freeRaw_other hn (kept_pos h)]
  have : hasV ps v = false := by unfold hasV; rw [List.any_eq_false]; intro p hp; simpa using hn p hp
  rw [this]
def NoneV (ps : List (Int × Int)) (v : Int) (k : Nat) : Prop := ∀ p ∈ ps.take k, p.1 ≠ v
theorem NoneV.succ {ps : List (Int × Int)} {v : Int} {k : Nat} {x y : Int} (h : NoneV ps v k) (hx : ps[k]? = some (x, y)) (hv : x ≠ v) : NoneV ps v (k + 1) := by
  obtain ⟨hk, hx⟩ := List.getElem?_eq_some_iff.1 hx
  intro p hp
  rw [List.take_succ_eq_append_getElem hk, List.mem_append] at hp
  rcases hp with hp | hp
  · exact h p hp
  · simp at hp; subst hp; rw [hx]; exact hv

set_option maxHeartbeats 2000000 in
theorem freeValue_impl (A : Option Addr) (ps : List (Int × Int)) (c lo hi : Nat) (v : Int) (w : World) (h : Prs w lo hi A ps) (hs : ps.length ≤ 4000000) : Calls Try.prog 22 #[.slice A ps.length c, .int .i64 v] w (NewPB w (freeValue ps v)) := by
  go_enter Try.func22, Try.ntmps22
  go_wp2_with fail
  refine (keptValid_impl _ _ _ _ _ _ h hs).mono ?_
  rintro e w1 ⟨rfl, k1⟩
  cases hv : keptB ps
  · have H := Lib.hid (show freeValue ps v = ([], false) by unfold freeValue; rw [hv]; rfl)
    go_wp2_with fail
    go_ret2
    rw [H.out]
    exact ⟨none, 0, rfl, Own.nil (Nat.le_refl _), k1⟩
  · have Hv := Lib.hid hv
    have hl10 := keptB_len hv
    clear hv
    go_wp2_with fail
    refine (cloneP_any _ _ _ _ _ _ (h.keepNo k1) hs).mono ?_
    rintro e w2 ⟨A2, c2, rfl, o2, k2⟩
    have k12 := k1.trans k2
    have hs1 := k1.size
    go_wp2_with fail
    go_loop [6, 15] (fun o i => ∃ k : Nat, k ≤ ps.length ∧ i = .int .i64 k ∧ o = .slice A2 ps.length c2 ∧ NoneV ps v k) (fun _ i => ps.length - (intOf i).toNat)
    case atStart => exact ⟨0, Nat.zero_le _, rfl, rfl, fun p hp => by simp at hp⟩
    case round =>
      obtain ⟨k, hk, rfl, rfl, hnone⟩ := hrel
      by_cases hlt : k < ps.length
      · obtain ⟨g, x, y, rfl, hg1, hg2, hx, c0, c1, f0, f1⟩ := o2.at_ hlt
        by_cases hxv : x = v
        · subst hxv
          obtain ⟨x0, x1, y0, y1⟩ := kept_at Hv.out hx
          have hb : (x != x) = false := by simp
          have o3 := o2.set2 k (y - 1) hx
          have ks : Kp (At g) w2 (w2.setCell ⟨g, k * 2 + 1, none⟩ (.int .i64 (y - 1))) := Kp.setCell (Kp.refl (At g) w2) (p := ⟨g, k * 2 + 1, none⟩) (fun _ => (rfl : g = g)) _
          have k13 := k12.also ks (fun i hi e => by simp only [At] at e; omega)
          by_cases hy : 1 < y
          · have H := Lib.hid (free_set Hv.out hx hy)
            have he : (y - 1 == 0) = false := beq_eq_false_iff_ne.2 (by omega)
            clear hx
            go_wp2_with fail
            go_ret2
            rw [H.out]
            exact ⟨some ⟨g, 0, none⟩, c2, by simp, o3.wide (by omega) (by have := ks.size; omega) (Nat.le_refl _), k13⟩
          · obtain rfl : y = 1 := by omega
            have H := Lib.hid (free_del Hv.out hx rfl)
            have hers : (ps.set k (x, 0)).eraseIdx k = ps.eraseIdx k := by rw [List.eraseIdx_set_eq]
            have o3 := o2.set2 k 0 hx
            have ks : Kp (At g) w2 (w2.setCell ⟨g, k * 2 + 1, none⟩ (.int .i64 0)) := Kp.setCell (Kp.refl (At g) w2) (p := ⟨g, k * 2 + 1, none⟩) (fun _ => (rfl : g = g)) _
            have k13 := k12.also ks (fun i hi e => by simp only [At] at e; omega)
            have hd := delete_any g c2 _ _ k (ps.set k (x, 0)) _ o3 (by simpa using hlt) (by simp; omega)
            rw [hers, List.length_set] at hd
            have HD := Lib.hid hd
            clear hx hd hers
            go_wp2_with fail
            refine HD.out.mono ?_
            rintro e w4 ⟨rfl, o4, k4⟩
            go_wp2_with fail
            go_ret2
            rw [H.out]
            exact ⟨some ⟨g, 0, none⟩, c2, rfl, o4.wide (by omega) (by have := ks.size; have := k4.size; omega) (Nat.le_refl _), k13.also k4 (fun i hi e => by simp only [At] at e; omega)⟩
        · have hb : (x != v) = true := by simpa using hxv
          have Hn := Lib.hid (hnone.succ hx hxv)
          clear hx hxv
          go_wp2_with fail
          go_round
          case rel => exact ⟨k + 1, by omega, by go_num, rfl, Hn.out⟩
          case measure => simp [intOf]; omega
      · obtain rfl : k = ps.length := by omega
        have H := Lib.hid (free_none (v := v) Hv.out (fun p hp => hnone p (by rw [List.take_length]; exact hp)))
        go_wp2_with fail
        go_ret2
        rw [H.out]
        exact ⟨A2, c2, rfl, o2.wide (by omega) (Nat.le_refl _) (Nat.le_refl _), k12⟩
end Go.Proofs.Yteabpdnlkncbpaa
