/- KeepValue of the program. -/
import Derived.Test.YteabpdnlkncbpaaInsert
import Derived.WalkKit
import Derived.WalkSpells
import Derived.WalkLawsBesides
import Derived.Outline
namespace Go.Proofs.Yteabpdnlkncbpaa
open Go.RowKit
set_option linter.unusedVariables false

theorem keptImpl_n' (A : Option Addr) (ps : List (Int × Int)) (n c lo hi : Nat) (w : World) (h : Prs w lo hi A ps) (hs : ps.length ≤ 4000000) (hn : n = ps.length) : Calls Try.prog 14 #[.slice A n c] w
    fun e w' => e = .returned (.bool (keptB ps)) ∧ Kp No w w' := by
  subst hn
  exact keptValid_impl A ps c lo hi w h hs
theorem clone_n (A : Option Addr) (ps : List (Int × Int)) (n c lo hi : Nat) (w : World) (h : Prs w lo hi A ps) (hs : ps.length ≤ 4000000) (hn : n = ps.length) : Calls Try.prog 36 #[.slice A n c] w (NewP w ps) := by
  subst hn
  exact cloneP_any A ps c lo hi w h hs

set_option maxHeartbeats 4000000 in
theorem keepValue_impl (A : Option Addr) (ps : List (Int × Int)) (c lo hi : Nat) (v : Int) (w : World) (h : Prs w lo hi A ps) (hs : ps.length ≤ 4000000) : Calls Try.prog 27 #[.slice A ps.length c, .int .i64 v] w (NewPB w (keepValue ps v)) := by
  go_enter Try.func27, Try.ntmps27
  go_wp2_with fail
  refine (keptValid_impl _ _ _ _ _ _ h hs).mono ?_
  rintro e w1 ⟨rfl, k1⟩
  cases hv : keptB ps
  · have H := Lib.hid (keepValue_bad (v := v) hv)
    go_wp2_with fail
    go_ret2
    rw [H.out]
    exact ⟨none, 0, rfl, Own.nil (Nat.le_refl _), k1⟩
  · have Hv := Lib.hid hv
    have hl10 := keptB_len hv
    clear hv
    go_wp2_with fail
    refine (cloneP_any _ _ _ _ _ _ (h.keepNo k1) hs).mono ?_
    rintro e w2 ⟨A2, c2, rfl, o2, k2⟩
    have k12 := k1.trans k2
    have hs1 := k1.size
    have hs2 := k2.size
    have hcap := o2.cap
    go_wp2_with fail
    go_loop [7] (fun i => ∃ k : Nat, k ≤ ps.length ∧ i = .int .i64 k ∧ Below_ ps v k) (fun i => ps.length - (intOf i).toNat)
    case atStart => exact ⟨0, Nat.zero_le _, rfl, fun p hp => by simp at hp⟩
    case round =>
      obtain ⟨k, hk, rfl, hbel⟩ := hrel
      by_cases hgo : ∃ x y, ps[k]? = some (x, y) ∧ x < v
      · obtain ⟨x', y', hx', hlt'⟩ := hgo
        have hlt := (List.getElem?_eq_some_iff.1 hx').1
        obtain ⟨g, x, y, rfl, hg1, hg2, hx, hc, hc2, f0, f1⟩ := o2.at_ hlt
        obtain ⟨rfl, rfl⟩ : x = x' ∧ y = y' := by rw [hx] at hx'; simpa using hx'
        have Hb := Lib.hid (hbel.succ hx hlt')
        clear hx hx'
        go_wp2_with fail
        go_round
        case rel => exact ⟨k + 1, by omega, by go_num, Hb.out⟩
        case measure => simp [intOf]; omega
      · have Hpl := Lib.hid (place_of hbel hk (fun x y hx => by
          rcases Int.lt_or_le x v with h | h
          · exact absurd ⟨x, y, hx, h⟩ hgo
          · exact h))
        obtain ⟨L, R, hps, hkL⟩ : ∃ L R, ps = L ++ R ∧ k = L.length := ⟨ps.take k, ps.drop k, (List.take_append_drop _ _).symm, by simp; omega⟩
        subst hkL
        subst hps
        clear hbel
        simp only [List.length_append] at hs hcap hl10 hk
        have hR0 : (L ++ R)[L.length]? = R.head? := by rw [List.getElem?_append_right (Nat.le_refl _), Nat.sub_self, List.head?_eq_getElem?]
        have lit : Full (w2.alloc (.cells #[.int .i64 v, .int .i64 1] 33)) w2.heap.size 33 [.int .i64 v, .int .i64 1] := heap_alloc_new w2 _
        have kl : Kp No w2 (w2.alloc (.cells #[.int .i64 v, .int .i64 1] 33)) := (Kp.refl _ _).alloc _
        have hzl : (w2.alloc (.cells #[.int .i64 v, .int .i64 1] 33)).heap.size = w2.heap.size + 1 := by simp
        rcases R with _ | ⟨⟨x, y⟩, R⟩
        · have Hr := Lib.hid (show keepRaw L v = L ++ (v, 1) :: [] by
            have := keepRaw_ins Hpl.out (fun x y hx => by rw [hR0] at hx; cases hx)
            simpa using this)
          clear hR0 hgo
          simp only [List.append_nil, List.length_nil, Nat.add_zero] at h o2 hs hcap hl10 hk Hpl Hv ⊢
          have hi := insert_end A2 L c2 _ _ w2.heap.size v 1 _ (o2.keepNo kl) (prs_lit w2 v 1 33) (by omega) (by omega)
          have HI := Lib.hid hi
          clear hi lit
          go_wp2_with fail
          refine HI.out.mono ?_
          rintro e w4 ⟨A4, c4, rfl, o4, k4⟩
          rw [← Hr.out] at o4
          have k14 : Kp No w w4 := (k12.trans kl).also k4 (fun i hi e => by have := e.1; omega)
          simp only [List.length_append, List.length_cons, List.length_nil]
          go_wp2_with fail
          refine (keptImpl_n' _ (keepRaw L v) _ _ _ _ _ o4.prs (by rw [Hr.out]; simp <;> omega) (by rw [Hr.out]; simp <;> omega)).mono ?_
          rintro e w5 ⟨rfl, k5⟩
          have o5 := o4.keepNo k5
          have k15 := k14.trans k5
          have hs5 := k15.size
          cases hv2 : keptB (keepRaw L v)
          · have H := Lib.hid (show keepValue (L ++ []) v = (L, false) by rw [List.append_nil]; exact keepValue_no Hv.out hv2)
            go_wp2_with fail
            refine (clone_n _ L _ _ _ _ _ (h.keepNo k15) (by first | omega | (simp <;> omega)) (by first | rfl | (simp <;> omega))).mono ?_
            rintro e w6 ⟨A6, c6, rfl, o6, k6⟩
            go_wp2_with fail
            go_ret2
            rw [H.out]
            exact ⟨A6, c6, by simp, o6.wide hs5 (Nat.le_refl _) (Nat.le_refl _), k15.trans k6⟩
          · have H := Lib.hid (show keepValue (L ++ []) v = (keepRaw L v, true) by rw [List.append_nil]; exact keepValue_yes Hv.out hv2)
            go_wp2_with fail
            go_ret2
            rw [H.out]
            exact ⟨A4, c4, by rw [Hr.out]; simp <;> omega, o5.wide (by omega) k5.size (Nat.le_refl _), k15⟩
        · have hR0 : (L ++ (x, y) :: R)[L.length]? = some (x, y) := hR0
          simp only [List.length_cons] at hs hcap hl10 hk
          obtain ⟨g, x', y', rfl, hg1, hg2, hx, hc, hc2, f0, f1⟩ := o2.at_ (k := L.length) (by simp)
          obtain ⟨rfl, rfl⟩ : x = x' ∧ y = y' := by rw [hR0] at hx; simpa using hx
          clear hx
          by_cases hxv : x = v
          · subst hxv
            have hb : (x == x) = true := by simp
            have Hr := Lib.hid (show keepRaw (L ++ (x, y) :: R) x = (L ++ (x, y) :: R).set L.length (x, y + 1) from keepRaw_set Hpl.out hR0)
            obtain ⟨_, _, y0, y1⟩ := kept_at Hv.out hR0
            have o4 := o2.set2 L.length (y + 1) hR0
            have ks : Kp (At g) w2 (w2.setCell ⟨g, L.length * 2 + 1, none⟩ (.int .i64 (y + 1))) := Kp.setCell (Kp.refl (At g) w2) (p := ⟨g, L.length * 2 + 1, none⟩) (fun _ => (rfl : g = g)) _
            have k14 := k12.also ks (fun i hi e => by simp only [At] at e; omega)
            rw [← Hr.out] at o4
            clear hR0 hgo lit kl hzl
            go_wp2_with fail
            generalize w2.setCell ⟨g, L.length * 2 + 1, none⟩ (.int .i64 (y + 1)) = w4 at o4 ks k14 ⊢
            have o4 := o4.wide (hi' := w4.heap.size) (Nat.le_refl _) (by have := ks.size; omega) (Nat.le_refl _)
            refine (keptImpl_n' _ (keepRaw (L ++ (x, y) :: R) x) _ _ _ _ _ o4.prs (by rw [Hr.out]; simp <;> omega) (by rw [Hr.out]; simp <;> omega)).mono ?_
            rintro e w5 ⟨rfl, k5⟩
            have o5 := o4.keepNo k5
            have k15 := k14.trans k5
            have hs5 := k15.size
            cases hv2 : keptB (keepRaw (L ++ (x, y) :: R) x)
            · have H := Lib.hid (keepValue_no Hv.out hv2)
              go_wp2_with fail
              refine (clone_n _ (L ++ (x, y) :: R) _ _ _ _ _ (h.keepNo k15) (by first | omega | (simp <;> omega)) (by first | rfl | (simp <;> omega))).mono ?_
              rintro e w6 ⟨A6, c6, rfl, o6, k6⟩
              go_wp2_with fail
              go_ret2
              rw [H.out]
              exact ⟨A6, c6, by simp, o6.wide hs5 (Nat.le_refl _) (Nat.le_refl _), k15.trans k6⟩
            · have H := Lib.hid (keepValue_yes Hv.out hv2)
              go_wp2_with fail
              go_ret2
              rw [H.out]
              exact ⟨some ⟨g, 0, none⟩, c2, by rw [Hr.out]; simp <;> omega, o5.wide (by omega) k5.size (Nat.le_refl _), k15⟩
          · have Hr := Lib.hid (show keepRaw (L ++ (x, y) :: R) v = L ++ (v, 1) :: (x, y) :: R by
              have := keepRaw_ins Hpl.out (fun a b hab => by rw [hR0] at hab; injection hab with hab; injection hab with h1 h2; rw [← h1]; exact hxv)
              simpa using this)
            have hb : (x == v) = false := by simpa using hxv
            have hgt : v < x := by
              rcases Int.lt_or_le x v with h | h
              · exact absurd ⟨x, y, hR0, h⟩ hgo
              · omega
            clear hR0 hgo hxv
            have hi : Calls Try.prog 38 #[.slice (some ⟨g, 0, none⟩) (L.length + ((x, y) :: R).length) c2, .int .i64 L.length, .slice (some ⟨w2.heap.size, 0, none⟩) 1 1] (w2.alloc (.cells #[.int .i64 v, .int .i64 1] 33)) (Insd (w2.alloc (.cells #[.int .i64 v, .int .i64 1] 33)) w1.heap.size w2.heap.size (L ++ (v, 1) :: (x, y) :: R)) := by
              by_cases hroom : L.length + ((x, y) :: R).length + 1 ≤ c2
              · exact insert_shift g L ((x, y) :: R) c2 _ _ w2.heap.size v 1 _ (o2.keepNo kl) lit (by omega) (by simp) hroom (by simp; omega)
              · exact insert_grow g L ((x, y) :: R) c2 _ _ w2.heap.size v 1 _ (o2.keepNo kl) lit (by simp) (by omega) (by simp; omega) (by omega)
            simp only [List.length_cons] at hi
            have HI := Lib.hid hi
            clear hi lit
            go_wp2_with fail
            refine HI.out.mono ?_
            rintro e w4 ⟨A4, c4, rfl, o4, k4⟩
            rw [← Hr.out] at o4
            have k14 : Kp No w w4 := (k12.trans kl).also k4 (fun i hi e => by have := e.1; omega)
            simp only [List.length_append, List.length_cons]
            go_wp2_with fail
            refine (keptImpl_n' _ (keepRaw (L ++ (x, y) :: R) v) _ _ _ _ _ o4.prs (by rw [Hr.out]; simp <;> omega) (by rw [Hr.out]; simp <;> omega)).mono ?_
            rintro e w5 ⟨rfl, k5⟩
            have o5 := o4.keepNo k5
            have k15 := k14.trans k5
            have hs5 := k15.size
            cases hv2 : keptB (keepRaw (L ++ (x, y) :: R) v)
            · have H := Lib.hid (keepValue_no Hv.out hv2)
              go_wp2_with fail
              refine (clone_n _ (L ++ (x, y) :: R) _ _ _ _ _ (h.keepNo k15) (by first | omega | (simp <;> omega)) (by first | rfl | (simp <;> omega))).mono ?_
              rintro e w6 ⟨A6, c6, rfl, o6, k6⟩
              go_wp2_with fail
              go_ret2
              rw [H.out]
              exact ⟨A6, c6, by simp, o6.wide hs5 (Nat.le_refl _) (Nat.le_refl _), k15.trans k6⟩
            · have H := Lib.hid (keepValue_yes Hv.out hv2)
              go_wp2_with fail
              go_ret2
              rw [H.out]
              exact ⟨A4, c4, by rw [Hr.out]; simp <;> omega, o5.wide (by omega) k5.size (Nat.le_refl _), k15⟩
end Go.Proofs.Yteabpdnlkncbpaa
