/- The walk of the law FnFreeValue. -/
import Derived.Test.YteabpdnlkncbpaaDrawKept
import Derived.Test.YteabpdnlkncbpaaKeepI
import Derived.Test.YteabpdnlkncbpaaFreeI
import Derived.WalkKit
import Derived.WalkSpells
import Derived.WalkLawsBesides
import Derived.Outline
namespace Go.Proofs.Yteabpdnlkncbpaa
open Go.RowKit
set_option linter.unusedVariables false

theorem sameKept_len (A B : Option Addr) (n m c d : Nat) (w : World) (h : n ≠ m) : Calls Try.prog 26 #[.slice A n c, .slice B m d] w fun e w' => e = .returned (.bool false) ∧ w = w' := by
  have hne : ((n : Int) != (m : Int)) = true := by simp; omega
  go_enter Try.func26, Try.ntmps26
  go_wp2_with fail
  go_ret
  exact ⟨rfl, rfl⟩
theorem users_ge {ps : List (Int × Int)} : -1 ≤ keptUsers ps ∧ keptUsers ps ≤ 10000 := by
  unfold keptUsers
  split
  · rename_i h
    have := usersP_bound h ps.length (Nat.le_refl _)
    rw [List.take_length] at this
    have := keptB_len h
    omega
  · omega
theorem users_of {ps : List (Int × Int)} (h : keptB ps = true) : keptUsers ps = usersP ps := by simp [keptUsers, h]
theorem keep_false {ps r : List (Int × Int)} {v : Int} (h : keepValue ps v = (r, false)) : r = ps ∨ r = [] := by
  unfold keepValue at h
  split at h
  · split at h
    · simp at h
    · simp at h; exact .inl h.symm
  · simp at h; exact .inr h
theorem keep_true {ps r : List (Int × Int)} {v : Int} (h : keepValue ps v = (r, true)) : keptB r = true ∧ freeValue r v = (ps, true) ∧ keptUsers r = keptUsers ps + 1 := by
  unfold keepValue at h
  split at h
  · rename_i hv
    split at h
    · rename_i hv2
      simp only [Prod.mk.injEq, and_true] at h
      subst h
      obtain ⟨h1, h2, h3⟩ := free_of_keep hv hv2
      refine ⟨hv2, ?_, ?_⟩
      · unfold freeValue; rw [hv2, if_pos rfl, h1, h2]
      · rw [users_of hv, users_of hv2, h3]
    · simp at h
  · simp at h
theorem free_false {ps r : List (Int × Int)} {v : Int} (h : freeValue ps v = (r, false)) : r = ps ∨ r = [] := by
  unfold freeValue at h
  split at h
  · rename_i hv
    simp only [Prod.mk.injEq] at h
    left
    rw [← h.1]
    refine freeRaw_other (fun p hp e => ?_) (kept_pos hv)
    have := h.2
    unfold hasV at this
    rw [List.any_eq_false] at this
    exact this p hp (by simpa using e)
  · simp at h; exact .inr h
theorem free_true {ps r : List (Int × Int)} {v : Int} (h : freeValue ps v = (r, true)) : keptB r = true ∧ keepValue r v = (ps, true) ∧ keptUsers r = keptUsers ps - 1 := by
  unfold freeValue at h
  split at h
  · rename_i hv
    simp only [Prod.mk.injEq] at h
    obtain ⟨h1, h2, h3⟩ := keep_of_free hv h.2
    rw [← h.1]
    refine ⟨h1, ?_, ?_⟩
    · unfold keepValue; rw [h1, if_pos rfl, h2, hv, if_pos rfl]
    · rw [users_of hv, users_of h1, h3]
  · simp at h

set_option maxHeartbeats 4000000 in
theorem walk_FnFreeValue {w : World} (A : Option Addr) (zs : List Int) (c : Nat) (h : Byts w A zs) (hcap : zs.length ≤ c) :
    Calls Try.prog 8 #[.slice A zs.length c] w fun e w' => e = .returned (.bool true) ∧ Kp No w w' := by
  go_enter Try.func8, Try.ntmps8
  by_cases hl : 1048576 < zs.length
  · go_wp2_with fail
    go_ret
    exact ⟨rfl, Kp.refl _ _⟩
  · go_wp2_with fail
    refine (drawFreeValue _ _ _ _ h hcap (by omega)).mono ?_
    rintro e w1 ⟨A1, c1, ps, v, rfl, o1, l1, k1⟩
    clear h hcap
    have ci := fun W (h : OwnP W w.heap.size w1.heap.size A1 c1 ps) => freeValue_impl A1 ps c1 _ _ v W h.prs (by omega)
    have cs := fun W (h : OwnP W w.heap.size w1.heap.size A1 c1 ps) => freeValue_spec A1 ps c1 _ _ v W h.prs (by omega)
    obtain ⟨r, b, hr⟩ : ∃ r b, freeValue ps v = (r, b) := ⟨_, _, rfl⟩
    have hrl := freeValue_len ps v
    rw [hr] at ci cs hrl
    have hrl : r.length ≤ 10 := hrl
    have CI := Lib.hid ci; have CS := Lib.hid cs
    clear ci cs
    cases b
    · have Hno := Lib.hid (free_false hr)
      clear hr
      go_wp2_with fail
      refine (CI.out _ o1).mono ?_
      rintro e w2 ⟨A2, c2, rfl, o2, k2⟩
      have o2 : OwnP w2 w1.heap.size w2.heap.size A2 c2 r := o2
      go_wp2_with fail
      refine (CS.out _ (o1.keepNo k2)).mono ?_
      rintro e w3 ⟨A3, c3, rfl, o3, k3⟩
      have o3 : OwnP w3 w2.heap.size w3.heap.size A3 c3 r := o3
      go_wp2_with fail
      refine (sameKept_same _ _ r _ _ _ _ _ _ _ (o2.keepNo k3).prs o3.prs (by omega)).mono ?_
      rintro e w4 ⟨rfl, k4⟩
      have k14 := ((k1.trans k2).trans k3).trans k4
      have o14 := ((o1.keepNo k2).keepNo k3).keepNo k4
      have o24 := (o2.keepNo k3).keepNo k4
      clear o1 o2 o3 k1 k2 k3 k4
      go_wp2_with fail
      by_cases hz : r.length = ps.length
      · obtain rfl : r = ps := by
          rcases Hno.out with h | h
          · exact h
          · rw [h] at hz ⊢
            exact (List.eq_nil_of_length_eq_zero (by simpa using hz.symm)).symm
        refine (sameKept_same _ _ r _ _ _ _ _ _ _ o24.prs o14.prs (by omega)).mono ?_
        rintro e w6 ⟨rfl, k6⟩
        go_wp2_with fail
        refine (alive_ _).mono ?_
        rintro e w' ⟨rfl, rfl⟩
        go_wp2_with fail
        go_ret
        exact ⟨rfl, k14.trans k6⟩
      · obtain rfl : r = [] := by
          rcases Hno.out with h | h
          · exact absurd (by rw [h]) hz
          · exact h
        refine (sameKept_len _ _ _ _ _ _ _ hz).mono ?_
        rintro e w' ⟨rfl, rfl⟩
        go_wp2_with fail
        refine (alive_ _).mono ?_
        rintro e w' ⟨rfl, rfl⟩
        go_wp2_with fail
        go_ret
        exact ⟨rfl, k14⟩
    · obtain ⟨hv2, hback, hus⟩ := free_true hr
      have hub := users_ge (ps := ps)
      have hub2 := users_ge (ps := r)
      have HV := Lib.hid hv2; have HB := Lib.hid hback; have HU := Lib.hid hus
      clear hr hv2 hback hus
      go_wp2_with fail
      refine (CI.out _ o1).mono ?_
      rintro e w2 ⟨A2, c2, rfl, o2, k2⟩
      have o2 : OwnP w2 w1.heap.size w2.heap.size A2 c2 r := o2
      go_wp2_with fail
      refine (CS.out _ (o1.keepNo k2)).mono ?_
      rintro e w3 ⟨A3, c3, rfl, o3, k3⟩
      have o3 : OwnP w3 w2.heap.size w3.heap.size A3 c3 r := o3
      go_wp2_with fail
      refine (sameKept_same _ _ r _ _ _ _ _ _ _ (o2.keepNo k3).prs o3.prs (by omega)).mono ?_
      rintro e w4 ⟨rfl, k4⟩
      have k14 := ((k1.trans k2).trans k3).trans k4
      have o14 := ((o1.keepNo k2).keepNo k3).keepNo k4
      have o24 := (o2.keepNo k3).keepNo k4
      clear o1 o2 o3 k1 k2 k3 k4
      have cb := fun W (h : OwnP W w1.heap.size w2.heap.size A2 c2 r) => keepValue_impl A2 r c2 _ _ v W h.prs (by omega)
      rw [HB.out] at cb
      have CB := Lib.hid cb
      clear cb
      go_wp2_with fail
      refine (CB.out _ o24).mono ?_
      rintro e w5 ⟨A5, c5, rfl, o5, k5⟩
      go_wp2_with fail
      refine (keptValid_impl _ r _ _ _ _ (o24.keepNo k5).prs (by omega)).mono ?_
      rintro e w6 ⟨rfl, k6⟩
      rw [HV.out]
      go_wp2_with fail
      refine (sameKept_same _ _ ps _ _ _ _ _ _ _ (o5.keepNo k6).prs ((o14.keepNo k5).keepNo k6).prs (by omega)).mono ?_
      rintro e w7 ⟨rfl, k7⟩
      have k17 := ((k14.trans k5).trans k6).trans k7
      have o27 := ((o24.keepNo k5).keepNo k6).keepNo k7
      have o17 := ((o14.keepNo k5).keepNo k6).keepNo k7
      go_wp2_with fail
      refine (keptUsers_impl _ r _ _ _ _ o27.prs (by omega)).mono ?_
      rintro e w8 ⟨rfl, k8⟩
      go_wp2_with fail
      refine (keptUsers_impl _ ps _ _ _ _ (o17.keepNo k8).prs (by omega)).mono ?_
      rintro e w9 ⟨rfl, k9⟩
      have he : (keptUsers r == keptUsers ps - 1) = true := by rw [HU.out]; simp
      go_wp2_with fail
      go_ret
      exact ⟨rfl, (k17.trans k8).trans k9⟩
end Go.Proofs.Yteabpdnlkncbpaa
