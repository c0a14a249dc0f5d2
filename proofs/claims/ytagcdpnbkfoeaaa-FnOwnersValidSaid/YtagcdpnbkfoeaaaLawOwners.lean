/- The walk of the law FnOwnersValid. -/
import Derived.Test.YtagcdpnbkfoeaaaDrawOwners
import Derived.WalkKit
import Derived.WalkSpells
import Derived.WalkLawsBesides
import Derived.Outline
namespace Go.Proofs.Ytagcdpnbkfoeaaa
open Go.RowKit
set_option linter.unusedVariables false

set_option maxHeartbeats 4000000 in
theorem walk_FnOwnersValid {w : World} (A : Option Addr) (zs : List Int) (c : Nat) (h : Byts w A zs) (hcap : zs.length ≤ c) :
    Calls Try.prog 4 #[.slice A zs.length c] w fun e w' => e = .returned (.bool true) ∧ Kp No w w' := by
  go_enter Try.func4, Try.ntmps4
  by_cases hl : 1048576 < zs.length
  · go_wp2_with fail
    go_ret
    exact ⟨rfl, Kp.refl _ _⟩
  · go_wp2_with fail
    refine (drawOwnersValid _ _ _ _ h hcap (by omega)).mono ?_
    rintro e w1 ⟨A1, c1, xs, rfl, o1, cp1, l1, k1⟩
    clear h hcap
    have hbb : (ownersValid xs != ownersValid xs) = false := by simp
    go_wp2_with fail
    refine (ownersValid_impl _ _ _ _ _ _ o1 (by omega)).mono ?_
    rintro e w' ⟨rfl, rfl⟩
    go_wp2_with fail
    refine (ownersValid_spec _ _ _ _ _ _ o1 (by omega)).mono ?_
    rintro e w' ⟨rfl, rfl⟩
    cases hv : ownersValid xs
    · rw [hv] at hbb
      go_wp2_with fail
      refine (alive_ _).mono ?_
      rintro e w' ⟨rfl, rfl⟩
      go_wp2_with fail
      go_ret
      exact ⟨rfl, k1⟩
    · have hlen : xs.length = 8 := by simp only [ownersValid, Bool.and_eq_true, decide_eq_true_eq] at hv; exact hv.1
      obtain ⟨x, ys, rfl⟩ : ∃ x ys, xs = x :: ys := by
        rcases xs with _ | ⟨x, ys⟩
        · simp at hlen
        · exact ⟨x, ys, rfl⟩
      have Ht := Lib.hid (show ownersValid ys = false from ownersValid_len (by simp at hlen; omega))
      have Hf := Lib.hid (show ownersValid (-1 :: ys) = true by
        have h1 : ownOk (-1) = true := rfl
        simp only [ownersValid, List.all_cons, List.length_cons, Bool.and_eq_true, decide_eq_true_eq] at hv ⊢
        exact ⟨hv.1, h1, hv.2.2⟩)
      have hy7 : ys.length ≤ 7 := by simp at hlen; omega
      have hy7' : 7 ≤ ys.length := by simp at hlen; omega
      rw [hv] at hbb
      simp only [List.length_cons] at cp1 ⊢
      have hc1 : ¬ c1 = 1 := by omega
      obtain ⟨b, off, hA, hb1, hb2, _⟩ := o1.2.2 (by simp)
      subst hA
      have Hlen := Lib.hid hlen
      clear hlen hv
      have on := ownI_lit w1 w1.heap.size #[] [] rfl (Nat.le_refl _) (by simp)
      go_wp2_with (at_builtin; refine wpList_appI _ rfl _ _ rfl w1.heap.size (w1.heap.size + 1) _ 0 [] rfl on _ _ _ c1 (x :: ys) rfl (o1.keepNo ((Kp.refl _ _).alloc _)) (by simp; omega) (by simp) ?_; intro A3 c3 w3 o3 k3; simp only [List.nil_append] at o3; obtain ⟨g3, x3, rfl, hg31, hg32, hx3, e0, f0⟩ := o3.at_ (k := 0) (by simp); clear hx3)
      have o4 := o3.set_ 0 (-1)
      simp only [List.set_cons_zero] at o4
      have k13 : Kp No w w3 := (k1.alloc _).also k3 (fun i hi e => by have := e.1; have := k1.size; omega)
      have k4 : Kp (At g3) w3 (w3.setCell ⟨g3, 0, none⟩ (.int .i64 (-1))) := Kp.setCell (Kp.refl (At g3) w3) (p := ⟨g3, 0, none⟩) (fun _ => (rfl : g3 = g3)) _
      have o1t := (((o1.keepNo ((Kp.refl No w1).alloc (.cells #[] 3))).keep k3 (fun i _ hi e => by have := e.1; omega)).keep k4 (fun i _ hi e => by simp only [At] at e; omega)).tail
      refine (ownersValid_impl _ ys _ _ _ _ o1t (by omega)).mono ?_
      rintro e w' ⟨rfl, rfl⟩
      rw [Ht.out]
      go_wp2_with fail
      refine (len1 (ownersValid_impl _ (-1 :: ys) _ _ _ _ o4.ints (by simp; omega)) (by simp)).mono ?_
      rintro e w' ⟨rfl, rfl⟩
      rw [Hf.out]
      go_wp2_with fail
      go_ret
      exact ⟨rfl, k13.also k4 (fun i hi e => by simp only [At] at e; have := k1.size; omega)⟩
end Go.Proofs.Ytagcdpnbkfoeaaa
