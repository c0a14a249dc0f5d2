/- OwnersValid, of the program and of the reference: one Lean function ownersValid for both. -/
import Derived.Test.YtagcdpnbkfoeaaaInts
import Derived.WalkKit
import Derived.WalkSpells
import Derived.WalkLawsBesides
import Derived.Outline
namespace Go.Proofs.Ytagcdpnbkfoeaaa
open Go.RowKit
set_option linter.unusedVariables false

def ownOk (n : Int) : Bool := inB n (-1) 3
def ownersValid (xs : List Int) : Bool := decide (xs.length = 8) && xs.all ownOk
theorem ownersValid_len {xs : List Int} (h : ¬ xs.length = 8) : ownersValid xs = false := by simp [ownersValid, h]
theorem all_get {f : Int → Bool} {xs : List Int} (h : ∀ (j : Nat) (x : Int), xs[j]? = some x → f x = true) : xs.all f = true := by
  rw [List.all_eq_true]; intro x hx; obtain ⟨j, hj⟩ := List.mem_iff_getElem?.1 hx; exact h j x hj
theorem all_not {f : Int → Bool} {xs : List Int} {k : Nat} {x : Int} (h : xs[k]? = some x) (hx : f x = false) : xs.all f = false := by
  rw [List.all_eq_false]; exact ⟨x, List.mem_of_getElem? h, by simp [hx]⟩
/-- Of the first k numbers each passes the test. -/
def Upto (f : Int → Bool) (xs : List Int) (k : Nat) : Prop := ∀ (j : Nat) (x : Int), j < k → xs[j]? = some x → f x = true
theorem Upto.zero (f : Int → Bool) (xs : List Int) : Upto f xs 0 := fun j x hj => absurd hj (by omega)
theorem Upto.succ {f : Int → Bool} {xs : List Int} {k : Nat} (h : Upto f xs k) {x : Int} (hx : xs[k]? = some x) (hf : f x = true) : Upto f xs (k + 1) := by
  intro j y hj hy
  by_cases e : j = k
  · subst e; rw [hx] at hy; injection hy with hy; rw [← hy]; exact hf
  · exact h j y (by omega) hy
theorem Upto.all {f : Int → Bool} {xs : List Int} {k : Nat} (h : Upto f xs k) (hk : xs.length ≤ k) : xs.all f = true :=
  all_get fun j x hj => h j x (by have := (List.getElem?_eq_some_iff.1 hj).1; omega) hj

theorem ownersValid_impl (A : Option Addr) (xs : List Int) (c lo hi : Nat) (w : World) (h : Ints w lo hi A xs) (hs : xs.length ≤ 4000000) : Calls Try.prog 11 #[.slice A xs.length c] w
    fun e w' => e = .returned (.bool (ownersValid xs)) ∧ w = w' := by
  go_enter Try.func11, Try.ntmps11
  by_cases hl : xs.length = 8
  · have hne : ((xs.length : Int) != 8) = false := by rw [hl]; rfl
    have Hl := Lib.hid hl
    have h8 : xs.length ≤ 8 := by omega
    have h8' : 8 ≤ xs.length := by omega
    clear hl
    go_wp2
    go_loop [10] (fun i => ∃ k : Nat, k ≤ xs.length ∧ i = .int .i64 k ∧ Upto ownOk xs k) (fun i => xs.length - (intOf i).toNat)
    case atStart => exact ⟨0, Nat.zero_le _, rfl, Upto.zero _ _⟩
    case round =>
      obtain ⟨k, hk, rfl, hall⟩ := hrel
      by_cases hlt : k < xs.length
      · obtain ⟨b, off, x, rfl, hb1, hb2, hx, hc⟩ := h.at_ hlt
        have Hx := Lib.hid hx; clear hx
        by_cases hok : -1 ≤ x ∧ x ≤ 3
        · obtain ⟨hx1, hx2⟩ := hok
          go_wp2
          go_round
          case rel => exact ⟨k + 1, by omega, by go_num, hall.succ Hx.out (inB_true ⟨hx1, hx2⟩)⟩
          case measure => simp [intOf]; omega
        · have hbad : ownersValid xs = false := by simp [ownersValid, all_not Hx.out (f := ownOk) (inB_false hok)]
          have Hbad := Lib.hid hbad; clear hbad
          have hok' : x < -1 ∨ 3 < x := by omega
          clear hok
          go_wp2
          all_goals go_ret
          all_goals exact ⟨ret_bool Hbad.out.symm, rfl⟩
      · go_wp2
        go_ret
        exact ⟨ret_bool (by simp [ownersValid, hall.all (by omega)]; exact Hl.out), rfl⟩
  · have Hbad := Lib.hid (ownersValid_len hl)
    have hne : ((xs.length : Int) != 8) = true := by simp; omega
    go_wp2
    all_goals go_ret
    all_goals exact ⟨ret_bool Hbad.out.symm, rfl⟩

theorem ownersValid_spec (A : Option Addr) (xs : List Int) (c lo hi : Nat) (w : World) (h : Ints w lo hi A xs) (hs : xs.length ≤ 4000000) : Calls Try.prog 9 #[.slice A xs.length c] w
    fun e w' => e = .returned (.bool (ownersValid xs)) ∧ w = w' := by
  go_enter Try.func9, Try.ntmps9
  go_wp2_with fail
  go_loop [3] (fun i => ∃ k : Nat, k ≤ xs.length ∧ i = .int .i64 k ∧ Upto ownOk xs k) (fun i => xs.length - (intOf i).toNat)
  case atStart => exact ⟨0, Nat.zero_le _, rfl, Upto.zero _ _⟩
  case round =>
    obtain ⟨k, hk, rfl, hall⟩ := hrel
    by_cases hlt : k < xs.length
    · obtain ⟨b, off, x, rfl, hb1, hb2, hx, hc⟩ := h.at_ hlt
      have Hx := Lib.hid hx; clear hx
      by_cases hok : inB x (-1) 3 = true
      · go_wp2_with (go_at_call 30; refine (l1In_any _ _ _ _).mono ?_; rintro e w' ⟨rfl, rfl⟩)
        go_round
        case rel => exact ⟨k + 1, by omega, by go_num, hall.succ Hx.out hok⟩
        case measure => simp [intOf]; omega
      · have hok : inB x (-1) 3 = false := by simpa using hok
        have Hbad := Lib.hid (show ownersValid xs = false by simp [ownersValid, all_not Hx.out (f := ownOk) hok])
        go_wp2_with (go_at_call 30; refine (l1In_any _ _ _ _).mono ?_; rintro e w' ⟨rfl, rfl⟩)
        go_ret
        exact ⟨ret_bool Hbad.out.symm, rfl⟩
    · go_wp2_with (go_at_call 30; refine (l1In_any _ _ _ _).mono ?_; rintro e w' ⟨rfl, rfl⟩)
      go_ret
      refine ⟨ret_bool ?_, rfl⟩
      have ha := hall.all (by omega)
      rw [ownersValid, ha, Bool.and_true]
      rw [Bool.eq_iff_iff]; simp; omega

theorem walk_FnExactOwnersValid {w : World} (A : Option Addr) (xs : List Int) (c : Nat) (h : Ints w 0 w.heap.size A xs) (hz : ∀ x ∈ xs, (Lit.int .i64 x).wf = true) :
    Calls Try.prog 3 #[.slice A xs.length c] w fun e w' => e = .returned (.bool true) ∧ Kp No w w' := by
  go_enter Try.func3, Try.ntmps3
  by_cases hl : 1048576 < xs.length
  · go_wp2_with fail
    go_ret
    exact ⟨rfl, Kp.refl _ _⟩
  · go_wp2_with fail
    refine (toIntS_any _ _ _ _ _ _ h (by omega)).mono ?_
    rintro e w1 ⟨A1, c1, rfl, o1, k1⟩
    go_wp2_with fail
    refine (ownersValid_spec _ _ _ _ _ _ o1.ints (by omega)).mono ?_
    rintro e w' ⟨rfl, rfl⟩
    go_wp2_with fail
    refine (toIntS_any _ _ _ _ _ _ (h.keepNo k1) (by omega)).mono ?_
    rintro e w2 ⟨A2, c2, rfl, o2, k2⟩
    go_wp2_with fail
    refine (ownersValid_impl _ _ _ _ _ _ o2.ints (by omega)).mono ?_
    rintro e w' ⟨rfl, rfl⟩
    go_wp2_with fail
    refine (toIntS_any _ _ _ _ _ _ ((h.keepNo k1).keepNo k2) (by omega)).mono ?_
    rintro e w3 ⟨A3, c3, rfl, o3, k3⟩
    go_wp2_with fail
    refine (eqIntS_same _ _ _ _ _ _ _ _ _ _ (o2.keepNo k3).ints o3.ints (by omega)).mono ?_
    rintro e w4 ⟨rfl, k4⟩
    go_wp2_with fail
    go_ret
    exact ⟨rfl, ((k1.trans k2).trans k3).trans k4⟩
end Go.Proofs.Ytagcdpnbkfoeaaa
