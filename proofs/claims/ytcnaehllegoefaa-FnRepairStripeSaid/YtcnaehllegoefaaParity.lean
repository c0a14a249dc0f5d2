/- ParityOf, of the program and of the reference: one Lean function parityOf for both; the walk of FnExactParityOf. -/
import Derived.Test.YtcnaehllegoefaaParMath
import Derived.Test.YtcnaehllegoefaaSlices
import Derived.WalkKit
import Derived.WalkSpells
import Derived.WalkLawsBesides
import Derived.Outline
namespace Go.Proofs.Ytcnaehllegoefaa
open Go.RowKit
set_option linter.unusedVariables false

theorem xorAll_succ {xs : List Int} {k : Nat} {x : Int} (h : xs[k]? = some x) : xorAll (xs.take (k + 1)) = bits .xor .i64 (xorAll (xs.take k)) x := by
  obtain ⟨hk, hx⟩ := List.getElem?_eq_some_iff.1 h
  rw [List.take_succ_eq_append_getElem hk, xorAll, List.foldl_append, hx]; rfl

theorem parityOf_impl (A : Option Addr) (xs : List Int) (c lo hi : Nat) (w : World) (h : Ints w lo hi A xs) (hs : xs.length ≤ 4000000) : Calls Try.prog 17 #[.slice A xs.length c] w
    fun e w' => e = .returned (.int .i64 (parityOf xs)) ∧ w = w' := by
  go_enter Try.func17, Try.ntmps17
  go_wp2_with fail
  refine (stripeValid_impl _ _ _ _ _ _ h hs).mono ?_
  rintro e w' ⟨rfl, rfl⟩
  cases hv : stripeValid xs
  · have H := Lib.hid (show parityOf xs = -1 by simp [parityOf, hv])
    go_wp2_with fail
    go_ret
    exact ⟨ret_int H.out.symm, rfl⟩
  · go_wp2_with fail
    refine (contains_any _ _ _ _ _ _ _ h hs).mono ?_
    rintro e w' ⟨rfl, rfl⟩
    cases hc : xs.contains (-1)
    · have H := Lib.hid (show parityOf xs = xorAll xs by simp only [parityOf, hv, hc]; rfl)
      go_wp2_with fail
      go_loop [3, 15] (fun n i => ∃ k : Nat, k ≤ xs.length ∧ i = .int .i64 k ∧ n = .int .i64 (xorAll (xs.take k))) (fun _ i => xs.length - (intOf i).toNat)
      case atStart => exact ⟨0, Nat.zero_le _, rfl, rfl⟩
      case round =>
        obtain ⟨k, hk, rfl, rfl⟩ := hrel
        by_cases hlt : k < xs.length
        · obtain ⟨b, off, x, rfl, hb1, hb2, hx, hc'⟩ := h.at_ hlt
          have Hx := Lib.hid (xorAll_succ hx); clear hx
          go_wp2
          go_round
          case rel => exact ⟨k + 1, by omega, by go_num, by rw [Hx.out]⟩
          case measure => simp [intOf]; omega
        · go_wp2
          go_ret
          exact ⟨ret_int (by rw [H.out, List.take_of_length_le (by omega)]), rfl⟩
    · have H := Lib.hid (show parityOf xs = -1 by simp only [parityOf, hv, hc]; rfl)
      go_wp2_with fail
      go_ret
      exact ⟨ret_int H.out.symm, rfl⟩

theorem lostN_succ {xs : List Int} {k : Nat} {x : Int} (h : xs[k]? = some x) : lostN (xs.take (k + 1)) = lostN (xs.take k) + if x < 0 then 1 else 0 := by
  obtain ⟨hk, hx⟩ := List.getElem?_eq_some_iff.1 h
  rw [List.take_succ_eq_append_getElem hk, lostN, List.filter_append, List.length_append, hx, ← lostN]
  by_cases h0 : x < 0 <;> simp [h0]
theorem lostN_le (xs : List Int) : lostN xs ≤ xs.length := List.length_filter_le _ _

theorem l22Lost_any (A : Option Addr) (xs : List Int) (c lo hi : Nat) (w : World) (h : Ints w lo hi A xs) (hs : xs.length ≤ 4000000) : Calls Try.prog 49 #[.slice A xs.length c] w
    fun e w' => e = .returned (.int .i64 (lostN xs)) ∧ w = w' := by
  go_enter Try.func49, Try.ntmps49
  go_wp2_with fail
  go_loop [3, 4] (fun n i => ∃ k : Nat, k ≤ xs.length ∧ i = .int .i64 k ∧ n = .int .i64 (lostN (xs.take k))) (fun _ i => xs.length - (intOf i).toNat)
  case atStart => exact ⟨0, Nat.zero_le _, rfl, rfl⟩
  case round =>
    obtain ⟨k, hk, rfl, rfl⟩ := hrel
    by_cases hlt : k < xs.length
    · obtain ⟨b, off, x, rfl, hb1, hb2, hx, hc'⟩ := h.at_ hlt
      have Hx := Lib.hid (lostN_succ hx); clear hx
      have hb : lostN (xs.take k) ≤ 4000000 := by have := lostN_le (xs.take k); simp at this; omega
      by_cases h0 : x < 0
      · go_wp2
        go_round
        case rel => exact ⟨k + 1, by omega, by go_num, by rw [Hx.out, if_pos h0]; go_num⟩
        case measure => simp [intOf]; omega
      · go_wp2
        go_round
        case rel => exact ⟨k + 1, by omega, by go_num, by rw [Hx.out, if_neg h0]; rfl⟩
        case measure => simp [intOf]; omega
    · go_wp2
      go_ret
      exact ⟨ret_int (by rw [List.take_of_length_le (by omega)]), rfl⟩

theorem parityOf_spec (A : Option Addr) (xs : List Int) (c lo hi : Nat) (w : World) (h : Ints w lo hi A xs) (hs : xs.length ≤ 4000000) : Calls Try.prog 23 #[.slice A xs.length c] w
    fun e w' => e = .returned (.int .i64 (parityOf xs)) ∧ w = w' := by
  go_enter Try.func23, Try.ntmps23
  go_wp2_with fail
  refine (stripeValid_spec _ _ _ _ _ _ h hs).mono ?_
  rintro e w' ⟨rfl, rfl⟩
  cases hv : stripeValid xs
  · have H := Lib.hid (show parityOf xs = -1 by simp [parityOf, hv])
    go_wp2_with fail
    go_ret
    exact ⟨ret_int H.out.symm, rfl⟩
  · go_wp2_with fail
    refine (l22Lost_any _ _ _ _ _ _ h hs).mono ?_
    rintro e w' ⟨rfl, rfl⟩
    have hlost := lost_iff hv
    by_cases hl : lostN xs = 0
    · have hc : xs.contains (-1) = false := by rw [hlost]; simp [hl]
      have H := Lib.hid (show parityOf xs = xorAll xs by simp only [parityOf, hv, hc]; rfl)
      have hd : decide (0 < lostN xs) = false := by simp [hl]
      clear hl hc hlost
      go_wp2_with fail
      go_loop [3, 4] (fun n i => ∃ k : Nat, k ≤ xs.length ∧ i = .int .i64 k ∧ n = .int .i64 (xorAll (xs.take k))) (fun _ i => xs.length - (intOf i).toNat)
      case atStart => exact ⟨0, Nat.zero_le _, rfl, rfl⟩
      case round =>
        obtain ⟨k, hk, rfl, rfl⟩ := hrel
        by_cases hlt : k < xs.length
        · obtain ⟨b, off, x, rfl, hb1, hb2, hx, hc'⟩ := h.at_ hlt
          have Hx := Lib.hid (xorAll_succ hx); clear hx
          go_wp2
          go_round
          case rel => exact ⟨k + 1, by omega, by go_num, by rw [Hx.out]⟩
          case measure => simp [intOf]; omega
        · go_wp2
          go_ret
          exact ⟨ret_int (by rw [H.out, List.take_of_length_le (by omega)]), rfl⟩
    · have hc : xs.contains (-1) = true := by rw [hlost]; simp; omega
      have H := Lib.hid (show parityOf xs = -1 by simp only [parityOf, hv, hc]; rfl)
      have hd : decide (0 < lostN xs) = true := by simp; omega
      clear hl hc hlost
      go_wp2_with fail
      go_ret
      exact ⟨ret_int H.out.symm, rfl⟩

theorem walk_FnExactParityOf {w : World} (A : Option Addr) (xs : List Int) (c : Nat) (h : Ints w 0 w.heap.size A xs) (hz : ∀ x ∈ xs, (Lit.int .i64 x).wf = true) :
    Calls Try.prog 7 #[.slice A xs.length c] w fun e w' => e = .returned (.bool true) ∧ Kp No w w' := by
  go_enter Try.func7, Try.ntmps7
  have hne : (parityOf xs != parityOf xs) = false := by simp
  by_cases hl : 1048576 < xs.length
  · go_wp2_with fail
    go_ret
    exact ⟨rfl, Kp.refl _ _⟩
  · go_wp2_with fail
    refine (toIntS_any _ _ _ _ _ _ h (by omega)).mono ?_
    rintro e w1 ⟨A1, c1, rfl, o1, k1⟩
    go_wp2_with fail
    refine (parityOf_spec _ _ _ _ _ _ o1.ints (by omega)).mono ?_
    rintro e w' ⟨rfl, rfl⟩
    go_wp2_with fail
    refine (toIntS_any _ _ _ _ _ _ (h.keepNo k1) (by omega)).mono ?_
    rintro e w2 ⟨A2, c2, rfl, o2, k2⟩
    go_wp2_with fail
    refine (parityOf_impl _ _ _ _ _ _ o2.ints (by omega)).mono ?_
    rintro e w' ⟨rfl, rfl⟩
    go_wp2_with fail
    refine (toIntS_any _ _ _ _ _ _ ((h.keepNo k1).keepNo k2) (by omega)).mono ?_
    rintro e w3 ⟨A3, c3, rfl, o3, k3⟩
    go_wp2_with fail
    refine (eqIntS_same _ _ _ _ _ _ _ _ _ _ (o2.keepNo k3).ints o3.ints (by omega)).mono ?_
    rintro e w4 ⟨rfl, k4⟩
    go_wp2_with fail
    go_ret
    exact ⟨rfl, ((k1.trans k2).trans k3).trans k4⟩
end Go.Proofs.Ytcnaehllegoefaa
