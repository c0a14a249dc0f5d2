/- The contracts of the laws' own helpers on slices of ints (toIntS, eqIntS, markIntS, heldIntS, sameInts, hasInt) and of spec.l1In. -/
import Derived.Test.YtagcdpnbkfoeaaaRows
import Derived.Test.YtagcdpnbkfoeaaaBase
import Derived.WalkKit
import Derived.WalkSpells
import Derived.WalkLawsBesides
import Derived.Outline
import Derived.Deep.QuietTactic
import Derived.BigQuiet
namespace Go.Proofs.Ytagcdpnbkfoeaaa
open Go.RowKit
set_option linter.unusedVariables false

def inB (n lo hi : Int) : Bool := decide (lo ≤ n) && decide (n ≤ hi)
theorem inB_true {n lo hi : Int} (h : lo ≤ n ∧ n ≤ hi) : inB n lo hi = true := by simp [inB, h.1, h.2]
theorem inB_false {n lo hi : Int} (h : ¬ (lo ≤ n ∧ n ≤ hi)) : inB n lo hi = false := by simp only [inB, ← Bool.decide_and, decide_eq_false_iff_not]; exact h

theorem l1In_any (n lo hi : Int) (w : World) : Calls Try.prog 30 #[.int .i64 n, .int .i64 lo, .int .i64 hi] w
    fun e w' => e = .returned (.bool (inB n lo hi)) ∧ w = w' := by
  go_enter Try.func30, Try.ntmps30
  go_wp2
  · go_ret
    exact ⟨ret_bool (by simp [inB, *]), rfl⟩
  · go_ret
    exact ⟨ret_bool (by simp [inB]; omega), rfl⟩

def EqBy (P : Program) (f : FuncId) : Prop := ∀ (A B : Option Addr) (xs : List Int) (c d lo hi lo' hi' : Nat) (w : World), Ints w lo hi A xs → Ints w lo' hi' B xs → xs.length ≤ 4000000 → Calls P f #[.slice A xs.length c, .slice B xs.length d] w
    fun e w' => e = .returned (.bool true) ∧ Kp No w w'

theorem eqIntS_same : EqBy Try.prog 12 := by
  intro A B xs c d lo hi lo' hi' w h h' hs
  go_enter Try.func12, Try.ntmps12
  have hne : ((xs.length : Int) != (xs.length : Int)) = false := by simp
  go_wp2
  go_loopw [5] (fun i wr => ∃ k n : Nat, k ≤ xs.length ∧ i = .int .i64 k ∧ wr = w.drewN n) (fun i _ => xs.length - (intOf i).toNat)
  case atStart => exact ⟨0, 0, Nat.zero_le _, rfl, rfl⟩
  case round =>
    obtain ⟨k, n, hk, rfl, rfl⟩ := hrel
    by_cases hlt : k < xs.length
    · obtain ⟨b, off, x, rfl, hb1, hb2, hx, hc⟩ := h.at_ hlt
      obtain ⟨b', off', x', rfl, hb1', hb2', hx', hc'⟩ := h'.at_ hlt
      obtain rfl : x = x' := by rw [hx] at hx'; injection hx'
      clear hx hx'
      have hnx : (x != x) = false := by simp
      go_wp2_with fail
      go_quiet (fail)
      go_wp2
      go_roundw
      case rel => exact ⟨k + 1, n + nq, by omega, by go_num, rfl⟩
      case measure => simp [intOf]; omega
    · go_wp2
      go_ret
      exact ⟨rfl, (Kp.refl _ _).drewN _⟩

theorem sameInts_same : EqBy Try.prog 17 := by
  intro A B xs c d lo hi lo' hi' w h h' hs
  go_enter Try.func17, Try.ntmps17
  have hne : ((xs.length : Int) != (xs.length : Int)) = false := by simp
  go_wp2
  go_loopw [5] (fun i wr => ∃ k n : Nat, k ≤ xs.length ∧ i = .int .i64 k ∧ wr = w.drewN n) (fun i _ => xs.length - (intOf i).toNat)
  case atStart => exact ⟨0, 0, Nat.zero_le _, rfl, rfl⟩
  case round =>
    obtain ⟨k, n, hk, rfl, rfl⟩ := hrel
    by_cases hlt : k < xs.length
    · obtain ⟨b, off, x, rfl, hb1, hb2, hx, hc⟩ := h.at_ hlt
      obtain ⟨b', off', x', rfl, hb1', hb2', hx', hc'⟩ := h'.at_ hlt
      obtain rfl : x = x' := by rw [hx] at hx'; injection hx'
      clear hx hx'
      have hnx : (x != x) = false := by simp
      go_wp2_with fail
      go_quiet (fail)
      go_wp2
      go_roundw
      case rel => exact ⟨k + 1, n + nq, by omega, by go_num, rfl⟩
      case measure => simp [intOf]; omega
    · go_wp2
      go_ret
      exact ⟨rfl, (Kp.refl _ _).drewN _⟩

def marks (n : Nat) (k : Int) : List Int := (List.range n).map fun i : Nat => k + (i : Int)
theorem marks_get (n : Nat) (k : Int) (i : Nat) (h : i < n) : (marks n k)[i]? = some (k + i) := by simp [marks, h]
theorem marks_len (n : Nat) (k : Int) : (marks n k).length = n := by simp [marks]

theorem toCells (xs : List Int) (k : Nat) (x : Int) (hx : xs[k]? = some x) :
    ((xs.take k).map (Value.int .i64) ++ List.replicate (xs.length - k) (Value.int .i64 0)).set k (.int .i64 x) = (xs.take (k + 1)).map (Value.int .i64) ++ List.replicate (xs.length - (k + 1)) (Value.int .i64 0) := by
  obtain ⟨hk, hx⟩ := List.getElem?_eq_some_iff.1 hx
  have e1 : xs.length - k = (xs.length - (k + 1)) + 1 := by omega
  rw [e1, List.replicate_succ, List.set_append_right _ _ (by simp; omega)]
  have e2 : k - (List.map (Value.int .i64) (List.take k xs)).length = 0 := by simp; omega
  rw [e2, List.take_succ_eq_append_getElem hk, hx]
  simp

theorem toIntS_any (A : Option Addr) (xs : List Int) (c lo hi : Nat) (w : World) (h : Ints w lo hi A xs) (hs : xs.length ≤ 4000000) : Calls Try.prog 10 #[.slice A xs.length c] w (NewI w xs) := by
  obtain ⟨i0, hi0, hz0, hz1, hz2⟩ := info_parts int_info
  go_enter Try.func10, Try.ntmps10
  go_wp2_with (at_make; refine wpList_make_full _ rfl _ _ 22 rfl w.heap.size 3 i0 (.int .i64 0) 1 Try.underlying22 hi0 hz0 hz1 .i64 .i64 _ _ xs.length rfl rfl rfl rfl ?c1 ?c2 (Nat.le_refl _) ?_)
  case c1 => rw [hz2]; omega
  case c2 => unfold maxLen; omega
  intro w1 hown hg
  have hown0 : w1.ownsRow w.heap.size 3 1 (.slice (some ⟨w.heap.size, 0, none⟩) xs.length xs.length) xs.length ((xs.take 0).map (Value.int .i64) ++ List.replicate (xs.length - 0) (Value.int .i64 0)) := by
    simpa [Value.cells, toList_madeCells_one] using hown
  have hk0 : Kp No w w1 := (Kp.refl _ _).grown hg (by simp)
  clear hown hg
  go_wp2
  go_loopw [4] (fun i wr => ∃ k : Nat, k ≤ xs.length ∧ i = .int .i64 k ∧ wr.ownsRow w.heap.size 3 1 (.slice (some ⟨w.heap.size, 0, none⟩) xs.length xs.length) xs.length ((xs.take k).map (Value.int .i64) ++ List.replicate (xs.length - k) (Value.int .i64 0)) ∧ Kp No w wr) (fun i _ => xs.length - (intOf i).toNat)
  case atStart => exact ⟨0, Nat.zero_le _, rfl, hown0, hk0⟩
  case round =>
    obtain ⟨k, hk, rfl, hown, hkp⟩ := hrel
    by_cases hlt : k < xs.length
    · obtain ⟨b, off, x, rfl, hb1, hb2, hx, hc⟩ := (h.keepNo hkp).at_ hlt
      have Hx := Lib.hid hx; clear hx
      have hf := hown.frozenAt k
      obtain ⟨u, hu⟩ : ∃ u, wr.cell? ⟨w.heap.size, k, none⟩ = some u := by
        rw [hown.cellAt k (by omega)]
        exact ⟨_, List.getElem?_eq_getElem (by simp; omega)⟩
      go_wp2
      go_roundw
      case rel =>
        refine ⟨k + 1, by omega, by go_num, ?_, hkp.setCell (fun hh => absurd hh (by simp)) _⟩
        rw [← toCells xs k x Hx.out]
        exact (hown.stored k _).1
      case measure => simp [intOf]; omega
    · go_wp2
      go_ret
      obtain rfl : k = xs.length := by omega
      have hown' := hown
      simp only [List.take_length, Nat.sub_self, List.replicate_zero, List.append_nil] at hown'
      exact ⟨_, _, rfl, Own.of hown', hkp⟩

theorem markIntS_any (A : Option Addr) (xs : List Int) (c lo hi : Nat) (m : Int) (w : World) (h : OwnI w lo hi A c xs) (hs : xs.length ≤ 4000000) (hm0 : 0 ≤ m) (hm1 : m ≤ 4000000) : Calls Try.prog 24 #[.slice A xs.length c, .int .i64 m] w
    fun e w' => e = .returned (.int .i64 (m + xs.length)) ∧ OwnI w' lo hi A c (marks xs.length m) ∧ Kp (Rg lo hi) w w' := by
  go_enter Try.func24, Try.ntmps24
  go_wp2
  go_loopw [1, 5] (fun q i wr => ∃ k : Nat, k ≤ xs.length ∧ i = .int .i64 k ∧ q = .int .i64 (m + k) ∧ OwnI wr lo hi A c (marks k m ++ xs.drop k) ∧ Kp (Rg lo hi) w wr) (fun _ i _ => xs.length - (intOf i).toNat)
  case atStart => exact ⟨0, Nat.zero_le _, rfl, by simp, by simpa [marks] using h, Kp.refl _ _⟩
  case round =>
    obtain ⟨k, hk, rfl, rfl, hown, hkp⟩ := hrel
    by_cases hlt : k < xs.length
    · obtain ⟨g, x, rfl, hg1, hg2, hx, hc, hf⟩ := hown.at_ (k := k) (by simp [marks_len]; omega)
      clear hx
      go_wp2
      go_roundw
      case rel =>
        refine ⟨k + 1, by omega, by go_num, by go_num, ?_, hkp.setCell (fun hh => ⟨hg1, hg2⟩) _⟩
        have e : marks (k + 1) m ++ xs.drop (k + 1) = (marks k m ++ xs.drop k).set k (m + k) := by
          rw [List.set_append_right _ _ (by simp [marks_len])]
          simp only [marks_len, Nat.sub_self]
          rw [List.drop_eq_getElem_cons hlt, List.set_cons_zero]
          simp [marks, List.range_succ]
        rw [e]
        exact hown.set_ k _
      case measure => simp [intOf]; omega
    · go_wp2
      go_ret
      obtain rfl : k = xs.length := by omega
      exact ⟨rfl, by simpa using hown, hkp⟩

theorem heldIntS_any (A : Option Addr) (n c lo hi : Nat) (m : Int) (w : World) (h : Ints w lo hi A (marks n m)) (hs : n ≤ 4000000) (hm0 : 0 ≤ m) (hm1 : m ≤ 4000000) : Calls Try.prog 25 #[.slice A n c, .int .i64 m] w
    fun e w' => e = .returned (.int .i64 (m + n)) ∧ w = w' := by
  go_enter Try.func25, Try.ntmps25
  go_wp2
  go_loop [1, 5] (fun q i => ∃ k : Nat, k ≤ n ∧ i = .int .i64 k ∧ q = .int .i64 (m + k)) (fun _ i => n - (intOf i).toNat)
  case atStart => exact ⟨0, Nat.zero_le _, rfl, by simp⟩
  case round =>
    obtain ⟨k, hk, rfl, rfl⟩ := hrel
    by_cases hlt : k < n
    · obtain ⟨b, off, x, rfl, hb1, hb2, hx, hc⟩ := h.at_ (k := k) (by rw [marks_len]; exact hlt)
      obtain rfl : x = m + k := by rw [marks_get n m k hlt] at hx; injection hx with hx; exact hx.symm
      clear hx
      have hne : (m + (k : Int) != m + (k : Int)) = false := by simp
      go_wp2
      go_round
      case rel => exact ⟨k + 1, by omega, by go_num, by go_num⟩
      case measure => simp [intOf]; omega
    · go_wp2
      go_ret
      obtain rfl : k = n := by omega
      exact ⟨rfl, rfl⟩

end Go.Proofs.Ytagcdpnbkfoeaaa
