/- The contracts of the laws' own helpers on slices of ints (toIntS, eqIntS, markIntS, heldIntS, sameInts, hasInt) and of spec.l1In. -/
import Derived.Test.YteabpdnlkncbpaaRows
import Derived.Test.YteabpdnlkncbpaaBase
import Derived.WalkKit
import Derived.WalkSpells
import Derived.WalkLawsBesides
import Derived.Outline
import Derived.Deep.QuietTactic
import Derived.BigQuiet
namespace Go.Proofs.Yteabpdnlkncbpaa
open Go.RowKit
set_option linter.unusedVariables false

def inB (n lo hi : Int) : Bool := decide (lo ≤ n) && decide (n ≤ hi)
theorem inB_true {n lo hi : Int} (h : lo ≤ n ∧ n ≤ hi) : inB n lo hi = true := by simp [inB, h.1, h.2]
theorem inB_false {n lo hi : Int} (h : ¬ (lo ≤ n ∧ n ≤ hi)) : inB n lo hi = false := by simp only [inB, ← Bool.decide_and, decide_eq_false_iff_not]; exact h

theorem l1In_any (n lo hi : Int) (w : World) : Calls Try.prog 30 #[.int .i64 n, .int .i64 lo, .int .i64 hi] w
    fun e w' => e = .returned (.bool (inB n lo hi)) ∧ w = w' := by
  go_enter Try.func30, Try.ntmps30
  go_wp2
  · go_ret
    exact ⟨ret_bool (by simp [inB, *]), rfl⟩
  · go_ret
    exact ⟨ret_bool (by simp [inB]; omega), rfl⟩

def EqBy (P : Program) (f : FuncId) : Prop := ∀ (A B : Option Addr) (xs : List Int) (c d lo hi lo' hi' : Nat) (w : World), Ints w lo hi A xs → Ints w lo' hi' B xs → xs.length ≤ 4000000 → Calls P f #[.slice A xs.length c, .slice B xs.length d] w
    fun e w' => e = .returned (.bool true) ∧ Kp No w w'



def marks (n : Nat) (k : Int) : List Int := (List.range n).map fun i : Nat => k + (i : Int)
theorem marks_get (n : Nat) (k : Int) (i : Nat) (h : i < n) : (marks n k)[i]? = some (k + i) := by simp [marks, h]
theorem marks_len (n : Nat) (k : Int) : (marks n k).length = n := by simp [marks]

theorem toCells (xs : List Int) (k : Nat) (x : Int) (hx : xs[k]? = some x) :
    ((xs.take k).map (Value.int .i64) ++ List.replicate (xs.length - k) (Value.int .i64 0)).set k (.int .i64 x) = (xs.take (k + 1)).map (Value.int .i64) ++ List.replicate (xs.length - (k + 1)) (Value.int .i64 0) := by
  obtain ⟨hk, hx⟩ := List.getElem?_eq_some_iff.1 hx
  have e1 : xs.length - k = (xs.length - (k + 1)) + 1 := by omega
  rw [e1, List.replicate_succ, List.set_append_right _ _ (by simp; omega)]
  have e2 : k - (List.map (Value.int .i64) (List.take k xs)).length = 0 := by simp; omega
  rw [e2, List.take_succ_eq_append_getElem hk, hx]
  simp




end Go.Proofs.Yteabpdnlkncbpaa
