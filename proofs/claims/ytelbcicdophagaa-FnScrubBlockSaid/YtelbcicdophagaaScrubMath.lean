/- The plain words of scrubbing: countRead, scrubBlock, scrubOrder; no program is named here. -/
import Derived.Test.YtelbcicdophagaaReads
namespace Go.Proofs.Ytelbcicdophagaa
open Go.RowKit
set_option linter.unusedVariables false

theorem reads_len {xs : List Int} (h : readsValid xs = true) : 1 ≤ xs.length ∧ xs.length ≤ 12 := by
  simp only [readsValid, Bool.and_eq_true, decide_eq_true_eq] at h; exact h.1
theorem reads_at {xs : List Int} (h : readsValid xs = true) {k : Nat} {x : Int} (hx : xs[k]? = some x) : 0 ≤ x ∧ x ≤ 1000 := by
  simp only [readsValid, Bool.and_eq_true, List.all_eq_true] at h
  have := h.2 x (List.mem_of_getElem? hx)
  simpa [readsOk, inB] using this
theorem reads_mk {xs : List Int} (h1 : 1 ≤ xs.length) (h2 : xs.length ≤ 12) (h : ∀ x ∈ xs, 0 ≤ x ∧ x ≤ 1000) : readsValid xs = true := by
  simp only [readsValid, Bool.and_eq_true, decide_eq_true_eq, List.all_eq_true]
  exact ⟨⟨h1, h2⟩, fun x hx => by have := h x hx; simp [readsOk, inB]; omega⟩
theorem reads_set {xs : List Int} (h : readsValid xs = true) {k : Nat} {v : Int} (hv : 0 ≤ v ∧ v ≤ 1000) : readsValid (xs.set k v) = true := by
  have hl := reads_len h
  refine reads_mk (by simp; omega) (by simp; omega) fun x hx => ?_
  rcases List.mem_or_eq_of_mem_set hx with hx | rfl
  · obtain ⟨j, hj⟩ := List.mem_iff_getElem?.1 hx; exact reads_at h hj
  · exact hv

def countRead (xs : List Int) (n : Int) : List Int × Bool :=
  if readsValid xs && inB n 0 (xs.length - 1) then (if xs.getD n.toNat 0 = 1000 then (xs, false) else (xs.set n.toNat (xs.getD n.toNat 0 + 1), true)) else ([], false)
def scrubBlock (xs : List Int) (n : Int) : List Int := if readsValid xs && inB n 0 (xs.length - 1) then xs.set n.toNat 0 else []

theorem countRead_bad {xs : List Int} {n : Int} (h : (readsValid xs && inB n 0 (xs.length - 1)) = false) : countRead xs n = ([], false) := by
  unfold countRead; rw [h]; rfl
theorem countRead_full {xs : List Int} {m : Nat} (h : readsValid xs = true) (hm : xs[m]? = some 1000) : countRead xs m = (xs, false) := by
  have hl := (List.getElem?_eq_some_iff.1 hm).1
  unfold countRead
  rw [h, inB_true (by omega)]
  simp [hm]
theorem countRead_ok {xs : List Int} {m : Nat} {x : Int} (h : readsValid xs = true) (hm : xs[m]? = some x) (hx : x ≠ 1000) : countRead xs m = (xs.set m (x + 1), true) := by
  have hl := (List.getElem?_eq_some_iff.1 hm).1
  unfold countRead
  rw [h, inB_true (by omega)]
  simp [hm, hx]
theorem scrubBlock_bad {xs : List Int} {n : Int} (h : (readsValid xs && inB n 0 (xs.length - 1)) = false) : scrubBlock xs n = [] := by
  unfold scrubBlock; rw [h]; rfl
theorem scrubBlock_ok {xs : List Int} {m : Nat} (h : readsValid xs = true) (hl : m < xs.length) : scrubBlock xs m = xs.set m 0 := by
  unfold scrubBlock
  rw [h, inB_true (by omega)]
  simp
theorem countRead_len (xs : List Int) (n : Int) : (countRead xs n).1.length ≤ 12 := by
  unfold countRead
  split
  · rename_i hc
    simp only [Bool.and_eq_true] at hc
    have := (reads_len hc.1).2
    split <;> simp <;> omega
  · simp
theorem scrubBlock_len (xs : List Int) (n : Int) : (scrubBlock xs n).length ≤ 12 := by
  unfold scrubBlock
  split
  · rename_i hc
    simp only [Bool.and_eq_true] at hc
    have := (reads_len hc.1).2
    simp; omega
  · simp
end Go.Proofs.Ytelbcicdophagaa
