/- From a reading of an argument to the words of Base: spares by value. -/
import Derived.Test.YtcnaehllegoefaaOpen
import Derived.Deep.Slices
import Derived.Deep.Fields
import Derived.ChangeSame
import Derived.Lib.SmallJoins
namespace Go.Proofs.Ytcnaehllegoefaa
open Go.ChangeShapes Go.WideShapes Go.ChangeAt Go.RowKit Go.Joins Go.Deep
set_option linter.unusedVariables false

section
variable {H : Type} {enc : TypeId × Value → H} {W : World} {base : Nat}
theorem open_spares {r : Reach} {b0 : Nat} {v : Value} {d : DataW H} {p : List MemPlace} {sp : Nat → Bool} {hd : Bool}
    (hv : Value.okWide Try.prog W r b0 50 v) (h : DataW.Trod enc Try.prog W base sp hd 50 v d p) (hsp : ∀ b, sp b = true) :
    ∃ (x y : Int) (A : Option Addr) (xs : List Int) (c : Nat), v = .agg #[.int .i64 x, .int .i64 y, .slice A xs.length c] ∧ (Lit.int .i64 x).wf = true ∧ (Lit.int .i64 y).wf = true ∧ Ints W 0 W.heap.size A xs ∧ (xs.length ≤ 9223372036854775807) := by
  obtain ⟨c0, c1, c2, y0, y1, y2, m, rfl, rfl, rfl, hy0, hy1, hy2⟩ := open_agg3 Try.underlying50 (by kernel_rfl) (by kernel_rfl) hv h
  obtain ⟨a, e0, rfl, wa⟩ := DataW.trod_int Try.underlying3 hy0
  obtain ⟨b, e1, rfl, wb⟩ := DataW.trod_int Try.underlying3 hy1
  simp at e0 e1; subst e0 e1
  rcases open_ints Try.underlying29 Try.underlying3 (by kernel_rfl) hy2 with ⟨hcs, _⟩ | ⟨x, l, c, zs, hcs, _, hl, hm, hz, _, hcell, hwz⟩
  · simp at hcs
    subst hcs
    exact ⟨a, b, none, [], 0, rfl, wa, wb, Row.empty (Nat.le_refl _), by simp⟩
  · simp at hcs
    subst hcs
    rw [hsp] at hz
    simp only [if_true] at hz
    have hlen : (zs.take l).length = l := by simp; omega
    refine ⟨a, b, some x, zs.take l, c, by rw [hlen], wa, wb, ?_, by rw [hlen]; unfold maxLen at hm; omega⟩
    refine row_of_cells (by simp) fun i u hu => ?_
    obtain ⟨x', hx', rfl⟩ : ∃ x', zs[i]? = some x' ∧ Value.int .i64 x' = u := by
      simp only [List.map_take, List.getElem?_take, List.getElem?_map] at hu
      split at hu
      · simpa using hu
      · cases hu
    have hi := (List.getElem?_eq_some_iff.1 hx').1
    rw [hcell i hi]
    simp [hx']
end
end Go.Proofs.Ytcnaehllegoefaa
