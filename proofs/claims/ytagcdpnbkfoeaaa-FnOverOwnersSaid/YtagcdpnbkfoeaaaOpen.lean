/- From a reading of an argument to the words of Base: slices of ints, slices of bytes. -/
import Derived.Test.YtagcdpnbkfoeaaaBase
import Derived.WalkKit
import Derived.ProofKit
import Derived.OpenShut
import Derived.ChangeOld
import Derived.Below
namespace Go.Proofs.Ytagcdpnbkfoeaaa
open Go.ChangeShapes Go.WideShapes Go.ChangeAt Go.RowKit

theorem own_knob : ownKnob Try.prog.godebug = none := by kernel_rfl
theorem laid_out : laidOutB Try.prog = true := by kernel_rfl

/-- A row of cells at whatever address. -/
theorem row_of_cells {w : World} {x : Addr} {n : Nat} {cs : List Value} (hl : cs.length = n) (h : ∀ i u, cs[i]? = some u → w.cell? (x.add i) = some u) : Row w 0 w.heap.size 1 (some x) n cs := by
  refine ⟨by omega, Nat.le_refl _, fun hn => ?_⟩
  obtain ⟨b, off, spot⟩ := x
  have h0 := h 0 (cs[0]'(by omega)) (List.getElem?_eq_getElem (by omega))
  have hspot : spot = none := by simpa [Addr.add] using World.cell?_spot h0
  subst hspot
  refine ⟨b, off, rfl, Nat.zero_le _, ?_, fun j u hu => ?_⟩
  · have := World.block_lt_of_cell? w _ h0
    simpa [Addr.add] using this
  · have := h j u hu
    rwa [add_at] at this

/-- The cells of a slice of bytes. -/
def Byts (w : World) (A : Option Addr) (zs : List Int) : Prop := Row w 0 w.heap.size 1 A zs.length (zs.map (Value.int .u8)) ∧ ∀ z ∈ zs, 0 ≤ z ∧ z ≤ 255

section
variable {H : Type} {enc : TypeId × Value → H} {W : World} {base : Nat}
theorem open_intS {a0 : Option Addr} {len0 cap0 : Nat} {d : DataW H} {p : List MemPlace} {sp : Nat → Bool} {hd : Bool}
    (h : DataW.Trod enc Try.prog W base sp hd 22 (.slice a0 len0 cap0) d p) (hsp : ∀ b, sp b = true) :
    ∃ xs : List Int, xs.length = len0 ∧ Ints W 0 W.heap.size a0 xs ∧ ∀ x ∈ xs, (Lit.int .i64 x).wf = true := by
  obtain ⟨fuel, hf⟩ := h
  rcases open_ints Try.underlying22 Try.underlying3 (by kernel_rfl) hf with ⟨hcs, _⟩ | ⟨x, l, c, zs, hcs, _, hl, hm, hz, _, hcell, hwz⟩
  · simp [Value.cells] at hcs
    obtain ⟨rfl, rfl, rfl⟩ := hcs
    exact ⟨[], rfl, Row.empty (Nat.le_refl _), by simp⟩
  · simp [Value.cells] at hcs
    obtain ⟨rfl, rfl, rfl⟩ := hcs
    rw [hsp] at hz
    simp only [if_true] at hz
    refine ⟨zs.take len0, by simp; omega, ?_, fun x hx => hwz x (List.mem_of_mem_take hx)⟩
    refine row_of_cells (by simp) fun i u hu => ?_
    obtain ⟨x', hx', rfl⟩ : ∃ x', zs[i]? = some x' ∧ Value.int .i64 x' = u := by
      simp only [List.map_take, List.getElem?_take, List.getElem?_map] at hu
      split at hu
      · simpa using hu
      · cases hu
    have hi := (List.getElem?_eq_some_iff.1 hx').1
    rw [hcell i hi]
    simp [hx']
theorem open_byteS {a0 : Option Addr} {len0 cap0 : Nat} {d : DataW H} {p : List MemPlace} {sp : Nat → Bool} {hd : Bool}
    (h : DataW.Trod enc Try.prog W base sp hd 26 (.slice a0 len0 cap0) d p) (hsp : ∀ b, sp b = true) :
    ∃ xs : List Int, xs.length = len0 ∧ Byts W a0 xs ∧ len0 ≤ cap0 := by
  obtain ⟨fuel, hf⟩ := h
  rcases open_ints Try.underlying26 Try.underlying5 (by kernel_rfl) hf with ⟨hcs, _⟩ | ⟨x, l, c, zs, hcs, _, hl, hm, hz, _, hcell, hwz⟩
  · simp [Value.cells] at hcs
    obtain ⟨rfl, rfl, rfl⟩ := hcs
    exact ⟨[], rfl, ⟨Row.empty (Nat.le_refl _), by simp⟩, Nat.le_refl _⟩
  · simp [Value.cells] at hcs
    obtain ⟨rfl, rfl, rfl⟩ := hcs
    rw [hsp] at hz
    simp only [if_true] at hz
    refine ⟨zs.take len0, by simp; omega, ⟨?_, fun x hx => bounds_u8 (hwz x (List.mem_of_mem_take hx))⟩, hl⟩
    refine row_of_cells (by simp) fun i u hu => ?_
    obtain ⟨x', hx', rfl⟩ : ∃ x', zs[i]? = some x' ∧ Value.int .u8 x' = u := by
      simp only [List.map_take, List.getElem?_take, List.getElem?_map] at hu
      split at hu
      · simpa using hu
      · cases hu
    have hi := (List.getElem?_eq_some_iff.1 hx').1
    rw [hcell i hi]
    simp [hx']
end
end Go.Proofs.Ytagcdpnbkfoeaaa
