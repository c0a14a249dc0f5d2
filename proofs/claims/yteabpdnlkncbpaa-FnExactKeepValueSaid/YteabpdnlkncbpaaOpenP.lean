/- From a reading of an argument to the words of Pairs: a struct of two ints by value; a slice of such. -/
import Derived.Test.YteabpdnlkncbpaaPairs
import Derived.Test.YteabpdnlkncbpaaOpen
import Derived.Deep.Slices
import Derived.Deep.Fields
import Derived.ChangeSame
import Derived.Lib.SmallJoins
namespace Go.Proofs.Yteabpdnlkncbpaa
open Go.ChangeShapes Go.WideShapes Go.ChangeAt Go.RowKit Go.Joins Go.Deep
set_option linter.unusedVariables false

section
variable {H : Type} {enc : TypeId × Value → H} {W : World} {base : Nat}
theorem open_pair {r : Reach} {b0 : Nat} {v : Value} {d : DataW H} {p : List MemPlace} {sp : Nat → Bool} {hd : Bool}
    (hv : Value.okWide Try.prog W r b0 44 v) (h : DataW.Trod enc Try.prog W base sp hd 44 v d p) :
    ∃ x y : Int, v = .agg #[.int .i64 x, .int .i64 y] ∧ (Lit.int .i64 x).wf = true ∧ (Lit.int .i64 y).wf = true := by
  obtain ⟨c0, c1, y0, y1, m, rfl, rfl, rfl, hy0, hy1⟩ := open_agg2 Try.underlying44 (by kernel_rfl) (by kernel_rfl) hv h
  obtain ⟨a, e0, rfl, wa⟩ := DataW.trod_int Try.underlying3 hy0
  obtain ⟨b, e1, rfl, wb⟩ := DataW.trod_int Try.underlying3 hy1
  simp at e0 e1; subst e0 e1
  exact ⟨a, b, rfl, wa, wb⟩

theorem pair_cells {fuel : Nat} {cs : List Value} {x : DataW H × List MemPlace} {sp : Nat → Bool} {hd : Bool} (h : DataW.trod enc Try.prog W base sp hd fuel 44 cs = some x) :
    ∃ a b : Int, cs = [.int .i64 a, .int .i64 b] ∧ (Lit.int .i64 a).wf = true ∧ (Lit.int .i64 b).wf = true := by
  obtain ⟨y0, y1, n, _, hl, hy0, hy1⟩ := trod_struct2 Try.underlying44 h
  have hl : cs.length = 2 := hl.trans (by kernel_rfl)
  match cs, hl with
  | [c0, c1], _ =>
    have o1 : Try.prog.cellsOf 3 = 1 := by kernel_rfl
    obtain ⟨a, e0, _, wa⟩ := DataW.trod_int Try.underlying3 (by simpa [o1] using hy0)
    obtain ⟨b, e1, _, wb⟩ := DataW.trod_int Try.underlying3 (by simpa [o1] using hy1)
    simp at e0 e1; subst e0 e1
    exact ⟨a, b, rfl, wa, wb⟩

theorem open_pairS {a0 : Option Addr} {len0 cap0 : Nat} {d : DataW H} {p : List MemPlace} {sp : Nat → Bool} {hd : Bool}
    (h : DataW.Trod enc Try.prog W base sp hd 22 (.slice a0 len0 cap0) d p) (hsp : ∀ b, sp b = true) :
    ∃ ps : List (Int × Int), ps.length = len0 ∧ Prs W 0 W.heap.size a0 ps ∧ len0 ≤ 9223372036854775807 := by
  obtain ⟨fuel, hf⟩ := h
  have hC : Try.prog.cellsOf 44 = 2 := by kernel_rfl
  rcases open_slice Try.underlying22 hf with ⟨hcs, _⟩ | ⟨a, len, cap, m, n, D, Pl, hcs, _, hl, hm, hmm, _, hi⟩
  · simp [Value.cells] at hcs
    obtain ⟨rfl, rfl, rfl⟩ := hcs
    exact ⟨[], rfl, Row.empty (Nat.le_refl _), by omega⟩
  · simp [Value.cells] at hcs
    obtain ⟨rfl, rfl, rfl⟩ := hcs
    rw [hsp, if_pos rfl] at hmm
    subst hmm
    rw [hC] at hi
    have hex : ∀ i, i < len0 → ∃ q : Int × Int, W.cells? base (a.add (i * 2)) 2 = some [.int .i64 q.1, .int .i64 q.2] := by
      intro i hlt
      obtain ⟨cs', hc, ht⟩ := hi i (by omega)
      obtain ⟨x, y, rfl, _, _⟩ := pair_cells ht
      exact ⟨(x, y), hc⟩
    obtain ⟨f, hf'⟩ : ∃ f : Nat → Int × Int, ∀ i, i < len0 → W.cells? base (a.add (i * 2)) 2 = some [.int .i64 (f i).1, .int .i64 (f i).2] := by
      refine ⟨fun i => if hlt : i < len0 then Classical.choose (hex i hlt) else (0, 0), fun i hlt => ?_⟩
      simp only [hlt, dif_pos]
      exact Classical.choose_spec (hex i hlt)
    have hcell : ∀ i, i < len0 → W.cell? ((a.add (i * 2)).add 0) = some (.int .i64 (f i).1) ∧ W.cell? ((a.add (i * 2)).add 1) = some (.int .i64 (f i).2) := by
      intro i hlt
      obtain ⟨_, hlen, hat⟩ := World.cells?_some (hf' i hlt)
      exact ⟨by simpa using hat 0 (by omega), by simpa using hat 1 (by omega)⟩
    refine ⟨(List.range len0).map f, by simp, ?_, by unfold maxLen at hm; omega⟩
    refine ⟨flatP_len _, Nat.le_refl _, fun hn => ?_⟩
    simp only [List.length_map, List.length_range] at hn
    obtain ⟨b, off, spot⟩ := a
    have h0 := (hcell 0 hn).1
    have hspot : spot = none := by simpa [Addr.add] using World.cell?_spot h0
    subst hspot
    refine ⟨b, off, rfl, Nat.zero_le _, ?_, fun j u hu => ?_⟩
    · have := World.block_lt_of_cell? W _ h0
      simpa [Addr.add] using this
    · have hj : j < len0 * 2 := by
        have := (List.getElem?_eq_some_iff.1 hu).1
        rw [flatP_len] at this
        simpa using this
      obtain ⟨i, hi'⟩ : ∃ i, j = i * 2 ∨ j = i * 2 + 1 := ⟨j / 2, by omega⟩
      have hlt : i < len0 := by omega
      have hg : ((List.range len0).map f)[i]? = some ((f i).1, (f i).2) := by simp [hlt]
      obtain ⟨g1, g2⟩ := flatP_get _ i _ _ hg
      obtain ⟨c1, c2⟩ := hcell i hlt
      rw [add_at, add_at] at c1 c2
      rcases hi' with rfl | rfl
      · rw [g1] at hu; injection hu with hu; rw [← hu]; simpa using c1
      · rw [g2] at hu; injection hu with hu; rw [← hu, ← Nat.add_assoc]; exact c2
end
end Go.Proofs.Yteabpdnlkncbpaa
