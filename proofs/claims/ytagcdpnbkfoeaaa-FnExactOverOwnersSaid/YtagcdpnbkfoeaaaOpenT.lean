/- From a reading of an argument to the words of Grid: a table by value. -/
import Derived.Test.YtagcdpnbkfoeaaaOpen
import Derived.Test.YtagcdpnbkfoeaaaGrid
import Derived.Deep.Matrix
import Derived.ChangeSame
import Derived.Lib.SmallJoins
namespace Go.Proofs.Ytagcdpnbkfoeaaa
open Go.ChangeShapes Go.WideShapes Go.ChangeAt Go.RowKit Go.Joins Go.Deep
set_option linter.unusedVariables false

section
variable {H : Type} {enc : TypeId × Value → H} {W : World} {base : Nat}
theorem open_table {r : Reach} {b0 : Nat} {v : Value} {d : DataW H} {p : List MemPlace} {sp : Nat → Bool} {hd : Bool}
    (hv : Value.okWide Try.prog W r b0 37 v) (h : DataW.Trod enc Try.prog W base sp hd 37 v d p) (hsp : ∀ b, sp b = true) :
    ∃ (A : Option Addr) (xss : List (List Int)) (c : Nat), v = .agg #[.slice A xss.length c] ∧ Grid W 0 W.heap.size A xss ∧ (xss.length ≤ 9223372036854775807 ∧ ∀ (k : Nat) (xs : List Int), xss[k]? = some xs → xs.length ≤ 9223372036854775807) := by
  obtain rfl : sp = fun _ => true := funext hsp
  obtain ⟨cs, rfl, hsz⟩ := okWide_struct Try.underlying37 hv
  have hC : Try.prog.cellsOf 37 = 1 := by kernel_rfl
  obtain ⟨c0, rfl⟩ : ∃ c0, cs = #[c0] := by
    rw [hC] at hsz
    obtain ⟨l⟩ := cs
    match l, hsz with
    | [c0], _ => exact ⟨c0, rfl⟩
  obtain ⟨fuel, hf⟩ := h
  obtain ⟨y0, m, hx, _, h0⟩ := trod_struct1 Try.underlying37 hf
  have o1 : Try.prog.cellsOf 30 = 1 := by kernel_rfl
  have h0 : DataW.trod enc Try.prog W base (fun _ => true) hd m 30 [c0] = some y0 := by simpa [Value.cells, o1] using h0
  rcases open_int_rows Try.underlying30 Try.underlying22 Try.underlying3 (by kernel_rfl) (by kernel_rfl) h0 with ⟨hcs, _⟩ | ⟨a, len, cap, A, L, C, Z, hcs, _, hl, hm, _, hi⟩
  · simp at hcs
    subst hcs
    exact ⟨none, [], 0, rfl, ⟨[], Row.empty (Nat.le_refl _), fun k xs hk => by simp at hk⟩, by simp, fun k xs hk => by simp at hk⟩
  · simp at hcs
    subst hcs
    have hlen : ((List.range len).map fun r => (Z r).take (L r)).length = len := by simp
    have hrow : ∀ (k : Nat) (xs : List Int), ((List.range len).map fun r => (Z r).take (L r))[k]? = some xs → k < len ∧ xs = (Z k).take (L k) ∧ xs.length = L k := by
      intro k xs hk
      have hk' := (List.getElem?_eq_some_iff.1 hk).1
      rw [hlen] at hk'
      simp only [List.getElem?_map, List.getElem?_range hk', Option.map_some, Option.some.injEq] at hk
      obtain ⟨_, r1, _, r3, _⟩ := hi k (by omega)
      refine ⟨hk', hk.symm, ?_⟩
      rw [← hk, List.length_take]; omega
    refine ⟨some a, (List.range len).map fun r => (Z r).take (L r), cap, by rw [hlen], ⟨(List.range len).map fun r => .slice (A r) (L r) (C r), ?_, fun k xs hk => ?_⟩, by rw [hlen]; unfold maxLen at hm; omega, fun k xs hk => ?_⟩
    · rw [hlen]
      refine row_of_cells (by simp) fun i u hu => ?_
      have hi' := (List.getElem?_eq_some_iff.1 hu).1
      simp only [List.length_map, List.length_range] at hi'
      simp only [List.getElem?_map, List.getElem?_range hi', Option.map_some, Option.some.injEq] at hu
      rw [← hu]
      exact (hi i (by omega)).1
    · obtain ⟨hkl, hxs, hxl⟩ := hrow k xs hk
      obtain ⟨r0, r1, r2, r3, r4, r5, r6⟩ := hi k (by omega)
      refine ⟨A k, C k, by simp only [List.getElem?_map, List.getElem?_range hkl, Option.map_some, hxl], ?_, by omega⟩
      cases hA : A k with
      | none =>
        have := r5 hA
        have hx0 : xs = [] := List.eq_nil_of_length_eq_zero (by omega)
        subst hx0
        exact Row.empty (Nat.le_refl _)
      | some a' =>
        obtain ⟨_, g⟩ := r6 a' hA
        refine row_of_cells (by simp) fun i u hu => ?_
        have hi' := (List.getElem?_eq_some_iff.1 hu).1
        simp only [List.length_map] at hi'
        rw [g i (by omega)]
        rw [hxs] at hu
        simp only [List.getElem?_map, List.getElem?_take] at hu
        rw [if_pos (by omega)] at hu
        rw [List.getElem?_eq_getElem (show i < (Z k).length by omega)] at hu
        simp only [Option.map_some, Option.some.injEq] at hu
        rw [← hu, List.getD_eq_getElem?_getD, List.getElem?_eq_getElem (show i < (Z k).length by omega)]
        rfl
    · obtain ⟨hkl, hxs, hxl⟩ := hrow k xs hk
      obtain ⟨r0, r1, r2, r3, r4, r5, r6⟩ := hi k (by omega)
      unfold maxLen at r2
      omega
end
end Go.Proofs.Ytagcdpnbkfoeaaa
