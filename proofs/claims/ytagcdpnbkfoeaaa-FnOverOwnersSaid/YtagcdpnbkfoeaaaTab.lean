/- Facts on what the operations of a drawn region leave: a literal table of ints, a pointer into one, a number. -/
import Derived.Test.YtagcdpnbkfoeaaaDraw
import Derived.Test.YtagcdpnbkfoeaaaRegion
namespace Go.Proofs.Ytagcdpnbkfoeaaa
open Go.RowKit

def TabI (lo m : Nat) (V : Int → Prop) (v : Value) (wx : World) : Prop :=
  ∃ g, v = .slice (some ⟨g, 0, none⟩) m m ∧ lo ≤ g ∧ g < wx.heap.size ∧ ∀ j, j < m → ∃ x, wx.cell? ⟨g, j, none⟩ = some (.int .i64 x) ∧ V x
def PtrI (lo : Nat) (V : Int → Prop) (v : Value) (wx : World) : Prop :=
  ∃ g j x, v = .pointer (some ⟨g, j, none⟩) ∧ lo ≤ g ∧ g < wx.heap.size ∧ wx.cell? ⟨g, j, none⟩ = some (.int .i64 x) ∧ V x
def IntV (V : Int → Prop) (v : Value) : Prop := ∃ x, v = .int .i64 x ∧ V x

theorem TabI.keep {lo m a : Nat} {V : Int → Prop} {v : Value} {wx wy : World} (h : TabI lo m V v wx) (ha : a < lo) (k : Kp (At a) wx wy) : TabI lo m V v wy := by
  obtain ⟨g, e, h1, h2, h3⟩ := h
  refine ⟨g, e, h1, Nat.lt_of_lt_of_le h2 k.size, fun j hj => ?_⟩
  obtain ⟨x, hx, hV⟩ := h3 j hj
  exact ⟨x, (k.cell h2 (by simp only [At]; omega)).trans hx, hV⟩
theorem PtrI.keep {lo a : Nat} {V : Int → Prop} {v : Value} {wx wy : World} (h : PtrI lo V v wx) (ha : a < lo) (k : Kp (At a) wx wy) : PtrI lo V v wy := by
  obtain ⟨g, j, x, e, h1, h2, h3, hV⟩ := h
  exact ⟨g, j, x, e, h1, Nat.lt_of_lt_of_le h2 k.size, (k.cell h2 (by simp only [At]; omega)).trans h3, hV⟩
/-- How many of the operations 'is' have run. -/
def cnt (L : Nat → Bool) (is : List Nat) : Nat := (is.filter L).length
theorem cnt_le (L : Nat → Bool) (is : List Nat) : cnt L is ≤ is.length := List.length_filter_le _ _
theorem cnt_cons (L : Nat → Bool) (j : Nat) (is : List Nat) : cnt L (j :: is) = (if L j = true then 1 else 0) + cnt L is := by
  simp only [cnt, List.filter_cons]
  split
  · rw [List.length_cons]; omega
  · omega
theorem cnt_mono (L : Nat → Bool) (i : Nat) (is : List Nat) : cnt L is ≤ cnt (upd L i true) is := by
  induction is with
  | nil => simp [cnt]
  | cons j is ih =>
    rw [cnt_cons, cnt_cons]
    have : (if L j = true then 1 else 0) ≤ (if upd L i true j = true then 1 else 0) := by
      by_cases hj : j = i
      · simp only [upd, hj, if_true]; split <;> omega
      · simp only [upd, hj, if_false]; omega
    omega
theorem cnt_step {L : Nat → Bool} {i : Nat} {is : List Nat} (hi : i ∈ is) (hL : L i = false) : cnt L is + 1 ≤ cnt (upd L i true) is := by
  induction is with
  | nil => simp at hi
  | cons j is ih =>
    rw [cnt_cons, cnt_cons]
    by_cases hj : j = i
    · subst hj
      have := cnt_mono L j is
      simp only [upd, hL, if_true, Bool.false_eq_true, if_false] at this ⊢
      omega
    · have ih := ih (by rcases List.mem_cons.1 hi with h | h; exact absurd h.symm hj; exact h)
      have e : upd L i true j = L j := by simp [upd, hj]
      rw [e]
      omega
theorem cnt_none (is : List Nat) : cnt (fun _ => false) is = 0 := by simp [cnt]

/-- A literal table in a new block. -/
theorem TabI.lit (wx : World) (lo : Nat) (t : TypeId) (xs : List Int) (cs : Array Value) (h : cs.toList = xs.map (Value.int .i64)) (V : Int → Prop) (hV : ∀ x ∈ xs, V x) (hlo : lo ≤ wx.heap.size) :
    TabI lo xs.length V (.slice (some ⟨wx.heap.size, 0, none⟩) xs.length xs.length) (wx.alloc (.cells cs t)) := by
  refine ⟨wx.heap.size, rfl, hlo, by simp, fun j hj => ⟨xs[j], ?_, hV _ (List.getElem_mem hj)⟩⟩
  have hb : (wx.alloc (.cells cs t)).heap[wx.heap.size]? = some (.cells cs t (0, 0)) := heap_alloc_new wx _
  rw [cell_of_row _ _ j cs t (0, 0) hb, ← Array.getElem?_toList, h]
  simp [List.getElem?_eq_getElem hj]
end Go.Proofs.Ytagcdpnbkfoeaaa
