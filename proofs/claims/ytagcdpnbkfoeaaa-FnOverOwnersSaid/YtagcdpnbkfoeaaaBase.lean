/- Words for memory: a slice that reads as a list of cells in a range of blocks; which blocks a call may have changed. No program is named here. -/
import Derived.Below
import Derived.Laws.OwnMore
import Derived.Deep.AppendLies
import Derived.Deep.Draws
import Derived.Laws.Rows
import Derived.Lib.Hide
import Derived.WalkKit
import Derived.Test.YtagcdpnbkfoeaaaRows
namespace Go.Proofs.Ytagcdpnbkfoeaaa
open Go.RowKit

theorem ret_bool {a b : Bool} (h : a = b) : Ending.returned (.bool a) = .returned (.bool b) := by rw [h]
theorem ret_int {k : IntKind} {a b : Int} (h : a = b) : Ending.returned (.int k a) = .returned (.int k b) := by rw [h]

/-- The same call, its first argument's length spelled otherwise. -/
theorem len1 {P : Program} {f : FuncId} {A : Option Addr} {n m c : Nat} {w : World} {R : Ending → World → Prop} (h : Calls P f #[.slice A m c] w R) (e : n = m) : Calls P f #[.slice A n c] w R := e ▸ h
theorem len2 {P : Program} {f : FuncId} {A : Option Addr} {n m c : Nat} {v : Value} {w : World} {R : Ending → World → Prop} (h : Calls P f #[.slice A m c, v] w R) (e : n = m) : Calls P f #[.slice A n c, v] w R := e ▸ h

theorem add_at (g off j : Nat) : (⟨g, off, none⟩ : Addr).add j = ⟨g, off + j, none⟩ := by
  unfold Addr.add
  split <;> simp_all

/-- Between two worlds only blocks of S (and new ones) may have changed. -/
structure Kp (S : Nat → Prop) (w w' : World) : Prop where
  os : w'.os = w.os
  tape : w'.tape = w.tape
  output : w'.output = w.output
  size : w.heap.size ≤ w'.heap.size
  block : ∀ k, k < w.heap.size → ¬ S k → w'.heap[k]? = w.heap[k]?

def No : Nat → Prop := fun _ => False
def Rg (lo hi : Nat) : Nat → Prop := fun k => lo ≤ k ∧ k < hi
def At (g : Nat) : Nat → Prop := fun k => k = g
def Ge (lo : Nat) : Nat → Prop := fun k => lo ≤ k

section
variable {S S' : Nat → Prop} {w w' w'' : World}
theorem Kp.refl (S : Nat → Prop) (w : World) : Kp S w w := ⟨rfl, rfl, rfl, Nat.le_refl _, fun _ _ _ => rfl⟩
theorem Kp.trans (h : Kp S w w') (k : Kp S w' w'') : Kp S w w'' :=
  ⟨k.os.trans h.os, k.tape.trans h.tape, k.output.trans h.output, Nat.le_trans h.size k.size, fun i hi hn => (k.block i (Nat.lt_of_lt_of_le hi h.size) hn).trans (h.block i hi hn)⟩
/-- The second step may change what S allows, and blocks that were new for the first world. -/
theorem Kp.also (h : Kp S w w') (k : Kp S' w' w'') (hs : ∀ i, i < w.heap.size → S' i → S i) : Kp S w w'' :=
  ⟨k.os.trans h.os, k.tape.trans h.tape, k.output.trans h.output, Nat.le_trans h.size k.size, fun i hi hn => (k.block i (Nat.lt_of_lt_of_le hi h.size) (fun e => hn (hs i hi e))).trans (h.block i hi hn)⟩
theorem Kp.mono (h : Kp S w w') (hs : ∀ i, i < w.heap.size → S i → S' i) : Kp S' w w' := ⟨h.os, h.tape, h.output, h.size, fun i hi hn => h.block i hi (fun e => hn (hs i hi e))⟩
theorem Kp.no (h : Kp No w w') : Kp S w w' := h.mono fun _ _ e => e.elim
theorem Kp.alsoNo (h : Kp S w w') (k : Kp No w' w'') : Kp S w w'' := h.also k fun _ _ e => e.elim
theorem Kp.drew (h : Kp S w w') : Kp S w w'.drew := ⟨h.os, h.tape, h.output, h.size, h.block⟩
theorem Kp.drewN (h : Kp S w w') (n : Nat) : Kp S w (w'.drewN n) := ⟨h.os, h.tape, h.output, h.size, h.block⟩
theorem Kp.alloc (h : Kp S w w') (o : Obj) : Kp S w (w'.alloc o) :=
  ⟨h.os, h.tape, h.output, Nat.le_trans h.size (by simp), fun i hi hn => (Below.heap_alloc w' o i (Nat.lt_of_lt_of_le hi h.size)).trans (h.block i hi hn)⟩
theorem Kp.setCell (h : Kp S w w') {p : Addr} (hp : p.block < w.heap.size → S p.block) (u : Value) : Kp S w (w'.setCell p u) :=
  ⟨h.os, h.tape, h.output, by simpa [World.setCell] using h.size, fun i hi hn => (Below.heap_setCell w' p u i (by rintro rfl; exact hn (hp hi))).trans (h.block i hi hn)⟩
theorem Kp.grown {row : Option Nat} (h : Kp S w w') (hg : w'.grownBy w'' row) (hr : ∀ k, row = some k → k < w.heap.size → S k) : Kp S w w'' :=
  ⟨hg.os.trans h.os, hg.tape.trans h.tape, hg.output.trans h.output, Nat.le_trans h.size hg.size, fun i hi hn => (hg.block i (Nat.lt_of_lt_of_le hi h.size) (fun e => hn (hr i e.symm hi))).trans (h.block i hi hn)⟩
theorem Kp.below (h : Kp No w w') : Below w.heap.size w w' := ⟨h.os, h.tape, h.output, h.size, fun k hk => h.block k hk (fun e => e.elim)⟩
theorem Kp.cell (h : Kp S w w') {p : Addr} (hp : p.block < w.heap.size) (hn : ¬ S p.block) : w'.cell? p = w.cell? p := World.cell?_of_block (h.block _ hp hn)
theorem Kp.frozen (h : Kp S w w') {p : Addr} (hp : p.block < w.heap.size) (hn : ¬ S p.block) : w'.frozen? p = w.frozen? p := World.frozen?_of_block (h.block _ hp hn)
end

/-- The slice at A of n elements (sz cells each) holds the cells cs; it lies in blocks lo .. hi - 1. -/
def Row (w : World) (lo hi sz : Nat) (A : Option Addr) (n : Nat) (cs : List Value) : Prop :=
  cs.length = n * sz ∧ hi ≤ w.heap.size ∧ (0 < n → ∃ b off, A = some ⟨b, off, none⟩ ∧ lo ≤ b ∧ b < hi ∧ ∀ j u, cs[j]? = some u → w.cell? ⟨b, off + j, none⟩ = some u)

section
variable {S : Nat → Prop} {w w' : World} {lo hi lo' hi' sz n : Nat} {A : Option Addr} {cs : List Value}
theorem Row.keep (h : Row w lo hi sz A n cs) (k : Kp S w w') (hs : ∀ i, lo ≤ i → i < hi → ¬ S i) : Row w' lo hi sz A n cs :=
  ⟨h.1, Nat.le_trans h.2.1 k.size, fun hn => by
    obtain ⟨b, off, e, h1, h2, h3⟩ := h.2.2 hn
    exact ⟨b, off, e, h1, h2, fun j u hu => (k.cell (p := ⟨b, off + j, none⟩) (Nat.lt_of_lt_of_le h2 h.2.1) (hs b h1 h2)).trans (h3 j u hu)⟩⟩
theorem Row.keepNo (h : Row w lo hi sz A n cs) (k : Kp No w w') : Row w' lo hi sz A n cs := h.keep k fun _ _ _ e => e
theorem Row.wide (h : Row w lo hi sz A n cs) (h1 : lo' ≤ lo) (h2 : hi ≤ hi') (h3 : hi' ≤ w.heap.size) : Row w lo' hi' sz A n cs :=
  ⟨h.1, h3, fun hn => by
    obtain ⟨b, off, e, g1, g2, g3⟩ := h.2.2 hn
    exact ⟨b, off, e, by omega, by omega, g3⟩⟩
theorem Row.cut (h : Row w lo hi 1 A n cs) {m : Nat} (hm : m ≤ n) : Row w lo hi 1 A m (cs.take m) := by
  refine ⟨by have := h.1; simp; omega, h.2.1, fun h0 => ?_⟩
  obtain ⟨b, off, e, h1, h2, h3⟩ := h.2.2 (by omega)
  refine ⟨b, off, e, h1, h2, fun j u hu => h3 j u ?_⟩
  rw [List.getElem?_take] at hu
  split at hu
  · exact hu
  · cases hu
theorem Row.empty (h : hi ≤ w.heap.size) : Row w lo hi sz A 0 [] := ⟨by simp, h, fun h => absurd h (by omega)⟩
end

/-- A slice of ints that reads as xs. -/
def Ints (w : World) (lo hi : Nat) (A : Option Addr) (xs : List Int) : Prop := Row w lo hi 1 A xs.length (xs.map (Value.int .i64))

section
variable {S : Nat → Prop} {w w' : World} {lo hi lo' hi' : Nat} {A : Option Addr} {xs : List Int}
theorem Ints.at_ (h : Ints w lo hi A xs) {k : Nat} (hk : k < xs.length) : ∃ b off x, A = some ⟨b, off, none⟩ ∧ lo ≤ b ∧ b < hi ∧ xs[k]? = some x ∧ w.cell? ⟨b, off + k, none⟩ = some (.int .i64 x) := by
  obtain ⟨b, off, e, h1, h2, h3⟩ := h.2.2 (by omega)
  exact ⟨b, off, xs[k], e, h1, h2, List.getElem?_eq_getElem hk, h3 k _ (by simp [List.getElem?_eq_getElem hk])⟩
theorem Ints.keep (h : Ints w lo hi A xs) (k : Kp S w w') (hs : ∀ i, lo ≤ i → i < hi → ¬ S i) : Ints w' lo hi A xs := Row.keep h k hs
theorem Ints.keepNo (h : Ints w lo hi A xs) (k : Kp No w w') : Ints w' lo hi A xs := Row.keepNo h k
theorem Ints.cut (h : Ints w lo hi A xs) {m : Nat} (hm : m ≤ xs.length) : Ints w lo hi A (xs.take m) := by
  have := Row.cut h hm
  unfold Ints
  rw [List.map_take, List.length_take, Nat.min_eq_left hm]
  exact this
theorem Ints.wide (h : Ints w lo hi A xs) (h1 : lo' ≤ lo) (h2 : hi ≤ hi') (h3 : hi' ≤ w.heap.size) : Ints w lo' hi' A xs := Row.wide h h1 h2 h3
end

/-- The slice at A of n elements owns the cells cs, in a block of lo .. hi - 1 (or it is nil). -/
def Own (w : World) (lo hi : Nat) (e : TypeId) (sz : Nat) (A : Option Addr) (n c : Nat) (cs : List Value) : Prop :=
  w.ownsRow lo e sz (.slice A n c) n cs ∧ (∀ g, (Value.slice A n c).ownBlock = some g → g < hi) ∧ hi ≤ w.heap.size

section
variable {S : Nat → Prop} {w w' : World} {lo hi lo' hi' sz n c : Nat} {e : TypeId} {A : Option Addr} {cs : List Value}
theorem Own.of (h : w.ownsRow lo e sz (.slice A n c) n cs) : Own w lo w.heap.size e sz A n c cs := ⟨h, fun g hg => (h.lt g hg).2, Nat.le_refl _⟩
theorem Own.row (h : Own w lo hi e sz A n c cs) : Row w lo hi sz A n cs :=
  ⟨h.1.1, h.2.2, fun hn => by
    obtain ⟨g, cap, hv, hg, hlt⟩ := h.1.form hn
    have hA : A = some ⟨g, 0, none⟩ := by injection hv
    subst hA
    refine ⟨g, 0, rfl, hg, h.2.1 g rfl, fun j u hu => ?_⟩
    have := h.1.cells (g := g) rfl j u hu
    rwa [add_at] at this⟩
theorem Own.keep (h : Own w lo hi e sz A n c cs) (k : Kp S w w') (hs : ∀ i, lo ≤ i → i < hi → ¬ S i) : Own w' lo hi e sz A n c cs := by
  refine ⟨⟨h.1.1, ?_⟩, h.2.1, Nat.le_trans h.2.2 k.size⟩
  rcases h.1.2 with hn | ⟨g, cap, cur, hv, hg, hh, r⟩
  · exact .inl hn
  · refine .inr ⟨g, cap, cur, hv, hg, ?_, r⟩
    have hlt : g < hi := h.2.1 g (by rw [hv]; rfl)
    rw [k.block g (Nat.lt_of_lt_of_le hlt h.2.2) (hs g hg hlt)]
    exact hh
theorem Own.keepNo (h : Own w lo hi e sz A n c cs) (k : Kp No w w') : Own w' lo hi e sz A n c cs := h.keep k fun _ _ _ e => e
theorem Own.wide (h : Own w lo hi e sz A n c cs) (h1 : lo' ≤ lo) (h2 : hi ≤ hi') (h3 : hi' ≤ w.heap.size) : Own w lo' hi' e sz A n c cs := by
  refine ⟨⟨h.1.1, ?_⟩, fun g hg => Nat.lt_of_lt_of_le (h.2.1 g hg) h2, h3⟩
  rcases h.1.2 with hn | ⟨g, cap, cur, hv, hg, r⟩
  · exact .inl hn
  · exact .inr ⟨g, cap, cur, hv, Nat.le_trans h1 hg, r⟩
theorem Own.nil (h : hi ≤ w.heap.size) : Own w lo hi e sz none 0 0 [] := ⟨World.ownsRow_nil _ _ _ _, fun g hg => by simp [Value.ownBlock] at hg, h⟩
theorem Own.form (h : Own w lo hi e sz A n c cs) (hn : 0 < n) : ∃ g, A = some ⟨g, 0, none⟩ ∧ lo ≤ g ∧ g < hi := by
  obtain ⟨g, cap, hv, hg, hlt⟩ := h.1.form hn
  have hA : A = some ⟨g, 0, none⟩ := by injection hv
  subst hA
  exact ⟨g, rfl, hg, h.2.1 g rfl⟩
theorem Own.cap (h : Own w lo hi e sz A n c cs) : n ≤ c := by
  rcases h.1.2 with ⟨h1, h2⟩ | ⟨g, cap, cur, hv, _, _, hn, _⟩
  · omega
  · injection hv with _ _ hc; omega
theorem Own.set_ {g : Nat} (h : Own w lo hi e sz (some ⟨g, 0, none⟩) n c cs) (j : Nat) (u : Value) :
    Own (w.setCell ⟨g, j, none⟩ u) lo hi e sz (some ⟨g, 0, none⟩) n c (cs.set j u) :=
  ⟨(h.1.stored j u).1, h.2.1, Nat.le_trans h.2.2 (h.1.stored j u).2.size⟩
end

/-- A slice of ints of the call's own. -/
def OwnI (w : World) (lo hi : Nat) (A : Option Addr) (c : Nat) (xs : List Int) : Prop := Own w lo hi 3 1 A xs.length c (xs.map (Value.int .i64))
section
variable {S : Nat → Prop} {w w' : World} {lo hi lo' hi' c : Nat} {A : Option Addr} {xs : List Int}
theorem OwnI.ints (h : OwnI w lo hi A c xs) : Ints w lo hi A xs := Own.row h
theorem OwnI.keep (h : OwnI w lo hi A c xs) (k : Kp S w w') (hs : ∀ i, lo ≤ i → i < hi → ¬ S i) : OwnI w' lo hi A c xs := Own.keep h k hs
theorem OwnI.keepNo (h : OwnI w lo hi A c xs) (k : Kp No w w') : OwnI w' lo hi A c xs := Own.keepNo h k
theorem OwnI.wide (h : OwnI w lo hi A c xs) (h1 : lo' ≤ lo) (h2 : hi ≤ hi') (h3 : hi' ≤ w.heap.size) : OwnI w lo' hi' A c xs := Own.wide h h1 h2 h3
theorem OwnI.cap (h : OwnI w lo hi A c xs) : xs.length ≤ c := Own.cap h
theorem OwnI.at_ (h : OwnI w lo hi A c xs) {k : Nat} (hk : k < xs.length) : ∃ g x, A = some ⟨g, 0, none⟩ ∧ lo ≤ g ∧ g < hi ∧ xs[k]? = some x ∧ w.cell? ⟨g, k, none⟩ = some (.int .i64 x) ∧ w.frozen? ⟨g, k, none⟩ = false := by
  obtain ⟨g, rfl, h1, h2⟩ := Own.form h (by omega)
  refine ⟨g, xs[k], rfl, h1, h2, List.getElem?_eq_getElem hk, ?_, h.1.frozenAt k⟩
  rw [h.1.cellAt k (by omega)]
  simp [List.getElem?_eq_getElem hk]
theorem OwnI.set_ {g : Nat} (h : OwnI w lo hi (some ⟨g, 0, none⟩) c xs) (j : Nat) (x : Int) : OwnI (w.setCell ⟨g, j, none⟩ (.int .i64 x)) lo hi (some ⟨g, 0, none⟩) c (xs.set j x) := by
  have := Own.set_ h j (.int .i64 x)
  unfold OwnI
  rw [List.map_set, List.length_set]
  exact this
end

/-- What a call leaves that hands back a new slice of ints. -/
def NewI (w : World) (xs : List Int) (e : Ending) (w' : World) : Prop := ∃ A c, e = .returned (.slice A xs.length c) ∧ OwnI w' w.heap.size w'.heap.size A c xs ∧ Kp No w w'

/-- What a call leaves that hands back some new slice of at most L ints. -/
def SomeI (L : Nat) (w : World) (e : Ending) (w' : World) : Prop := ∃ A c xs, e = .returned (.slice A xs.length c) ∧ OwnI w' w.heap.size w'.heap.size A c xs ∧ xs.length ≤ L ∧ Kp No w w'

theorem int_info : (Try.prog.info? 3).map (fun i => (i.zero, i.size, i.bytes)) = some (some (.int .i64 0), 1, 8) := by kernel_rfl

end Go.Proofs.Ytagcdpnbkfoeaaa
