/- Words for slices of slices of ints: one that reads as a list of lists, and one that a call owns, no two of its rows in one block. -/
import Derived.Test.YtagcdpnbkfoeaaaInts
import Derived.Test.YtagcdpnbkfoeaaaApp2
namespace Go.Proofs.Ytagcdpnbkfoeaaa
open Go.RowKit
set_option linter.unusedVariables false

theorem Kp.put1 (w : World) (g j : Nat) (u : Value) : Kp (At g) w (w.setCell ⟨g, j, none⟩ u) := Kp.setCell (Kp.refl (At g) w) (p := ⟨g, j, none⟩) (fun _ => (rfl : g = g)) _

/-- The slice at A holds slices that read as xss. -/
def Grid (w : World) (lo hi : Nat) (A : Option Addr) (xss : List (List Int)) : Prop :=
  ∃ vs, Row w lo hi 1 A xss.length vs ∧ ∀ (k : Nat) (xs : List Int), xss[k]? = some xs → ∃ A' c', vs[k]? = some (Value.slice A' xs.length c') ∧ Ints w lo hi A' xs ∧ xs.length ≤ c'
section
variable {S : Nat → Prop} {w w' : World} {lo hi lo' hi' : Nat} {A : Option Addr} {xss : List (List Int)}
theorem Grid.at_ (h : Grid w lo hi A xss) {k : Nat} (hk : k < xss.length) : ∃ b off A' c' xs, A = some ⟨b, off, none⟩ ∧ lo ≤ b ∧ b < hi ∧ xss[k]? = some xs ∧ w.cell? ⟨b, off + k, none⟩ = some (.slice A' xs.length c') ∧ Ints w lo hi A' xs ∧ xs.length ≤ c' := by
  obtain ⟨vs, hr, hv⟩ := h
  obtain ⟨b, off, e, h1, h2, h3⟩ := hr.2.2 (by omega)
  obtain ⟨A', c', g1, g2, g3⟩ := hv k xss[k] (List.getElem?_eq_getElem hk)
  exact ⟨b, off, A', c', xss[k], e, h1, h2, List.getElem?_eq_getElem hk, h3 k _ g1, g2, g3⟩
theorem Grid.keep (h : Grid w lo hi A xss) (k : Kp S w w') (hs : ∀ i, lo ≤ i → i < hi → ¬ S i) : Grid w' lo hi A xss := by
  obtain ⟨vs, hr, hv⟩ := h
  refine ⟨vs, hr.keep k hs, fun j xs hx => ?_⟩
  obtain ⟨A', c', g1, g2, g3⟩ := hv j xs hx
  exact ⟨A', c', g1, g2.keep k hs, g3⟩
theorem Grid.keepNo (h : Grid w lo hi A xss) (k : Kp No w w') : Grid w' lo hi A xss := h.keep k fun _ _ _ e => e
theorem Grid.wide (h : Grid w lo hi A xss) (h1 : lo' ≤ lo) (h2 : hi ≤ hi') (h3 : hi' ≤ w.heap.size) : Grid w lo' hi' A xss := by
  obtain ⟨vs, hr, hv⟩ := h
  refine ⟨vs, hr.wide h1 h2 h3, fun j xs hx => ?_⟩
  obtain ⟨A', c', g1, g2, g3⟩ := hv j xs hx
  exact ⟨A', c', g1, g2.wide h1 h2 h3, g3⟩
theorem Grid.size (h : Grid w lo hi A xss) : hi ≤ w.heap.size := by obtain ⟨vs, hr, _⟩ := h; exact hr.2.1
end

section
variable {S : Nat → Prop} {w w' : World} {lo hi sz n c : Nat} {e : TypeId} {A : Option Addr} {cs : List Value}
theorem Own.keepB (h : Own w lo hi e sz A n c cs) (k : Kp S w w') (hs : ∀ b, Blk A b → ¬ S b) : Own w' lo hi e sz A n c cs := by
  refine ⟨⟨h.1.1, ?_⟩, h.2.1, Nat.le_trans h.2.2 k.size⟩
  rcases h.1.2 with hn | ⟨g, cap, cur, hv, hg, hh, r⟩
  · exact .inl hn
  · refine .inr ⟨g, cap, cur, hv, hg, ?_, r⟩
    have hA : A = some ⟨g, 0, none⟩ := by injection hv
    have hlt : g < hi := h.2.1 g (by rw [hv]; rfl)
    rw [k.block g (Nat.lt_of_lt_of_le hlt h.2.2) (hs g ⟨0, hA⟩)]
    exact hh
/-- The same, told of the slice's own block alone. -/
theorem Own.narrow (h : Own w lo hi e sz A n c cs) : ∃ l u, Own w l u e sz A n c cs ∧ ∀ b, Rg l u b → Blk A b := by
  rcases h.1.2 with hn | ⟨g, cap, cur, hv, hg, hh, r⟩
  · refine ⟨0, 0, ⟨⟨h.1.1, .inl hn⟩, fun g hg => ?_, Nat.zero_le _⟩, fun b hb => absurd hb.2 (by omega)⟩
    rw [hn.1] at hg; simp [Value.ownBlock] at hg
  · have hA : A = some ⟨g, 0, none⟩ := by injection hv
    have hlt : g < hi := h.2.1 g (by rw [hv]; rfl)
    have := h.2.2
    refine ⟨g, g + 1, ⟨⟨h.1.1, .inr ⟨g, cap, cur, hv, Nat.le_refl _, hh, r⟩⟩, fun g' hg' => ?_, by omega⟩, fun b hb => ⟨0, ?_⟩⟩
    · subst hA; simp [Value.ownBlock] at hg'; omega
    · have := hb.1; have := hb.2
      rw [hA, show b = g by omega]
end

/-- The block of a slice's row. -/
def VBlk (v : Value) (b : Nat) : Prop := ∃ A n c, v = Value.slice A n c ∧ Blk A b
theorem VBlk.of {A : Option Addr} {n c b : Nat} (h : VBlk (.slice A n c) b) : Blk A b := by
  obtain ⟨A', n', c', e, hb⟩ := h
  injection e with e
  rw [e]; exact hb
structure GridAt (w : World) (lo hi : Nat) (A : Option Addr) (c : Nat) (xss : List (List Int)) (vs : List Value) : Prop where
  own : Own w lo hi 22 1 A xss.length c vs
  row : ∀ (k : Nat) (xs : List Int), xss[k]? = some xs → ∃ A' c', vs[k]? = some (Value.slice A' xs.length c') ∧ OwnI w lo hi A' c' xs ∧ ∀ b, Blk A b → ¬ Blk A' b
  apart : ∀ (i j : Nat) (u v : Value) (b : Nat), i ≠ j → vs[i]? = some u → vs[j]? = some v → VBlk u b → ¬ VBlk v b
/-- A slice of slices of the call's own. -/
def OwnG (w : World) (lo hi : Nat) (A : Option Addr) (c : Nat) (xss : List (List Int)) : Prop := ∃ vs, GridAt w lo hi A c xss vs

section
variable {S : Nat → Prop} {w w' : World} {lo hi lo' hi' c : Nat} {A : Option Addr} {xss : List (List Int)} {vs : List Value}
theorem GridAt.len (h : GridAt w lo hi A c xss vs) : vs.length = xss.length := by have := h.own.1.1; omega
theorem GridAt.keep (h : GridAt w lo hi A c xss vs) (k : Kp S w w') (hs : ∀ i, lo ≤ i → i < hi → ¬ S i) : GridAt w' lo hi A c xss vs :=
  ⟨h.own.keep k hs, fun j xs hx => by obtain ⟨A', c', h1, h2, h3⟩ := h.row j xs hx; exact ⟨A', c', h1, h2.keep k hs, h3⟩, h.apart⟩
theorem GridAt.wide (h : GridAt w lo hi A c xss vs) (h1 : lo' ≤ lo) (h2 : hi ≤ hi') (h3 : hi' ≤ w.heap.size) : GridAt w lo' hi' A c xss vs :=
  ⟨h.own.wide h1 h2 h3, fun j xs hx => by obtain ⟨A', c', g1, g2, g3⟩ := h.row j xs hx; exact ⟨A', c', g1, g2.wide h1 h2 h3, g3⟩, h.apart⟩
theorem OwnG.grid (h : OwnG w lo hi A c xss) : Grid w lo hi A xss := by
  obtain ⟨vs, h⟩ := h
  refine ⟨vs, h.own.row, fun k xs hx => ?_⟩
  obtain ⟨A', c', h1, h2, _⟩ := h.row k xs hx
  exact ⟨A', c', h1, h2.ints, h2.cap⟩
theorem OwnG.keep (h : OwnG w lo hi A c xss) (k : Kp S w w') (hs : ∀ i, lo ≤ i → i < hi → ¬ S i) : OwnG w' lo hi A c xss := by obtain ⟨vs, h⟩ := h; exact ⟨vs, h.keep k hs⟩
theorem OwnG.keepNo (h : OwnG w lo hi A c xss) (k : Kp No w w') : OwnG w' lo hi A c xss := h.keep k fun _ _ _ e => e
theorem OwnG.wide (h : OwnG w lo hi A c xss) (h1 : lo' ≤ lo) (h2 : hi ≤ hi') (h3 : hi' ≤ w.heap.size) : OwnG w lo' hi' A c xss := by obtain ⟨vs, h⟩ := h; exact ⟨vs, h.wide h1 h2 h3⟩
theorem OwnG.nil (h : hi ≤ w.heap.size) : OwnG w lo hi none 0 [] := ⟨[], Own.nil h, fun k xs hx => by simp at hx, fun i j u v b _ hi => by simp at hi⟩
theorem OwnG.at_ (h : OwnG w lo hi A c xss) {k : Nat} (hk : k < xss.length) : ∃ g A' c' xs, A = some ⟨g, 0, none⟩ ∧ lo ≤ g ∧ g < hi ∧ xss[k]? = some xs ∧ w.cell? ⟨g, k, none⟩ = some (.slice A' xs.length c') ∧ w.frozen? ⟨g, k, none⟩ = false ∧ OwnI w lo hi A' c' xs ∧ ¬ Blk A' g := by
  obtain ⟨vs, h⟩ := h
  obtain ⟨g, rfl, h1, h2⟩ := Own.form h.own (by omega)
  obtain ⟨A', c', g1, g2, g3⟩ := h.row k xss[k] (List.getElem?_eq_getElem hk)
  refine ⟨g, A', c', xss[k], rfl, h1, h2, List.getElem?_eq_getElem hk, ?_, h.own.1.frozenAt k, g2, g3 g ⟨0, rfl⟩⟩
  rw [h.own.1.cellAt k (by omega)]
  exact g1
/-- A number is stored in a row. -/
theorem GridAt.put {g f j g2 n2 c2 : Nat} {xs : List Int} (h : GridAt w lo hi (some ⟨g, 0, none⟩) c xss vs) (hx : xss[f]? = some xs) (hv : vs[f]? = some (.slice (some ⟨g2, 0, none⟩) n2 c2)) (x : Int) :
    GridAt (w.setCell ⟨g2, j, none⟩ (.int .i64 x)) lo hi (some ⟨g, 0, none⟩) c (xss.set f (xs.set j x)) vs := by
  have k : Kp (At g2) w (w.setCell ⟨g2, j, none⟩ (.int .i64 x)) := Kp.put1 _ _ _ _
  obtain ⟨A', c', h1, h2, h3⟩ := h.row f xs hx
  rw [hv] at h1
  injection h1 with h1
  injection h1 with h4 h5 h6
  subst h4 h5 h6
  refine ⟨?_, fun i ys hy => ?_, h.apart⟩
  · rw [List.length_set]
    exact h.own.keepB k (fun b hb e => by simp only [At] at e; subst e; exact h3 b hb ⟨0, rfl⟩)
  · by_cases hif : i = f
    · subst hif
      rw [List.getElem?_set_self (List.getElem?_eq_some_iff.1 hx).1] at hy
      injection hy with hy
      subst hy
      exact ⟨_, _, by rw [hv, List.length_set], h2.set_ j x, h3⟩
    · rw [List.getElem?_set_ne (Ne.symm hif)] at hy
      obtain ⟨A3, c3, g1, g2', g3⟩ := h.row i ys hy
      exact ⟨A3, c3, g1, Own.keepB g2' k (fun b hb e => by simp only [At] at e; subst e; exact h.apart f i _ _ b (Ne.symm hif) hv g1 ⟨_, _, _, rfl, 0, rfl⟩ ⟨_, _, _, rfl, hb⟩), g3⟩
theorem OwnG.put {g f j n2 c2 g2 : Nat} {xs : List Int} (h : OwnG w lo hi (some ⟨g, 0, none⟩) c xss) (hx : xss[f]? = some xs) (hv : w.cell? ⟨g, f, none⟩ = some (.slice (some ⟨g2, 0, none⟩) n2 c2)) (x : Int) :
    OwnG (w.setCell ⟨g2, j, none⟩ (.int .i64 x)) lo hi (some ⟨g, 0, none⟩) c (xss.set f (xs.set j x)) := by
  obtain ⟨vs, h⟩ := h
  have hf := (List.getElem?_eq_some_iff.1 hx).1
  rw [h.own.1.cellAt f (by omega)] at hv
  exact ⟨vs, h.put hx hv x⟩
/-- A row is stored, of blocks that are new to the grid. -/
theorem OwnG.row_ {g f c2 hi2 : Nat} {A2 : Option Addr} {ys : List Int} (h : OwnG w lo hi (some ⟨g, 0, none⟩) c xss) (o : OwnI w hi hi2 A2 c2 ys) (hle : hi ≤ hi2) (hf : f < xss.length) :
    OwnG (w.setCell ⟨g, f, none⟩ (.slice A2 ys.length c2)) lo hi2 (some ⟨g, 0, none⟩) c (xss.set f ys) := by
  obtain ⟨vs, h⟩ := h
  obtain ⟨g', hA, hg1, hg2⟩ := Own.form h.own (by omega)
  obtain rfl : g = g' := by injection hA with hA; injection hA
  have hh2 : hi2 ≤ w.heap.size := o.2.2
  have k : Kp (At g) w (w.setCell ⟨g, f, none⟩ (.slice A2 ys.length c2)) := Kp.put1 _ _ _ _
  have hvl := h.len
  have hblk : ∀ b, Blk A2 b → hi ≤ b ∧ b < hi2 := fun b hb => Own.blk o hb
  have hold : ∀ (i : Nat) (u : Value) (b : Nat), vs[i]? = some u → VBlk u b → b < hi := by
    intro i u b hu hb
    have hi' := (List.getElem?_eq_some_iff.1 hu).1
    obtain ⟨A', c', h1, h2, _⟩ := h.row i xss[i] (List.getElem?_eq_getElem (by omega))
    rw [hu] at h1
    injection h1 with h1
    subst h1
    exact (Own.blk h2 hb.of).2
  have o2 := (Own.set_ h.own f (.slice A2 ys.length c2)).wide (Nat.le_refl lo) hle (by have := k.size; omega)
  refine ⟨vs.set f (.slice A2 ys.length c2), ?_, fun i zs hz => ?_, fun i j u v b hij hu hv hb hc => ?_⟩
  · rw [List.length_set]; exact o2
  · by_cases hif : i = f
    · subst hif
      rw [List.getElem?_set_self hf] at hz
      injection hz with hz
      subst hz
      refine ⟨A2, c2, by rw [List.getElem?_set_self (by omega)], (Own.keepB o k (fun b hb e => by simp only [At] at e; have := hblk b hb; omega)).wide (by omega) (Nat.le_refl _) (by have := k.size; omega), ?_⟩
      rintro b ⟨off, hA⟩ hb
      injection hA with hA; injection hA with hA
      have := hblk b hb; omega
    · rw [List.getElem?_set_ne (Ne.symm hif)] at hz
      obtain ⟨A3, c3, g1, g2, g3⟩ := h.row i zs hz
      exact ⟨A3, c3, by rw [List.getElem?_set_ne (Ne.symm hif)]; exact g1, (Own.keepB g2 k (fun b hb e => by simp only [At] at e; subst e; exact g3 b ⟨0, rfl⟩ hb)).wide (Nat.le_refl _) hle (by have := k.size; omega), g3⟩
  · have hfl : f < vs.length := by omega
    by_cases hif : i = f
    · subst hif
      rw [List.getElem?_set_self hfl] at hu
      injection hu with hu
      subst hu
      rw [List.getElem?_set_ne hij] at hv
      have := hold j v b hv hc
      have := hblk b hb.of
      omega
    · rw [List.getElem?_set_ne (Ne.symm hif)] at hu
      by_cases hjf : j = f
      · subst hjf
        rw [List.getElem?_set_self hfl] at hv
        injection hv with hv
        subst hv
        have := hold i u b hu hb
        have := hblk b hc.of
        omega
      · rw [List.getElem?_set_ne (Ne.symm hjf)] at hv
        exact h.apart i j u v b hij hu hv hb hc
/-- A row is appended, of blocks that are new to the grid. -/
theorem GridAt.app {w2 : World} {c2 c3 hi2 : Nat} {A2 A3 : Option Addr} {ys : List Int} (h : GridAt w lo hi A c xss vs) (o : OwnI w hi hi2 A2 c2 ys) (hle : hi ≤ hi2)
    (o3 : Own w2 lo w2.heap.size 22 1 A3 (xss.length + 1) c3 (vs ++ [.slice A2 ys.length c2])) (k : Kp (Blk A) w w2) (hb3 : ∀ b, Blk A3 b → Blk A b ∨ b = w.heap.size) (hlo : lo ≤ hi) :
    OwnG w2 lo w2.heap.size A3 c3 (xss ++ [ys]) := by
  have hh : hi ≤ w.heap.size := h.own.2.2
  have hh2 : hi2 ≤ w.heap.size := o.2.2
  have hsz := k.size
  have hvl := h.len
  have hblk : ∀ b, Blk A2 b → hi ≤ b ∧ b < hi2 := fun b hb => Own.blk o hb
  have hold : ∀ (i : Nat) (u : Value) (b : Nat), vs[i]? = some u → VBlk u b → b < hi := by
    intro i u b hu hb
    have hi' := (List.getElem?_eq_some_iff.1 hu).1
    obtain ⟨A', c', h1, h2, _⟩ := h.row i xss[i] (List.getElem?_eq_getElem (by omega))
    rw [hu] at h1
    injection h1 with h1
    subst h1
    exact (Own.blk h2 hb.of).2
  have hA : ∀ b, Blk A b → b < hi := fun b hb => (Own.blk h.own hb).2
  refine ⟨vs ++ [.slice A2 ys.length c2], ?_, fun i zs hz => ?_, fun i j u v b hij hu hv hb hc => ?_⟩
  · rw [List.length_append]; exact o3
  · by_cases hif : i < xss.length
    · rw [List.getElem?_append_left hif] at hz
      obtain ⟨A4, c4, g1, g2, g3⟩ := h.row i zs hz
      refine ⟨A4, c4, by rw [List.getElem?_append_left (by omega)]; exact g1, (Own.keepB g2 k (fun b hb e => g3 b e hb)).wide (Nat.le_refl _) (by omega) (Nat.le_refl _), fun b hb hb4 => ?_⟩
      rcases hb3 b hb with h1 | h1
      · exact g3 b h1 hb4
      · have := (Own.blk g2 hb4).2; omega
    · rw [List.getElem?_append_right (by omega)] at hz
      obtain rfl : i = xss.length := by have := (List.getElem?_eq_some_iff.1 hz).1; simp at this; omega
      simp at hz
      subst hz
      refine ⟨A2, c2, by rw [List.getElem?_append_right (by omega)]; simp [hvl], (Own.keepB o k (fun b hb e => by have := hblk b hb; have := hA b e; omega)).wide (by omega) (by omega) (Nat.le_refl _), fun b hb hb4 => ?_⟩
      have := hblk b hb4
      rcases hb3 b hb with h1 | h1
      · have := hA b h1; omega
      · omega
  · by_cases hif : i < vs.length
    · rw [List.getElem?_append_left hif] at hu
      by_cases hjf : j < vs.length
      · rw [List.getElem?_append_left hjf] at hv
        exact h.apart i j u v b hij hu hv hb hc
      · rw [List.getElem?_append_right (by omega)] at hv
        obtain rfl : j = vs.length := by have := (List.getElem?_eq_some_iff.1 hv).1; simp at this; omega
        simp at hv
        subst hv
        have := hold i u b hu hb
        have := hblk b hc.of
        omega
    · rw [List.getElem?_append_right (by omega)] at hu
      obtain rfl : i = vs.length := by have := (List.getElem?_eq_some_iff.1 hu).1; simp at this; omega
      simp at hu
      subst hu
      rw [List.getElem?_append_left (by have := (List.getElem?_eq_some_iff.1 hv).1; simp at this; omega)] at hv
      have := hold j v b hv hc
      have := hblk b hb.of
      omega
/-- How many numbers there are. -/
def tot (xss : List (List Int)) : Nat := (xss.map List.length).sum
theorem tot_succ {xss : List (List Int)} {k : Nat} {xs : List Int} (h : xss[k]? = some xs) : tot (xss.take (k + 1)) = tot (xss.take k) + xs.length := by
  obtain ⟨hk, rfl⟩ := List.getElem?_eq_some_iff.1 h
  unfold tot
  rw [List.take_succ_eq_append_getElem hk, List.map_append, List.sum_append_nat]
  simp
theorem tot_take (xss : List (List Int)) (k : Nat) : tot (xss.take k) ≤ tot xss := by
  have h : tot xss = tot (xss.take k) + tot (xss.drop k) := by
    unfold tot
    rw [← List.sum_append_nat, ← List.map_append, List.take_append_drop]
  omega
theorem tot_row {xss : List (List Int)} {k : Nat} {xs : List Int} (h : xss[k]? = some xs) : xs.length ≤ tot xss := by
  have := tot_succ h; have := tot_take xss (k + 1); omega
end
end Go.Proofs.Ytagcdpnbkfoeaaa
