/- Plain facts on spares: chains end, two blocks never share a spare, a mark changes one chain alone. -/
import Derived.Test.YtcnaehllegoefaaSpareOf
import Derived.Test.YtcnaehllegoefaaMarkBad
namespace Go.Proofs.Ytcnaehllegoefaa
open Go.RowKit
set_option linter.unusedVariables false

theorem idxI_cons_nil {xs : List Int} {v z : Int} (h : idxI xs v = -1) (hz : v ≠ z) : idxI (xs ++ [z]) v = -1 := by
  rcases idxI_cases xs v with ⟨_, h2⟩ | ⟨k, h1, _⟩
  · rcases idxI_cases (xs ++ [z]) v with ⟨g, _⟩ | ⟨k, g1, g2, g3⟩
    · exact g
    · simp only [List.contains_eq_mem, decide_eq_true_eq, decide_eq_false_iff_not, List.mem_append, List.mem_singleton] at g3 h2
      rcases g3 with g3 | g3
      · exact absurd g3 h2
      · exact absurd g3 hz
  · omega
theorem idxI_last {xs : List Int} {v : Int} (h : idxI xs v = -1) : idxI (xs ++ [v]) v = xs.length := by
  refine idxI_at (fun j x hj hx => ?_) (by simp)
  rintro rfl
  rw [List.getElem?_append_left hj] at hx
  rcases idxI_cases xs x with ⟨_, h2⟩ | ⟨k, h1, _⟩
  · simp only [List.contains_eq_mem, decide_eq_false_iff_not] at h2
    exact h2 (List.mem_of_getElem? hx)
  · omega
theorem idxI_front {xs : List Int} {v z : Int} {k : Nat} (h : idxI xs v = k) : idxI (xs ++ [z]) v = k := by
  unfold idxI at h ⊢
  rw [List.findIdx?_append]
  cases e : xs.findIdx? (· == v) with
  | none => rw [e] at h; simp at h <;> omega
  | some j => rw [e] at h; simpa using h
theorem idxI_none_of_lt {xs : List Int} {v : Int} (h : ∀ (k : Nat) (x : Int), xs[k]? = some x → x < v) : idxI xs v = -1 :=
  idxI_no fun j x _ hx e => by have := h j x hx; omega

/-- From the start v a chain of n steps leads to u. -/
def PathN (B : Int) (xs : List Int) (v : Int) : Nat → Int → Prop
  | 0, z => z = v
  | n + 1, z => ∃ (u : Int) (k : Nat), PathN B xs v n u ∧ xs[k]? = some u ∧ z = B + k
/-- From the start v a chain leads to u. -/
def Path (B : Int) (xs : List Int) (v : Int) (u : Int) : Prop := ∃ n, PathN B xs v n u
theorem Path.refl {B : Int} {xs : List Int} {v : Int} : Path B xs v v := ⟨0, rfl⟩
theorem Path.snoc {B : Int} {xs : List Int} {v u : Int} {k : Nat} (h : Path B xs v u) (hk : xs[k]? = some u) : Path B xs v (B + k) := by
  obtain ⟨n, h⟩ := h
  exact ⟨n + 1, u, k, h, hk, rfl⟩
theorem Path.bound {B : Int} {xs : List Int} {v u : Int} (h : Path B xs v u) (h0 : 0 ≤ v) (h1 : v < B) : 0 ≤ u ∧ u < B + xs.length := by
  obtain ⟨n, h⟩ := h
  cases n with
  | zero =>
    obtain rfl : u = v := h
    omega
  | succ n =>
    obtain ⟨u', k, _, hk, rfl⟩ := h
    have := (List.getElem?_eq_some_iff.1 hk).1
    omega
theorem PathN.inj {B : Int} {xs : List Int} {v v' : Int} (h1 : v < B) (h2 : v' < B) : ∀ (n : Nat) (u : Int), PathN B xs v n u → Path B xs v' u → v = v' := by
  intro n
  induction n with
  | zero =>
    rintro u h ⟨m, h'⟩
    obtain rfl : u = v := h
    cases m with
    | zero => exact h'
    | succ m => obtain ⟨_, k, _, _, e⟩ := h'; omega
  | succ n ih =>
    rintro z ⟨u, k, h, hk, rfl⟩ ⟨m, h'⟩
    cases m with
    | zero =>
      have e : B + (k : Int) = v' := h'
      omega
    | succ m =>
      obtain ⟨u', k', hp, hk', e⟩ := h'
      obtain rfl : k = k' := by omega
      rw [hk] at hk'
      injection hk' with hk'
      subst hk'
      exact ih u h ⟨m, hp⟩
theorem Path.inj {B : Int} {xs : List Int} {v v' u : Int} (h : Path B xs v u) (h1 : v < B) (h2 : v' < B) (h' : Path B xs v' u) : v = v' := by
  obtain ⟨n, h⟩ := h
  exact PathN.inj h1 h2 n u h h'

theorem spareGo_all {B X : Int} {xs : List Int} (hv : sparesB B X xs = true) (v0 : Int) (h00 : 0 ≤ v0) (h01 : v0 < B) : ∀ (f s : Nat) (v : Int), xs.length + 1 ≤ f + s → s ≤ xs.length → Late xs s v → Path B xs v0 v →
    ∃ u, Path B xs v0 u ∧ idxI xs u = -1 ∧ (∀ g, f ≤ g → spareGo B xs g v = u) ∧ (∀ z, z ≠ u → ∀ g, f ≤ g → spareGo B (xs ++ [z]) g v = u) ∧ (∀ g, f + 1 ≤ g → spareGo B (xs ++ [u]) g v = B + xs.length) := by
  intro f
  induction f with
  | zero => intro s v h1 h2; omega
  | succ f ih =>
    intro s v h1 h2 hl hp
    rcases idxI_cases xs v with ⟨e, _⟩ | ⟨k, e, hk, _⟩
    · refine ⟨v, hp, e, fun g hg => ?_, fun z hz g hg => ?_, fun g hg => ?_⟩
      · obtain ⟨g, rfl⟩ : ∃ g', g = g' + 1 := ⟨g - 1, by omega⟩
        exact spareGo_end e
      · obtain ⟨g, rfl⟩ : ∃ g', g = g' + 1 := ⟨g - 1, by omega⟩
        exact spareGo_end (idxI_cons_nil e (Ne.symm hz))
      · obtain ⟨g, rfl⟩ : ∃ g', g = g' + 1 + 1 := ⟨g - 2, by omega⟩
        rw [spareGo_on (idxI_last e)]
        refine spareGo_end (idxI_none_of_lt fun j x hx => ?_)
        have hb := hp.bound h00 h01
        by_cases hj : j < xs.length
        · rw [List.getElem?_append_left hj] at hx
          have := ((sparesB_dec hv).2 j x hx).2.1
          omega
        · rw [List.getElem?_append_right (by omega)] at hx
          have := List.mem_of_getElem? hx
          simp at this
          omega
    · have hks := hl k hk
      have hkl := (List.getElem?_eq_some_iff.1 hk).1
      obtain ⟨u, hu, hi, a1, a2, a3⟩ := ih (s + 1) (B + k) (by omega) (by omega) (Late.step hv hl hk) (hp.snoc hk)
      refine ⟨u, hu, hi, fun g hg => ?_, fun z hz g hg => ?_, fun g hg => ?_⟩
      · obtain ⟨g, rfl⟩ : ∃ g', g = g' + 1 := ⟨g - 1, by omega⟩
        rw [spareGo_on e]; exact a1 g (by omega)
      · obtain ⟨g, rfl⟩ : ∃ g', g = g' + 1 := ⟨g - 1, by omega⟩
        rw [spareGo_on (idxI_front e)]; exact a2 z hz g (by omega)
      · obtain ⟨g, rfl⟩ : ∃ g', g = g' + 1 := ⟨g - 1, by omega⟩
        rw [spareGo_on (idxI_front e)]; exact a3 g (by omega)

/-- The spare of a block of valid spares. -/
theorem spareOf_all {B X : Int} {xs : List Int} (hv : sparesB B X xs = true) {v : Int} (h0 : 0 ≤ v) (h1 : v < B) :
    ∃ u, spareOf B X xs v = u ∧ 0 ≤ u ∧ u < B + xs.length ∧ Path B xs v u ∧ idxI xs u = -1 ∧ (∀ z, z ≠ u → spareGo B (xs ++ [z]) (xs.length + 2) v = u) ∧ spareGo B (xs ++ [u]) (xs.length + 2) v = B + xs.length := by
  obtain ⟨u, hp, hi, a1, a2, a3⟩ := spareGo_all hv v h0 h1 (xs.length + 1) 0 v (by omega) (by omega) (Late.zero _ _) .refl
  have hb := hp.bound h0 h1
  refine ⟨u, by rw [spareOf_good ⟨hv, h0, h1⟩]; exact a1 _ (Nat.le_refl _), hb.1, hb.2, hp, hi, fun z hz => a2 z hz _ (by omega), a3 _ (by omega)⟩

theorem sparesB_snoc {B X : Int} {xs : List Int} (hv : sparesB B X xs = true) (hX : (xs.length : Int) ≠ X) {u : Int} (h0 : 0 ≤ u) (h1 : u < B + xs.length) (hi : idxI xs u = -1) : sparesB B X (xs ++ [u]) = true := by
  obtain ⟨⟨b1, b2, b3, b4, b5⟩, hk⟩ := sparesB_dec hv
  refine sparesB_in ⟨b1, b2, b3, b4, by simp; omega⟩ fun j hj => ?_
  simp at hj
  by_cases hjl : j < xs.length
  · have hx : xs[j]? = some xs[j] := List.getElem?_eq_getElem hjl
    obtain ⟨c1, c2, c3⟩ := hk j _ hx
    rw [badAt_of (x := xs[j]) (by rw [List.getElem?_append_left hjl]; exact hx), List.take_append_of_le_length (by omega), c3, inB_true (by omega)]
    rfl
  · obtain rfl : j = xs.length := by omega
    have hc : xs.contains u = false := by
      rcases idxI_cases xs u with ⟨_, h2⟩ | ⟨k, h1, _⟩
      · exact h2
      · omega
    rw [badAt_of (x := u) (by simp), List.take_left', inB_true (by omega), hc]
    · rfl
    · rfl

/-- A mark on a block of valid spares. -/
theorem markBad_valid {B X : Int} {xs : List Int} (hv : sparesB B X xs = true) {v : Int} (h0 : 0 ≤ v) (h1 : v < B) :
    ∃ ys ok, markBad B X xs v = ((B, X, ys), ok) ∧ sparesB B X ys = true ∧ ys.length ≤ 12 := by
  obtain ⟨u, hu, hu0, hu1, hp, hi, _⟩ := spareOf_all hv h0 h1
  have hd := (sparesB_dec hv).1
  by_cases hX : (xs.length : Int) = X
  · exact ⟨xs, false, by rw [markBad, if_neg (by omega), if_pos hX], hv, by omega⟩
  · refine ⟨xs ++ [u], true, by rw [markBad, if_neg (by omega), if_neg hX, hu], sparesB_snoc hv hX hu0 hu1 hi, ?_⟩
    simp; omega

/-- What a mark leaves: no mark, or one at the end. -/
theorem markBad_law (B X : Int) (xs : List Int) (v : Int) :
    markBad B X xs v = ((B, X, xs), false) ∨ markBad B X xs v = ((0, 0, []), false) ∨
    ∃ u, markBad B X xs v = ((B, X, xs ++ [u]), true) ∧ 0 ≤ v ∧ v < B ∧ 1 ≤ B ∧ B ≤ 12 ∧ spareOf B X xs v = u ∧ sparesB B X (xs ++ [u]) = true ∧ xs.length + 1 ≤ 12 ∧ (xs ++ [u]).contains u = true ∧
      spareOf B X (xs ++ [u]) v = B + xs.length ∧ B + xs.length ≠ u ∧ ∀ k, 0 ≤ k → k < B → k ≠ v → spareOf B X (xs ++ [u]) k = spareOf B X xs k := by
  by_cases hb : sparesB B X xs = true ∧ 0 ≤ v ∧ v < B
  · obtain ⟨hv, h0, h1⟩ := hb
    obtain ⟨u, hu, hu0, hu1, hp, hi, _, hlast⟩ := spareOf_all hv h0 h1
    have hd := (sparesB_dec hv).1
    by_cases hX : (xs.length : Int) = X
    · left; rw [markBad, if_neg (by omega), if_pos hX]
    · right; right
      have hv' := sparesB_snoc hv hX hu0 hu1 hi
      refine ⟨u, by rw [markBad, if_neg (by omega), if_neg hX, hu], h0, h1, hd.1, hd.2.1, hu, hv', by omega, by simp, ?_, by omega, fun k k0 k1 hk => ?_⟩
      · rw [spareOf_good ⟨hv', h0, h1⟩, List.length_append, List.length_singleton]
        exact hlast
      · obtain ⟨y, hy, hy0, hy1, hyp, hyi, hyz, _⟩ := spareOf_all hv k0 k1
        rw [spareOf_good ⟨hv', k0, k1⟩, List.length_append, List.length_singleton, hy]
        refine hyz u fun e => ?_
        subst e
        exact hk (hyp.inj k1 h1 hp)
  · right; left
    rw [markBad, if_pos (by rw [spareOf_bad hb]; omega)]
end Go.Proofs.Ytcnaehllegoefaa
