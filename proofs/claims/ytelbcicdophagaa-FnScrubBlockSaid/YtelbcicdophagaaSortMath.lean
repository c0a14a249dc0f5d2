/- The order of scrubbing: the reference's list, and that an insertion sort's row is the same list. No program is named here. -/
import Derived.Test.YtelbcicdophagaaScrubMath
namespace Go.Proofs.Ytelbcicdophagaa
open Go.RowKit
set_option linter.unusedVariables false

/-- How often the block a (an index) was read. -/
def rdOf (xs : List Int) (a : Int) : Int := xs.getD a.toNat 0
def ltS (xs : List Int) (a b : Int) : Prop := rdOf xs b < rdOf xs a ∨ (rdOf xs a = rdOf xs b ∧ a < b)
theorem ltS_irr (xs : List Int) (a : Int) : ¬ ltS xs a a := by unfold ltS; omega
theorem ltS_trans {xs : List Int} {a b c : Int} (h : ltS xs a b) (k : ltS xs b c) : ltS xs a c := by unfold ltS at *; omega

theorem sorted_unique {xs : List Int} : ∀ {l1 l2 : List Int}, l1.Pairwise (ltS xs) → l2.Pairwise (ltS xs) → (∀ x, x ∈ l1 ↔ x ∈ l2) → l1 = l2
  | [], [], _, _, _ => rfl
  | [], b :: l2, _, _, h => by have := (h b).2 (by simp); simp at this
  | a :: l1, [], _, _, h => by have := (h a).1 (by simp); simp at this
  | a :: l1, b :: l2, h1, h2, h => by
    rw [List.pairwise_cons] at h1 h2
    have hab : a = b := by
      by_cases e : a = b
      · exact e
      · have ha : a ∈ l2 := by have := (h a).1 (by simp); simpa [e] using this
        have hb : b ∈ l1 := by have := (h b).2 (by simp); simpa [Ne.symm e] using this
        exact absurd (ltS_trans (h1.1 b hb) (h2.1 a ha)) (ltS_irr _ _)
    subst hab
    rw [sorted_unique h1.2 h2.2]
    intro x
    constructor
    · intro hx
      have := (h x).1 (by simp [hx])
      rcases List.mem_cons.1 this with rfl | h'
      · exact absurd (h1.1 _ hx) (ltS_irr _ _)
      · exact h'
    · intro hx
      have := (h x).2 (by simp [hx])
      rcases List.mem_cons.1 this with rfl | h'
      · exact absurd (h2.1 _ hx) (ltS_irr _ _)
      · exact h'

/-- The blocks below k that were read just v times, in order. -/
def eqRow (xs : List Int) (v : Int) (k : Nat) : List Int := ((List.range k).filter fun i => xs.getD i 0 == v).map Int.ofNat
/-- The blocks below k that were read at least 100 times, in order. -/
def geRow (xs : List Int) (k : Nat) : List Int := ((List.range k).filter fun i => decide (100 ≤ xs.getD i 0)).map Int.ofNat
/-- The first j rounds of the reference. -/
def rounds_ (xs : List Int) (j : Nat) : List Int := (List.range j).flatMap fun i : Nat => eqRow xs (1000 - (i : Int)) xs.length
def scrubOrder (xs : List Int) : List Int := if readsValid xs then rounds_ xs 901 else []

theorem eqRow_succ {xs : List Int} {v x : Int} {k : Nat} (h : xs[k]? = some x) : eqRow xs v (k + 1) = if x = v then eqRow xs v k ++ [(k : Int)] else eqRow xs v k := by
  unfold eqRow
  rw [List.range_succ, List.filter_append, List.map_append]
  by_cases e : x = v <;> simp [h, e]
theorem geRow_succ {xs : List Int} {x : Int} {k : Nat} (h : xs[k]? = some x) : geRow xs (k + 1) = if 100 ≤ x then geRow xs k ++ [(k : Int)] else geRow xs k := by
  unfold geRow
  rw [List.range_succ, List.filter_append, List.map_append]
  by_cases e : 100 ≤ x <;> simp [h, e]
theorem rounds_succ' (xs : List Int) (j : Nat) : rounds_ xs (j + 1) = rounds_ xs j ++ eqRow xs (1000 - j) xs.length := by
  unfold rounds_
  rw [List.range_succ, List.flatMap_append]; simp
theorem eqRow_len (xs : List Int) (v : Int) (k : Nat) : (eqRow xs v k).length ≤ k := by
  unfold eqRow
  have := List.length_filter_le (fun i => xs.getD i 0 == v) (List.range k)
  simp at this ⊢; exact this
theorem geRow_len (xs : List Int) (k : Nat) : (geRow xs k).length ≤ k := by
  unfold geRow
  have := List.length_filter_le (fun i => decide (100 ≤ xs.getD i 0)) (List.range k)
  simp at this ⊢; exact this
theorem rounds_len (xs : List Int) (j : Nat) : (rounds_ xs j).length ≤ j * xs.length := by
  induction j with
  | zero => simp [rounds_]
  | succ j ih =>
    rw [rounds_succ', List.length_append, Nat.succ_mul]
    have := eqRow_len xs (1000 - j) xs.length
    omega

theorem mem_eqRow {xs : List Int} {v : Int} {k : Nat} {a : Int} : a ∈ eqRow xs v k ↔ ∃ i : Nat, a = i ∧ i < k ∧ xs.getD i 0 = v := by
  simp only [eqRow, List.mem_map, List.mem_filter, List.mem_range, beq_iff_eq]
  constructor
  · rintro ⟨i, ⟨h1, h2⟩, rfl⟩; exact ⟨i, rfl, h1, h2⟩
  · rintro ⟨i, rfl, h1, h2⟩; exact ⟨i, ⟨h1, h2⟩, rfl⟩
theorem mem_geRow {xs : List Int} {k : Nat} {a : Int} : a ∈ geRow xs k ↔ ∃ i : Nat, a = i ∧ i < k ∧ 100 ≤ xs.getD i 0 := by
  simp only [geRow, List.mem_map, List.mem_filter, List.mem_range, decide_eq_true_eq]
  constructor
  · rintro ⟨i, ⟨h1, h2⟩, rfl⟩; exact ⟨i, rfl, h1, h2⟩
  · rintro ⟨i, rfl, h1, h2⟩; exact ⟨i, ⟨h1, h2⟩, rfl⟩
theorem mem_rounds {xs : List Int} {j : Nat} {a : Int} : a ∈ rounds_ xs j ↔ ∃ i : Nat, a = i ∧ i < xs.length ∧ ∃ t : Nat, t < j ∧ xs.getD i 0 = 1000 - t := by
  simp only [rounds_, List.mem_flatMap, List.mem_range, mem_eqRow]
  constructor
  · rintro ⟨t, ht, i, rfl, h1, h2⟩; exact ⟨i, rfl, h1, t, ht, h2⟩
  · rintro ⟨i, rfl, h1, t, ht, h2⟩; exact ⟨t, ht, i, rfl, h1, h2⟩
theorem mem_order {xs : List Int} (h : readsValid xs = true) {a : Int} : a ∈ rounds_ xs 901 ↔ a ∈ geRow xs xs.length := by
  rw [mem_rounds, mem_geRow]
  constructor
  · rintro ⟨i, rfl, h1, t, ht, h2⟩; exact ⟨i, rfl, h1, by omega⟩
  · rintro ⟨i, rfl, h1, h2⟩
    have hx : xs[i]? = some (xs.getD i 0) := by rw [List.getD_eq_getElem?_getD, List.getElem?_eq_getElem h1]; rfl
    have := reads_at h hx
    exact ⟨i, rfl, h1, (1000 - xs.getD i 0).toNat, by omega, by omega⟩

theorem eqRow_sorted (xs : List Int) (v : Int) (k : Nat) : (eqRow xs v k).Pairwise (ltS xs) := by
  unfold eqRow
  rw [List.pairwise_map, List.pairwise_filter]
  refine List.Pairwise.imp ?_ List.pairwise_lt_range
  intro a b hab ha hb
  simp only [beq_iff_eq] at ha hb
  unfold ltS rdOf
  right
  simp only [Int.ofNat_eq_natCast, Int.toNat_natCast]
  rw [ha, hb]
  omega
theorem rounds_sorted (xs : List Int) (j : Nat) : (rounds_ xs j).Pairwise (ltS xs) := by
  induction j with
  | zero => simp [rounds_]
  | succ j ih =>
    rw [rounds_succ', List.pairwise_append]
    refine ⟨ih, eqRow_sorted _ _ _, fun a ha b hb => ?_⟩
    obtain ⟨i, rfl, h1, t, ht, h2⟩ := mem_rounds.1 ha
    obtain ⟨i', rfl, h1', h2'⟩ := mem_eqRow.1 hb
    left
    unfold rdOf
    simp only [Int.toNat_natCast]
    rw [h2, h2']
    omega
theorem geRow_asc (xs : List Int) (k : Nat) : (geRow xs k).Pairwise (· < ·) := by
  unfold geRow
  rw [List.pairwise_map]
  refine List.Pairwise.imp ?_ (List.Pairwise.filter _ List.pairwise_lt_range)
  intro a b hab
  simp only [Int.ofNat_eq_natCast]
  omega

/-- The outer loop of the sort: the first i places are sorted, the rest as before. -/
def Outer (xs bs : List Int) (i : Nat) (d : List Int) : Prop := ∃ S, d = S ++ bs.drop i ∧ S.length = i ∧ S.Pairwise (ltS xs) ∧ ∀ x, x ∈ S ↔ x ∈ bs.take i
/-- The inner loop: the number at place i goes down to place j. -/
def Inner (xs bs : List Int) (i j : Nat) (d : List Int) : Prop :=
  ∃ e P Q, bs[i]? = some e ∧ d = P ++ e :: (Q ++ bs.drop (i + 1)) ∧ P.length = j ∧ (P ++ Q).length = i ∧ (P ++ Q).Pairwise (ltS xs) ∧ (∀ x, x ∈ P ++ Q ↔ x ∈ bs.take i) ∧ ∀ q ∈ Q, rdOf xs q < rdOf xs e

theorem Outer.one {xs bs : List Int} (h : 0 < bs.length) : Outer xs bs 1 bs := by
  rcases bs with _ | ⟨b, bs⟩
  · simp at h
  · exact ⟨[b], by simp, rfl, by simp, by simp⟩
theorem Outer.full {xs bs d : List Int} {i : Nat} (h : Outer xs bs i d) (hi : bs.length ≤ i) : d.Pairwise (ltS xs) ∧ ∀ x, x ∈ d ↔ x ∈ bs := by
  obtain ⟨S, rfl, h1, h2, h3⟩ := h
  rw [List.drop_of_length_le hi, List.append_nil]
  rw [List.take_of_length_le hi] at h3
  exact ⟨h2, h3⟩
theorem Outer.len {xs bs d : List Int} {i : Nat} (h : Outer xs bs i d) (hi : i ≤ bs.length) : d.length = bs.length := by
  obtain ⟨S, rfl, h1, _⟩ := h; simp; omega
theorem Outer.inner {xs bs d : List Int} {i : Nat} (h : Outer xs bs i d) (hi : i < bs.length) : Inner xs bs i i d := by
  obtain ⟨S, rfl, h1, h2, h3⟩ := h
  refine ⟨bs[i], S, [], List.getElem?_eq_getElem hi, ?_, h1, by simpa using h1, by simpa using h2, by simpa using h3, by simp⟩
  rw [List.drop_eq_getElem_cons hi]; simp
theorem Inner.len {xs bs d : List Int} {i j : Nat} (h : Inner xs bs i j d) : d.length = bs.length := by
  obtain ⟨e, P, Q, he, rfl, h1, h2, _⟩ := h
  have := (List.getElem?_eq_some_iff.1 he).1
  simp at h2 ⊢; omega
theorem Inner.le {xs bs d : List Int} {i j : Nat} (h : Inner xs bs i j d) : j ≤ i := by
  obtain ⟨e, P, Q, he, rfl, h1, h2, _⟩ := h
  simp at h2; omega

theorem Inner.step {xs bs d : List Int} {i j : Nat} {e p : Int} (h : Inner xs bs i (j + 1) d) (hj : d[j + 1]? = some e) (hp : d[j]? = some p) (hlt : rdOf xs p < rdOf xs e) : Inner xs bs i j ((d.set (j + 1) p).set j e) := by
  obtain ⟨e', P, Q, he, rfl, h1, h2, h3, h4, h5⟩ := h
  obtain ⟨P', p', rfl⟩ : ∃ P' p', P = P' ++ [p'] := ⟨P.dropLast, P.getLast (by intro h; subst h; simp at h1), (List.dropLast_concat_getLast _).symm⟩
  have h1' : P'.length = j := by simpa using h1
  subst h1'
  have e1 : e' = e := by
    rw [List.getElem?_append_right (by simp)] at hj
    simpa using hj
  have e2 : p' = p := by
    rw [List.append_assoc, List.getElem?_append_right (by simp)] at hp
    simpa using hp
  subst e1 e2
  refine ⟨e', P', p' :: Q, he, ?_, rfl, by simpa using h2, by simpa using h3, by simpa using h4, ?_⟩
  · rw [List.set_append_right _ _ (by simp)]
    simp only [List.length_append, List.length_cons, List.length_nil, Nat.zero_add, Nat.sub_self, List.set_cons_zero, List.append_assoc, List.cons_append, List.nil_append]
    rw [List.set_append_right _ _ (by simp)]
    simp
  · intro q hq
    rcases List.mem_cons.1 hq with rfl | hq
    · exact hlt
    · exact h5 q hq

theorem Inner.done {xs bs d : List Int} {i j : Nat} (h : Inner xs bs i j d) (hasc : bs.Pairwise (· < ·)) (hs : j = 0 ∨ ∃ j' e p, j = j' + 1 ∧ d[j' + 1]? = some e ∧ d[j']? = some p ∧ rdOf xs e ≤ rdOf xs p) : Outer xs bs (i + 1) d := by
  obtain ⟨e, P, Q, he, rfl, h1, h2, h3, h4, h5⟩ := h
  obtain ⟨hil, hie⟩ := List.getElem?_eq_some_iff.1 he
  have hPQ := List.pairwise_append.1 h3
  have hpe : ∀ p ∈ P, p < e := by
    intro p hp
    have hm : p ∈ bs.take i := (h4 p).1 (by simp [hp])
    obtain ⟨k, hk⟩ := List.mem_iff_getElem?.1 hm
    rw [List.getElem?_take] at hk
    split at hk
    · rename_i hki
      obtain ⟨hkl, hke⟩ := List.getElem?_eq_some_iff.1 hk
      have := List.pairwise_iff_getElem.1 hasc k i hkl hil hki
      rw [hke, hie] at this
      exact this
    · cases hk
  have hlast : ∀ p ∈ P, rdOf xs e ≤ rdOf xs p := by
    rcases hs with rfl | ⟨j', e', p', rfl, hj1, hj2, hle⟩
    · have : P = [] := List.eq_nil_of_length_eq_zero h1
      subst this; simp
    · obtain ⟨P', q', rfl⟩ : ∃ P' p', P = P' ++ [p'] := ⟨P.dropLast, P.getLast (by intro h; subst h; simp at h1), (List.dropLast_concat_getLast _).symm⟩
      have h1' : P'.length = j' := by simpa using h1
      subst h1'
      have e1 : e = e' := by
        rw [List.getElem?_append_right (by simp)] at hj1
        simpa using hj1
      have e2 : q' = p' := by
        rw [List.append_assoc, List.getElem?_append_right (by simp)] at hj2
        simpa using hj2
      subst e1 e2
      intro p hp
      rcases List.mem_append.1 hp with hp | hp
      · have := (List.pairwise_append.1 hPQ.1).2.2 p hp q' (by simp)
        unfold ltS at this; omega
      · simp at hp; subst hp; exact hle
  refine ⟨P ++ e :: Q, by simp, by simp at h2 ⊢; omega, ?_, ?_⟩
  · rw [List.pairwise_append, List.pairwise_cons]
    refine ⟨hPQ.1, ⟨fun q hq => Or.inl (h5 q hq), hPQ.2.1⟩, fun p hp q hq => ?_⟩
    have hpl : ltS xs p e := by
      have := hpe p hp; have := hlast p hp
      unfold ltS; omega
    rcases List.mem_cons.1 hq with rfl | hq
    · exact hpl
    · exact hPQ.2.2 p hp q hq
  · intro x
    have h4x := h4 x
    simp only [List.mem_append] at h4x
    rw [List.take_succ_eq_append_getElem hil, hie]
    simp only [List.mem_append, List.mem_cons, List.not_mem_nil, or_false, ← h4x]
    constructor
    · rintro (h | rfl | h)
      · exact Or.inl (Or.inl h)
      · exact Or.inr rfl
      · exact Or.inl (Or.inr h)
    · rintro ((h | h) | rfl)
      · exact Or.inl h
      · exact Or.inr (Or.inr h)
      · exact Or.inr (Or.inl rfl)

theorem order_of_sorted {xs d : List Int} (hv : readsValid xs = true) (h : d.Pairwise (ltS xs)) (hm : ∀ x, x ∈ d ↔ x ∈ geRow xs xs.length) : d = scrubOrder xs := by
  unfold scrubOrder
  rw [hv, if_pos rfl]
  exact sorted_unique h (rounds_sorted xs 901) fun x => (hm x).trans (mem_order hv).symm
theorem scrubOrder_len (xs : List Int) : (scrubOrder xs).length ≤ 10812 := by
  unfold scrubOrder
  split
  · rename_i h
    have := rounds_len xs 901
    have := (reads_len h).2
    omega
  · simp

theorem order_mem {xs : List Int} (h : readsValid xs = true) {i : Nat} : ((i : Int) ∈ scrubOrder xs) ↔ i < xs.length ∧ 100 ≤ xs.getD i 0 := by
  unfold scrubOrder
  rw [h, if_pos rfl, mem_order h, mem_geRow]
  constructor
  · rintro ⟨j, hj, h1, h2⟩
    obtain rfl : i = j := by omega
    exact ⟨h1, h2⟩
  · rintro ⟨h1, h2⟩; exact ⟨i, rfl, h1, h2⟩
theorem order_idx {xs : List Int} (h : readsValid xs = true) {a : Int} (ha : a ∈ scrubOrder xs) : ∃ i : Nat, a = i ∧ i < xs.length ∧ 100 ≤ xs.getD i 0 := by
  unfold scrubOrder at ha
  rw [h, if_pos rfl, mem_order h, mem_geRow] at ha
  exact ha
theorem order_count {xs : List Int} (h : readsValid xs = true) : (scrubOrder xs).length = (geRow xs xs.length).length := by
  unfold scrubOrder
  rw [h, if_pos rfl]
  refine ((List.perm_ext_iff_of_nodup ?_ ?_).2 fun a => mem_order h).length_eq
  · exact (rounds_sorted xs 901).imp fun hab e => by subst e; exact ltS_irr _ _ hab
  · exact (geRow_asc xs xs.length).imp fun hab e => by omega
theorem order_desc {xs : List Int} (h : readsValid xs = true) {k : Nat} {a b : Int} (ha : (scrubOrder xs)[k]? = some a) (hb : (scrubOrder xs)[k + 1]? = some b) : rdOf xs b ≤ rdOf xs a := by
  unfold scrubOrder at ha hb
  rw [h, if_pos rfl] at ha hb
  obtain ⟨h1, h2⟩ := List.getElem?_eq_some_iff.1 ha
  obtain ⟨h3, h4⟩ := List.getElem?_eq_some_iff.1 hb
  have := List.pairwise_iff_getElem.1 (rounds_sorted xs 901) k (k + 1) h1 h3 (by omega)
  rw [h2, h4] at this
  unfold ltS at this
  omega
theorem order_bad {xs : List Int} (h : readsValid xs = false) : scrubOrder xs = [] := by unfold scrubOrder; rw [h]; rfl
theorem order_len12 (xs : List Int) : (scrubOrder xs).length ≤ 12 := by
  cases h : readsValid xs
  · rw [order_bad h]; simp
  · rw [order_count h]
    have := geRow_len xs xs.length
    have := (reads_len h).2
    omega
end Go.Proofs.Ytelbcicdophagaa
