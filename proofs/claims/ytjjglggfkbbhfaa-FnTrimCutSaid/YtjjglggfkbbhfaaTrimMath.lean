/- Plain facts on spans: the spans of a set of marked numbers; no program is walked here. -/
import Derived.Test.YtjjglggfkbbhfaaTrim
namespace Go.Proofs.Ytjjglggfkbbhfaa
open Go.RowKit

/-- One number more: n is marked or not. -/
def stepB (out : List (Int × Int)) (n : Nat) (b : Bool) : List (Int × Int) :=
  if b = true then (match out[out.length - 1]? with
    | some (x, y) => if y = (n : Int) then out.set (out.length - 1) (x, (n : Int) + 1) else out ++ [((n : Int), (n : Int) + 1)]
    | none => out ++ [((n : Int), (n : Int) + 1)]) else out
def build (f : Nat → Bool) : Nat → List (Int × Int)
  | 0 => []
  | n + 1 => stepB (build f n) n (f n)
theorem build_congr {f g : Nat → Bool} : ∀ n, (∀ k, k < n → f k = g k) → build f n = build g n
  | 0, _ => rfl
  | n + 1, h => by
    rw [build, build, build_congr n (fun k hk => h k (by omega)), h n (by omega)]
theorem stepB_false (out : List (Int × Int)) (n : Nat) : stepB out n false = out := rfl
theorem stepB_nil (n : Nat) : stepB [] n true = [((n : Int), (n : Int) + 1)] := rfl
theorem stepB_more {out : List (Int × Int)} {n : Nat} {x y : Int} (h : out[out.length - 1]? = some (x, y)) (hy : y = (n : Int)) : stepB out n true = out.set (out.length - 1) (x, (n : Int) + 1) := by
  simp [stepB, h, hy]
theorem stepB_new {out : List (Int × Int)} {n : Nat} {x y : Int} (h : out[out.length - 1]? = some (x, y)) (hy : y ≠ (n : Int)) : stepB out n true = out ++ [((n : Int), (n : Int) + 1)] := by
  simp [stepB, h, hy]
theorem build_len (f : Nat → Bool) : ∀ n, (build f n).length ≤ n
  | 0 => by simp [build]
  | n + 1 => by
    have ih := build_len f n
    rw [build, stepB]
    split
    · split
      · split
        · simp; omega
        · simp; omega
      · simp; omega
    · omega

/-- Spans behind lo, each after the one before with a number between. -/
def Sep (lo : Int) : List (Int × Int) → Prop
  | [] => True
  | p :: ps => lo < p.1 ∧ p.1 < p.2 ∧ Sep p.2 ps
theorem Sep.snoc {lo : Int} : ∀ {ps : List (Int × Int)} {q : Int × Int}, Sep lo ps → (∀ p, ps.getLast? = some p → p.2 < q.1) → lo < q.1 → q.1 < q.2 → Sep lo (ps ++ [q])
  | [], q, _, _, h1, h2 => ⟨h1, h2, trivial⟩
  | [p], q, hs, hl, _, h2 => ⟨hs.1, hs.2.1, hl p rfl, h2, trivial⟩
  | p :: p' :: ps, q, hs, hl, _, h2 => ⟨hs.1, hs.2.1, Sep.snoc hs.2.2 (fun r hr => hl r (by simpa using hr)) (by
      have := hs.2.2
      have h3 : p'.1 < p'.2 ∧ ∀ r, (p' :: ps).getLast? = some r → p'.2 ≤ r.2 := by
        refine ⟨this.2.1, ?_⟩
        have gen : ∀ (l : List (Int × Int)) (a : Int × Int), Sep a.2 l → ∀ r, (a :: l).getLast? = some r → a.2 ≤ r.2 := by
          intro l
          induction l with
          | nil => intro a _ r hr; simp at hr; rw [hr]; exact Int.le_refl _
          | cons b l ih =>
            intro a ha r hr
            have := ih b ha.2.2 r (by simpa using hr)
            have h1 := ha.1
            have h2 := ha.2.1
            omega
        exact gen ps p' this.2.2
      obtain ⟨r, hr⟩ : ∃ r, (p' :: ps).getLast? = some r := ⟨(p' :: ps).getLast (by simp), List.getLast?_eq_some_getLast (by simp)⟩
      have h4 := h3.2 r hr
      have h5 := hl r (by simpa using hr)
      have h6 := this.1
      omega) h2⟩
theorem has_app (ps qs : List (Int × Int)) (m : Int) : hasB (ps ++ qs) m = (hasB ps m || hasB qs m) := by simp [hasB]
theorem has_one (p : Int × Int) (m : Int) : hasB [p] m = inP p m := by simp [hasB]
theorem inP_iff (p : Int × Int) (m : Int) : inP p m = true ↔ p.1 ≤ m ∧ m < p.2 := by simp [inP]

/-- What holds of the spans of the marked numbers below n. -/
structure BInv (f : Nat → Bool) (n : Nat) (out : List (Int × Int)) : Prop where
  has : ∀ m : Int, hasB out m = true ↔ ∃ k : Nat, m = (k : Int) ∧ k < n ∧ f k = true
  sep : Sep (-1) out
  top : ∀ p ∈ out, p.2 ≤ (n : Int)
  last : ∀ p, out.getLast? = some p → (p.2 = (n : Int) ↔ ∃ j, n = j + 1 ∧ f j = true)
  none : out = [] → ∀ j, n = j + 1 → f j = false

theorem last_idx (out : List (Int × Int)) : out[out.length - 1]? = out.getLast? := by rw [List.getLast?_eq_getElem?]
theorem set_last (init : List (Int × Int)) (p q : Int × Int) : (init ++ [p]).set ((init ++ [p]).length - 1) q = init ++ [q] := by
  rw [List.set_append_right _ _ (by simp)]
  simp
theorem sep_init {lo : Int} : ∀ {ps : List (Int × Int)} {q : Int × Int}, Sep lo (ps ++ [q]) → Sep lo ps ∧ (∀ p, ps.getLast? = some p → p.2 < q.1) ∧ lo < q.1 ∧ q.1 < q.2
  | [], q, h => ⟨trivial, by simp, h.1, h.2.1⟩
  | p :: ps, q, h => by
    have h3 := h.2.2
    have ih := sep_init (ps := ps) (q := q) h3
    have hp := h.2.1
    have hl := h.1
    refine ⟨⟨h.1, h.2.1, ih.1⟩, fun r hr => ?_, by omega, ih.2.2.2⟩
    cases ps with
    | nil => simp at hr; subst hr; exact ih.2.2.1
    | cons b l => exact ih.2.1 r (by simpa using hr)

theorem build_inv (f : Nat → Bool) : ∀ n, BInv f n (build f n)
  | 0 => ⟨fun m => by simp [build, hasB], trivial, by simp [build], by simp [build], fun _ j hj => by omega⟩
  | n + 1 => by
    have ih := build_inv f n
    rw [build]
    generalize build f n = out at ih
    cases hf : f n with
    | false =>
      rw [stepB_false]
      refine ⟨fun m => ?_, ih.sep, fun p hp => by have := ih.top p hp; omega, fun p hp => ?_, fun _ j hj => by have e : n = j := (by omega); rw [← e]; exact hf⟩
      · rw [ih.has]
        constructor
        · rintro ⟨k, h1, h2, h3⟩; exact ⟨k, h1, by omega, h3⟩
        · rintro ⟨k, h1, h2, h3⟩
          have : k ≠ n := by rintro rfl; rw [hf] at h3; cases h3
          exact ⟨k, h1, by omega, h3⟩
      · have := ih.top p (List.mem_of_getLast? hp)
        constructor
        · intro h; omega
        · rintro ⟨j, hj, h⟩; obtain rfl : n = j := by omega
          rw [hf] at h; cases h
    | true =>
      rcases List.eq_nil_or_concat out with rfl | ⟨init, ⟨x, y⟩, rfl⟩
      · rw [stepB_nil]
        refine ⟨fun m => ?_, ⟨by omega, by omega, trivial⟩, fun p hp => ?_, fun p hp => ?_, fun h => by simp at h⟩
        · rw [has_one, inP_iff]
          have hn : ¬ ∃ k : Nat, m = (k : Int) ∧ k < n ∧ f k = true := by rw [← ih.has]; simp [hasB]
          constructor
          · rintro ⟨h1, h2⟩; exact ⟨n, by omega, by omega, hf⟩
          · rintro ⟨k, h1, h2, h3⟩
            by_cases hk : k = n
            · subst hk; omega
            · exact absurd ⟨k, h1, by omega, h3⟩ hn
        · simp at hp; subst hp; simp
        · simp at hp; subst hp
          exact ⟨fun _ => ⟨n, rfl, hf⟩, fun _ => by simp⟩
      · simp only [List.concat_eq_append] at ih ⊢
        have hl : (init ++ [(x, y)])[(init ++ [(x, y)]).length - 1]? = some (x, y) := by rw [last_idx]; simp
        have hyn := ih.top (x, y) (by simp)
        obtain ⟨s1, s2, s3, s4⟩ := sep_init ih.sep
        by_cases hy : y = (n : Int)
        · rw [stepB_more hl hy, set_last]
          refine ⟨fun m => ?_, s1.snoc s2 s3 (by simp only at s4 ⊢; omega), fun p hp => ?_, fun p hp => ?_, fun h => by simp at h⟩
          · have hi := ih.has m
            rw [has_app, has_one] at hi ⊢
            simp only [Bool.or_eq_true, inP_iff] at hi ⊢
            constructor
            · rintro (h | h)
              · obtain ⟨k, h1, h2, h3⟩ := hi.1 (.inl h); exact ⟨k, h1, by omega, h3⟩
              · by_cases hm : m < y
                · obtain ⟨k, h1, h2, h3⟩ := hi.1 (.inr ⟨h.1, hm⟩); exact ⟨k, h1, by omega, h3⟩
                · exact ⟨n, by omega, by omega, hf⟩
            · rintro ⟨k, h1, h2, h3⟩
              by_cases hk : k = n
              · subst hk; right; simp only at s4; omega
              · rcases hi.2 ⟨k, h1, by omega, h3⟩ with h | h
                · exact .inl h
                · right; omega
          · rcases List.mem_append.1 hp with hp | hp
            · have := ih.top p (by simp [hp]); omega
            · simp at hp; subst hp; simp
          · simp at hp; subst hp
            exact ⟨fun _ => ⟨n, rfl, hf⟩, fun _ => by simp⟩
        · rw [stepB_new hl hy]
          refine ⟨fun m => ?_, ih.sep.snoc (fun p hp => ?_) (by simp only; omega) (by simp only; omega), fun p hp => ?_, fun p hp => ?_, fun h => by simp at h⟩
          · have hi := ih.has m
            rw [has_app, has_one]
            simp only [Bool.or_eq_true, inP_iff]
            rw [hi]
            constructor
            · rintro (⟨k, h1, h2, h3⟩ | h)
              · exact ⟨k, h1, by omega, h3⟩
              · exact ⟨n, by omega, by omega, hf⟩
            · rintro ⟨k, h1, h2, h3⟩
              by_cases hk : k = n
              · subst hk; right; omega
              · exact .inl ⟨k, h1, by omega, h3⟩
          · have : p = (x, y) := by simpa using hp.symm
            subst this
            simp only at hyn hy ⊢; omega
          · rcases List.mem_append.1 hp with hp | hp
            · have := ih.top p hp; omega
            · simp at hp; subst hp; simp
          · simp at hp; subst hp
            exact ⟨fun _ => ⟨n, rfl, hf⟩, fun _ => by simp⟩

/-- What the reference tests (the number before is marked) is what the program tests (the last span ends here). -/
theorem build_last {f : Nat → Bool} {n : Nat} {x y : Int} (h : (build f n)[(build f n).length - 1]? = some (x, y)) : y = (n : Int) ↔ ∃ j, n = j + 1 ∧ f j = true := by
  rw [last_idx] at h
  exact (build_inv f n).last (x, y) h
theorem build_none {f : Nat → Bool} {n : Nat} (h : build f n = []) : ∀ j, n = j + 1 → f j = false := (build_inv f n).none h

/-- The spans that are built are valid, but for their number. -/
theorem sep_ok {lo : Int} {ps : List (Int × Int)} (h : Sep lo ps) (hlo : -1 ≤ lo) (ht : ∀ p ∈ ps, p.2 ≤ 60) : ∀ k, okAt ps k = true := by
  have gen : ∀ (ps : List (Int × Int)) (lo : Int), -1 ≤ lo → Sep lo ps → (∀ p ∈ ps, p.2 ≤ 60) → (∀ (k : Nat) (q : Int × Int), ps[k]? = some q → spanB q.1 q.2 = true) ∧ (∀ (k : Nat) (p q : Int × Int), ps[k]? = some p → ps[k + 1]? = some q → p.2 < q.1) := by
    intro ps
    induction ps with
    | nil => intro lo _ _ _; exact ⟨fun k q h => by simp at h, fun k p q h => by simp at h⟩
    | cons a l ih =>
      intro lo hlo hs ht
      have ha := hs.1
      have hb := hs.2.1
      have hta := ht a (by simp)
      have ih := ih a.2 (by omega) hs.2.2 (fun p hp => ht p (by simp [hp]))
      refine ⟨fun k q hk => ?_, fun k p q hk hq => ?_⟩
      · rcases k with _ | k
        · simp at hk; subst hk; exact spanB_true ⟨by omega, by omega, by omega, by omega⟩
        · exact ih.1 k q (by simpa using hk)
      · rcases k with _ | k
        · simp at hk; subst hk
          cases l with
          | nil => simp at hq
          | cons b l => simp at hq; subst hq; exact hs.2.2.1
        · exact ih.2 k p q (by simpa using hk) (by simpa using hq)
  obtain ⟨g1, g2⟩ := gen ps lo hlo h ht
  intro k
  unfold okAt
  split
  · rename_i q hq
    rw [g1 k q hq, Bool.true_and]
    rcases k with _ | j
    · rfl
    · simp only
      split
      · rename_i p hp; simpa using g2 j p q hp hq
      · rfl
  · rfl
theorem build_valid {f : Nat → Bool} (h : (build f 60).length ≤ 10) : spansB (build f 60) = true := by
  have inv := build_inv f 60
  have hok := sep_ok inv.sep (by omega) (fun p hp => by have := inv.top p hp; omega)
  simp only [spansB, h, decide_true, Bool.true_and, List.all_eq_true]
  intro k _
  exact hok k
theorem build_has (f : Nat → Bool) (m : Int) : hasB (build f 60) m = true ↔ ∃ k : Nat, m = (k : Int) ∧ k < 60 ∧ f k = true := (build_inv f 60).has m

/-! ### What adding and cutting come to -/
def addF (ps : List (Int × Int)) (s : Int × Int) (b : Bool) (n : Nat) : Bool := if s.1 ≤ (n : Int) ∧ (n : Int) < s.2 then b else trimHas ps (n : Int)
def trimWith (ps : List (Int × Int)) (s : Int × Int) (b : Bool) : List (Int × Int) × Bool :=
  if spansB ps && spanB s.1 s.2 then (if (build (addF ps s b) 60).length ≤ 10 then (build (addF ps s b) 60, true) else (ps, false)) else ([], false)
theorem trimWith_len (ps : List (Int × Int)) (s : Int × Int) (b : Bool) : (trimWith ps s b).1.length ≤ 10 := by
  unfold trimWith
  split
  · rename_i h
    simp only [Bool.and_eq_true] at h
    split
    · assumption
    · exact spans_len h.1
  · simp
theorem trimWith_yes {ps x : List (Int × Int)} {s : Int × Int} {b : Bool} (h : trimWith ps s b = (x, true)) :
    spansB ps = true ∧ spanB s.1 s.2 = true ∧ x = build (addF ps s b) 60 ∧ x.length ≤ 10 ∧ spansB x = true := by
  unfold trimWith at h
  split at h
  · rename_i h1
    simp only [Bool.and_eq_true] at h1
    split at h
    · rename_i h2
      simp at h; subst h
      exact ⟨h1.1, h1.2, rfl, h2, build_valid h2⟩
    · simp at h
  · simp at h
theorem trimWith_no {ps x : List (Int × Int)} {s : Int × Int} {b : Bool} (h : trimWith ps s b = (x, false)) : x = ps ∨ x = [] := by
  unfold trimWith at h
  split at h
  · split at h
    · simp at h
    · simp at h; exact .inl h.symm
  · simp at h; exact .inr h
/-- A number is in the spans exactly if it was or is in the span (added), or was and is not in the span (cut). -/
theorem trimWith_has {ps x : List (Int × Int)} {s : Int × Int} {b : Bool} (h : trimWith ps s b = (x, true)) (m : Int) :
    trimHas x m = if s.1 ≤ m ∧ m < s.2 then b else trimHas ps m := by
  obtain ⟨h1, h2, rfl, h4, h5⟩ := trimWith_yes h
  rw [spanB_iff] at h2
  rw [Bool.eq_iff_iff, trimHas, h5, Bool.true_and, build_has]
  constructor
  · rintro ⟨k, rfl, hk, hf⟩; exact hf
  · intro hm
    have hr : 0 ≤ m ∧ m < 60 := by
      split at hm
      · omega
      · simp only [trimHas, Bool.and_eq_true, hasB, List.any_eq_true] at hm
        obtain ⟨_, p, hp, hin⟩ := hm
        rw [inP_iff] at hin
        obtain ⟨j, hj⟩ := List.mem_iff_getElem?.1 hp
        have := spans_at h1 (x := p.1) (y := p.2) hj
        omega
    obtain ⟨k, rfl⟩ := Int.eq_ofNat_of_zero_le hr.1
    exact ⟨k, rfl, by omega, hm⟩
theorem trimWith_congr {ps qs : List (Int × Int)} {s : Int × Int} {b : Bool} (h : ∀ n : Nat, addF ps s b n = addF qs s b n) : build (addF ps s b) 60 = build (addF qs s b) 60 := build_congr 60 fun k _ => h k
/-- Adding again changes nothing. -/
theorem add_again {ps x : List (Int × Int)} {s : Int × Int} (h : trimWith ps s true = (x, true)) : trimWith x s true = (x, true) := by
  obtain ⟨h1, h2, h3, h4, h5⟩ := trimWith_yes h
  have e : build (addF x s true) 60 = build (addF ps s true) 60 := build_congr 60 fun k _ => by
    unfold addF
    rw [trimWith_has h]
    split <;> rfl
  unfold trimWith
  rw [h5, h2, e, ← h3]
  simp [h4]
/-- Adding the span behind the cut leads to the same as adding it before. -/
theorem cut_add {ps x a b : List (Int × Int)} {s : Int × Int} (h : trimWith ps s false = (x, true)) (ha : trimWith x s true = (a, true)) (hb : trimWith ps s true = (b, true)) : a = b := by
  obtain ⟨_, _, rfl, _⟩ := trimWith_yes ha
  obtain ⟨_, _, rfl, _⟩ := trimWith_yes hb
  exact build_congr 60 fun k _ => by
    unfold addF
    rw [trimWith_has h]
    split <;> rfl

/-! ### Counting -/
theorem sep_of {ps : List (Int × Int)} (h : spansB ps = true) : ∃ lo, lo = -1 ∧ Sep lo ps ∧ ∀ p ∈ ps, p.2 ≤ 60 := by
  have hat : ∀ (k : Nat) (q : Int × Int), ps[k]? = some q → 1 ≤ q.2 ∧ q.2 ≤ 60 ∧ 0 ≤ q.1 ∧ q.1 < q.2 := fun k q hk => spans_at h (x := q.1) (y := q.2) hk
  have hnx : ∀ (k : Nat) (p q : Int × Int), ps[k]? = some p → ps[k + 1]? = some q → p.2 < q.1 := by
    intro k p q hp hq
    simp only [spansB, Bool.and_eq_true, List.all_eq_true, List.mem_range] at h
    have := h.2 (k + 1) (List.getElem?_eq_some_iff.1 hq).1
    simp only [okAt, hq, hp, Bool.and_eq_true, decide_eq_true_eq] at this
    exact this.2
  refine ⟨-1, rfl, ?_, fun p hp => ?_⟩
  · have gen : ∀ (l : List (Int × Int)) (lo : Int), (∀ q, l[0]? = some q → lo < q.1) → (∀ (k : Nat) (q : Int × Int), l[k]? = some q → q.1 < q.2) → (∀ (k : Nat) (p q : Int × Int), l[k]? = some p → l[k + 1]? = some q → p.2 < q.1) → Sep lo l := by
      intro l
      induction l with
      | nil => intros; trivial
      | cons a l ih =>
        intro lo h0 h1 h2
        exact ⟨h0 a rfl, h1 0 a rfl, ih a.2 (fun q hq => h2 0 a q rfl (by simpa using hq)) (fun k q hq => h1 (k + 1) q (by simpa using hq)) (fun k p q hp hq => h2 (k + 1) p q (by simpa using hp) (by simpa using hq))⟩
    exact gen ps (-1) (fun q hq => by have := hat 0 q hq; omega) (fun k q hq => (hat k q hq).2.2.2) hnx
  · obtain ⟨j, hj⟩ := List.mem_iff_getElem?.1 hp
    exact (hat j p hj).2.1
theorem sep_lo {lo : Int} : ∀ {ps : List (Int × Int)} {m : Int}, Sep lo ps → hasB ps m = true → lo < m
  | [], m, _, h => by simp [hasB] at h
  | p :: ps, m, hs, h => by
    have h1 := hs.1
    have h2 := hs.2.1
    have e : hasB (p :: ps) m = (inP p m || hasB ps m) := by simp [hasB]
    rw [e, Bool.or_eq_true, inP_iff] at h
    rcases h with h | h
    · omega
    · have := sep_lo hs.2.2 h; omega
def cntB (g : Int → Bool) (n : Nat) : Nat := ((List.range n).filter fun k : Nat => g (k : Int)).length
theorem cntB_succ (g : Int → Bool) (n : Nat) : cntB g (n + 1) = cntB g n + if g (n : Int) = true then 1 else 0 := by
  unfold cntB
  rw [List.range_succ, List.filter_append, List.length_append]
  by_cases h : g (n : Int) = true <;> simp [h]
theorem cntB_or {g h : Int → Bool} (hd : ∀ m : Int, ¬ (g m = true ∧ h m = true)) : ∀ n, cntB (fun m => g m || h m) n = cntB g n + cntB h n
  | 0 => rfl
  | n + 1 => by
    rw [cntB_succ, cntB_succ, cntB_succ, cntB_or hd n]
    have := hd (n : Int)
    cases h1 : g (n : Int) <;> cases h2 : h (n : Int) <;> simp_all <;> omega
theorem cntB_in (p : Int × Int) (h0 : 0 ≤ p.1) : ∀ n : Nat, (cntB (inP p) n : Int) = if (n : Int) ≤ p.1 then 0 else if (n : Int) ≤ p.2 then (n : Int) - p.1 else max 0 (p.2 - p.1)
  | 0 => by simp [cntB]; omega
  | n + 1 => by
    rw [cntB_succ]
    have ih := cntB_in p h0 n
    by_cases h : inP p (n : Int) = true
    · rw [if_pos h]
      rw [inP_iff] at h
      split at ih <;> split <;> (try split at ih) <;> (try split) <;> omega
    · rw [if_neg h]
      rw [inP_iff] at h
      split at ih <;> split <;> (try split at ih) <;> (try split) <;> omega
theorem foldl_acc : ∀ (ps : List (Int × Int)) (a : Int), ps.foldl (fun a p => a + (p.2 - p.1)) a = a + sumP ps
  | [], a => by simp [sumP]
  | p :: ps, a => by
    have h1 := foldl_acc ps (a + (p.2 - p.1))
    have h2 := foldl_acc ps (0 + (p.2 - p.1))
    simp only [sumP, List.foldl_cons] at h1 h2 ⊢
    omega
theorem count_sep : ∀ (ps : List (Int × Int)) (lo : Int), -1 ≤ lo → Sep lo ps → (∀ p ∈ ps, p.2 ≤ 60) → (cntB (hasB ps) 60 : Int) = sumP ps
  | [], _, _, _, _ => by simp [cntB, hasB, sumP]
  | p :: ps, lo, hlo, hs, ht => by
    have h1 := hs.1
    have h2 := hs.2.1
    have h3 := ht p (by simp)
    have ih := count_sep ps p.2 (by omega) hs.2.2 (fun q hq => ht q (by simp [hq]))
    have e : hasB (p :: ps) = fun m => inP p m || hasB ps m := by funext m; simp [hasB]
    rw [e, cntB_or (fun m => ?_) 60]
    · have hi := cntB_in p (by omega) 60
      have hsum : sumP (p :: ps) = (p.2 - p.1) + sumP ps := by
        have := foldl_acc ps (0 + (p.2 - p.1))
        simp only [sumP, List.foldl_cons] at this ⊢
        omega
      rw [hsum]
      split at hi
      · omega
      · split at hi <;> omega
    · rintro ⟨ha, hb⟩
      rw [inP_iff] at ha
      have := sep_lo hs.2.2 hb
      omega
theorem count_has {ps : List (Int × Int)} (h : spansB ps = true) : trimCount ps = (cntB (trimHas ps) 60 : Nat) := by
  obtain ⟨lo, rfl, hs, ht⟩ := sep_of h
  have e : trimHas ps = hasB ps := by funext m; simp [trimHas, h]
  rw [e, count_sep ps (-1) (by omega) hs ht, trimCount, if_pos h]
theorem has_out {ps : List (Int × Int)} {m : Int} (h : trimHas ps m = true) : 0 ≤ m ∧ m < 60 := by
  simp only [trimHas, Bool.and_eq_true, hasB, List.any_eq_true] at h
  obtain ⟨h1, p, hp, hin⟩ := h
  rw [inP_iff] at hin
  obtain ⟨j, hj⟩ := List.mem_iff_getElem?.1 hp
  have := spans_at h1 (x := p.1) (y := p.2) hj
  omega

/-! ### Without the first span; with it twice -/
theorem spans_tail {p : Int × Int} {ps : List (Int × Int)} (h : spansB (p :: ps) = true) : spansB ps = true := by
  obtain ⟨lo, rfl, hs, ht⟩ := sep_of h
  have hp := hs.2.1
  have hl := spans_len h
  have hok := sep_ok (lo := p.2) (ps := ps) hs.2.2 (by have := hs.1; omega) (fun q hq => ht q (by simp [hq]))
  simp only [spansB, Bool.and_eq_true, decide_eq_true_eq, List.all_eq_true]
  exact ⟨by simp at hl; omega, fun k _ => hok k⟩
theorem spans_twice (p : Int × Int) (ps : List (Int × Int)) : spansB (p :: p :: ps) = false := by
  cases hb : spansB (p :: p :: ps) with
  | false => rfl
  | true =>
    obtain ⟨lo, rfl, hs, ht⟩ := sep_of hb
    have h1 := hs.2.1
    have h2 := hs.2.2.1
    omega
end Go.Proofs.Ytjjglggfkbbhfaa
