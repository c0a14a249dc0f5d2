/- The plain words of runs: valid runs, packing, unpacking. No program is named here. -/
import Derived.Test.YtjkncdmnajfkjaaInts
namespace Go.Proofs.Ytjkncdmnajfkjaa
open Go.RowKit
set_option linter.unusedVariables false

def sumM (ps : List (Int × Int)) : Int := ps.foldl (fun a p => a + p.2) 0
theorem foldl_add (ps : List (Int × Int)) (a : Int) : ps.foldl (fun a p => a + p.2) a = a + sumM ps := by
  induction ps generalizing a with
  | nil => simp [sumM]
  | cons p ps ih =>
    simp only [sumM, List.foldl_cons]
    rw [ih, ih (0 + p.2)]; omega
theorem sumM_cons (p : Int × Int) (ps : List (Int × Int)) : sumM (p :: ps) = p.2 + sumM ps := by
  simp only [sumM, List.foldl_cons]; rw [foldl_add]; simp [sumM]
theorem sumM_app (ps qs : List (Int × Int)) : sumM (ps ++ qs) = sumM ps + sumM qs := by
  unfold sumM; rw [List.foldl_append, foldl_add]; rfl
theorem sumM_succ {ps : List (Int × Int)} {k : Nat} {x y : Int} (h : ps[k]? = some (x, y)) : sumM (ps.take (k + 1)) = sumM (ps.take k) + y := by
  obtain ⟨hk, hx⟩ := List.getElem?_eq_some_iff.1 h
  rw [List.take_succ_eq_append_getElem hk, sumM_app, hx]; simp [sumM]

def runP (x y s : Int) : Bool := inB x 0 9999 && decide (1 ≤ y) && decide (s + y ≤ 30)
theorem runP_iff {x y s : Int} : runP x y s = true ↔ 0 ≤ x ∧ x ≤ 9999 ∧ 1 ≤ y ∧ s + y ≤ 30 := by simp [runP, inB]; omega
theorem runP_false {x y s : Int} (h : ¬ (0 ≤ x ∧ x ≤ 9999 ∧ 1 ≤ y ∧ s + y ≤ 30)) : runP x y s = false := by
  cases hb : runP x y s with
  | false => rfl
  | true => exact absurd (runP_iff.1 hb) h
def runAt (ps : List (Int × Int)) (k : Nat) : Bool := match ps[k]? with
  | none => true
  | some (x, y) => runP x y (sumM (ps.take k)) && match k with
    | 0 => true
    | j + 1 => match ps[j]? with
      | none => true
      | some (x', _) => x != x'
def runsB (ps : List (Int × Int)) : Bool := (List.range ps.length).all (runAt ps)
theorem runAt_zero {ps : List (Int × Int)} {x y : Int} (h : ps[0]? = some (x, y)) : runAt ps 0 = runP x y 0 := by simp [runAt, h, sumM]
theorem runAt_succ {ps : List (Int × Int)} {k : Nat} {x y x' y' : Int} (h : ps[k + 1]? = some (x, y)) (h' : ps[k]? = some (x', y')) : runAt ps (k + 1) = (runP x y (sumM (ps.take (k + 1))) && x != x') := by simp [runAt, h, h']
theorem runAt_bad {ps : List (Int × Int)} {k : Nat} {x y : Int} (h : ps[k]? = some (x, y)) (hb : runP x y (sumM (ps.take k)) = false) : runAt ps k = false := by simp [runAt, h, hb]
theorem runAt_runP {ps : List (Int × Int)} {k : Nat} {x y : Int} (h : ps[k]? = some (x, y)) (hb : runAt ps k = true) : runP x y (sumM (ps.take k)) = true := by
  simp only [runAt, h, Bool.and_eq_true] at hb; exact hb.1
def UptoN (f : Nat → Bool) (k : Nat) : Prop := ∀ j, j < k → f j = true
theorem UptoN.zero (f : Nat → Bool) : UptoN f 0 := fun j hj => absurd hj (by omega)
theorem UptoN.succ {f : Nat → Bool} {k : Nat} (h : UptoN f k) (hk : f k = true) : UptoN f (k + 1) := fun j hj => by
  by_cases e : j = k
  · subst e; exact hk
  · exact h j (by omega)
theorem UptoN.all {f : Nat → Bool} {k : Nat} (h : UptoN f k) : (List.range k).all f = true := by
  rw [List.all_eq_true]; intro j hj; exact h j (by simpa using hj)
theorem all_range_not {f : Nat → Bool} {n k : Nat} (hk : k < n) (h : f k = false) : (List.range n).all f = false := by
  rw [List.all_eq_false]; exact ⟨k, by simpa using hk, by simp [h]⟩
theorem runsB_not {ps : List (Int × Int)} {k : Nat} (hk : k < ps.length) (h : runAt ps k = false) : runsB ps = false := all_range_not hk h
theorem runsB_upto {ps : List (Int × Int)} (h : runsB ps = true) : UptoN (runAt ps) ps.length := by
  intro j hj; exact List.all_eq_true.1 h j (by simpa using hj)
theorem sum_bound {ps : List (Int × Int)} : ∀ k, k ≤ ps.length → UptoN (runAt ps) k → (k : Int) ≤ sumM (ps.take k) ∧ sumM (ps.take k) ≤ 30 := by
  intro k
  induction k with
  | zero => intro _ _; simp [sumM]
  | succ k ih =>
    intro hk hu
    have ih := ih (by omega) (fun j hj => hu j (by omega))
    have hg : ps[k]? = some (ps[k].1, ps[k].2) := List.getElem?_eq_getElem (by omega)
    have := runP_iff.1 (runAt_runP hg (hu k (by omega)))
    rw [sumM_succ hg]
    omega
theorem run_at {ps : List (Int × Int)} (h : runsB ps = true) {k : Nat} {x y : Int} (hk : ps[k]? = some (x, y)) : 0 ≤ x ∧ x ≤ 9999 ∧ 1 ≤ y ∧ 0 ≤ sumM (ps.take k) ∧ sumM (ps.take k) + y ≤ 30 := by
  have hl := (List.getElem?_eq_some_iff.1 hk).1
  have hu := runsB_upto h
  have := runP_iff.1 (runAt_runP hk (hu k hl))
  have := sum_bound k (by omega) (fun j hj => hu j (by omega))
  omega
theorem runs_len {ps : List (Int × Int)} (h : runsB ps = true) : ps.length ≤ 30 := by
  have := sum_bound ps.length (Nat.le_refl _) (runsB_upto h)
  omega
theorem runs_sum {ps : List (Int × Int)} (h : runsB ps = true) : sumM ps ≤ 30 := by
  have := sum_bound ps.length (Nat.le_refl _) (runsB_upto h)
  rw [List.take_length] at this
  omega
theorem runs_diff {ps : List (Int × Int)} (h : runsB ps = true) {k : Nat} {x y x' y' : Int} (hk : ps[k + 1]? = some (x, y)) (hk' : ps[k]? = some (x', y')) : x ≠ x' := by
  have hl := (List.getElem?_eq_some_iff.1 hk).1
  have := runsB_upto h (k + 1) hl
  rw [runAt_succ hk hk'] at this
  simpa using (Bool.and_eq_true_iff.1 this).2

/-- Valid runs as a statement over the list. -/
def Diff : List (Int × Int) → Prop
  | [] => True
  | [_] => True
  | p :: q :: ps => q.1 ≠ p.1 ∧ Diff (q :: ps)
theorem diff_of : ∀ {ps : List (Int × Int)}, (∀ (k : Nat) (p q : Int × Int), ps[k]? = some p → ps[k + 1]? = some q → q.1 ≠ p.1) → Diff ps
  | [], _ => trivial
  | [_], _ => trivial
  | p :: q :: ps, h => ⟨h 0 p q rfl rfl, diff_of fun k a b ha hb => h (k + 1) a b ha hb⟩
theorem diff_get : ∀ {ps : List (Int × Int)}, Diff ps → ∀ (k : Nat) (p q : Int × Int), ps[k]? = some p → ps[k + 1]? = some q → q.1 ≠ p.1
  | [], _, k, p, q, h, _ => by simp at h
  | [_], _, k, p, q, _, h => by simp at h
  | a :: b :: ps, h, 0, p, q, hp, hq => by simp at hp hq; subst hp hq; exact h.1
  | a :: b :: ps, h, k + 1, p, q, hp, hq => diff_get h.2 k p q (by simpa using hp) (by simpa using hq)
theorem runs_iff (ps : List (Int × Int)) : runsB ps = true ↔ (∀ p ∈ ps, 0 ≤ p.1 ∧ p.1 ≤ 9999 ∧ 1 ≤ p.2) ∧ sumM ps ≤ 30 ∧ Diff ps := by
  constructor
  · intro h
    refine ⟨fun p hp => ?_, runs_sum h, diff_of fun k p q hp hq => ?_⟩
    · obtain ⟨k, hk⟩ := List.mem_iff_getElem?.1 hp
      have := run_at h (k := k) (x := p.1) (y := p.2) hk
      omega
    · exact runs_diff h (x := q.1) (y := q.2) (x' := p.1) (y' := p.2) hq hp
  · rintro ⟨h1, h2, h3⟩
    have hpos : ∀ (qs : List (Int × Int)), (∀ p ∈ qs, 1 ≤ p.2) → 0 ≤ sumM qs := by
      intro qs
      induction qs with
      | nil => intro _; simp [sumM]
      | cons q qs ih =>
        intro hq
        have := hq q (by simp)
        have := ih fun p hp => hq p (by simp [hp])
        rw [sumM_cons]; omega
    unfold runsB
    rw [List.all_eq_true]
    intro k hk
    have hkl : k < ps.length := by simpa using hk
    have hg : ps[k]? = some (ps[k].1, ps[k].2) := List.getElem?_eq_getElem hkl
    have hp := h1 ps[k] (List.getElem_mem hkl)
    have hs : sumM (ps.take k) + ps[k].2 ≤ 30 := by
      have e : sumM ps = sumM (ps.take (k + 1)) + sumM (ps.drop (k + 1)) := by rw [← sumM_app, List.take_append_drop]
      rw [sumM_succ hg] at e
      have := hpos (ps.drop (k + 1)) (fun p hp => (h1 p (List.mem_of_mem_drop hp)).2.2)
      omega
    have hr : runP ps[k].1 ps[k].2 (sumM (ps.take k)) = true := runP_iff.2 ⟨hp.1, hp.2.1, hp.2.2, hs⟩
    rcases k with _ | j
    · rw [runAt_zero hg]; simpa [sumM] using hr
    · have hg' : ps[j]? = some (ps[j].1, ps[j].2) := List.getElem?_eq_getElem (by omega)
      rw [runAt_succ hg hg', hr]
      have := diff_get h3 j _ _ hg' hg
      simpa using this
theorem runs_tail {p : Int × Int} {ps : List (Int × Int)} (h : runsB (p :: ps) = true) : runsB ps = true := by
  rw [runs_iff] at h ⊢
  obtain ⟨h1, h2, h3⟩ := h
  rw [sumM_cons] at h2
  have := h1 p (by simp)
  refine ⟨fun q hq => h1 q (by simp [hq]), by omega, ?_⟩
  rcases ps with _ | ⟨q, ps⟩
  · trivial
  · exact h3.2
theorem runs_twice (p : Int × Int) (ps : List (Int × Int)) : runsB (p :: p :: ps) = false := by
  cases hb : runsB (p :: p :: ps) with
  | false => rfl
  | true => rw [runs_iff] at hb; exact absurd rfl hb.2.2.1

def packStep (out : List (Int × Int)) (v : Int) : List (Int × Int) := match out.getLast? with
  | none => [(v, 1)]
  | some (x, m) => if x = v then out.set (out.length - 1) (x, m + 1) else out ++ [(v, 1)]
def pack (xs : List Int) : List (Int × Int) := xs.foldl packStep []
def expand (ps : List (Int × Int)) : List Int := ps.flatMap fun p => List.replicate p.2.toNat p.1
theorem pack_snoc (xs : List Int) (v : Int) : pack (xs ++ [v]) = packStep (pack xs) v := by simp [pack, List.foldl_append]
theorem pack_succ {xs : List Int} {k : Nat} {v : Int} (h : xs[k]? = some v) : pack (xs.take (k + 1)) = packStep (pack (xs.take k)) v := by
  obtain ⟨hk, hx⟩ := List.getElem?_eq_some_iff.1 h
  rw [List.take_succ_eq_append_getElem hk, pack_snoc, hx]
theorem set_lastP (init : List (Int × Int)) (p q : Int × Int) : (init ++ [p]).set ((init ++ [p]).length - 1) q = init ++ [q] := by
  rw [List.set_append_right _ _ (by simp)]; simp
theorem snoc_of_last {ps : List (Int × Int)} {q : Int × Int} (h : ps.getLast? = some q) : ∃ init, ps = init ++ [q] := by
  rw [List.getLast?_eq_some_iff] at h; exact h
/-- After the first k values. -/
structure PInv (xs : List Int) (out : List (Int × Int)) : Prop where
  pos : ∀ p ∈ out, 1 ≤ p.2
  exp : expand out = xs
  sum : sumM out = xs.length
  len : out.length ≤ xs.length
  last : ∀ v, xs.getLast? = some v → ∃ m, out.getLast? = some (v, m)
  none : xs = [] → out = []
  diff : Diff out
theorem diff_snoc : ∀ {ps : List (Int × Int)} {q : Int × Int}, Diff ps → (∀ p, ps.getLast? = some p → q.1 ≠ p.1) → Diff (ps ++ [q])
  | [], q, _, _ => trivial
  | [a], q, _, h => ⟨h a rfl, trivial⟩
  | a :: b :: ps, q, hd, h => ⟨hd.1, diff_snoc hd.2 fun p hp => h p (by simpa using hp)⟩
theorem diff_setlast : ∀ {ps : List (Int × Int)} {x m m' : Int}, Diff (ps ++ [(x, m)]) → Diff (ps ++ [(x, m')])
  | [], _, _, _, _ => trivial
  | [a], _, _, _, h => ⟨h.1, trivial⟩
  | a :: b :: ps, x, m, m', h => ⟨h.1, diff_setlast (ps := b :: ps) h.2⟩
theorem expand_app (ps qs : List (Int × Int)) : expand (ps ++ qs) = expand ps ++ expand qs := by simp [expand]
theorem pack_inv_step {xs : List Int} {out : List (Int × Int)} (h : PInv xs out) (v : Int) : PInv (xs ++ [v]) (packStep out v) := by
  unfold packStep
  cases hl : out.getLast? with
  | none =>
    have ho : out = [] := by simpa using hl
    subst ho
    have hx : xs = [] := by have := h.exp; simpa [expand] using this.symm
    subst hx
    exact ⟨by simp, by simp [expand], by simp [sumM], by simp, by intro w hw; simp at hw; subst hw; exact ⟨1, rfl⟩, by simp, trivial⟩
  | some q =>
    obtain ⟨x, m⟩ := q
    obtain ⟨init, rfl⟩ := snoc_of_last hl
    have hm := h.pos (x, m) (by simp)
    by_cases e : x = v
    · subst e
      simp only [if_true]
      rw [set_lastP]
      refine ⟨?_, ?_, ?_, ?_, ?_, by simp, diff_setlast h.diff⟩
      · intro p hp
        rcases List.mem_append.1 hp with hp | hp
        · exact h.pos p (by simp [hp])
        · simp at hp; subst hp; simp; omega
      · rw [expand_app, ← h.exp, expand_app]
        have : (m + 1).toNat = m.toNat + 1 := by omega
        simp [expand, this, List.replicate_succ']
      · have := h.sum
        rw [sumM_app] at this ⊢
        simp [sumM] at this ⊢
        omega
      · have := h.len; simp at this ⊢; omega
      · intro w hw
        simp at hw; subst hw
        exact ⟨m + 1, by simp⟩
    · simp only [e, if_false]
      refine ⟨?_, ?_, ?_, ?_, ?_, by simp, diff_snoc h.diff ?_⟩
      · intro p hp
        rcases List.mem_append.1 hp with hp | hp
        · exact h.pos p hp
        · simp at hp; subst hp; simp
      · rw [expand_app, h.exp]; simp [expand]
      · rw [sumM_app, h.sum]; simp [sumM]
      · have := h.len; simp at this ⊢; omega
      · intro w hw
        simp at hw; subst hw
        exact ⟨1, by simp⟩
      · intro p hp
        rw [hl] at hp
        injection hp with hp
        subst hp
        exact fun h => e h.symm
theorem pack_inv (xs : List Int) : PInv xs (pack xs) := by
  have : ∀ (ys : List Int) (zs : List Int), PInv zs (pack zs) → PInv (zs ++ ys) (pack (zs ++ ys)) := by
    intro ys
    induction ys with
    | nil => intro zs h; simpa using h
    | cons y ys ih =>
      intro zs h
      have h2 : PInv (zs ++ [y]) (pack (zs ++ [y])) := by rw [pack_snoc]; exact pack_inv_step h y
      have := ih (zs ++ [y]) h2
      simpa using this
  exact this xs [] ⟨by simp [pack], by simp [pack, expand], by simp [pack, sumM], by simp [pack], by simp, by simp [pack], trivial⟩

def packRuns (xs : List Int) : List (Int × Int) × Bool := if runsB (pack xs) then (pack xs, true) else ([], false)
def unpackRuns (ps : List (Int × Int)) : List Int := if runsB ps then expand ps else []
theorem pack_long {xs : List Int} (h : 30 < xs.length) : runsB (pack xs) = false := by
  cases hb : runsB (pack xs) with
  | false => rfl
  | true =>
    have := runs_sum hb
    rw [(pack_inv xs).sum] at this
    omega
theorem packRuns_len (xs : List Int) : (packRuns xs).1.length ≤ 30 := by
  unfold packRuns
  split
  · rename_i h; exact runs_len h
  · simp
theorem expand_len {ps : List (Int × Int)} (h : ∀ p ∈ ps, 1 ≤ p.2) : ((expand ps).length : Int) = sumM ps := by
  induction ps with
  | nil => simp [expand, sumM]
  | cons p ps ih =>
    have hp := h p (by simp)
    have := ih fun q hq => h q (by simp [hq])
    rw [sumM_cons, ← this]
    have e : (expand (p :: ps)).length = p.2.toNat + (expand ps).length := by simp [expand]
    rw [e]; omega
theorem runs_pos {ps : List (Int × Int)} (h : runsB ps = true) : ∀ p ∈ ps, 1 ≤ p.2 := fun p hp => (((runs_iff ps).1 h).1 p hp).2.2
theorem unpack_len (ps : List (Int × Int)) : (unpackRuns ps).length ≤ 30 := by
  unfold unpackRuns
  split
  · rename_i h
    have := expand_len (runs_pos h)
    have := runs_sum h
    omega
  · simp
/-- Unpacked values, packed. -/
theorem pack_run (out : List (Int × Int)) (x : Int) (hl : ∀ p, out.getLast? = some p → x ≠ p.1) : ∀ m : Nat, (List.replicate (m + 1) x).foldl packStep out = out ++ [(x, (m : Int) + 1)]
  | 0 => by
    simp only [List.replicate, List.foldl_cons, List.foldl_nil]
    unfold packStep
    cases h : out.getLast? with
    | none => have : out = [] := by simpa using h
              subst this; simp
    | some q =>
      have := hl q h
      obtain ⟨a, b⟩ := q
      simp only at this ⊢
      rw [if_neg (fun e => this e.symm)]; simp
  | m + 1 => by
    rw [List.replicate_succ', List.foldl_append, pack_run out x hl m]
    simp only [List.foldl_cons, List.foldl_nil]
    unfold packStep
    simp only [List.getLast?_concat, if_true]
    rw [set_lastP]
    simp
theorem pack_expand : ∀ (qs ps : List (Int × Int)), (∀ p ∈ qs, 1 ≤ p.2) → Diff (ps ++ qs) → (expand qs).foldl packStep ps = ps ++ qs
  | [], ps, _, _ => by simp [expand]
  | (x, m) :: qs, ps, hpos, hd => by
    have hm := hpos (x, m) (by simp)
    simp only at hm
    obtain ⟨n, hn⟩ : ∃ n : Nat, m = (n : Int) + 1 := ⟨(m - 1).toNat, by omega⟩
    subst hn
    have e : expand ((x, (n : Int) + 1) :: qs) = List.replicate (n + 1) x ++ expand qs := by
      have : ((n : Int) + 1).toNat = n + 1 := by omega
      simp [expand, this]
    rw [e, List.foldl_append, pack_run ps x ?_ n]
    · have := pack_expand qs (ps ++ [(x, (n : Int) + 1)]) (fun p hp => hpos p (by simp [hp])) (by simpa using hd)
      rw [this]; simp
    · intro p hp
      obtain ⟨init, rfl⟩ := snoc_of_last hp
      have := diff_get hd init.length p (x, (n : Int) + 1) (by simp) (by simp)
      exact this
theorem pack_of_unpack {ps : List (Int × Int)} (h : runsB ps = true) : pack (expand ps) = ps := by
  have hr := (runs_iff ps).1 h
  have := pack_expand ps [] (runs_pos h) (by simpa using hr.2.2)
  simpa [pack] using this
theorem unpack_of_pack {xs : List Int} : expand (pack xs) = xs := (pack_inv xs).exp

def runGain (xs : List Int) : Int := if (packRuns xs).2 then (xs.length : Int) - 2 * (packRuns xs).1.length else 0
theorem runGain_bounds (xs : List Int) : -(xs.length : Int) ≤ runGain xs ∧ runGain xs ≤ max 0 ((xs.length : Int) - 2) := by
  unfold runGain packRuns
  by_cases h : runsB (pack xs) = true
  · simp only [h, if_true]
    have hl := (pack_inv xs).len
    have hn : xs.length = 0 ∨ 1 ≤ (pack xs).length := by
      rcases Nat.eq_zero_or_pos xs.length with h0 | h0
      · exact .inl h0
      · right
        rcases Nat.eq_zero_or_pos (pack xs).length with h1 | h1
        · have he : pack xs = [] := List.eq_nil_of_length_eq_zero h1
          have := (pack_inv xs).exp
          rw [he] at this
          simp [expand] at this
          subst this; simp at h0
        · exact h1
    omega
  · simp only [h]
    simp
    omega
def valueAt (ps : List (Int × Int)) (n : Int) : Int := if 0 ≤ n ∧ n < (unpackRuns ps).length then (unpackRuns ps).getD n.toNat 0 else -1
theorem expand_at {ps : List (Int × Int)} (h : runsB ps = true) {k : Nat} {x y : Int} (hk : ps[k]? = some (x, y)) {j : Int} (h0 : 0 ≤ j) (h1 : j < y) : (expand ps)[(sumM (ps.take k) + j).toNat]? = some x := by
  obtain ⟨hl, hx⟩ := List.getElem?_eq_some_iff.1 hk
  have e : ps = ps.take k ++ (x, y) :: ps.drop (k + 1) := by rw [← hx, ← List.drop_eq_getElem_cons hl, List.take_append_drop]
  have hpos := runs_pos h
  have hlen := expand_len (ps := ps.take k) fun p hp => hpos p (List.mem_of_mem_take hp)
  have e2 : expand ps = expand (ps.take k) ++ (List.replicate y.toNat x ++ expand (ps.drop (k + 1))) := by
    conv => lhs; rw [e]
    rw [expand_app]; simp [expand]
  rw [e2, List.getElem?_append_right (by omega), List.getElem?_append_left (by simp; omega)]
  rw [List.getElem?_replicate, if_pos (by omega)]
theorem valueAt_bad {ps : List (Int × Int)} {n : Int} (h : runsB ps = false ∨ n < 0) : valueAt ps n = -1 := by
  unfold valueAt
  rcases h with h | h
  · have : unpackRuns ps = [] := by unfold unpackRuns; rw [h]; rfl
    rw [this]; rw [if_neg]; simp
  · rw [if_neg]; omega
theorem valueAt_run {ps : List (Int × Int)} (h : runsB ps = true) {k : Nat} {x y : Int} (hk : ps[k]? = some (x, y)) {n : Int} (h0 : 0 ≤ n - sumM (ps.take k)) (h1 : n - sumM (ps.take k) < y) : valueAt ps n = x := by
  have hs := run_at h hk
  have hg := expand_at h hk h0 h1
  have e : sumM (ps.take k) + (n - sumM (ps.take k)) = n := by omega
  rw [e] at hg
  obtain ⟨hl, hx⟩ := List.getElem?_eq_some_iff.1 hg
  unfold valueAt
  have eu : unpackRuns ps = expand ps := by unfold unpackRuns; rw [h]; rfl
  rw [eu, if_pos (by omega)]
  rw [List.getD_eq_getElem?_getD, hg]; rfl
theorem valueAt_end {ps : List (Int × Int)} (h : runsB ps = true) {n : Int} (h0 : sumM ps ≤ n) : valueAt ps n = -1 := by
  have eu : unpackRuns ps = expand ps := by unfold unpackRuns; rw [h]; rfl
  unfold valueAt
  rw [eu, if_neg]
  have := expand_len (runs_pos h)
  omega
end Go.Proofs.Ytjkncdmnajfkjaa
