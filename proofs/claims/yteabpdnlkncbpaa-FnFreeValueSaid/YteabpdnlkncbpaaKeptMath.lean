/- The plain words of kept values: keeping and freeing a value. No program is named here. -/
import Derived.Test.YteabpdnlkncbpaaKept
namespace Go.Proofs.Yteabpdnlkncbpaa
open Go.RowKit
set_option linter.unusedVariables false

abbrev LtP (p q : Int × Int) : Prop := p.1 < q.1
theorem kept_iff (ps : List (Int × Int)) : keptB ps = true ↔ ps.length ≤ 10 ∧ (∀ p ∈ ps, keptP p.1 p.2 = true) ∧ ps.Pairwise LtP := by
  constructor
  · intro h
    refine ⟨keptB_len h, fun p hp => ?_, ?_⟩
    · obtain ⟨k, hk⟩ := List.mem_iff_getElem?.1 hp
      exact keptP_iff.2 (kept_at h (k := k) (x := p.1) (y := p.2) hk)
    · have hadj : ∀ (k : Nat) (hk : k + 1 < ps.length), ps[k].1 < ps[k + 1].1 := by
        intro k hk
        simp only [keptB, Bool.and_eq_true, List.all_eq_true, List.mem_range] at h
        have := h.2 (k + 1) hk
        rw [keptAt_succ (x := ps[k + 1].1) (y := ps[k + 1].2) (x' := ps[k].1) (y' := ps[k].2) (List.getElem?_eq_getElem hk) (List.getElem?_eq_getElem (by omega))] at this
        simpa using (Bool.and_eq_true_iff.1 this).2
      rw [List.pairwise_iff_getElem]
      intro i j hi hj hij
      have : ∀ d, ∀ (hd : i + (d + 1) < ps.length), ps[i].1 < ps[i + (d + 1)].1 := by
        intro d
        induction d with
        | zero => intro hd; exact hadj i hd
        | succ d ih =>
          intro hd
          have h1 := ih (by omega)
          have h2 := hadj (i + (d + 1)) (by omega)
          exact Int.lt_trans h1 h2
      obtain ⟨d, rfl⟩ : ∃ d, j = i + (d + 1) := ⟨j - i - 1, by omega⟩
      exact this d hj
  · rintro ⟨h1, h2, h3⟩
    simp only [keptB, Bool.and_eq_true, decide_eq_true_eq, List.all_eq_true, List.mem_range]
    refine ⟨h1, fun k hk => ?_⟩
    have hg : ps[k]? = some (ps[k].1, ps[k].2) := List.getElem?_eq_getElem hk
    have hp := h2 ps[k] (List.getElem_mem hk)
    rcases k with _ | j
    · rw [keptAt_zero hg]; exact hp
    · rw [keptAt_succ hg (x' := ps[j].1) (y' := ps[j].2) (List.getElem?_eq_getElem (by omega)), hp]
      have := List.pairwise_iff_getElem.1 h3 j (j + 1) (by omega) hk (by omega)
      simpa using this

/-- A valid list, cut at v. -/
theorem kept_split {ps : List (Int × Int)} (h : ps.Pairwise LtP) (v : Int) : ∃ L R : List (Int × Int), (∀ p ∈ L, p.1 < v) ∧ (∀ p ∈ R, v < p.1) ∧ (ps = L ++ R ∨ ∃ y, ps = L ++ (v, y) :: R) := by
  induction ps with
  | nil => exact ⟨[], [], by simp, by simp, .inl rfl⟩
  | cons p ps ih =>
    rw [List.pairwise_cons] at h
    obtain ⟨L, R, hL, hR, hh⟩ := ih h.2
    obtain ⟨x, y⟩ := p
    by_cases h1 : x < v
    · refine ⟨(x, y) :: L, R, ?_, hR, ?_⟩
      · intro q hq; rcases List.mem_cons.1 hq with rfl | hq
        · exact h1
        · exact hL q hq
      · rcases hh with rfl | ⟨y', rfl⟩
        · exact .inl rfl
        · exact .inr ⟨y', rfl⟩
    · by_cases h2 : x = v
      · subst h2
        refine ⟨[], ps, by simp, fun q hq => h.1 q hq, .inr ⟨y, rfl⟩⟩
      · refine ⟨[], (x, y) :: ps, by simp, ?_, .inl rfl⟩
        intro q hq; rcases List.mem_cons.1 hq with rfl | hq
        · simp; omega
        · have : x < q.1 := h.1 q hq
          omega

/-- The first place whose value is not below v. -/
def placeN (ps : List (Int × Int)) (v : Int) : Nat := ps.findIdx fun p => decide (v ≤ p.1)
theorem placeN_app {L R : List (Int × Int)} {v : Int} (hL : ∀ p ∈ L, p.1 < v) (hR : ∀ p, R.head? = some p → v ≤ p.1) : placeN (L ++ R) v = L.length := by
  unfold placeN
  rw [List.findIdx_append]
  have h1 : List.findIdx (fun p : Int × Int => decide (v ≤ p.1)) L = L.length := by
    rw [List.findIdx_eq_length]; intro p hp; have := hL p hp; simp; omega
  rw [h1, if_neg (by omega)]
  rcases R with _ | ⟨q, R⟩
  · simp
  · have := hR q rfl
    rw [List.findIdx_cons]; simp [this]
def keepRaw (ps : List (Int × Int)) (v : Int) : List (Int × Int) := match ps[placeN ps v]? with
  | some (x, y) => if x = v then ps.set (placeN ps v) (x, y + 1) else ps.take (placeN ps v) ++ (v, 1) :: ps.drop (placeN ps v)
  | none => ps.take (placeN ps v) ++ (v, 1) :: ps.drop (placeN ps v)
theorem keepRaw_new {L R : List (Int × Int)} {v : Int} (hL : ∀ p ∈ L, p.1 < v) (hR : ∀ p ∈ R, v < p.1) : keepRaw (L ++ R) v = L ++ (v, 1) :: R := by
  have hp : placeN (L ++ R) v = L.length := placeN_app hL fun p hp => by have := hR p (List.mem_of_mem_head? hp); omega
  unfold keepRaw
  rw [hp]
  have e : (L ++ R).take L.length ++ (v, 1) :: (L ++ R).drop L.length = L ++ (v, 1) :: R := by simp
  cases hg : (L ++ R)[L.length]? with
  | none => exact e
  | some q =>
    obtain ⟨x, y⟩ := q
    have hm : (x, y) ∈ R := by
      rw [List.getElem?_append_right (by omega)] at hg
      exact List.mem_of_getElem? hg
    have := hR _ hm
    simp only at this ⊢
    rw [if_neg (by omega)]
    exact e
theorem keepRaw_old {L R : List (Int × Int)} {v y : Int} (hL : ∀ p ∈ L, p.1 < v) : keepRaw (L ++ (v, y) :: R) v = L ++ (v, y + 1) :: R := by
  have hp : placeN (L ++ (v, y) :: R) v = L.length := placeN_app hL fun p hp => by simp at hp; subst hp; simp
  unfold keepRaw
  rw [hp]
  have hg : (L ++ (v, y) :: R)[L.length]? = some (v, y) := by simp
  rw [hg]
  simp only [if_true]
  rw [List.set_append_right _ _ (by omega)]; simp
def keepValue (ps : List (Int × Int)) (v : Int) : List (Int × Int) × Bool := if keptB ps then (if keptB (keepRaw ps v) then (keepRaw ps v, true) else (ps, false)) else ([], false)
theorem keepValue_bad {ps : List (Int × Int)} {v : Int} (h : keptB ps = false) : keepValue ps v = ([], false) := by unfold keepValue; rw [h]; rfl
theorem keepValue_no {ps : List (Int × Int)} {v : Int} (h : keptB ps = true) (h' : keptB (keepRaw ps v) = false) : keepValue ps v = (ps, false) := by unfold keepValue; rw [h, h']; rfl
theorem keepValue_yes {ps : List (Int × Int)} {v : Int} (h : keptB ps = true) (h' : keptB (keepRaw ps v) = true) : keepValue ps v = (keepRaw ps v, true) := by unfold keepValue; rw [h, h']; rfl
theorem keepValue_len (ps : List (Int × Int)) (v : Int) : (keepValue ps v).1.length ≤ 10 := by
  unfold keepValue
  split
  · rename_i h
    split
    · rename_i h'; exact keptB_len h'
    · exact keptB_len h
  · simp

def freeOne (v : Int) (p : Int × Int) : List (Int × Int) := if p.1 = v then (if 0 < p.2 - 1 then [(p.1, p.2 - 1)] else []) else (if 0 < p.2 then [p] else [])
def freeRaw (ps : List (Int × Int)) (v : Int) : List (Int × Int) := ps.flatMap (freeOne v)
def hasV (ps : List (Int × Int)) (v : Int) : Bool := ps.any fun p => p.1 == v
def freeValue (ps : List (Int × Int)) (v : Int) : List (Int × Int) × Bool := if keptB ps then (freeRaw ps v, hasV ps v) else ([], false)
theorem freeRaw_app (ps qs : List (Int × Int)) (v : Int) : freeRaw (ps ++ qs) v = freeRaw ps v ++ freeRaw qs v := by simp [freeRaw]
theorem freeRaw_other {ps : List (Int × Int)} {v : Int} (h : ∀ p ∈ ps, p.1 ≠ v) (h1 : ∀ p ∈ ps, 1 ≤ p.2) : freeRaw ps v = ps := by
  induction ps with
  | nil => rfl
  | cons p ps ih =>
    have hp := h p (by simp)
    have hp1 := h1 p (by simp)
    have := ih (fun q hq => h q (by simp [hq])) (fun q hq => h1 q (by simp [hq]))
    simp only [freeRaw] at this
    simp only [freeRaw, List.flatMap_cons, this, freeOne]
    rw [if_neg hp, if_pos (by omega)]; rfl
theorem freeRaw_at {L R : List (Int × Int)} {v y : Int} (hL : ∀ p ∈ L, p.1 < v) (hR : ∀ p ∈ R, v < p.1) (h1 : ∀ p ∈ L ++ (v, y) :: R, 1 ≤ p.2) : freeRaw (L ++ (v, y) :: R) v = L ++ (if 1 < y then [(v, y - 1)] else []) ++ R := by
  have eL := freeRaw_other (v := v) (fun p hp => by have := hL p hp; omega) (fun p hp => h1 p (by simp [hp]) : ∀ p ∈ L, 1 ≤ p.2)
  have eR := freeRaw_other (v := v) (fun p hp => by have := hR p hp; omega) (fun p hp => h1 p (by simp [hp]) : ∀ p ∈ R, 1 ≤ p.2)
  rw [freeRaw_app, eL]
  have : freeRaw ((v, y) :: R) v = freeOne v (v, y) ++ R := by rw [← eR]; simp [freeRaw]; rw [show R.flatMap (freeOne v) = R from eR]; rw [show R.flatMap (freeOne v) = R from eR]
  rw [this]
  simp only [freeOne, if_true]
  by_cases hy : 1 < y
  · rw [if_pos (by omega), if_pos hy]; simp
  · rw [if_neg (by omega), if_neg hy]; simp
theorem hasV_no {L R : List (Int × Int)} {v : Int} (hL : ∀ p ∈ L, p.1 < v) (hR : ∀ p ∈ R, v < p.1) : hasV (L ++ R) v = false := by
  unfold hasV
  rw [List.any_eq_false]
  intro p hp
  rcases List.mem_append.1 hp with hp | hp
  · have := hL p hp; simp; omega
  · have := hR p hp; simp; omega
theorem hasV_yes {L R : List (Int × Int)} {v y : Int} : hasV (L ++ (v, y) :: R) v = true := by simp [hasV]
theorem kept_pos {ps : List (Int × Int)} (h : keptB ps = true) : ∀ p ∈ ps, 1 ≤ p.2 := fun p hp => (keptP_iff.1 (((kept_iff ps).1 h).2.1 p hp)).2.2.1
theorem freeRaw_len (ps : List (Int × Int)) (v : Int) : (freeRaw ps v).length ≤ ps.length := by
  induction ps with
  | nil => simp [freeRaw]
  | cons p ps ih =>
    have : (freeOne v p).length ≤ 1 := by unfold freeOne; split <;> split <;> simp
    have e : freeRaw (p :: ps) v = freeOne v p ++ freeRaw ps v := by simp [freeRaw]
    rw [e, List.length_append, List.length_cons]; omega
theorem freeValue_len (ps : List (Int × Int)) (v : Int) : (freeValue ps v).1.length ≤ 10 := by
  unfold freeValue
  split
  · rename_i h
    show (freeRaw ps v).length ≤ 10
    have := freeRaw_len ps v
    have := keptB_len h
    omega
  · simp
theorem freeRaw_succ {ps : List (Int × Int)} {k : Nat} {p : Int × Int} (h : ps[k]? = some p) (v : Int) : freeRaw (ps.take (k + 1)) v = freeRaw (ps.take k) v ++ freeOne v p := by
  obtain ⟨hk, hx⟩ := List.getElem?_eq_some_iff.1 h
  rw [List.take_succ_eq_append_getElem hk, freeRaw_app, hx]; simp [freeRaw]
theorem hasV_succ {ps : List (Int × Int)} {k : Nat} {p : Int × Int} (h : ps[k]? = some p) (v : Int) : hasV (ps.take (k + 1)) v = (hasV (ps.take k) v || p.1 == v) := by
  obtain ⟨hk, hx⟩ := List.getElem?_eq_some_iff.1 h
  rw [List.take_succ_eq_append_getElem hk, hasV, List.any_append, hx]; simp [hasV]

theorem users_app (ps qs : List (Int × Int)) : usersP (ps ++ qs) = usersP ps + usersP qs := by
  have h : ∀ (qs : List (Int × Int)) (a : Int), qs.foldl (fun a p => a + p.2) a = a + usersP qs := by
    intro qs
    induction qs with
    | nil => intro a; simp [usersP]
    | cons q qs ih => intro a; simp only [usersP, List.foldl_cons]; rw [ih, ih (0 + q.2)]; omega
  unfold usersP; rw [List.foldl_append, h]; rfl
theorem users_cons (p : Int × Int) (ps : List (Int × Int)) : usersP (p :: ps) = p.2 + usersP ps := by
  have := users_app [p] ps
  simpa [usersP] using this
/-- Keep, then free. -/
theorem free_of_keep {ps : List (Int × Int)} {v : Int} (h : keptB ps = true) (h' : keptB (keepRaw ps v) = true) : freeRaw (keepRaw ps v) v = ps ∧ hasV (keepRaw ps v) v = true ∧ usersP (keepRaw ps v) = usersP ps + 1 := by
  obtain ⟨hl, hp, hs⟩ := (kept_iff ps).1 h
  obtain ⟨L, R, hL, hR, rfl | ⟨y, rfl⟩⟩ := kept_split hs v
  · rw [keepRaw_new hL hR] at h' ⊢
    refine ⟨?_, hasV_yes, ?_⟩
    · rw [freeRaw_at hL hR (kept_pos h')]; simp
    · rw [users_app, users_app, users_cons]; simp only; omega
  · rw [keepRaw_old hL] at h' ⊢
    have hy := kept_pos h (v, y) (by simp)
    refine ⟨?_, hasV_yes, ?_⟩
    · rw [freeRaw_at hL hR (kept_pos h'), if_pos (by simp at hy; omega)]
      simp
    · rw [users_app, users_app, users_cons, users_cons]; simp only; omega
theorem keptP_mono {v y y' : Int} (h : keptP v y = true) (h1 : 1 ≤ y') (h2 : y' ≤ y) : keptP v y' = true := by rw [keptP_iff] at h ⊢; omega
/-- Free, then keep. -/
theorem keep_of_free {ps : List (Int × Int)} {v : Int} (h : keptB ps = true) (h' : hasV ps v = true) : keptB (freeRaw ps v) = true ∧ keepRaw (freeRaw ps v) v = ps ∧ usersP (freeRaw ps v) = usersP ps - 1 := by
  obtain ⟨hl, hp, hs⟩ := (kept_iff ps).1 h
  obtain ⟨L, R, hL, hR, rfl | ⟨y, rfl⟩⟩ := kept_split hs v
  · rw [hasV_no hL hR] at h'; cases h'
  · have hy : 1 ≤ y := kept_pos h (v, y) (by simp)
    have hPL := List.pairwise_append.1 hs
    have hPR := List.pairwise_cons.1 hPL.2.1
    rw [freeRaw_at hL hR (kept_pos h)]
    by_cases h1 : 1 < y
    · rw [if_pos h1]
      have e : L ++ [(v, y - 1)] ++ R = L ++ (v, y - 1) :: R := by simp
      rw [e]
      refine ⟨?_, ?_, ?_⟩
      · rw [kept_iff]
        refine ⟨by simp at hl ⊢; omega, ?_, ?_⟩
        · intro p hpm
          rcases List.mem_append.1 hpm with hpm | hpm
          · exact hp p (by simp [hpm])
          · rcases List.mem_cons.1 hpm with rfl | hpm
            · exact keptP_mono (hp (v, y) (by simp)) (by omega) (by omega)
            · exact hp p (by simp [hpm])
        · rw [List.pairwise_append, List.pairwise_cons]
          exact ⟨hPL.1, ⟨fun q hq => hR q hq, hPR.2⟩, fun a ha b hb => by
            rcases List.mem_cons.1 hb with rfl | hb
            · exact hL a ha
            · exact hPL.2.2 a ha b (by simp [hb])⟩
      · rw [keepRaw_old hL]; simp
      · rw [users_app, users_app, users_cons, users_cons]; simp only; omega
    · obtain rfl : y = 1 := by omega
      rw [if_neg h1, List.append_nil]
      refine ⟨?_, ?_, ?_⟩
      · rw [kept_iff]
        refine ⟨by simp at hl ⊢; omega, ?_, ?_⟩
        · intro p hpm
          rcases List.mem_append.1 hpm with hpm | hpm
          · exact hp p (by simp [hpm])
          · exact hp p (by simp [hpm])
        · rw [List.pairwise_append]
          exact ⟨hPL.1, hPR.2, fun a ha b hb => hPL.2.2 a ha b (by simp [hb])⟩
      · exact keepRaw_new hL hR
      · rw [users_app, users_app, users_cons]; simp only; omega
theorem kept_tail {p : Int × Int} {ps : List (Int × Int)} (h : keptB (p :: ps) = true) : keptB ps = true := by
  rw [kept_iff] at h ⊢
  obtain ⟨h1, h2, h3⟩ := h
  exact ⟨by simp at h1; omega, fun q hq => h2 q (by simp [hq]), (List.pairwise_cons.1 h3).2⟩
theorem kept_twice (p : Int × Int) (ps : List (Int × Int)) : keptB (p :: p :: ps) = false := by
  cases hb : keptB (p :: p :: ps) with
  | false => rfl
  | true =>
    rw [kept_iff] at hb
    have : p.1 < p.1 := (List.pairwise_cons.1 hb.2.2).1 p (by simp)
    omega
end Go.Proofs.Yteabpdnlkncbpaa
