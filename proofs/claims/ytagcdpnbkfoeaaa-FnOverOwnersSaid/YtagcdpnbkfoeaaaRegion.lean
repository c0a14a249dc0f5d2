/- A region that draws its order, by an invariant on which operations have run: one proof an operation, not one an order. -/
import Derived.Test.YtagcdpnbkfoeaaaBase
import Derived.RegionTactic
import Derived.OwnWalk
import Derived.Tactics2
namespace Go.Proofs.Ytagcdpnbkfoeaaa
open Go.RowKit

def upd {α : Type} (f : Nat → α) (i : Nat) (v : α) : Nat → α := fun j => if j = i then v else f j

theorem count_set_true : ∀ (l : List Bool) (i : Nat), l[i]? = some false → (l.set i true).count false + 1 = l.count false
  | [], i, h => by simp at h
  | b :: l, 0, h => by simp at h; subst h; simp
  | b :: l, i + 1, h => by
    have := count_set_true l i (by simpa using h)
    cases b <;> simp <;> omega

section
variable {P : Program} {ops : Array Oper} {Q : Exit → Act → World → Prop}

def backOk (ops : List Oper) : Bool := ops.zipIdx.all fun p => p.1.after.all fun e => !Region.binds .any e || decide (e.on < p.2)

theorem wpAny_inv (hback : backOk ops.toList = true) (J : (Nat → Bool) → Act → World → Prop)
    (step : ∀ i o, ops[i]? = some o → ∀ L a w, L i = false → (∀ e ∈ o.after, Region.binds .any e = true → L e.on = true) → J L a w → wpOp P ops Q i (J (upd L i true)) a w)
    (fin : ∀ L a w, (∀ i, i < ops.size → L i = true) → J L a w → Q .normal a w) :
    ∀ (fuel : Nat) (listed : Array Bool) (a : Act) (w : World), listed.size = ops.size → listed.toList.count false ≤ fuel → J (fun j => listed.getD j false) a w → wpAny P .any ops Q fuel listed a w := by
  have hback' : ∀ (i : Nat) (o : Oper), ops[i]? = some o → ∀ e ∈ o.after, Region.binds .any e = true → e.on < i := by
    intro i o ho e he hb
    have h := List.all_eq_true.1 hback (o, i) (by rw [List.mem_zipIdx_iff_getElem?]; simpa using ho)
    have := Array.all_eq_true_iff_forall_mem.1 h e he
    simpa [hb] using this
  have hall : ∀ listed : Array Bool, listed.size = ops.size → Region.ready .any ops listed = [] → ∀ i, i < ops.size → listed.getD i false = true := by
    intro listed hs hr i
    induction i using Nat.strongRecOn with
    | _ i ih =>
      intro hi
      cases hL : listed.getD i false with
      | true => rfl
      | false =>
        exfalso
        have hin : i ∈ Region.ready .any ops listed := by
          refine mem_ready.2 ⟨?_, ops[i], Array.getElem?_eq_getElem hi, fun e he hb => ih e.on (hback' i _ (Array.getElem?_eq_getElem hi) e he hb) (Nat.lt_trans (hback' i _ (Array.getElem?_eq_getElem hi) e he hb) hi)⟩
          have hi' : i < listed.size := by omega
          simp [Array.getD, hi'] at hL ⊢
          exact hL
        rw [hr] at hin
        cases hin
  intro fuel
  induction fuel with
  | zero =>
    intro listed a w hs hc hJ
    have hnf : ∀ i, i < ops.size → listed.getD i false = true := by
      intro i hi
      cases hL : listed.getD i false with
      | true => rfl
      | false =>
        exfalso
        have hi' : i < listed.size := by omega
        have : false ∈ listed.toList := by
          simp [Array.getD, hi'] at hL
          rw [← hL]
          exact Array.getElem_mem_toList hi'
        have := List.count_pos_iff.2 this
        omega
    refine ⟨?_, fin _ a w hnf hJ⟩
    rcases hr : Region.ready .any ops listed with _ | ⟨i, rs⟩
    · rfl
    · exfalso
      have hin : i ∈ Region.ready .any ops listed := by rw [hr]; simp
      obtain ⟨h0, o, ho, _⟩ := mem_ready.1 hin
      have hi : i < ops.size := (Array.getElem?_eq_some_iff.1 ho).1
      have := hnf i hi
      have hi' : i < listed.size := by omega
      simp [Array.getD, hi'] at h0 this
      rw [this] at h0
      cases h0
  | succ fuel ih =>
    intro listed a w hs hc hJ
    refine ⟨fun hr => fin _ a w (hall listed hs hr) hJ, fun i hin => ?_⟩
    obtain ⟨h0, o, ho, haft⟩ := mem_ready.1 hin
    have hi : i < ops.size := (Array.getElem?_eq_some_iff.1 ho).1
    have hi' : i < listed.size := by omega
    have hLi : listed.getD i false = false := by
      simp [Array.getD, hi'] at h0 ⊢
      exact h0
    refine wpOp_mono ?_ (step i o ho _ a w hLi haft hJ)
    intro a' w' hJ'
    refine ih _ a' w' (by simpa using hs) ?_ ?_
    · have := count_set_true listed.toList i (by
        simp [Array.getD, hi'] at hLi
        rw [List.getElem?_eq_getElem (by simpa using hi')]
        simpa using hLi)
      rw [Array.toList_setIfInBounds]
      omega
    · have e : (fun j => (listed.setIfInBounds i true).getD j false) = upd (fun j => listed.getD j false) i true := by
        funext j
        unfold upd
        by_cases hj : j = i
        · subst hj; simp [hi']
        · rw [getD_set_ne false (Ne.symm hj), if_neg hj]
      rw [e]
      exact hJ'
end

/-- The frame FR with the slots ds filled by s. -/
def frameOf (FR : Array Value) (ds : List Nat) (s : Nat → Value) : Array Value := ds.foldl (fun fr d => fr.setIfInBounds d (s d)) FR

def StepsFrom (T : Nat → Oper → Prop) : Nat → List Oper → Prop
  | _, [] => True
  | i, o :: os => T i o ∧ StepsFrom T (i + 1) os

theorem StepsFrom.get {T : Nat → Oper → Prop} : ∀ {l : List Oper} {k : Nat}, StepsFrom T k l → ∀ i o, l[i]? = some o → T (k + i) o
  | [], _, _, i, o, h => by simp at h
  | x :: l, k, hs, 0, o, h => by simp at h; subst h; exact hs.1
  | x :: l, k, hs, i + 1, o, h => by
    have := StepsFrom.get hs.2 i o (by simpa using h)
    rw [Nat.add_assoc, Nat.add_comm 1 i] at this
    exact this

theorem frame_same (FR : Array Value) (ds : List Nat) : frameOf FR ds (fun d => FR.getD d undef) = FR := by
  suffices h : ∀ (ds : List Nat) (fr : Array Value), fr = FR → ds.foldl (fun fr d => fr.setIfInBounds d (FR.getD d undef)) fr = FR by exact h ds FR rfl
  intro ds
  induction ds with
  | nil => intro fr h; exact h
  | cons d ds ih =>
    intro fr h
    refine ih _ ?_
    subst h
    apply Array.ext_getElem?
    intro i
    rw [Array.getElem?_setIfInBounds]
    split
    · rename_i hdi
      subst hdi
      split
      · rename_i hlt; simp [hlt]
      · rename_i hlt; simp [hlt]
    · rfl

/-- One operation's step. -/
def SlotStep (P : Program) (ops : Array Oper) (Q : Exit → Act → World → Prop) (FR : Array Value) (df : List Deferred) (ds : List Nat) (I : (Nat → Bool) → (Nat → Value) → World → Prop) (i : Nat) (o : Oper) : Prop :=
  ∀ L s w, L i = false → (∀ e ∈ o.after, Region.binds .any e = true → L e.on = true) → I L s w →
    ∀ K : Act → World → Prop, (∀ s' w', I (upd L i true) s' w' → K ⟨frameOf FR ds s', df⟩ w') →
      if Region.wanted o (yielded ops (frameOf FR ds s)) = true then Oper.wp P o ⟨frameOf FR ds s, df⟩ w K Q else K ((⟨frameOf FR ds s, df⟩ : Act).put o.dst undef) w

theorem wp_region_slots {P : Program} {id : Nat} {l : List Oper} {Q : Exit → Act → World → Prop} {FR : Array Value} {df : List Deferred} {w : World}
    (ds : List Nat) (I : (Nat → Bool) → (Nat → Value) → World → Prop) (hm : P.follows .mixedOrders = true) (hback : backOk l = true)
    (start : I (fun _ => false) (fun d => FR.getD d undef) w.drew)
    (steps : StepsFrom (SlotStep P l.toArray Q FR df ds I) 0 l)
    (fin : ∀ L s w, (∀ i, i < l.length → L i = true) → I L s w → Q .normal ⟨frameOf FR ds s, df⟩ w) : (Code.region id l.toArray true).wp P Q ⟨FR, df⟩ w := by
  refine wp_region_any hm (wpAny_inv (by simpa using hback) (fun L a w => ∃ s, a = ⟨frameOf FR ds s, df⟩ ∧ I L s w) ?_ ?_ _ _ _ _ (by simp) (by simp) ?_)
  · rintro i o ho L a w hL haft ⟨s, rfl, hI⟩
    refine wpOp_step ho fun K hK => ?_
    have := steps.get i o (by simpa using ho)
    rw [Nat.zero_add] at this
    exact this L s w hL haft hI K fun s' w' hI' => hK _ _ ⟨s', rfl, hI'⟩
  · rintro L a w hL ⟨s, rfl, hI⟩
    exact fin L s w (by simpa using hL) hI
  · refine ⟨_, by rw [frame_same], ?_⟩
    have e : (fun j => (Array.replicate l.toArray.size false).getD j false) = fun _ => false := by
      funext j
      by_cases hj : j < l.length
      · simp [Array.getD, hj]
      · simp [Array.getD, hj]
    rw [e]
    exact start

theorem frameOf_size (ds : List Nat) (s : Nat → Value) : ∀ FR : Array Value, (frameOf FR ds s).size = FR.size := by
  induction ds with
  | nil => intro FR; rfl
  | cons d ds ih => intro FR; simp only [frameOf, List.foldl_cons] at ih ⊢; rw [ih]; simp

theorem frameOf_get (ds : List Nat) (s : Nat → Value) (k : Nat) : ∀ FR : Array Value, (frameOf FR ds s)[k]? = if k ∈ ds ∧ k < FR.size then some (s k) else FR[k]? := by
  induction ds with
  | nil => intro FR; simp [frameOf]
  | cons d ds ih =>
    intro FR
    have e : frameOf FR (d :: ds) s = frameOf (FR.setIfInBounds d (s d)) ds s := rfl
    rw [e, ih]
    simp only [Array.size_setIfInBounds, List.mem_cons]
    by_cases hk : k < FR.size
    · by_cases hm : k ∈ ds
      · simp [hm, hk]
      · by_cases hd : k = d
        · subst hd; simp [hm, hk]
        · simp only [hm, hd, or_false, false_and, if_false]
          rw [Array.getElem?_setIfInBounds_ne (Ne.symm hd)]
    · simp only [hk, and_false, if_false]
      rw [Array.getElem?_eq_none (by simpa using hk), Array.getElem?_eq_none (by omega)]

theorem frameOf_put {FR : Array Value} {ds : List Nat} {s : Nat → Value} {d : Nat} (hd : d ∈ ds) (v : Value) : (frameOf FR ds s).setIfInBounds d v = frameOf FR ds (upd s d v) := by
  apply Array.ext_getElem?
  intro k
  rw [Array.getElem?_setIfInBounds, frameOf_get, frameOf_get, frameOf_size]
  by_cases hk : d = k
  · subst hk
    by_cases hlt : d < FR.size
    · simp [hd, hlt, upd]
    · rw [if_pos rfl, if_neg hlt, if_neg (by simp [hlt]), Array.getElem?_eq_none (by omega)]
  · rw [if_neg hk]
    simp only [upd, if_neg (Ne.symm hk)]

/-- The slot that operation i writes. -/
def dstAt (l : List Oper) (i : Nat) : Nat := ((l[i]?).bind (·.dst)).getD 0
def dstsOk (l : List Oper) (ds : List Nat) : Bool := l.all (fun o => match o.dst with | some d => ds.contains d | none => false) && (l.zipIdx.all fun p => l.zipIdx.all fun q => p.2 == q.2 || p.1.dst != q.1.dst)

/-- One operation's step, in facts: F i v w: 'operation i has left v'; R: how the world may go on; G: what holds of the world and of what has run. -/
def FactStep (P : Program) (Q : Exit → Act → World → Prop) (FR : Array Value) (df : List Deferred) (ds : List Nat) (l : List Oper) (R : World → World → Prop) (G : (Nat → Bool) → World → Prop) (F : Nat → Value → World → Prop) (i : Nat) (o : Oper) : Prop :=
  ∀ (L : Nat → Bool) (s : Nat → Value) (fr : Array Value) (w : World), (∀ d ∈ ds, fr[d]? = some (s d)) → (∀ k, k ∉ ds → fr[k]? = FR[k]?) → L i = false → G L w →
    (∀ e ∈ o.after.toList, Region.binds .any e = true → L e.on = true ∧ F e.on (s (dstAt l e.on)) w) →
    ∀ K : Act → World → Prop, (∀ d, o.dst = some d → ∀ v w', R w w' → G (upd L i true) w' → F i v w' → K ⟨fr.setIfInBounds d v, df⟩ w') →
      if Region.wanted o (yielded l.toArray fr) = true then Oper.wp P o ⟨fr, df⟩ w K Q else K ((⟨fr, df⟩ : Act).put o.dst undef) w

theorem FactStep.steps {P : Program} {Q : Exit → Act → World → Prop} {FR : Array Value} {df : List Deferred} {ds : List Nat} {l : List Oper} {R : World → World → Prop} {G : (Nat → Bool) → World → Prop} {F : Nat → Value → World → Prop}
    (hmono : ∀ j v w w', R w w' → F j v w → F j v w') (hback : backOk l = true) (hd : dstsOk l ds = true) (hds : ∀ d ∈ ds, d < FR.size)
    (T : ∀ i o, l[i]? = some o → FactStep P Q FR df ds l R G F i o) :
    ∀ i o, l[i]? = some o → SlotStep P l.toArray Q FR df ds (fun L s w => G L w ∧ ∀ j, j < l.length → L j = true → F j (s (dstAt l j)) w) i o := by
  intro i o ho L s w hL haft hI K hK
  have hlt : i < l.length := (List.getElem?_eq_some_iff.1 ho).1
  simp only [dstsOk, Bool.and_eq_true] at hd
  obtain ⟨hd1, hd2⟩ := hd
  have hdo := List.all_eq_true.1 hd1 o (List.mem_of_getElem? ho)
  obtain ⟨d, hdd⟩ : ∃ d, o.dst = some d := by
    cases h : o.dst with
    | none => rw [h] at hdo; simp at hdo
    | some d => exact ⟨d, rfl⟩
  rw [hdd] at hdo
  have hmem : d ∈ ds := by simpa using hdo
  have hdi : dstAt l i = d := by simp [dstAt, ho, hdd]
  refine T i o ho L s _ w (fun d hd => by rw [frameOf_get, if_pos ⟨hd, hds d hd⟩]) (fun k hk => by rw [frameOf_get, if_neg (fun h => hk h.1)]) hL hI.1 ?_ K ?_
  · intro e he hb
    have hLe := haft e (by simpa using he) hb
    refine ⟨hLe, hI.2 e.on ?_ hLe⟩
    have h1 := List.all_eq_true.1 hback (o, i) (by rw [List.mem_zipIdx_iff_getElem?]; exact ho)
    have h2 := Array.all_eq_true_iff_forall_mem.1 h1 e (by simpa using he)
    have h3 : e.on < i := by simpa [hb] using h2
    omega
  · intro d' hd' v w' hR hG hF
    obtain rfl : d = d' := by rw [hdd] at hd'; injection hd' with hd'
    rw [frameOf_put hmem]
    refine hK _ _ ⟨hG, fun j hj hLj => ?_⟩
    by_cases hji : j = i
    · subst hji; rw [hdi]; simpa [upd] using hF
    · have hLj' : L j = true := by simpa [upd, hji] using hLj
      have hne : dstAt l j ≠ d := by
        intro he
        have hoj : l[j]? = some l[j] := List.getElem?_eq_getElem hj
        have h1 := List.all_eq_true.1 hd2 (o, i) (by rw [List.mem_zipIdx_iff_getElem?]; exact ho)
        have h2 := List.all_eq_true.1 h1 (l[j], j) (by rw [List.mem_zipIdx_iff_getElem?]; exact hoj)
        have hdj := List.all_eq_true.1 hd1 l[j] (List.mem_of_getElem? hoj)
        cases hh : l[j].dst with
        | none => rw [hh] at hdj; simp at hdj
        | some d' =>
          have : d' = d := by simpa [dstAt, hoj, hh] using he
          subst this
          simp [hdd, hh, Ne.symm hji] at h2
      have := hmono j _ w w' hR (hI.2 j hj hLj')
      simpa [upd, hne] using this

theorem wp_region_facts {P : Program} {id : Nat} {l : List Oper} {Q : Exit → Act → World → Prop} {FR : Array Value} {df : List Deferred} {w : World}
    (ds : List Nat) (R : World → World → Prop) (G : (Nat → Bool) → World → Prop) (F : Nat → Value → World → Prop) (hm : P.follows .mixedOrders = true) (hback : backOk l = true) (hd : dstsOk l ds = true) (hds : ∀ d ∈ ds, d < FR.size)
    (hmono : ∀ j v w w', R w w' → F j v w → F j v w') (start : G (fun _ => false) w.drew)
    (steps : StepsFrom (FactStep P Q FR df ds l R G F) 0 l)
    (fin : ∀ (L : Nat → Bool) (s : Nat → Value) (w : World), (∀ i, i < l.length → L i = true) → G L w → (∀ j, j < l.length → F j (s (dstAt l j)) w) → Q .normal ⟨frameOf FR ds s, df⟩ w) : (Code.region id l.toArray true).wp P Q ⟨FR, df⟩ w := by
  have hT := FactStep.steps hmono hback hd hds (fun i o ho => by have := steps.get i o ho; rwa [Nat.zero_add] at this)
  refine wp_region_slots ds (fun L s w => G L w ∧ ∀ j, j < l.length → L j = true → F j (s (dstAt l j)) w) hm hback ⟨start, fun _ _ h => by cases h⟩ ?_ ?_
  · have : ∀ (k : Nat) (t : List Oper), t = l.drop k → StepsFrom (SlotStep P l.toArray Q FR df ds (fun L s w => G L w ∧ ∀ j, j < l.length → L j = true → F j (s (dstAt l j)) w)) k t := by
      intro k t
      induction t generalizing k with
      | nil => intro _; trivial
      | cons o t ih =>
        intro ht
        have hk : l[k]? = some o := by
          have h : (l.drop k)[0]? = some o := by rw [← ht]; rfl
          simpa [List.getElem?_drop] using h
        refine ⟨hT k o hk, ih (k + 1) ?_⟩
        have h : l.drop (k + 1) = (l.drop k).drop 1 := by rw [List.drop_drop]
        rw [h, ← ht]; rfl
    exact this 0 l (by simp)
  · intro L s w hL hI
    exact fin L s w hL hI.1 fun j hj => hI.2 j hj (hL j hj)
end Go.Proofs.Ytagcdpnbkfoeaaa
