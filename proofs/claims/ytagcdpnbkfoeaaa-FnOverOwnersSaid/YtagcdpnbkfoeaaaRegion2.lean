/- A region that draws its order, in facts, with operations that store and with an invariant that sees the slots. -/
import Derived.Test.YtagcdpnbkfoeaaaRegion
namespace Go.Proofs.Ytagcdpnbkfoeaaa
open Go.RowKit

def dstsOk2 (l : List Oper) (ds : List Nat) : Bool := l.all (fun o => match o.dst with | some d => ds.contains d | none => true) && (l.zipIdx.all fun p => l.zipIdx.all fun q => p.2 == q.2 || (p.1.dst != q.1.dst || p.1.dst == none))
def hasDst (l : List Oper) (j : Nat) : Bool := ((l[j]?).bind (·.dst)).isSome

/-- One operation's step, in facts: F i v w: 'operation i has left v'; R: how the world may go on; G: what holds of what has run, of the slots and of the world. -/
def FactStep2 (P : Program) (Q : Exit → Act → World → Prop) (FR : Array Value) (df : List Deferred) (ds : List Nat) (l : List Oper) (R : World → World → Prop) (G : (Nat → Bool) → (Nat → Value) → World → Prop) (F : Nat → Value → World → Prop) (i : Nat) (o : Oper) : Prop :=
  ∀ (L : Nat → Bool) (s : Nat → Value) (fr : Array Value) (w : World), (∀ d ∈ ds, fr[d]? = some (s d)) → (∀ k, k ∉ ds → fr[k]? = FR[k]?) → L i = false → G L s w →
    (∀ e ∈ o.after.toList, Region.binds .any e = true → L e.on = true ∧ (hasDst l e.on = true → F e.on (s (dstAt l e.on)) w)) →
    ∀ K : Act → World → Prop, (∀ d, o.dst = some d → ∀ v w', R w w' → G (upd L i true) (upd s d v) w' → F i v w' → K ⟨fr.setIfInBounds d v, df⟩ w') → (o.dst = none → ∀ w', R w w' → G (upd L i true) s w' → K ⟨fr, df⟩ w') →
      if Region.wanted o (yielded l.toArray fr) = true then Oper.wp P o ⟨fr, df⟩ w K Q else K ((⟨fr, df⟩ : Act).put o.dst undef) w

theorem FactStep2.steps {P : Program} {Q : Exit → Act → World → Prop} {FR : Array Value} {df : List Deferred} {ds : List Nat} {l : List Oper} {R : World → World → Prop} {G : (Nat → Bool) → (Nat → Value) → World → Prop} {F : Nat → Value → World → Prop}
    (hmono : ∀ j v w w', R w w' → F j v w → F j v w') (hback : backOk l = true) (hd : dstsOk2 l ds = true) (hds : ∀ d ∈ ds, d < FR.size)
    (T : ∀ i o, l[i]? = some o → FactStep2 P Q FR df ds l R G F i o) :
    ∀ i o, l[i]? = some o → SlotStep P l.toArray Q FR df ds (fun L s w => G L s w ∧ ∀ j, j < l.length → L j = true → hasDst l j = true → F j (s (dstAt l j)) w) i o := by
  intro i o ho L s w hL haft hI K hK
  have hlt : i < l.length := (List.getElem?_eq_some_iff.1 ho).1
  simp only [dstsOk2, Bool.and_eq_true] at hd
  obtain ⟨hd1, hd2⟩ := hd
  have hdo := List.all_eq_true.1 hd1 o (List.mem_of_getElem? ho)
  refine T i o ho L s _ w (fun d hd => by rw [frameOf_get, if_pos ⟨hd, hds d hd⟩]) (fun k hk => by rw [frameOf_get, if_neg (fun h => hk h.1)]) hL hI.1 ?_ K ?_ ?_
  · intro e he hb
    have hLe := haft e (by simpa using he) hb
    refine ⟨hLe, hI.2 e.on ?_ hLe⟩
    have h1 := List.all_eq_true.1 hback (o, i) (by rw [List.mem_zipIdx_iff_getElem?]; exact ho)
    have h2 := Array.all_eq_true_iff_forall_mem.1 h1 e (by simpa using he)
    have h3 : e.on < i := by simpa [hb] using h2
    omega
  · intro d hdd v w' hR hG hF
    rw [hdd] at hdo
    have hmem : d ∈ ds := by simpa using hdo
    have hdi : dstAt l i = d := by simp [dstAt, ho, hdd]
    rw [frameOf_put hmem]
    refine hK _ _ ⟨hG, fun j hj hLj hhas => ?_⟩
    by_cases hji : j = i
    · subst hji; rw [hdi]; simpa [upd] using hF
    · have hLj' : L j = true := by simpa [upd, hji] using hLj
      have hoj : l[j]? = some l[j] := List.getElem?_eq_getElem hj
      have hne : dstAt l j ≠ d := by
        intro he
        have h1 := List.all_eq_true.1 hd2 (o, i) (by rw [List.mem_zipIdx_iff_getElem?]; exact ho)
        have h2 := List.all_eq_true.1 h1 (l[j], j) (by rw [List.mem_zipIdx_iff_getElem?]; exact hoj)
        cases hh : l[j].dst with
        | none => simp [hasDst, hoj, hh] at hhas
        | some d' =>
          have : d' = d := by simpa [dstAt, hoj, hh] using he
          subst this
          simp [hdd, hh, Ne.symm hji] at h2
      have := hmono j _ w w' hR (hI.2 j hj hLj' hhas)
      simpa [upd, hne] using this
  · intro hdd w' hR hG
    refine hK _ _ ⟨hG, fun j hj hLj hhas => ?_⟩
    by_cases hji : j = i
    · subst hji
      simp [hasDst, ho, hdd] at hhas
    · have hLj' : L j = true := by simpa [upd, hji] using hLj
      exact hmono j _ w w' hR (hI.2 j hj hLj' hhas)

theorem wp_region_facts2 {P : Program} {id : Nat} {l : List Oper} {Q : Exit → Act → World → Prop} {FR : Array Value} {df : List Deferred} {w : World}
    (ds : List Nat) (R : World → World → Prop) (G : (Nat → Bool) → (Nat → Value) → World → Prop) (F : Nat → Value → World → Prop) (hm : P.follows .mixedOrders = true) (hback : backOk l = true) (hd : dstsOk2 l ds = true) (hds : ∀ d ∈ ds, d < FR.size)
    (hmono : ∀ j v w w', R w w' → F j v w → F j v w') (start : G (fun _ => false) (fun d => FR.getD d undef) w.drew)
    (steps : StepsFrom (FactStep2 P Q FR df ds l R G F) 0 l)
    (fin : ∀ (L : Nat → Bool) (s : Nat → Value) (w : World), (∀ i, i < l.length → L i = true) → G L s w → (∀ j, j < l.length → hasDst l j = true → F j (s (dstAt l j)) w) → Q .normal ⟨frameOf FR ds s, df⟩ w) : (Code.region id l.toArray true).wp P Q ⟨FR, df⟩ w := by
  have hT := FactStep2.steps hmono hback hd hds (fun i o ho => by have := steps.get i o ho; rwa [Nat.zero_add] at this)
  refine wp_region_slots ds (fun L s w => G L s w ∧ ∀ j, j < l.length → L j = true → hasDst l j = true → F j (s (dstAt l j)) w) hm hback ⟨start, fun _ _ h => by cases h⟩ ?_ ?_
  · have : ∀ (k : Nat) (t : List Oper), t = l.drop k → StepsFrom (SlotStep P l.toArray Q FR df ds (fun L s w => G L s w ∧ ∀ j, j < l.length → L j = true → hasDst l j = true → F j (s (dstAt l j)) w)) k t := by
      intro k t
      induction t generalizing k with
      | nil => intro _; trivial
      | cons o t ih =>
        intro ht
        have hk : l[k]? = some o := by
          have h : (l.drop k)[0]? = some o := by rw [← ht]; rfl
          simpa [List.getElem?_drop] using h
        refine ⟨hT k o hk, ih (k + 1) ?_⟩
        have h : l.drop (k + 1) = (l.drop k).drop 1 := by rw [List.drop_drop]
        rw [h, ← ht]; rfl
    exact this 0 l (by simp)
  · intro L s w hL hI
    exact fin L s w hL hI.1 fun j hj => hI.2 j hj (hL j hj)
end Go.Proofs.Ytagcdpnbkfoeaaa
