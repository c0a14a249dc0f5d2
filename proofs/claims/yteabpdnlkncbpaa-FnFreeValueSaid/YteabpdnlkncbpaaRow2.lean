/- A block that is known whole: append, copy and clear in place; no program is named here. -/
import Derived.Test.YteabpdnlkncbpaaPairsApp
import Derived.Laws.CopyRow
import Derived.Laws.Cells
import Derived.Lib.SliceRun
namespace Go.Proofs.Yteabpdnlkncbpaa
open Go.RowKit
set_option linter.unusedVariables false

/-- Block g holds just the cells cs. -/
def Full (w : World) (g : Nat) (e : TypeId) (cs : List Value) : Prop := w.heap[g]? = some (.cells cs.toArray e (0, 0))
theorem Full.of_own {w : World} {lo hi sz n c g : Nat} {e : TypeId} {cs : List Value} (h : Own w lo hi e sz (some ⟨g, 0, none⟩) n c cs) : ∃ all, Full w g e all ∧ all.length = c * sz ∧ all.take (n * sz) = cs ∧ n ≤ c ∧ c ≤ maxLen ∧ lo ≤ g ∧ g < hi ∧ hi ≤ w.heap.size := by
  rcases h.1.2 with ⟨hv, _⟩ | ⟨g', cap, cur, hv, hg, hh, h1, h2, h3, h4⟩
  · injection hv with hA; cases hA
  · injection hv with hA _ hc
    injection hA with hA
    injection hA with hA
    subst hA hc
    exact ⟨cur.toList, by simpa [Full] using hh, by simpa using h3, h4, h1, h2, hg, h.2.1 g rfl, h.2.2⟩
theorem Own.of_full {w : World} {lo hi sz n c g : Nat} {e : TypeId} {all : List Value} (h : Full w g e all) (hl : all.length = c * sz) (hn : n ≤ c) (hc : c ≤ maxLen) (h1 : lo ≤ g) (h2 : g < hi) (h3 : hi ≤ w.heap.size) : Own w lo hi e sz (some ⟨g, 0, none⟩) n c (all.take (n * sz)) := by
  refine ⟨⟨?_, .inr ⟨g, c, all.toArray, rfl, h1, h, hn, hc, by simpa using hl, by simp⟩⟩, fun k hk => ?_, h3⟩
  · have := Nat.mul_le_mul_right sz hn
    simp; omega
  · have : k = g := by simpa [Value.ownBlock] using hk.symm
    omega
theorem Full.cell {w : World} {g : Nat} {e : TypeId} {all : List Value} (h : Full w g e all) {j : Nat} {u : Value} (hj : all[j]? = some u) : w.cell? ⟨g, j, none⟩ = some u := by
  rw [cell_of_row w g j _ _ _ h]; simpa using hj
theorem Full.set {w : World} {g : Nat} {e : TypeId} {all : List Value} (h : Full w g e all) (new : List Value) : Full (w.setRow g new.toArray) g e new := setRow_heap w g _ _ _ _ h
theorem size_setRow (w : World) (g : Nat) (cs : Array Value) : (w.setRow g cs).heap.size = w.heap.size := by simp [World.setRow]
theorem Kp.setRow (w : World) (g : Nat) (cs : Array Value) : Kp (At g) w (w.setRow g cs) :=
  ⟨rfl, rfl, rfl, by rw [size_setRow]; exact Nat.le_refl _, fun i _ hn => setRow_other w g i cs (fun e => hn e)⟩
theorem Full.drew {w : World} {g : Nat} {e : TypeId} {all : List Value} (h : Full w g e all) : Full w.drew g e all := h
theorem Full.keep {w w' : World} {g : Nat} {e : TypeId} {all : List Value} {S : Nat → Prop} (h : Full w g e all) (k : Kp S w w') (hn : ¬ S g) : Full w' g e all := by
  have hlt : g < w.heap.size := (Array.getElem?_eq_some_iff.1 h).1
  unfold Full at *
  rw [k.block g hlt hn]; exact h

section
variable {P : Program} (w : World)
theorem run_append_in (t ty e : TypeId) (i0 : TypeInfo) (sz : Nat) (ht : P.underlying t = some (.slice e)) (hi : P.info? e = some i0) (hsize : i0.size = sz) (g i c m c2 : Nat) (ad : Addr) (all news : List Value)
    (hF : Full w g e all) (hl : all.length = c * sz) (hnl : news.length = m * sz) (hn : ∀ j u, news[j]? = some u → w.cell? (ad.add j) = some u) (h1 : ∀ u ∈ news, u.oneCell' = true) (hfit : i + m ≤ c) :
    (Builtin.append_ #[t, t] ty #[.slice (some ⟨g, 0, none⟩) i c, .slice (some ad) m c2]).run P w = .ok (.slice (some ⟨g, 0, none⟩) (i + m) c) (w.setRow g (all.take (i * sz) ++ news ++ all.drop (i * sz + news.length)).toArray) := by
  have hld := run_loadCells_list (P := P) w ad news hn
  rw [hnl] at hld
  have hb : i * sz + news.length ≤ all.toArray.size := by
    rw [hnl, ← Nat.add_mul]
    simp only [List.size_toArray, hl]
    exact Nat.mul_le_mul_right sz hfit
  have hst := run_storeCells_at P g (i * sz) e news 0 all.toArray w hF (by simpa using hb) h1
  simp only [Nat.add_zero] at hst
  have ha : (⟨g, 0, none⟩ : Addr).add (i * sz) = ⟨g, i * sz, none⟩ := by rw [add_at]; simp
  subst hsize
  simp [Builtin.append_, run_underlying ht, sizeOf, typeInfo, hi, Builtin.lenOf, Builtin.firstCells, hfit, hld, ha, hst]
theorem run_copy_in (t ty e : TypeId) (i0 : TypeInfo) (sz : Nat) (ht : P.underlying t = some (.slice e)) (hi : P.info? e = some i0) (hsize : i0.size = sz) (g o dLen dCap sLen sCap : Nat) (ad : Addr) (all news : List Value)
    (hF : Full w g e all) (hnl : news.length = Nat.min sLen dLen * sz) (hn : ∀ j u, news[j]? = some u → w.cell? (ad.add j) = some u) (h1 : ∀ u ∈ news, u.oneCell' = true) (hfit : o + news.length ≤ all.length) :
    (Builtin.copy_ #[t, t] ty #[.slice (some ⟨g, o, none⟩) dLen dCap, .slice (some ad) sLen sCap]).run P w = .ok (goInt (Nat.min sLen dLen)) (w.setRow g (all.take o ++ news ++ all.drop (o + news.length)).toArray) := by
  have hld := run_loadCells_list (P := P) w ad news hn
  rw [hnl] at hld
  have hst := run_storeCells_at P g o e news 0 all.toArray w hF (by simpa using hfit) h1
  simp only [Nat.add_zero] at hst
  subst hsize
  simp [Builtin.copy_, run_underlying ht, Builtin.lenOf, Builtin.firstCells, sizeOf, typeInfo, hi, hld, hst]
theorem run_clear_in (t ty e : TypeId) (z : Value) (zs : List Value) (ht : P.underlying t = some (.slice e)) (hz : ∀ w, (zeroValue e).run P w = .ok z w) (g o n c : Nat) (hn : 0 < n) (all : List Value)
    (hF : Full w g e all) (hzs : (Builtin.zeroCells z.cells n).toList = zs) (h1 : ∀ u ∈ zs, u.oneCell' = true) (hfit : o + zs.length ≤ all.length) :
    (Builtin.clear_ #[t] ty #[.slice (some ⟨g, o, none⟩) n c]).run P w = .ok (.tuple #[]) (w.setRow g (all.take o ++ zs ++ all.drop (o + zs.length)).toArray) := by
  have hst := run_storeCells_at P g o e zs 0 all.toArray w hF (by simpa using hfit) h1
  simp only [Nat.add_zero] at hst
  obtain ⟨m, rfl⟩ : ∃ m, n = m + 1 := ⟨n - 1, by omega⟩
  simp [Builtin.clear_, run_underlying ht, hz, hzs, hst]
theorem step_app_run {ops : Array Oper} {o : Oper} {a : Act} {K : Act → World → Prop} {Q : Exit → Act → World → Prop} {E : Prop} (hgd : o.guard = none) (s x : Operand) (t : TypeId)
    (ho : o.op = .call { callee := .builtin .append, args := #[s, x], argTypes := #[t, t] }) (v u : Value) (hs : a.eval s = v) (hx : a.eval x = u) {v' : Value} {w' : World}
    (hr : (Builtin.append_ #[t, t] o.type #[v, u]).run P w = .ok v' w') (h : K (a.put o.dst v') w') :
    if Region.wanted o (yielded ops a.tmps) = true then Oper.wp P o a w K Q else E := by
  have hw : Region.wanted o (yielded ops a.tmps) = true := by simp [Region.wanted, hgd]
  rw [if_pos hw]
  unfold Oper.wp execOp
  simp only [ho, resolve, invoke, builtin, Sem.run_bind, Sem.run_pure, Result.andThen_ok, List.map_toArray, List.map_cons, List.map_nil, hs, hx, hr]
  exact h
theorem step_copy_run {ops : Array Oper} {o : Oper} {a : Act} {K : Act → World → Prop} {Q : Exit → Act → World → Prop} {E : Prop} (hgd : o.guard = none) (s x : Operand) (t : TypeId)
    (ho : o.op = .call { callee := .builtin .copy, args := #[s, x], argTypes := #[t, t] }) (v u : Value) (hs : a.eval s = v) (hx : a.eval x = u) {v' : Value} {w' : World}
    (hr : (Builtin.copy_ #[t, t] o.type #[v, u]).run P w = .ok v' w') (h : K (a.put o.dst v') w') :
    if Region.wanted o (yielded ops a.tmps) = true then Oper.wp P o a w K Q else E := by
  have hw : Region.wanted o (yielded ops a.tmps) = true := by simp [Region.wanted, hgd]
  rw [if_pos hw]
  unfold Oper.wp execOp
  simp only [ho, resolve, invoke, builtin, Sem.run_bind, Sem.run_pure, Result.andThen_ok, List.map_toArray, List.map_cons, List.map_nil, hs, hx, hr]
  exact h
theorem wpList_copy_run {ops : Array Oper} {rest : List Oper} {o : Oper} {a : Act} {Q : Exit → Act → World → Prop} (hgd : Region.wanted o (yielded ops a.tmps) = true) (s x : Operand) (t : TypeId)
    (ho : o.op = .call { callee := .builtin .copy, args := #[s, x], argTypes := #[t, t] }) (v u : Value) (hs : a.eval s = v) (hx : a.eval x = u) {v' : Value} {w' : World}
    (hr : (Builtin.copy_ #[t, t] o.type #[v, u]).run P w = .ok v' w') (h : wpList P ops Q rest (a.put o.dst v') w') : wpList P ops Q (o :: rest) a w :=
  wpList_step fun K hK => by
    rw [if_pos hgd]
    unfold Oper.wp execOp
    simp only [ho, resolve, invoke, builtin, Sem.run_bind, Sem.run_pure, Result.andThen_ok, List.map_toArray, List.map_cons, List.map_nil, hs, hx, hr]
    exact hK _ _ h
theorem wpList_clear_run {ops : Array Oper} {rest : List Oper} {o : Oper} {a : Act} {Q : Exit → Act → World → Prop} (hgd : Region.wanted o (yielded ops a.tmps) = true) (s : Operand) (t : TypeId)
    (ho : o.op = .call { callee := .builtin .clear, args := #[s], argTypes := #[t] }) (v : Value) (hs : a.eval s = v) {v' : Value} {w' : World}
    (hr : (Builtin.clear_ #[t] o.type #[v]).run P w = .ok v' w') (h : wpList P ops Q rest (a.put o.dst v') w') : wpList P ops Q (o :: rest) a w :=
  wpList_step fun K hK => by
    rw [if_pos hgd]
    unfold Oper.wp execOp
    simp only [ho, resolve, invoke, builtin, Sem.run_bind, Sem.run_pure, Result.andThen_ok, List.map_toArray, List.map_cons, List.map_nil, hs, hr]
    exact hK _ _ h
end
end Go.Proofs.Yteabpdnlkncbpaa
