/- append onto a row of the call's own, the source nil, empty or not: in the words of Base. -/
import Derived.Test.YtagcdpnbkfoeaaaBase
import Derived.Maps.AppendAt
import Derived.Deep.AppendLies
import Derived.RegionTactic
import Derived.OwnWalk
namespace Go.Proofs.Ytagcdpnbkfoeaaa
open Go.RowKit

section
variable {P : Program} (w : World)

theorem run_append_of_nil (base : Nat) (t ty e : TypeId) (i : TypeInfo) (size : Nat) (ht : P.underlying t = some (.slice e)) (hi : P.info? e = some i)
    (v : Value) (n : Nat) (xs : List Value) (hown : w.ownsRow base e size v n xs) (c : Nat) : (Builtin.append_ #[t, t] ty #[v, .slice none 0 c]).run P w = .ok v w := by
  rcases hown.2 with ⟨rfl, rfl⟩ | ⟨g, cap, cur, rfl, _, _, hnc, _⟩
  · simp [Builtin.append_, run_underlying ht, sizeOf, typeInfo, hi, Builtin.lenOf, Builtin.firstCells]
  · simp [Builtin.append_, run_underlying ht, sizeOf, typeInfo, hi, Builtin.lenOf, Builtin.firstCells, hnc, storeCells]

theorem run_app (t ty e : TypeId) (i : TypeInfo) (z : Value) (sz bytes : Nat) (ht : P.underlying t = some (.slice e)) (hi : P.info? e = some i) (hz : i.zero = some z)
    (hsize : i.size = sz) (hby : i.bytes = bytes) (hzs : z.cells.size = sz) (hsz : 0 < sz)
    (lo up : Nat) (A : Option Addr) (n c : Nat) (cs : List Value) (hown : Own w lo up e sz A n c cs)
    (lo' up' : Nat) (A2 : Option Addr) (m c2 : Nat) (news : List Value) (hr : Row w lo' up' sz A2 m news) (h1 : ∀ u ∈ news, u.oneCell' = true)
    (hlen : n + m ≤ 100000000) (hb : bytes ≤ 1000) (hlo : lo ≤ w.heap.size) :
    ∃ A' c' w', (Builtin.append_ #[t, t] ty #[.slice A n c, .slice A2 m c2]).run P w = .ok (.slice A' (n + m) c') w' ∧ Own w' lo w'.heap.size e sz A' (n + m) c' (cs ++ news) ∧ Kp (Rg lo up) w w' := by
  have fin : ∀ v' w', w'.ownsRow lo e sz v' (n + m) (cs ++ news) → w.grownBy w' (Value.slice A n c).ownBlock →
      ∃ A' c', v' = .slice A' (n + m) c' ∧ Own w' lo w'.heap.size e sz A' (n + m) c' (cs ++ news) ∧ Kp (Rg lo up) w w' := by
    intro v' w' ho hg
    have hk : Kp (Rg lo up) w w' := (Kp.refl _ _).grown hg fun k hk _ => ⟨(hown.1.lt k hk).1, hown.2.1 k hk⟩
    rcases ho.2 with ⟨rfl, h0⟩ | ⟨g, cap, cur, rfl, _⟩
    · refine ⟨none, 0, by rw [h0], ?_, hk⟩
      have := Own.of (A := none) (n := 0) (c := 0) (by rw [h0] at ho; exact ho)
      rw [h0]; exact this
    · exact ⟨_, _, rfl, Own.of ho, hk⟩
  rcases A2 with _ | ad
  · have hm : m = 0 := by
      rcases Nat.eq_zero_or_pos m with h0 | h0
      · exact h0
      · obtain ⟨_, _, h, _⟩ := hr.2.2 h0
        cases h
    subst hm
    have hn : news = [] := List.eq_nil_of_length_eq_zero (by simpa using hr.1)
    subst hn
    obtain ⟨A', c', he, h2, h3⟩ := fin (.slice A n c) w (by simpa using hown.1) (World.grownBy.refl w _)
    exact ⟨A', c', w, by rw [← he]; exact run_append_of_nil w lo t ty e i sz ht hi _ n cs hown.1 c2, h2, h3⟩
  · have hcells : ∀ j u, news[j]? = some u → w.cell? (ad.add j) = some u := by
      intro j u hu
      rcases Nat.eq_zero_or_pos m with h0 | h0
      · subst h0
        have hn : news = [] := List.eq_nil_of_length_eq_zero (by simpa using hr.1)
        subst hn
        simp at hu
      · obtain ⟨b, off, h, _, _, hc⟩ := hr.2.2 h0
        injection h with h
        subst h
        rw [add_at]
        exact hc j u hu
    have hmul : (n + m) * bytes ≤ 140737488355328 := Nat.le_trans (Nat.mul_le_mul hlen hb) (by omega)
    obtain ⟨v', w', hrun, h2, h3, _, _⟩ := run_append_own_at (P := P) w lo t ty e i z sz bytes ht hi hz hsize hby hzs hsz (.slice A n c) n cs hown.1 ad m c2 news hr.1 hcells h1 (by unfold maxLen; omega) hmul hlo
    obtain ⟨A', c', rfl, h4, h5⟩ := fin v' w' h2 h3
    exact ⟨A', c', w', hrun, h4, h5⟩

theorem wp_app {o : Oper} {a : Act} {K : Act → World → Prop} {Q : Exit → Act → World → Prop} (s x : Operand) (t : TypeId)
    (ho : o.op = .call { callee := .builtin .append, args := #[s, x], argTypes := #[t, t] })
    (e : TypeId) (i : TypeInfo) (z : Value) (sz bytes : Nat) (ht : P.underlying t = some (.slice e)) (hi : P.info? e = some i) (hz : i.zero = some z)
    (hsize : i.size = sz) (hby : i.bytes = bytes) (hzs : z.cells.size = sz) (hsz : 0 < sz)
    (lo up : Nat) (A : Option Addr) (n c : Nat) (cs : List Value) (hs : a.eval s = .slice A n c) (hown : Own w lo up e sz A n c cs)
    (lo' up' : Nat) (A2 : Option Addr) (m c2 : Nat) (news : List Value) (hx : a.eval x = .slice A2 m c2) (hr : Row w lo' up' sz A2 m news) (h1 : ∀ u ∈ news, u.oneCell' = true)
    (hlen : n + m ≤ 100000000) (hb : bytes ≤ 1000) (hlo : lo ≤ w.heap.size)
    (h : ∀ A' c' w', Own w' lo w'.heap.size e sz A' (n + m) c' (cs ++ news) → Kp (Rg lo up) w w' → K (a.put o.dst (.slice A' (n + m) c')) w') : o.wp P a w K Q := by
  obtain ⟨A', c', w', hrun, h2, h3⟩ := run_app (P := P) w t o.type e i z sz bytes ht hi hz hsize hby hzs hsz lo up A n c cs hown lo' up' A2 m c2 news hr h1 hlen hb hlo
  unfold Oper.wp execOp
  simp only [ho, resolve, invoke, builtin, Sem.run_bind, Sem.run_pure, Result.andThen_ok, List.map_toArray, List.map_cons, List.map_nil, hs, hx, hrun]
  exact h A' c' w' h2 h3

theorem wpList_app {ops : Array Oper} {rest : List Oper} {o : Oper} {a : Act} {Q : Exit → Act → World → Prop} (hgd : Region.wanted o (yielded ops a.tmps) = true) (s x : Operand) (t : TypeId)
    (ho : o.op = .call { callee := .builtin .append, args := #[s, x], argTypes := #[t, t] })
    (e : TypeId) (i : TypeInfo) (z : Value) (sz bytes : Nat) (ht : P.underlying t = some (.slice e)) (hi : P.info? e = some i) (hz : i.zero = some z)
    (hsize : i.size = sz) (hby : i.bytes = bytes) (hzs : z.cells.size = sz) (hsz : 0 < sz)
    (lo up : Nat) (A : Option Addr) (n c : Nat) (cs : List Value) (hs : a.eval s = .slice A n c) (hown : Own w lo up e sz A n c cs)
    (lo' up' : Nat) (A2 : Option Addr) (m c2 : Nat) (news : List Value) (hx : a.eval x = .slice A2 m c2) (hr : Row w lo' up' sz A2 m news) (h1 : ∀ u ∈ news, u.oneCell' = true)
    (hlen : n + m ≤ 100000000) (hb : bytes ≤ 1000) (hlo : lo ≤ w.heap.size)
    (h : ∀ A' c' w', Own w' lo w'.heap.size e sz A' (n + m) c' (cs ++ news) → Kp (Rg lo up) w w' → wpList P ops Q rest (a.put o.dst (.slice A' (n + m) c')) w') : wpList P ops Q (o :: rest) a w :=
  wpList_step fun K hK => by
    rw [if_pos hgd]
    exact wp_app w s x t ho e i z sz bytes ht hi hz hsize hby hzs hsz lo up A n c cs hs hown lo' up' A2 m c2 news hx hr h1 hlen hb hlo fun A' c' w' h2 h3 => hK _ _ (h A' c' w' h2 h3)

theorem step_app {ops : Array Oper} {o : Oper} {a : Act} {K : Act → World → Prop} {Q : Exit → Act → World → Prop} {E : Prop} (hgd : o.guard = none) (s x : Operand) (t : TypeId)
    (ho : o.op = .call { callee := .builtin .append, args := #[s, x], argTypes := #[t, t] })
    (e : TypeId) (i : TypeInfo) (z : Value) (sz bytes : Nat) (ht : P.underlying t = some (.slice e)) (hi : P.info? e = some i) (hz : i.zero = some z)
    (hsize : i.size = sz) (hby : i.bytes = bytes) (hzs : z.cells.size = sz) (hsz : 0 < sz)
    (lo up : Nat) (A : Option Addr) (n c : Nat) (cs : List Value) (hs : a.eval s = .slice A n c) (hown : Own w lo up e sz A n c cs)
    (lo' up' : Nat) (A2 : Option Addr) (m c2 : Nat) (news : List Value) (hx : a.eval x = .slice A2 m c2) (hr : Row w lo' up' sz A2 m news) (h1 : ∀ u ∈ news, u.oneCell' = true)
    (hlen : n + m ≤ 100000000) (hb : bytes ≤ 1000) (hlo : lo ≤ w.heap.size)
    (h : ∀ A' c' w', Own w' lo w'.heap.size e sz A' (n + m) c' (cs ++ news) → Kp (Rg lo up) w w' → K (a.put o.dst (.slice A' (n + m) c')) w') :
    if Region.wanted o (yielded ops a.tmps) = true then Oper.wp P o a w K Q else E := by
  have hw : Region.wanted o (yielded ops a.tmps) = true := by simp [Region.wanted, hgd]
  rw [if_pos hw]
  exact wp_app w s x t ho e i z sz bytes ht hi hz hsize hby hzs hsz lo up A n c cs hs hown lo' up' A2 m c2 news hx hr h1 hlen hb hlo h
end

theorem ints_one (xs : List Int) : ∀ u ∈ xs.map (Value.int .i64), u.oneCell' = true := by
  intro u hu; obtain ⟨x, _, rfl⟩ := List.mem_map.1 hu; rfl

/-- append of ints onto an own slice of ints. -/
theorem wpList_appI (w : World) {ops : Array Oper} {rest : List Oper} {o : Oper} {a : Act} {Q : Exit → Act → World → Prop} (hgd : Region.wanted o (yielded ops a.tmps) = true) (s x : Operand)
    (ho : o.op = .call { callee := .builtin .append, args := #[s, x], argTypes := #[22, 22] })
    (lo up : Nat) (A : Option Addr) (c : Nat) (xs : List Int) (hs : a.eval s = .slice A xs.length c) (hown : OwnI w lo up A c xs)
    (lo' up' : Nat) (A2 : Option Addr) (c2 : Nat) (ys : List Int) (hx : a.eval x = .slice A2 ys.length c2) (hr : Ints w lo' up' A2 ys)
    (hlen : xs.length + ys.length ≤ 100000000) (hlo : lo ≤ w.heap.size)
    (h : ∀ A' c' w', OwnI w' lo w'.heap.size A' c' (xs ++ ys) → Kp (Rg lo up) w w' → wpList Try.prog ops Q rest (a.put o.dst (.slice A' (xs.length + ys.length) c')) w') : wpList Try.prog ops Q (o :: rest) a w := by
  obtain ⟨i0, hi0, hz0, hz1, hz2⟩ := info_parts int_info
  refine wpList_app w hgd s x 22 ho 3 i0 (.int .i64 0) 1 8 Try.underlying22 hi0 hz0 hz1 hz2 rfl (by omega) lo up A xs.length c _ hs hown lo' up' A2 ys.length c2 _ hx hr (ints_one ys) hlen (by omega) hlo ?_
  intro A' c' w' h1 h2
  refine h A' c' w' ?_ h2
  unfold OwnI
  rw [List.map_append, List.length_append]
  exact h1
/-- One number in a new block, as the source of an append. -/
theorem ints_lit (w : World) (x : Int) (t : TypeId) : Ints (w.alloc (.cells #[.int .i64 x] t)) w.heap.size (w.heap.size + 1) (some ⟨w.heap.size, 0, none⟩) [x] := by
  refine ⟨rfl, by simp, fun _ => ⟨_, 0, rfl, Nat.le_refl _, by omega, fun j u hj => ?_⟩⟩
  match j, hj with
  | 0, hj => simp at hj; subst hj; simp

end Go.Proofs.Ytagcdpnbkfoeaaa
