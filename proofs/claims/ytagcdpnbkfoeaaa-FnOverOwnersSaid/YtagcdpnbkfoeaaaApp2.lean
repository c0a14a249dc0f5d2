/- append onto a row of the call's own: only the row's own block changes, and the new row lies there or in the first new block. -/
import Derived.Test.YtagcdpnbkfoeaaaApp
namespace Go.Proofs.Ytagcdpnbkfoeaaa
open Go.RowKit
set_option linter.unusedVariables false

/-- The block of a slice's row, if it has one. -/
def Blk (A : Option Addr) (k : Nat) : Prop := ∃ o, A = some ⟨k, o, none⟩
section
variable {P : Program} (w : World)
theorem run_app2 (t ty e : TypeId) (i : TypeInfo) (z : Value) (sz bytes : Nat) (ht : P.underlying t = some (.slice e)) (hi : P.info? e = some i) (hz : i.zero = some z)
    (hsize : i.size = sz) (hby : i.bytes = bytes) (hzs : z.cells.size = sz) (hsz : 0 < sz)
    (lo up : Nat) (A : Option Addr) (n c : Nat) (cs : List Value) (hown : Own w lo up e sz A n c cs)
    (lo' up' : Nat) (A2 : Option Addr) (m c2 : Nat) (news : List Value) (hr : Row w lo' up' sz A2 m news) (h1 : ∀ u ∈ news, u.oneCell' = true)
    (hlen : n + m ≤ 100000000) (hb : bytes ≤ 1000) (hlo : lo ≤ w.heap.size) :
    ∃ A' c' w', (Builtin.append_ #[t, t] ty #[.slice A n c, .slice A2 m c2]).run P w = .ok (.slice A' (n + m) c') w' ∧ Own w' lo w'.heap.size e sz A' (n + m) c' (cs ++ news) ∧ Kp (Blk A) w w' ∧ (∀ k, Blk A' k → Blk A k ∨ k = w.heap.size) := by
  have hblk : ∀ k, (Value.slice A n c).ownBlock = some k → Blk A k := by
    intro k hk
    rcases hown.1.2 with ⟨hv, _⟩ | ⟨g, cap, cur, hv, _⟩
    · injection hv with hA; rw [hA] at hk; simp [Value.ownBlock] at hk
    · injection hv with hA; subst hA
      simp [Value.ownBlock] at hk; subst hk; exact ⟨0, rfl⟩
  have fin : ∀ v' w', w'.ownsRow lo e sz v' (n + m) (cs ++ news) → w.grownBy w' (Value.slice A n c).ownBlock → (v'.ownBlock = (Value.slice A n c).ownBlock ∨ v'.ownBlock = some w.heap.size) →
      ∃ A' c', v' = .slice A' (n + m) c' ∧ Own w' lo w'.heap.size e sz A' (n + m) c' (cs ++ news) ∧ Kp (Blk A) w w' ∧ (∀ k, Blk A' k → Blk A k ∨ k = w.heap.size) := by
    intro v' w' ho hg hat
    have hk : Kp (Blk A) w w' := (Kp.refl _ _).grown hg fun k hk _ => hblk k hk
    rcases ho.2 with ⟨rfl, h0⟩ | ⟨g, cap, cur, rfl, _⟩
    · refine ⟨none, 0, by rw [h0], ?_, hk, ?_⟩
      · have := Own.of (A := none) (n := 0) (c := 0) (by rw [h0] at ho; exact ho)
        rw [h0]; exact this
      · rintro k ⟨o, h⟩; cases h
    · refine ⟨_, _, rfl, Own.of ho, hk, ?_⟩
      rintro k ⟨o, h⟩
      injection h with h
      injection h with h1 h2
      subst h1
      have hb : (Value.slice (some ⟨g, 0, none⟩) (n + m) cap).ownBlock = some g := rfl
      rcases hat with h | h
      · left; exact hblk g (by rw [← h, hb])
      · right; rw [hb] at h; injection h
  rcases A2 with _ | ad
  · have hm : m = 0 := by
      rcases Nat.eq_zero_or_pos m with h0 | h0
      · exact h0
      · obtain ⟨_, _, h, _⟩ := hr.2.2 h0
        cases h
    subst hm
    have hn : news = [] := List.eq_nil_of_length_eq_zero (by simpa using hr.1)
    subst hn
    obtain ⟨A', c', he, h2, h3, h4⟩ := fin (.slice A n c) w (by simpa using hown.1) (World.grownBy.refl w _) (.inl rfl)
    exact ⟨A', c', w, by rw [← he]; exact run_append_of_nil w lo t ty e i sz ht hi _ n cs hown.1 c2, h2, h3, h4⟩
  · have hcells : ∀ j u, news[j]? = some u → w.cell? (ad.add j) = some u := by
      intro j u hu
      rcases Nat.eq_zero_or_pos m with h0 | h0
      · subst h0
        have hn : news = [] := List.eq_nil_of_length_eq_zero (by simpa using hr.1)
        subst hn
        simp at hu
      · obtain ⟨b, off, h, _, _, hc⟩ := hr.2.2 h0
        injection h with h
        subst h
        rw [add_at]
        exact hc j u hu
    have hmul : (n + m) * bytes ≤ 140737488355328 := Nat.le_trans (Nat.mul_le_mul hlen hb) (by omega)
    obtain ⟨v', w', hrun, h2, h3, h5, h6⟩ := run_append_own_at (P := P) w lo t ty e i z sz bytes ht hi hz hsize hby hzs hsz (.slice A n c) n cs hown.1 ad m c2 news hr.1 hcells h1 (by unfold maxLen; omega) hmul hlo
    obtain ⟨A', c', rfl, h7, h8, h9⟩ := fin v' w' h2 h3 (by first | exact h5 | exact h6)
    exact ⟨A', c', w', hrun, h7, h8, h9⟩

theorem wpList_app2 {ops : Array Oper} {rest : List Oper} {o : Oper} {a : Act} {Q : Exit → Act → World → Prop} (hgd : Region.wanted o (yielded ops a.tmps) = true) (s x : Operand) (t : TypeId)
    (ho : o.op = .call { callee := .builtin .append, args := #[s, x], argTypes := #[t, t] })
    (e : TypeId) (i : TypeInfo) (z : Value) (sz bytes : Nat) (ht : P.underlying t = some (.slice e)) (hi : P.info? e = some i) (hz : i.zero = some z)
    (hsize : i.size = sz) (hby : i.bytes = bytes) (hzs : z.cells.size = sz) (hsz : 0 < sz)
    (lo up : Nat) (A : Option Addr) (n c : Nat) (cs : List Value) (hs : a.eval s = .slice A n c) (hown : Own w lo up e sz A n c cs)
    (lo' up' : Nat) (A2 : Option Addr) (m c2 : Nat) (news : List Value) (hx : a.eval x = .slice A2 m c2) (hr : Row w lo' up' sz A2 m news) (h1 : ∀ u ∈ news, u.oneCell' = true)
    (hlen : n + m ≤ 100000000) (hb : bytes ≤ 1000) (hlo : lo ≤ w.heap.size)
    (h : ∀ A' c' w', Own w' lo w'.heap.size e sz A' (n + m) c' (cs ++ news) → Kp (Blk A) w w' → (∀ k, Blk A' k → Blk A k ∨ k = w.heap.size) → wpList P ops Q rest (a.put o.dst (.slice A' (n + m) c')) w') : wpList P ops Q (o :: rest) a w :=
  wpList_step fun K hK => by
    rw [if_pos hgd]
    obtain ⟨A', c', w', hrun, h2, h3, h4⟩ := run_app2 (P := P) w t o.type e i z sz bytes ht hi hz hsize hby hzs hsz lo up A n c cs hown lo' up' A2 m c2 news hr h1 hlen hb hlo
    unfold Oper.wp execOp
    simp only [ho, resolve, invoke, builtin, Sem.run_bind, Sem.run_pure, Result.andThen_ok, List.map_toArray, List.map_cons, List.map_nil, hs, hx, hrun]
    exact hK _ _ (h A' c' w' h2 h3 h4)
end

/-- append of ints onto an own slice of ints. -/
theorem wpList_appI2 (w : World) {ops : Array Oper} {rest : List Oper} {o : Oper} {a : Act} {Q : Exit → Act → World → Prop} (hgd : Region.wanted o (yielded ops a.tmps) = true) (s x : Operand)
    (ho : o.op = .call { callee := .builtin .append, args := #[s, x], argTypes := #[22, 22] })
    (lo up : Nat) (A : Option Addr) (c : Nat) (xs : List Int) (hs : a.eval s = .slice A xs.length c) (hown : OwnI w lo up A c xs)
    (lo' up' : Nat) (A2 : Option Addr) (c2 : Nat) (ys : List Int) (hx : a.eval x = .slice A2 ys.length c2) (hr : Ints w lo' up' A2 ys)
    (hlen : xs.length + ys.length ≤ 100000000) (hlo : lo ≤ w.heap.size)
    (h : ∀ A' c' w', OwnI w' lo w'.heap.size A' c' (xs ++ ys) → Kp (Blk A) w w' → (∀ k, Blk A' k → Blk A k ∨ k = w.heap.size) → wpList Try.prog ops Q rest (a.put o.dst (.slice A' (xs.length + ys.length) c')) w') : wpList Try.prog ops Q (o :: rest) a w := by
  obtain ⟨i0, hi0, hz0, hz1, hz2⟩ := info_parts int_info
  refine wpList_app2 w hgd s x 22 ho 3 i0 (.int .i64 0) 1 8 Try.underlying22 hi0 hz0 hz1 hz2 rfl (by omega) lo up A xs.length c _ hs hown lo' up' A2 ys.length c2 _ hx hr (ints_one ys) hlen (by omega) hlo ?_
  intro A' c' w' h1 h2 h3
  refine h A' c' w' ?_ h2 h3
  unfold OwnI
  rw [List.map_append, List.length_append]
  exact h1
theorem Own.blk {w : World} {lo hi sz n c : Nat} {e : TypeId} {A : Option Addr} {cs : List Value} (h : Own w lo hi e sz A n c cs) {k : Nat} (hk : Blk A k) : lo ≤ k ∧ k < hi := by
  obtain ⟨o, rfl⟩ := hk
  rcases h.1.2 with ⟨hv, _⟩ | ⟨g, cap, cur, hv, hg, _⟩
  · injection hv with hA; cases hA
  · injection hv with hA; injection hA with hA; injection hA with h1 h2
    subst h1 h2
    exact ⟨hg, h.2.1 k rfl⟩
end Go.Proofs.Ytagcdpnbkfoeaaa
