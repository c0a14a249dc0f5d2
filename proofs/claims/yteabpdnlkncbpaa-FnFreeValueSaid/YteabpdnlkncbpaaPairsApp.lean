/- append and slices.Clone at slices of pairs. -/
import Derived.Test.YteabpdnlkncbpaaPairs
import Derived.Test.YteabpdnlkncbpaaApp
import Derived.WalkKit
import Derived.WalkSpells
import Derived.WalkLawsBesides
import Derived.Outline
namespace Go.Proofs.Yteabpdnlkncbpaa
open Go.RowKit
set_option linter.unusedVariables false

/-- append of pairs onto an own slice of pairs. -/
theorem wpList_appP (w : World) {ops : Array Oper} {rest : List Oper} {o : Oper} {a : Act} {Q : Exit → Act → World → Prop} (hgd : Region.wanted o (yielded ops a.tmps) = true) (s x : Operand)
    (ho : o.op = .call { callee := .builtin .append, args := #[s, x], argTypes := #[25, 25] })
    (lo up : Nat) (A : Option Addr) (c : Nat) (ps : List (Int × Int)) (hs : a.eval s = .slice A ps.length c) (hown : OwnP w lo up A c ps)
    (lo' up' : Nat) (A2 : Option Addr) (c2 : Nat) (qs : List (Int × Int)) (hx : a.eval x = .slice A2 qs.length c2) (hr : Prs w lo' up' A2 qs)
    (hlen : ps.length + qs.length ≤ 100000000) (hlo : lo ≤ w.heap.size)
    (h : ∀ A' c' w', OwnP w' lo w'.heap.size A' c' (ps ++ qs) → Kp (Rg lo up) w w' → wpList Try.prog ops Q rest (a.put o.dst (.slice A' (ps.length + qs.length) c')) w') : wpList Try.prog ops Q (o :: rest) a w := by
  obtain ⟨i0, hi0, hz0, hz1, hz2⟩ := info_parts pair_info
  refine wpList_app w hgd s x 25 ho 33 i0 (.agg #[.int .i64 0, .int .i64 0]) 2 16 Try.underlying25 hi0 hz0 hz1 hz2 rfl (by omega) lo up A ps.length c _ hs hown lo' up' A2 qs.length c2 _ hx hr (flatP_one qs) hlen (by omega) hlo ?_
  intro A' c' w' h1 h2
  refine h A' c' w' ?_ h2
  unfold OwnP
  rw [flatP_app, List.length_append]
  exact h1
/-- The same as a step of a drawn region. -/
theorem step_appP (w : World) {ops : Array Oper} {o : Oper} {a : Act} {K : Act → World → Prop} {Q : Exit → Act → World → Prop} {E : Prop} (hgd : o.guard = none) (s x : Operand)
    (ho : o.op = .call { callee := .builtin .append, args := #[s, x], argTypes := #[25, 25] })
    (lo up : Nat) (A : Option Addr) (c : Nat) (ps : List (Int × Int)) (hs : a.eval s = .slice A ps.length c) (hown : OwnP w lo up A c ps)
    (lo' up' : Nat) (A2 : Option Addr) (c2 : Nat) (qs : List (Int × Int)) (hx : a.eval x = .slice A2 qs.length c2) (hr : Prs w lo' up' A2 qs)
    (hlen : ps.length + qs.length ≤ 100000000) (hlo : lo ≤ w.heap.size)
    (h : ∀ A' c' w', OwnP w' lo w'.heap.size A' c' (ps ++ qs) → Kp (Rg lo up) w w' → K (a.put o.dst (.slice A' (ps.length + qs.length) c')) w') :
    if Region.wanted o (yielded ops a.tmps) = true then Oper.wp Try.prog o a w K Q else E := by
  obtain ⟨i0, hi0, hz0, hz1, hz2⟩ := info_parts pair_info
  refine step_app w hgd s x 25 ho 33 i0 (.agg #[.int .i64 0, .int .i64 0]) 2 16 Try.underlying25 hi0 hz0 hz1 hz2 rfl (by omega) lo up A ps.length c _ hs hown lo' up' A2 qs.length c2 _ hx hr (flatP_one qs) hlen (by omega) hlo ?_
  intro A' c' w' h1 h2
  refine h A' c' w' ?_ h2
  unfold OwnP
  rw [flatP_app, List.length_append]
  exact h1

/-- A literal slice of pairs in a new block. -/
theorem ownP_lit (w : World) (lo : Nat) (cs : Array Value) (ps : List (Int × Int)) (h : cs.toList = flatP ps) (hlo : lo ≤ w.heap.size) (hl : ps.length ≤ 4000000) :
    OwnP (w.alloc (.cells cs 33)) lo (w.heap.size + 1) (some ⟨w.heap.size, 0, none⟩) ps.length ps := by
  have hs : cs.size = ps.length * 2 := by
    have := congrArg List.length h
    rw [flatP_len] at this
    simpa using this
  refine ⟨?_, fun g hg => by simp [Value.ownBlock] at hg; omega, by simp⟩
  rw [← h]
  exact World.ownsRow_lit w cs ps.length hlo (by unfold maxLen; omega) hs

theorem cloneP_any (A : Option Addr) (ps : List (Int × Int)) (c lo hi : Nat) (w : World) (h : Prs w lo hi A ps) (hs : ps.length ≤ 4000000) : Calls Try.prog 36 #[.slice A ps.length c] w (NewP w ps) := by
  rcases A with _ | ad
  · have hx : ps = [] := by
      rcases ps with _ | ⟨x, ps⟩
      · rfl
      · obtain ⟨_, _, _, _, hA, _⟩ := h.at_ (k := 0) (by simp)
        cases hA
    subst hx
    have e0 := fun W => Lib.run_eql_slice_nil (P := Try.prog) W 25 33 none 0 c 0 0 Try.underlying25
    go_enter Try.func36, Try.ntmps36
    go_wp2_with fail
    go_ret
    exact ⟨none, 0, rfl, Own.nil (Nat.le_refl _), Kp.refl _ _⟩
  · have e0 := fun W => Lib.run_eql_slice_nil (P := Try.prog) W 25 33 (some ad) ps.length c 0 0 Try.underlying25
    have o2 := ownP_lit w w.heap.size #[] [] rfl (Nat.le_refl _) (by simp)
    go_enter Try.func36, Try.ntmps36
    go_wp2_with (at_builtin; refine wpList_appP _ rfl _ _ rfl w.heap.size (w.heap.size + 1) _ 0 [] rfl o2 _ _ (some ad) c ps rfl (h.keepNo ((Kp.refl _ _).alloc _)) (by simp; omega) (by simp) ?_; intro A3 c3 w3 o3 k3)
    go_ret
    exact ⟨A3, c3, by simp, o3, ((Kp.refl No w).alloc _).also k3 (fun i hi e => by have := e.1; omega)⟩
end Go.Proofs.Yteabpdnlkncbpaa
