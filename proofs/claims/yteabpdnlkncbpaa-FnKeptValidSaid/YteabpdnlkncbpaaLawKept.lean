/- The walk of the law FnKeptValid. -/
import Derived.Test.YteabpdnlkncbpaaDrawKept
import Derived.WalkKit
import Derived.WalkSpells
import Derived.WalkLawsBesides
import Derived.Outline
namespace Go.Proofs.Yteabpdnlkncbpaa
open Go.RowKit
set_option linter.unusedVariables false

/-- A slice of pairs, its first pair cut off: the row that is left. -/
theorem Prs.tail {w : World} {lo hi b off : Nat} {p : Int × Int} {ps : List (Int × Int)} (h : Prs w lo hi (some ⟨b, off, none⟩) (p :: ps)) : Prs w lo hi (some ⟨b, off + 2, none⟩) ps := by
  obtain ⟨h1, h2, h3⟩ := h
  refine ⟨flatP_len _, h2, fun hn => ?_⟩
  obtain ⟨b', off', e, g1, g2, g3⟩ := h3 (by simp)
  injection e with e
  injection e with e1 e2
  subst e1 e2
  refine ⟨_, _, rfl, g1, g2, fun j u hu => ?_⟩
  have := g3 (j + 2) u (by simpa [flatP] using hu)
  rwa [show off + 2 + j = off + (j + 2) by omega]
theorem keptImpl_n (A : Option Addr) (ps : List (Int × Int)) (n c lo hi : Nat) (w : World) (h : Prs w lo hi A ps) (hs : ps.length ≤ 4000000) (hn : n = ps.length) : Calls Try.prog 14 #[.slice A n c] w
    fun e w' => e = .returned (.bool (keptB ps)) ∧ Kp No w w' := by
  subst hn
  exact keptValid_impl A ps c lo hi w h hs
theorem Prs.none {w : World} {lo hi : Nat} {A : Option Addr} (h : hi ≤ w.heap.size) : Prs w lo hi A [] := Row.empty h

set_option maxHeartbeats 4000000 in
theorem walk_FnKeptValid {w : World} (A : Option Addr) (zs : List Int) (c : Nat) (h : Byts w A zs) (hcap : zs.length ≤ c) :
    Calls Try.prog 4 #[.slice A zs.length c] w fun e w' => e = .returned (.bool true) ∧ Kp No w w' := by
  go_enter Try.func4, Try.ntmps4
  by_cases hl : 1048576 < zs.length
  · go_wp2_with fail
    go_ret
    exact ⟨rfl, Kp.refl _ _⟩
  · go_wp2_with fail
    refine (drawKeptValid _ _ _ _ h hcap (by omega)).mono ?_
    rintro e w1 ⟨A1, c1, ps, rfl, o1, l1, k1⟩
    clear h hcap
    have hbb : (keptB ps != keptB ps) = false := by simp
    go_wp2_with fail
    refine (keptValid_impl _ _ _ _ _ _ o1.prs (by omega)).mono ?_
    rintro e w2 ⟨rfl, k2⟩
    go_wp2_with fail
    refine (keptValid_spec _ _ _ _ _ _ (o1.keepNo k2).prs (by omega)).mono ?_
    rintro e w3 ⟨rfl, k3⟩
    have o3 := (o1.keepNo k2).keepNo k3
    have k13 := (k1.trans k2).trans k3
    clear o1 k1 k2 k3
    cases hv : keptB ps
    · rw [hv] at hbb
      go_wp2_with fail
      refine (alive_ _).mono ?_
      rintro e w' ⟨rfl, rfl⟩
      go_wp2_with fail
      go_ret
      exact ⟨rfl, k13⟩
    · rcases ps with _ | ⟨⟨x, y⟩, ps⟩
      · go_wp2_with fail
        refine (alive_ _).mono ?_
        rintro e w' ⟨rfl, rfl⟩
        go_wp2_with fail
        go_ret
        exact ⟨rfl, k13⟩
      · have Ht := Lib.hid (kept_tail hv)
        have H2 := Lib.hid (kept_twice (x, y) ps)
        have hlen := keptB_len hv
        simp only [List.length_cons] at hlen
        rw [hv] at hbb
        have hcp := o3.cap
        simp only [List.length_cons] at hcp
        obtain ⟨g, rfl, hg1, hg2⟩ := Own.form o3 (by simp)
        have hnz : (((ps.length + 1 : Nat) : Int) == 0) = false := beq_eq_false_iff_ne.2 (by omega)
        have hnz2 : (((ps.length : Int) + 1) == 0) = false := beq_eq_false_iff_ne.2 (by omega)
        clear hv
        simp only [List.length_cons]
        by_cases hc1 : c1 = 1
        · subst hc1
          obtain rfl : ps = [] := List.eq_nil_of_length_eq_zero (by omega)
          go_wp2_with fail
          refine (keptValid_impl _ [] _ 0 w3.heap.size _ (Prs.none (Nat.le_refl _)) (by simp)).mono ?_
          rintro e w4 ⟨rfl, k4⟩
          rw [Ht.out]
          have o4 := o3.keepNo k4
          obtain ⟨g', x', y', hA, _, _, hx', e0, e1, _, _⟩ := o4.at_ (k := 0) (by simp)
          obtain rfl : g = g' := by injection hA with hA; injection hA
          obtain ⟨rfl, rfl⟩ : x = x' ∧ y = y' := by simpa using hx'
          simp only [Nat.zero_mul, Nat.zero_add] at e0 e1
          clear hA hx'
          have on := ownP_lit w4 w4.heap.size #[.int .i64 x, .int .i64 y] [(x, y)] rfl (Nat.le_refl _) (by simp)
          go_wp2_with (at_builtin; refine wpList_appP _ rfl _ _ rfl w4.heap.size (w4.heap.size + 1) _ _ [(x, y)] rfl on _ _ _ _ ((x, y) :: []) rfl (o4.prs.keepNo ((Kp.refl _ _).alloc _)) (by simp <;> omega) (by simp) ?_; intro A7 c7 w7 o7 k7)
          refine (keptImpl_n _ ([(x, y)] ++ (x, y) :: []) _ _ _ _ _ o7.prs (by simp <;> omega) (by simp <;> omega)).mono ?_
          rintro e w8 ⟨rfl, k8⟩
          rw [show keptB ([(x, y)] ++ (x, y) :: []) = false from H2.out]
          go_wp2_with fail
          go_ret
          exact ⟨rfl, (((k13.trans k4).alloc _).also k7 (fun i hi e => by have := e.1; have := k13.size; have := k4.size; omega)).trans k8⟩
        · go_wp2_with fail
          refine (keptValid_impl _ ps _ _ _ _ o3.prs.tail (by omega)).mono ?_
          rintro e w4 ⟨rfl, k4⟩
          rw [Ht.out]
          have o4 := o3.keepNo k4
          obtain ⟨g', x', y', hA, _, _, hx', e0, e1, _, _⟩ := o4.at_ (k := 0) (by simp)
          obtain rfl : g = g' := by injection hA with hA; injection hA
          obtain ⟨rfl, rfl⟩ : x = x' ∧ y = y' := by simpa using hx'
          simp only [Nat.zero_mul, Nat.zero_add] at e0 e1
          clear hA hx'
          have on := ownP_lit w4 w4.heap.size #[.int .i64 x, .int .i64 y] [(x, y)] rfl (Nat.le_refl _) (by simp)
          go_wp2_with (at_builtin; refine wpList_appP _ rfl _ _ rfl w4.heap.size (w4.heap.size + 1) _ _ [(x, y)] rfl on _ _ _ _ ((x, y) :: ps) rfl (o4.prs.keepNo ((Kp.refl _ _).alloc _)) (by simp <;> omega) (by simp) ?_; intro A7 c7 w7 o7 k7)
          refine (keptImpl_n _ ([(x, y)] ++ (x, y) :: ps) _ _ _ _ _ o7.prs (by simp <;> omega) (by simp <;> omega)).mono ?_
          rintro e w8 ⟨rfl, k8⟩
          rw [show keptB ([(x, y)] ++ (x, y) :: ps) = false from H2.out]
          go_wp2_with fail
          go_ret
          exact ⟨rfl, (((k13.trans k4).alloc _).also k7 (fun i hi e => by have := e.1; have := k13.size; have := k4.size; omega)).trans k8⟩
end Go.Proofs.Yteabpdnlkncbpaa
