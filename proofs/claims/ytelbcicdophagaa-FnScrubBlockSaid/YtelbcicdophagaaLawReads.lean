/- DrawReadsValid, and the walk of the law FnReadsValid. -/
import Derived.Test.YtelbcicdophagaaDrawReads
import Derived.Test.YtelbcicdophagaaReads
import Derived.WalkKit
import Derived.WalkSpells
import Derived.WalkLawsBesides
import Derived.Outline
namespace Go.Proofs.Ytelbcicdophagaa
open Go.RowKit
set_option linter.unusedVariables false

/-- A draw by a reader that was made in the first new block. -/
theorem someI_of {L : Nat} {w w1 w2 : World} {e : Ending} {B : Nat} (k : Kp No w w1) (hz : w1.heap.size = w.heap.size + 1) (h : DrawI L w1 w.heap.size B e w2) : SomeI L w e w2 := by
  obtain ⟨A, c, xs, rfl, ho, hl, hr, hk⟩ := h
  exact ⟨A, c, xs, rfl, ho.wide (by omega) (Nat.le_refl _) (Nat.le_refl _), hl, k.also hk (fun i hi e => by simp only [At] at e; omega)⟩

theorem drawReadsValid (A : Option Addr) (zs : List Int) (c : Nat) (w : World) (h : Byts w A zs) (hcap : zs.length ≤ c) (hl : zs.length ≤ 4000000) :
    Calls Try.prog 15 #[.slice A zs.length c] w (SomeI 13 w) := by
  go_enter Try.func15, Try.ntmps15
  go_wp2_with fail
  refine (open_ _ _ _ _ h hcap hl).mono ?_
  rintro e w1 ⟨rfl, r1, k1, z1⟩
  go_wp2_with fail
  refine (l20Reads_ _ _ _ _ r1 (by omega) (by omega) (by omega)).mono ?_
  intro e w2 hd
  obtain ⟨A2, c2, xs, rfl, ho, hl, hk⟩ := someI_of k1 z1 hd
  go_wp2_with fail
  go_ret
  exact ⟨A2, c2, xs, rfl, ho, hl, hk⟩

theorem reads_more (xs : List Int) : readsValid ([1001] ++ xs) = false := by
  have : readsOk 1001 = false := by decide
  simp [readsValid, this]
theorem reads_first {xs : List Int} (h : readsValid xs = true) : ∃ x, xs.take 1 = [x] ∧ readsValid [x] = true := by
  rcases xs with _ | ⟨x, xs⟩
  · simp [readsValid] at h
  · refine ⟨x, rfl, ?_⟩
    simp [readsValid] at h ⊢
    exact h.2.1

set_option maxHeartbeats 1000000 in
theorem walk_FnReadsValid {w : World} (A : Option Addr) (zs : List Int) (c : Nat) (h : Byts w A zs) (hcap : zs.length ≤ c) :
    Calls Try.prog 4 #[.slice A zs.length c] w fun e w' => e = .returned (.bool true) ∧ Kp No w w' := by
  go_enter Try.func4, Try.ntmps4
  by_cases hl : 1048576 < zs.length
  · go_wp2_with fail
    go_ret
    exact ⟨rfl, Kp.refl _ _⟩
  · go_wp2_with fail
    refine (drawReadsValid _ _ _ _ h hcap (by omega)).mono ?_
    rintro e w1 ⟨A1, c1, xs, rfl, o1, l1, k1⟩
    clear h hcap
    go_wp2_with fail
    refine (readsValid_impl _ _ _ _ _ _ o1.ints (by omega)).mono ?_
    rintro e w' ⟨rfl, rfl⟩
    go_wp2_with fail
    refine (readsValid_spec _ _ _ _ _ _ o1.ints (by omega)).mono ?_
    rintro e w' ⟨rfl, rfl⟩
    have o2 : OwnI (w1.alloc (.cells #[.int .i64 1001] 3)) w1.heap.size (w1.heap.size + 1) (some ⟨w1.heap.size, 0, none⟩) 1 [1001] :=
      ⟨World.ownsRow_lit w1 #[.int .i64 1001] 1 (Nat.le_refl _) (by decide) rfl, fun g hg => by simp [Value.ownBlock] at hg; omega, by simp⟩
    have hc1 := o1.cap
    cases hv : readsValid xs
    · go_wp2_with (at_builtin; refine wpList_appI _ rfl _ _ rfl w1.heap.size (w1.heap.size + 1) _ 1 [1001] rfl o2 _ _ A1 c1 xs rfl (o1.ints.keepNo ((Kp.refl _ _).alloc _)) (by simp; omega) (by simp) ?_; intro A3 c3 w3 o3 k3)
      rw [show 1 + xs.length = ([1001] ++ xs).length from by simp; omega]
      refine (readsValid_impl _ _ _ _ _ _ o3.ints (by simp; omega)).mono ?_
      rintro e w' ⟨rfl, rfl⟩
      rw [reads_more]
      go_wp2_with fail
      refine (alive_ _).mono ?_
      rintro e w' ⟨rfl, rfl⟩
      go_wp2_with fail
      go_ret
      exact ⟨rfl, ((k1.alloc _).also k3 (fun i hi e => by have := e.1; have := k1.size; omega))⟩
    · obtain ⟨x, hx, hx1⟩ := reads_first hv
      have hx1 := Lib.hid hx1
      have hl1 : 1 ≤ xs.length := by
        have := congrArg List.length hx
        simp at this; omega
      have ho1 := o1.ints.cut (m := 1) hl1
      rw [hx] at ho1
      clear hx
      go_wp2_with (at_builtin; refine wpList_appI _ rfl _ _ rfl w1.heap.size (w1.heap.size + 1) _ 1 [1001] rfl o2 _ _ A1 c1 xs rfl (o1.ints.keepNo ((Kp.refl _ _).alloc _)) (by simp; omega) (by simp) ?_; intro A3 c3 w3 o3 k3)
      rw [show 1 + xs.length = ([1001] ++ xs).length from by simp; omega]
      refine (readsValid_impl _ _ _ _ _ _ o3.ints (by simp; omega)).mono ?_
      rintro e w' ⟨rfl, rfl⟩
      rw [reads_more]
      have ho3 := (ho1.keepNo ((Kp.refl _ w1).alloc (.cells #[.int .i64 1001] 3))).keep k3 (fun i _ hi e => by have := e.1; omega)
      go_wp2_with fail
      refine (readsValid_impl _ [x] _ _ _ _ ho3 (by simp)).mono ?_
      rintro e w' ⟨rfl, rfl⟩
      rw [hx1.out]
      go_wp2_with fail
      refine (alive_ _).mono ?_
      rintro e w' ⟨rfl, rfl⟩
      go_wp2_with fail
      go_ret
      exact ⟨rfl, ((k1.alloc _).also k3 (fun i hi e => by have := e.1; have := k1.size; omega))⟩
end Go.Proofs.Ytelbcicdophagaa
