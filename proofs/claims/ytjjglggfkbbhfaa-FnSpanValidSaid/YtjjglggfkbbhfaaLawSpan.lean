/- The walk of the law FnSpanValid. -/
import Derived.Test.YtjjglggfkbbhfaaDrawTrim
import Derived.WalkKit
import Derived.WalkSpells
import Derived.WalkLawsBesides
import Derived.Outline
namespace Go.Proofs.Ytjjglggfkbbhfaa
open Go.RowKit
set_option linter.unusedVariables false

set_option maxHeartbeats 4000000 in
theorem walk_FnSpanValid {w : World} (A : Option Addr) (zs : List Int) (c : Nat) (h : Byts w A zs) (hcap : zs.length ≤ c) :
    Calls Try.prog 4 #[.slice A zs.length c] w fun e w' => e = .returned (.bool true) ∧ Kp No w w' := by
  go_enter Try.func4, Try.ntmps4
  by_cases hl : 1048576 < zs.length
  · go_wp2_with fail
    go_ret
    exact ⟨rfl, Kp.refl _ _⟩
  · go_wp2_with fail
    refine (drawSpanValid _ _ _ _ h hcap (by omega)).mono ?_
    rintro e w1 ⟨x, y, rfl, k1⟩
    clear h hcap
    have bx := Box2.new w1 25 x y
    have kb : Kp No w (w1.alloc (.cells #[.int .i64 x, .int .i64 y] 25)) := k1.alloc _
    go_wp2_with fail
    refine (spanValid_impl _ _ _).mono ?_
    rintro e w2 ⟨rfl, k2⟩
    have b2 := bx.keepNo k2
    obtain ⟨c0, c1, f0, f1, _⟩ := b2
    go_wp2_with fail
    refine (spanValid_spec _ _ _).mono ?_
    rintro e w3 ⟨rfl, k3⟩
    have b3 := (bx.keepNo k2).keepNo k3
    have k13 := (kb.trans k2).trans k3
    clear c0 c1 f0 f1 k2 k3 bx kb
    obtain ⟨c0, c1, f0, f1, _⟩ := b3
    have hyy : spanB y y = false := spanB_false (by omega)
    have hbb : (spanB x y != spanB x y) = false := by simp
    cases hs : spanB x y
    · rw [hs] at hbb
      go_wp2_with fail
      refine (spanValid_impl _ _ _).mono ?_
      rintro e w4 ⟨rfl, k4⟩
      rw [hyy]
      have b4 := (show Box2 w3 w1.heap.size x y from ⟨c0, c1, f0, f1, by assumption⟩).keepNo k4
      go_wp2_with fail
      refine (alive_ _).mono ?_
      rintro e w' ⟨rfl, rfl⟩
      go_wp2_with fail
      go_ret
      exact ⟨rfl, k13.trans k4⟩
    · have hs0 : spanB 0 y = true := by rw [spanB_iff] at hs ⊢; omega
      have Hs0 := Lib.hid hs0
      clear hs0
      go_wp2_with fail
      refine (spanValid_impl _ _ _).mono ?_
      rintro e w4 ⟨rfl, k4⟩
      rw [hyy]
      have b4 := (show Box2 w3 w1.heap.size x y from ⟨c0, c1, f0, f1, by assumption⟩).keepNo k4
      clear c0 c1 f0 f1
      obtain ⟨c0, c1, f0, f1, _⟩ := b4
      go_wp2_with fail
      refine (spanValid_impl _ _ _).mono ?_
      rintro e w5 ⟨rfl, k5⟩
      rw [Hs0.out]
      go_wp2_with fail
      refine (alive_ _).mono ?_
      rintro e w' ⟨rfl, rfl⟩
      go_wp2_with fail
      go_ret
      exact ⟨rfl, (k13.trans k4).trans k5⟩
end Go.Proofs.Ytjjglggfkbbhfaa
