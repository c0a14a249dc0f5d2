/- The walk of the law FnRunGain. -/
import Derived.Test.YtjkncdmnajfkjaaDrawRuns
import Derived.WalkKit
import Derived.WalkSpells
import Derived.WalkLawsBesides
import Derived.Outline
namespace Go.Proofs.Ytjkncdmnajfkjaa
open Go.RowKit
set_option linter.unusedVariables false

set_option maxHeartbeats 4000000 in
theorem walk_FnRunGain {w : World} (A : Option Addr) (zs : List Int) (c : Nat) (h : Byts w A zs) (hcap : zs.length ≤ c) :
    Calls Try.prog 6 #[.slice A zs.length c] w fun e w' => e = .returned (.bool true) ∧ Kp No w w' := by
  go_enter Try.func6, Try.ntmps6
  by_cases hl : 1048576 < zs.length
  · go_wp2_with fail
    go_ret
    exact ⟨rfl, Kp.refl _ _⟩
  · go_wp2_with fail
    refine (drawRunGain _ _ _ _ h hcap (by omega)).mono ?_
    rintro e w1 ⟨A1, c1, xs, rfl, o1, l1, k1⟩
    clear h hcap
    have hbb : (runGain xs != runGain xs) = false := by simp
    obtain ⟨g1, g2⟩ := runGain_bounds xs
    go_wp2_with fail
    refine (runGain_impl _ _ _ _ _ _ o1.ints (by omega)).mono ?_
    rintro e w2 ⟨rfl, k2⟩
    go_wp2_with fail
    refine (runGain_spec _ _ _ _ _ _ (o1.keepNo k2).ints (by omega)).mono ?_
    rintro e w3 ⟨rfl, k3⟩
    have k13 := (k1.trans k2).trans k3
    have on := ownI_lit w3 w3.heap.size #[.int .i64 7] [7] rfl (Nat.le_refl _) (by simp)
    have H7 := Lib.hid (show runGain [7] = -1 by decide)
    have hd1 : decide (-(xs.length : Int) ≤ runGain xs) = true := decide_eq_true g1
    by_cases hl2 : (0 : Int) < (xs.length : Int) - 2
    all_goals
      have g3 : runGain xs ≤ (xs.length : Int) - 2 ∨ runGain xs ≤ 0 := by omega
      go_wp2_with fail
      refine (runGain_impl _ [7] _ _ _ _ on.ints (by simp)).mono ?_
      rintro e w4 ⟨rfl, k4⟩
      rw [H7.out]
      go_wp2_with fail
      refine (alive_ _).mono ?_
      rintro e w' ⟨rfl, rfl⟩
      go_wp2_with fail
      go_ret
      exact ⟨rfl, (k13.alloc _).trans k4⟩
end Go.Proofs.Ytjkncdmnajfkjaa
