/- The walk of the law FnTrimHas. -/
import Derived.Test.YtjjglggfkbbhfaaDrawTrim
import Derived.WalkKit
import Derived.WalkSpells
import Derived.WalkLawsBesides
import Derived.Outline
namespace Go.Proofs.Ytjjglggfkbbhfaa
open Go.RowKit
set_option linter.unusedVariables false

set_option maxHeartbeats 4000000 in
theorem walk_FnTrimHas {w : World} (A : Option Addr) (zs : List Int) (c : Nat) (h : Byts w A zs) (hcap : zs.length ≤ c) :
    Calls Try.prog 8 #[.slice A zs.length c] w fun e w' => e = .returned (.bool true) ∧ Kp No w w' := by
  go_enter Try.func8, Try.ntmps8
  by_cases hl : 1048576 < zs.length
  · go_wp2_with fail
    go_ret
    exact ⟨rfl, Kp.refl _ _⟩
  · go_wp2_with fail
    refine (drawTrimHas _ _ _ _ h hcap (by omega)).mono ?_
    rintro e w1 ⟨A1, c1, ps, n, rfl, o1, l1, k1⟩
    clear h hcap
    have hbb : (trimHas ps n != trimHas ps n) = false := by simp
    have hm1 : trimHas ps (-1) = false := by
      cases hh : trimHas ps (-1) with
      | false => rfl
      | true => have := has_out hh; omega
    have h60 : trimHas ps 60 = false := by
      cases hh : trimHas ps 60 with
      | false => rfl
      | true => have := has_out hh; omega
    go_wp2_with fail
    refine (trimHas_impl _ _ _ _ _ _ _ o1.prs (by omega)).mono ?_
    rintro e w2 ⟨rfl, k2⟩
    go_wp2_with fail
    refine (trimHas_spec _ _ _ _ _ _ _ (o1.keepNo k2).prs (by omega)).mono ?_
    rintro e w3 ⟨rfl, k3⟩
    have o3 := (o1.keepNo k2).keepNo k3
    have k13 := (k1.trans k2).trans k3
    clear o1 k1 k2 k3
    cases hh : trimHas ps n
    · rw [hh] at hbb
      go_wp2_with fail
      refine (trimHas_impl _ _ _ _ _ _ _ o3.prs (by omega)).mono ?_
      rintro e w4 ⟨rfl, k4⟩
      rw [hm1]
      go_wp2_with fail
      refine (trimHas_impl _ _ _ _ _ _ _ (o3.keepNo k4).prs (by omega)).mono ?_
      rintro e w5 ⟨rfl, k5⟩
      rw [h60]
      go_wp2_with fail
      refine (alive_ _).mono ?_
      rintro e w' ⟨rfl, rfl⟩
      go_wp2_with fail
      go_ret
      exact ⟨rfl, (k13.trans k4).trans k5⟩
    · obtain ⟨n0, n1⟩ := has_out hh
      rw [hh] at hbb
      go_wp2_with fail
      refine (trimHas_impl _ _ _ _ _ _ _ o3.prs (by omega)).mono ?_
      rintro e w4 ⟨rfl, k4⟩
      rw [hm1]
      go_wp2_with fail
      refine (trimHas_impl _ _ _ _ _ _ _ (o3.keepNo k4).prs (by omega)).mono ?_
      rintro e w5 ⟨rfl, k5⟩
      rw [h60]
      go_wp2_with fail
      refine (alive_ _).mono ?_
      rintro e w' ⟨rfl, rfl⟩
      go_wp2_with fail
      go_ret
      exact ⟨rfl, (k13.trans k4).trans k5⟩
end Go.Proofs.Ytjjglggfkbbhfaa
