/- The walk of the law FnUnpackRuns. -/
import Derived.Test.YtjkncdmnajfkjaaDrawRuns
import Derived.WalkKit
import Derived.WalkSpells
import Derived.WalkLawsBesides
import Derived.Outline
namespace Go.Proofs.Ytjkncdmnajfkjaa
open Go.RowKit
set_option linter.unusedVariables false

set_option maxHeartbeats 4000000 in
theorem walk_FnUnpackRuns {w : World} (A : Option Addr) (zs : List Int) (c : Nat) (h : Byts w A zs) (hcap : zs.length ≤ c) :
    Calls Try.prog 10 #[.slice A zs.length c] w fun e w' => e = .returned (.bool true) ∧ Kp No w w' := by
  go_enter Try.func10, Try.ntmps10
  by_cases hl : 1048576 < zs.length
  · go_wp2_with fail
    go_ret
    exact ⟨rfl, Kp.refl _ _⟩
  · go_wp2_with fail
    refine (drawUnpackRuns _ _ _ _ h hcap (by omega)).mono ?_
    rintro e w1 ⟨A1, c1, ps, rfl, o1, l1, k1⟩
    clear h hcap
    have hul := unpack_len ps
    go_wp2_with fail
    refine (unpackRuns_impl _ _ _ _ _ _ o1.prs (by omega)).mono ?_
    rintro e w2 ⟨A2, c2, rfl, o2, k2⟩
    go_wp2_with fail
    refine (unpackRuns_spec _ _ _ _ _ _ (o1.keepNo k2).prs (by omega)).mono ?_
    rintro e w3 ⟨A3, c3, rfl, o3, k3⟩
    go_wp2_with fail
    refine (sameInts_same _ _ _ _ _ _ _ _ _ _ (o2.keepNo k3).ints o3.ints (by omega)).mono ?_
    rintro e w4 ⟨rfl, k4⟩
    have o14 := ((o1.keepNo k2).keepNo k3).keepNo k4
    have o24 := (o2.keepNo k3).keepNo k4
    have k14 := ((k1.trans k2).trans k3).trans k4
    clear o1 o2 o3 k1 k2 k3 k4
    go_wp2_with fail
    refine (runsValid_impl _ _ _ _ _ _ o14.prs (by omega)).mono ?_
    rintro e w5 ⟨rfl, k5⟩
    cases hv : runsB ps
    · have hz : (unpackRuns ps).length = 0 := by unfold unpackRuns; rw [hv]; rfl
      have he : (((unpackRuns ps).length : Int) == 0) = true := by rw [hz]; rfl
      clear hz
      go_wp2_with fail
      refine (alive_ _).mono ?_
      rintro e w' ⟨rfl, rfl⟩
      go_wp2_with fail
      go_ret
      exact ⟨rfl, k14.trans k5⟩
    · have cp := packRuns_impl A2 (unpackRuns ps) c2 _ _ w5 (o24.keepNo k5).ints (by omega)
      have hr : packRuns (unpackRuns ps) = (ps, true) := by
        unfold unpackRuns packRuns
        rw [hv, if_pos rfl, pack_of_unpack hv, hv]; rfl
      rw [hr] at cp
      have CP := Lib.hid cp
      clear cp hr hv
      go_wp2_with fail
      refine CP.out.mono ?_
      rintro e w6 ⟨A6, c6, rfl, o6, k6⟩
      go_wp2_with fail
      refine (sameRuns_same _ _ ps _ _ _ _ _ _ _ o6.prs ((o14.keepNo k5).keepNo k6).prs (by omega)).mono ?_
      rintro e w7 ⟨rfl, k7⟩
      go_wp2_with fail
      go_ret
      exact ⟨rfl, ((k14.trans k5).trans k6).trans k7⟩
end Go.Proofs.Ytjkncdmnajfkjaa
