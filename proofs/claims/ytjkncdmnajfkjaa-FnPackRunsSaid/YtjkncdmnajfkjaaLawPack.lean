/- The walk of the law FnPackRuns. -/
import Derived.Test.YtjkncdmnajfkjaaDrawRuns
import Derived.WalkKit
import Derived.WalkSpells
import Derived.WalkLawsBesides
import Derived.Outline
namespace Go.Proofs.Ytjkncdmnajfkjaa
open Go.RowKit
set_option linter.unusedVariables false

set_option maxHeartbeats 4000000 in
theorem walk_FnPackRuns {w : World} (A : Option Addr) (zs : List Int) (c : Nat) (h : Byts w A zs) (hcap : zs.length ≤ c) :
    Calls Try.prog 12 #[.slice A zs.length c] w fun e w' => e = .returned (.bool true) ∧ Kp No w w' := by
  go_enter Try.func12, Try.ntmps12
  by_cases hl : 1048576 < zs.length
  · go_wp2_with fail
    go_ret
    exact ⟨rfl, Kp.refl _ _⟩
  · go_wp2_with fail
    refine (drawPackRuns _ _ _ _ h hcap (by omega)).mono ?_
    rintro e w1 ⟨A1, c1, xs, rfl, o1, l1, k1⟩
    clear h hcap
    have ci := fun W (h : Ints W w.heap.size w1.heap.size A1 xs) => packRuns_impl A1 xs c1 _ _ W h (by omega)
    have cs := fun W (h : Ints W w.heap.size w1.heap.size A1 xs) => packRuns_spec A1 xs c1 _ _ W h (by omega)
    cases hv : runsB (pack xs)
    · have hr : packRuns xs = ([], false) := by unfold packRuns; rw [hv]; rfl
      rw [hr] at ci cs
      have CI := Lib.hid ci; have CS := Lib.hid cs
      clear ci cs hr hv
      go_wp2_with fail
      refine (CI.out _ o1.ints).mono ?_
      rintro e w2 ⟨A2, c2, rfl, o2, k2⟩
      go_wp2_with fail
      refine (CS.out _ (o1.keepNo k2).ints).mono ?_
      rintro e w3 ⟨A3, c3, rfl, o3, k3⟩
      go_wp2_with fail
      refine (sameRuns_same _ _ [] _ _ _ _ _ _ _ (o2.keepNo k3).prs o3.prs (by simp)).mono ?_
      rintro e w4 ⟨rfl, k4⟩
      go_wp2_with fail
      refine (alive_ _).mono ?_
      rintro e w' ⟨rfl, rfl⟩
      go_wp2_with fail
      go_ret
      exact ⟨rfl, ((k1.trans k2).trans k3).trans k4⟩
    · have hr : packRuns xs = (pack xs, true) := by unfold packRuns; rw [hv]; rfl
      have hpl := runs_len hv
      have Hu := Lib.hid (show unpackRuns (pack xs) = xs by unfold unpackRuns; rw [hv, if_pos rfl, unpack_of_pack])
      have Hv := Lib.hid hv
      rw [hr] at ci cs
      have CI := Lib.hid ci; have CS := Lib.hid cs
      clear ci cs hr hv
      go_wp2_with fail
      refine (CI.out _ o1.ints).mono ?_
      rintro e w2 ⟨A2, c2, rfl, o2, k2⟩
      have o2 : OwnP w2 w1.heap.size w2.heap.size A2 c2 (pack xs) := o2
      go_wp2_with fail
      refine (CS.out _ (o1.keepNo k2).ints).mono ?_
      rintro e w3 ⟨A3, c3, rfl, o3, k3⟩
      have o3 : OwnP w3 w2.heap.size w3.heap.size A3 c3 (pack xs) := o3
      go_wp2_with fail
      refine (sameRuns_same _ _ (pack xs) _ _ _ _ _ _ _ (o2.keepNo k3).prs o3.prs (by omega)).mono ?_
      rintro e w4 ⟨rfl, k4⟩
      have o24 := (o2.keepNo k3).keepNo k4
      have o14 := ((o1.keepNo k2).keepNo k3).keepNo k4
      go_wp2_with fail
      refine (runsValid_impl _ (pack xs) _ _ _ _ o24.prs (by omega)).mono ?_
      rintro e w5 ⟨rfl, k5⟩
      rw [Hv.out]
      go_wp2_with fail
      refine (unpackRuns_impl _ (pack xs) _ _ _ _ (o24.keepNo k5).prs (by omega)).mono ?_
      rw [Hu.out]
      rintro e w6 ⟨A6, c6, rfl, o6, k6⟩
      go_wp2_with fail
      refine (sameInts_same _ _ xs _ _ _ _ _ _ _ o6.ints ((o14.keepNo k5).keepNo k6).ints (by omega)).mono ?_
      rintro e w7 ⟨rfl, k7⟩
      go_wp2_with fail
      go_ret
      exact ⟨rfl, (((((k1.trans k2).trans k3).trans k4).trans k5).trans k6).trans k7⟩
end Go.Proofs.Ytjkncdmnajfkjaa
