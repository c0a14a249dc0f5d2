/- The walk of the law FnValueAt. -/
import Derived.Test.YtjkncdmnajfkjaaDrawRuns
import Derived.WalkKit
import Derived.WalkSpells
import Derived.WalkLawsBesides
import Derived.Outline
namespace Go.Proofs.Ytjkncdmnajfkjaa
open Go.RowKit
set_option linter.unusedVariables false

set_option maxHeartbeats 4000000 in
theorem walk_FnValueAt {w : World} (A : Option Addr) (zs : List Int) (c : Nat) (h : Byts w A zs) (hcap : zs.length ≤ c) :
    Calls Try.prog 8 #[.slice A zs.length c] w fun e w' => e = .returned (.bool true) ∧ Kp No w w' := by
  go_enter Try.func8, Try.ntmps8
  by_cases hl : 1048576 < zs.length
  · go_wp2_with fail
    go_ret
    exact ⟨rfl, Kp.refl _ _⟩
  · go_wp2_with fail
    refine (drawValueAt _ _ _ _ h hcap (by omega)).mono ?_
    rintro e w1 ⟨A1, c1, ps, n, rfl, o1, l1, n0, n1, k1⟩
    clear h hcap
    have hbb : (valueAt ps n != valueAt ps n) = false := by simp
    have hul := unpack_len ps
    go_wp2_with fail
    refine (valueAt_impl _ _ _ _ _ _ _ o1.prs (by omega)).mono ?_
    rintro e w2 ⟨rfl, k2⟩
    go_wp2_with fail
    refine (valueAt_spec _ _ _ _ _ _ _ (o1.keepNo k2).prs (by omega) (by omega)).mono ?_
    rintro e w3 ⟨rfl, k3⟩
    have o3 := (o1.keepNo k2).keepNo k3
    have k13 := (k1.trans k2).trans k3
    clear o1 k1 k2 k3
    go_wp2_with fail
    refine (unpackRuns_impl _ _ _ _ _ _ o3.prs (by omega)).mono ?_
    rintro e w4 ⟨A4, c4, rfl, o4, k4⟩
    by_cases hn : 0 ≤ n ∧ n < (unpackRuns ps).length
    · obtain ⟨q0, q1⟩ := hn
      obtain ⟨m, rfl⟩ := Int.eq_ofNat_of_zero_le q0
      have hm : m < (unpackRuns ps).length := by omega
      obtain ⟨g, x, rfl, hg1, hg2, hx, hc, hf⟩ := o4.at_ hm
      have Hva := Lib.hid (show valueAt ps (m : Int) = x by unfold valueAt; rw [if_pos ⟨q0, q1⟩, List.getD_eq_getElem?_getD, Int.toNat_natCast, hx]; rfl)
      clear hx hbb
      rw [Hva.out]
      have he : (x == x) = true := by simp
      go_wp2_with fail
      go_ret
      exact ⟨rfl, k13.trans k4⟩
    · have Hva := Lib.hid (show valueAt ps n = -1 by unfold valueAt; rw [if_neg hn])
      have hn' : n < 0 ∨ ((unpackRuns ps).length : Int) ≤ n := by omega
      clear hn hbb
      rw [Hva.out]
      go_wp2_with fail
      all_goals
        refine (alive_ _).mono ?_
        rintro e w' ⟨rfl, rfl⟩
        go_wp2_with fail
        go_ret
        exact ⟨rfl, k13.trans k4⟩
end Go.Proofs.Ytjkncdmnajfkjaa
