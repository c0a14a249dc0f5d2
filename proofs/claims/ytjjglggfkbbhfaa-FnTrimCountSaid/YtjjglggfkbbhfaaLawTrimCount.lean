/- The walk of the law FnTrimCount. -/
import Derived.Test.YtjjglggfkbbhfaaDrawTrim
import Derived.WalkKit
import Derived.WalkSpells
import Derived.WalkLawsBesides
import Derived.Outline
namespace Go.Proofs.Ytjjglggfkbbhfaa
open Go.RowKit
set_option linter.unusedVariables false

set_option maxHeartbeats 4000000 in
theorem walk_FnTrimCount {w : World} (A : Option Addr) (zs : List Int) (c : Nat) (h : Byts w A zs) (hcap : zs.length ≤ c) :
    Calls Try.prog 10 #[.slice A zs.length c] w fun e w' => e = .returned (.bool true) ∧ Kp No w w' := by
  go_enter Try.func10, Try.ntmps10
  by_cases hl : 1048576 < zs.length
  · go_wp2_with fail
    go_ret
    exact ⟨rfl, Kp.refl _ _⟩
  · go_wp2_with fail
    refine (drawTrimCount _ _ _ _ h hcap (by omega)).mono ?_
    rintro e w1 ⟨A1, c1, ps, rfl, o1, l1, k1⟩
    clear h hcap
    have hbb : (trimCount ps != trimCount ps) = false := by simp
    go_wp2_with fail
    refine (trimCount_impl _ _ _ _ _ _ o1.prs (by omega)).mono ?_
    rintro e w2 ⟨rfl, k2⟩
    go_wp2_with fail
    refine (trimCount_spec _ _ _ _ _ _ (o1.keepNo k2).prs (by omega)).mono ?_
    rintro e w3 ⟨rfl, k3⟩
    have o3 := (o1.keepNo k2).keepNo k3
    have k13 := (k1.trans k2).trans k3
    clear o1 k1 k2 k3
    cases hv : spansB ps
    · have hm : trimCount ps = -1 := by simp [trimCount, hv]
      rw [hm] at hbb ⊢
      clear hm
      go_wp2_with fail
      refine (alive_ _).mono ?_
      rintro e w' ⟨rfl, rfl⟩
      go_wp2_with fail
      go_ret
      exact ⟨rfl, k13⟩
    · have hm := count_has hv
      rw [hm] at hbb ⊢
      have hcl : cntB (trimHas ps) 60 ≤ 60 := by unfold cntB; have := List.length_filter_le (fun k : Nat => trimHas ps (k : Int)) (List.range 60); simpa using this
      clear hm hv
      generalize hN : cntB (trimHas ps) 60 = N at *
      have HN := Lib.hid hN
      clear hN
      go_wp2_with fail
      go_loopw [5, 6] (fun m i wr => ∃ k : Nat, k ≤ 60 ∧ i = .int .i64 k ∧ m = .int .i64 (cntB (trimHas ps) k) ∧ Kp No w3 wr) (fun _ i _ => 60 - (intOf i).toNat)
      case atStart => exact ⟨0, Nat.zero_le _, rfl, rfl, Kp.refl _ _⟩
      case round =>
        obtain ⟨k, hk, rfl, rfl, hkr⟩ := hrel
        have hck : cntB (trimHas ps) k ≤ k := by unfold cntB; have := List.length_filter_le (fun k : Nat => trimHas ps (k : Int)) (List.range k); simpa using this
        by_cases hlt : k < 60
        · have Hs := Lib.hid (cntB_succ (trimHas ps) k)
          go_wp2_with fail
          refine (trimHas_impl _ _ _ _ _ _ _ (o3.keepNo hkr).prs (by omega)).mono ?_
          rintro e w4 ⟨rfl, k4⟩
          cases hh : trimHas ps (k : Int)
          · have Hs2 := Lib.hid (show (cntB (trimHas ps) (k + 1) : Nat) = cntB (trimHas ps) k by rw [Hs.out, hh]; simp)
            go_wp2_with fail
            go_roundw
            case rel => exact ⟨k + 1, by omega, by go_num, by rw [Hs2.out], hkr.trans k4⟩
            case measure => simp [intOf]; omega
          · have Hs2 := Lib.hid (show (cntB (trimHas ps) (k + 1) : Nat) = cntB (trimHas ps) k + 1 by rw [Hs.out, hh]; simp)
            go_wp2_with fail
            go_roundw
            case rel => exact ⟨k + 1, by omega, by go_num, by rw [Hs2.out]; go_num, hkr.trans k4⟩
            case measure => simp [intOf]; omega
        · obtain rfl : k = 60 := by omega
          have he : ((N : Int) == ((cntB (trimHas ps) 60 : Nat) : Int)) = true := by rw [HN.out]; simp
          go_wp2_with fail
          go_ret
          exact ⟨rfl, k13.trans hkr⟩
end Go.Proofs.Ytjjglggfkbbhfaa
