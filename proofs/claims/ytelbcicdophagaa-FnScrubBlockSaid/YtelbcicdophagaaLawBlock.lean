/- The walk of the law FnScrubBlock. -/
import Derived.Test.YtelbcicdophagaaLawScrub0
import Derived.WalkKit
import Derived.WalkSpells
import Derived.WalkLawsBesides
import Derived.Outline
import Derived.Deep.QuietTactic
import Derived.BigQuiet
namespace Go.Proofs.Ytelbcicdophagaa
open Go.RowKit
set_option linter.unusedVariables false

set_option maxHeartbeats 4000000 in
theorem walk_FnScrubBlock {w : World} (A : Option Addr) (zs : List Int) (c : Nat) (h : Byts w A zs) (hcap : zs.length ≤ c) :
    Calls Try.prog 8 #[.slice A zs.length c] w fun e w' => e = .returned (.bool true) ∧ Kp No w w' := by
  go_enter Try.func8, Try.ntmps8
  by_cases hl : 1048576 < zs.length
  · go_wp2_with fail
    go_ret
    exact ⟨rfl, Kp.refl _ _⟩
  · go_wp2_with fail
    refine (drawScrubBlock _ _ _ _ h hcap (by omega)).mono ?_
    rintro e w1 ⟨A1, c1, xs, n, rfl, o1, l1, k1⟩
    clear h hcap
    have ci := fun W (h : Ints W w.heap.size w1.heap.size A1 xs) => scrubBlock_impl A1 xs c1 _ _ n W h (by omega)
    have cs := fun W (h : Ints W w.heap.size w1.heap.size A1 xs) => scrubBlock_spec A1 xs c1 _ _ n W h (by omega)
    rcases scrub_cases xs n with hr | ⟨m, rfl, hm, hv, hr⟩
    · rw [hr] at ci cs
      clear hr
      go_wp2_with fail
      refine (ci _ o1.ints).mono ?_
      rintro e w2 ⟨A2, c2, rfl, o2, k2⟩
      go_wp2_with fail
      refine (cs _ (o1.keepNo k2).ints).mono ?_
      rintro e w3 ⟨A3, c3, rfl, o3, k3⟩
      go_wp2_with fail
      refine (sameInts_same _ _ [] _ _ _ _ _ _ _ (o2.keepNo k3).ints o3.ints (by simp)).mono ?_
      rintro e w4 ⟨rfl, k4⟩
      go_wp2_with fail
      refine (alive_ _).mono ?_
      rintro e w' ⟨rfl, rfl⟩
      go_wp2_with fail
      go_ret
      exact ⟨rfl, ((k1.trans k2).trans k3).trans k4⟩
    · rw [hr] at ci cs
      clear hr
      have HV := Lib.hid (reads_set hv (k := m) (v := 0) (by omega))
      have Hv := Lib.hid hv
      have Hm := Lib.hid (has_after_m hv hm)
      have hol := order_len12 xs
      have hol2 := order_len12 (xs.set m 0)
      clear hv
      go_wp2_with fail
      refine (ci _ o1.ints).mono ?_
      rintro e w2 ⟨A2, c2, rfl, o2, k2⟩
      go_wp2_with fail
      refine (cs _ (o1.keepNo k2).ints).mono ?_
      rintro e w3 ⟨A3, c3, rfl, o3, k3⟩
      go_wp2_with fail
      refine (sameInts_n _ _ (xs.set m 0) _ _ _ _ _ _ _ _ _ (o2.keepNo k3).ints o3.ints (by simp; omega) (by simp) (by simp)).mono ?_
      rintro e w4 ⟨rfl, k4⟩
      have k14 := ((k1.trans k2).trans k3).trans k4
      have o14 := ((o1.keepNo k2).keepNo k3).keepNo k4
      have o24 : OwnI w4 w1.heap.size w2.heap.size A2 c2 (xs.set m 0) := (o2.keepNo k3).keepNo k4
      clear ci cs o1 o2 o3 k1 k2 k3 k4
      have hnz : ((xs.length : Int) == 0) = false := beq_eq_false_iff_ne.2 (by omega)
      go_wp2_with fail
      refine (scrubOrder_impl _ _ _ _ _ _ o14.ints (by omega)).mono ?_
      rintro e w5 ⟨A5, c5, rfl, o5, k5⟩
      go_wp2_with fail
      refine (len1 (scrubOrder_impl _ (xs.set m 0) _ _ _ _ (o24.keepNo k5).ints (by simp; omega)) (by simp)).mono ?_
      rintro e w6 ⟨A6, c6, rfl, o6, k6⟩
      have k16 := (k14.trans k5).trans k6
      have o56 := o5.keepNo k6
      have o26 := (o24.keepNo k5).keepNo k6
      clear o14 o24 k14 k5 k6 o5 hnz
      go_wp2_with fail
      go_loopw [8] (fun v wr => ∃ k : Nat, k ≤ (scrubOrder xs).length ∧ v = .int .i64 k ∧ Kp No w6 wr) (fun v _ => (scrubOrder xs).length - (intOf v).toNat)
      case atStart => exact ⟨0, Nat.zero_le _, rfl, Kp.refl _ _⟩
      case round =>
        obtain ⟨k, hk, rfl, hkr⟩ := hrel
        by_cases hlt : k < (scrubOrder xs).length
        · obtain ⟨b, off, x, rfl, hb1, hb2, hx, hc⟩ := (o56.keepNo hkr).ints.at_ hlt
          have Hh := Lib.hid (has_after Hv.out hm (List.mem_of_getElem? hx))
          clear hx
          have hor := (o6.keepNo hkr).ints
          have hbb : ∀ b : Bool, (b != b) = false := by intro b; cases b <;> rfl
          have hI := fun (W : World) (h : Ints W w5.heap.size w6.heap.size A6 (scrubOrder (xs.set m 0))) => hasInt_any A6 (scrubOrder (xs.set m 0)) c6 _ _ x W h (by omega)
          rw [Hh.out] at hI
          have HI := Lib.hid hI; clear hI
          go_wp2_with fail
          go_quiet ((go_at_call 27; exact Calls.quiet_of_same (HI.out _ (hor.keepNo ((Kp.refl _ _).drewN _)))))
          go_wp2_with fail
          go_roundw
          case rel => exact ⟨k + 1, by omega, by go_num, hkr.drewN _⟩
          case measure => simp [intOf]; omega
        · go_wp2_with fail
          refine (len1 (readsValid_impl _ (xs.set m 0) _ _ _ _ (o26.keepNo hkr).ints (by simp; omega)) (by simp)).mono ?_
          rintro e w' ⟨rfl, rfl⟩
          rw [HV.out]
          go_wp2_with fail
          refine (hasInt_any _ _ _ _ _ _ _ (o6.keepNo hkr).ints (by omega)).mono ?_
          rintro e w' ⟨rfl, rfl⟩
          rw [Hm.out]
          go_wp2_with fail
          go_ret
          exact ⟨rfl, k16.trans hkr⟩

end Go.Proofs.Ytelbcicdophagaa
