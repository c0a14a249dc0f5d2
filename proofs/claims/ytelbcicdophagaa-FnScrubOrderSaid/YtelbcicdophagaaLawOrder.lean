/- The walk of the law FnScrubOrder. -/
import Derived.Test.YtelbcicdophagaaLawScrub0
import Derived.WalkKit
import Derived.WalkSpells
import Derived.WalkLawsBesides
import Derived.Outline
import Derived.Deep.QuietTactic
import Derived.BigQuiet
namespace Go.Proofs.Ytelbcicdophagaa
open Go.RowKit
set_option linter.unusedVariables false

set_option maxHeartbeats 4000000 in
theorem walk_FnScrubOrder {w : World} (A : Option Addr) (zs : List Int) (c : Nat) (h : Byts w A zs) (hcap : zs.length ≤ c) :
    Calls Try.prog 10 #[.slice A zs.length c] w fun e w' => e = .returned (.bool true) ∧ Kp No w w' := by
  go_enter Try.func10, Try.ntmps10
  by_cases hl : 1048576 < zs.length
  · go_wp2_with fail
    go_ret
    exact ⟨rfl, Kp.refl _ _⟩
  · go_wp2_with fail
    refine (drawScrubOrder _ _ _ _ h hcap (by omega)).mono ?_
    rintro e w1 ⟨A1, c1, xs, rfl, o1, l1, k1⟩
    clear h hcap
    have hol := order_len12 xs
    go_wp2_with fail
    refine (scrubOrder_impl _ _ _ _ _ _ o1.ints (by omega)).mono ?_
    rintro e w2 ⟨A2, c2, rfl, o2, k2⟩
    go_wp2_with fail
    refine (scrubOrder_spec _ _ _ _ _ _ (o1.keepNo k2).ints (by omega)).mono ?_
    rintro e w3 ⟨A3, c3, rfl, o3, k3⟩
    go_wp2_with fail
    refine (sameInts_same _ _ _ _ _ _ _ _ _ _ (o2.keepNo k3).ints o3.ints (by omega)).mono ?_
    rintro e w4 ⟨rfl, k4⟩
    have k14 := ((k1.trans k2).trans k3).trans k4
    have o14 := ((o1.keepNo k2).keepNo k3).keepNo k4
    have o24 := (o2.keepNo k3).keepNo k4
    clear o1 o2 o3 k1 k2 k3 k4
    go_wp2_with fail
    refine (readsValid_impl _ _ _ _ _ _ o14.ints (by omega)).mono ?_
    rintro e w' ⟨rfl, rfl⟩
    cases hv : readsValid xs
    · have hz : (scrubOrder xs).length = 0 := by rw [order_bad hv]; rfl
      have hz' : (((scrubOrder xs).length : Int) == 0) = true := by simp [hz]
      clear hz
      go_wp2_with fail
      refine (alive_ _).mono ?_
      rintro e w' ⟨rfl, rfl⟩
      go_wp2_with fail
      go_ret
      exact ⟨rfl, k14⟩
    · have Hv := Lib.hid hv
      go_wp2_with fail
      go_loopw [5, 6] (fun m v wr => ∃ k : Nat, k ≤ xs.length ∧ v = .int .i64 k ∧ m = .int .i64 (geRow xs k).length ∧ Kp No w4 wr) (fun _ v _ => xs.length - (intOf v).toNat)
      case atStart => exact ⟨0, Nat.zero_le _, rfl, rfl, Kp.refl _ _⟩
      case round =>
        obtain ⟨k, hk, rfl, rfl, hkr⟩ := hrel
        have hgl := geRow_len xs k
        by_cases hlt : k < xs.length
        · obtain ⟨b, off, x, rfl, hb1, hb2, hx, hc⟩ := (o14.keepNo hkr).ints.at_ hlt
          have Hh := Lib.hid (has_order Hv.out hx)
          have Hg := Lib.hid (geRow_count hx)
          clear hx
          have hor := (o24.keepNo hkr).ints
          have hbb : ∀ b : Bool, (b != b) = false := by intro b; cases b <;> rfl
          by_cases h100 : 100 ≤ x
          · have Hh2 := Lib.hid (show hasI (scrubOrder xs) (k : Int) = true by rw [Hh.out]; simpa using h100)
            have Hg2 := Lib.hid (show ((geRow xs (k + 1)).length : Int) = (geRow xs k).length + 1 by rw [Hg.out, if_pos h100])
            have hd : decide (100 ≤ x) = true := by simpa using h100
            have hI := fun (W : World) (h : Ints W w1.heap.size w2.heap.size A2 (scrubOrder xs)) => hasInt_any A2 (scrubOrder xs) c2 _ _ (k : Int) W h (by omega)
            rw [Hh2.out] at hI
            have HI := Lib.hid hI; clear hI
            go_wp2_with fail
            go_quiet ((go_at_call 27; exact Calls.quiet_of_same (HI.out _ (hor.keepNo ((Kp.refl _ _).drewN _)))))
            go_wp2_with fail
            go_roundw
            case rel => exact ⟨k + 1, by omega, by go_num, by rw [Hg2.out], hkr.drewN _⟩
            case measure => simp [intOf]; omega
          · have Hh2 := Lib.hid (show hasI (scrubOrder xs) (k : Int) = false by rw [Hh.out]; simpa using h100)
            have Hg2 := Lib.hid (show ((geRow xs (k + 1)).length : Int) = (geRow xs k).length by rw [Hg.out, if_neg h100]; omega)
            have hd : decide (100 ≤ x) = false := by simpa using h100
            have hI := fun (W : World) (h : Ints W w1.heap.size w2.heap.size A2 (scrubOrder xs)) => hasInt_any A2 (scrubOrder xs) c2 _ _ (k : Int) W h (by omega)
            rw [Hh2.out] at hI
            have HI := Lib.hid hI; clear hI
            go_wp2_with fail
            go_quiet ((go_at_call 27; exact Calls.quiet_of_same (HI.out _ (hor.keepNo ((Kp.refl _ _).drewN _)))))
            go_wp2_with fail
            go_roundw
            case rel => exact ⟨k + 1, by omega, by go_num, by rw [Hg2.out], hkr.drewN _⟩
            case measure => simp [intOf]; omega
        · obtain rfl : k = xs.length := by omega
          have Hc := Lib.hid (order_count Hv.out)
          go_wp2_with fail
          go_loopw [7] (fun v wr => ∃ k : Nat, k ≤ (scrubOrder xs).length + 1 ∧ 1 ≤ k ∧ v = .int .i64 k ∧ Kp No w4 wr) (fun v _ => (scrubOrder xs).length + 1 - (intOf v).toNat)
          case atStart => exact ⟨1, by omega, by omega, rfl, hkr⟩
          case round =>
            clear hkr
            obtain ⟨k, hk2, hk1, rfl, hkr⟩ := hrel
            by_cases hlt2 : k < (scrubOrder xs).length
            · obtain ⟨kp, rfl⟩ : ∃ kp, k = kp + 1 := ⟨k - 1, by omega⟩
              obtain ⟨b, p, hA, hb1, hb2, hp, hc, hf⟩ := (o24.keepNo hkr).at_ (k := kp) (by omega)
              obtain ⟨b', p', hA', hb1', hb2', hp', hc', hf'⟩ := (o24.keepNo hkr).at_ (k := kp + 1) (by omega)
              obtain rfl : b = b' := by rw [hA] at hA'; injection hA' with hA'; injection hA'
              have hdesc := order_desc Hv.out hp hp'
              obtain ⟨i, rfl, hi1, _⟩ := order_idx Hv.out (List.mem_of_getElem? hp)
              obtain ⟨i', rfl, hi1', _⟩ := order_idx Hv.out (List.mem_of_getElem? hp')
              obtain ⟨d, off, x, hB, _, _, hx, hcx⟩ := (o14.keepNo hkr).ints.at_ hi1
              obtain ⟨d', off', y, hB', _, _, hy, hcy⟩ := (o14.keepNo hkr).ints.at_ hi1'
              obtain ⟨rfl, rfl⟩ : d = d' ∧ off = off' := by rw [hB] at hB'; injection hB' with hB'; injection hB' with h1 h2; exact ⟨h1, h2⟩
              have hd : decide (x < y) = false := by
                simp only [rdOf, Int.toNat_natCast, List.getD_eq_getElem?_getD, hx, hy, Option.getD_some] at hdesc
                simpa using hdesc
              subst hA hB
              clear hA' hB' hx hy hp hp' hdesc hf hf'
              have hw : IntKind.i64.wrap (((kp + 1 : Nat) : Int) - 1) = (kp : Int) := by rw [show (((kp + 1 : Nat) : Int) - 1) = (kp : Int) by omega]; exact IntWalk.i64_in _ (by omega)
              have hle : kp < (scrubOrder xs).length := by omega
              go_wp2_with fail
              go_quiet (fail)
              go_wp2_with fail
              go_roundw
              case rel => exact ⟨kp + 1 + 1, by omega, by omega, by go_num, hkr.drewN _⟩
              case measure => simp [intOf]; omega
            · have he : (((scrubOrder xs).length : Int) == ((geRow xs xs.length).length : Int)) = true := by simp [Hc.out]
              go_wp2_with fail
              go_ret
              exact ⟨rfl, k14.trans hkr⟩

end Go.Proofs.Ytelbcicdophagaa
