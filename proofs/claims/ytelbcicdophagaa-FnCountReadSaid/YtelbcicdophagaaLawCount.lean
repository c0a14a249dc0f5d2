/- The walk of the law FnCountRead. -/
import Derived.Test.YtelbcicdophagaaLawScrub0
import Derived.WalkKit
import Derived.WalkSpells
import Derived.WalkLawsBesides
import Derived.Outline
import Derived.Deep.QuietTactic
import Derived.BigQuiet
namespace Go.Proofs.Ytelbcicdophagaa
open Go.RowKit
set_option linter.unusedVariables false

set_option maxHeartbeats 4000000 in
theorem walk_FnCountRead {w : World} (A : Option Addr) (zs : List Int) (c : Nat) (h : Byts w A zs) (hcap : zs.length ≤ c) :
    Calls Try.prog 6 #[.slice A zs.length c] w fun e w' => e = .returned (.bool true) ∧ Kp No w w' := by
  go_enter Try.func6, Try.ntmps6
  by_cases hl : 1048576 < zs.length
  · go_wp2_with fail
    go_ret
    exact ⟨rfl, Kp.refl _ _⟩
  · go_wp2_with fail
    refine (drawCountRead _ _ _ _ h hcap (by omega)).mono ?_
    rintro e w1 ⟨A1, c1, xs, n, rfl, o1, l1, k1⟩
    clear h hcap
    have ci := fun W (h : Ints W w.heap.size w1.heap.size A1 xs) => countRead_impl A1 xs c1 _ _ n W h (by omega)
    have cs := fun W (h : Ints W w.heap.size w1.heap.size A1 xs) => countRead_spec A1 xs c1 _ _ n W h (by omega)
    rcases countRead_cases xs n with hr | hr | ⟨m, x, rfl, hv, hx, hx1, hr⟩
    · rw [hr] at ci cs
      clear hr
      go_wp2_with fail
      refine (ci _ o1.ints).mono ?_
      rintro e w2 ⟨A2, c2, rfl, o2, k2⟩
      go_wp2_with fail
      refine (cs _ (o1.keepNo k2).ints).mono ?_
      rintro e w3 ⟨A3, c3, rfl, o3, k3⟩
      go_wp2_with fail
      refine (sameInts_same _ _ [] _ _ _ _ _ _ _ (o2.keepNo k3).ints o3.ints (by simp)).mono ?_
      rintro e w4 ⟨rfl, k4⟩
      have k14 := ((k1.trans k2).trans k3).trans k4
      have o14 := ((o1.keepNo k2).keepNo k3).keepNo k4
      have o24 := (o2.keepNo k3).keepNo k4
      clear ci cs o1 o2 o3 k1 k2 k3 k4
      go_wp2_with fail
      by_cases hz : xs.length = 0
      · obtain rfl : xs = [] := List.eq_nil_of_length_eq_zero hz
        refine (sameInts_same _ _ [] _ _ _ _ _ _ _ o24.ints o14.ints (by simp)).mono ?_
        rintro e w5 ⟨rfl, k5⟩
        go_wp2_with fail
        refine (alive_ _).mono ?_
        rintro e w' ⟨rfl, rfl⟩
        go_wp2_with fail
        go_ret
        exact ⟨rfl, k14.trans k5⟩
      · refine (sameInts_len _ _ _ _ _ _ _ (by simp; omega)).mono ?_
        rintro e w' ⟨rfl, rfl⟩
        go_wp2_with fail
        refine (alive_ _).mono ?_
        rintro e w' ⟨rfl, rfl⟩
        go_wp2_with fail
        go_ret
        exact ⟨rfl, k14⟩
    · rw [hr] at ci cs
      clear hr
      go_wp2_with fail
      refine (ci _ o1.ints).mono ?_
      rintro e w2 ⟨A2, c2, rfl, o2, k2⟩
      go_wp2_with fail
      refine (cs _ (o1.keepNo k2).ints).mono ?_
      rintro e w3 ⟨A3, c3, rfl, o3, k3⟩
      go_wp2_with fail
      refine (sameInts_same _ _ xs _ _ _ _ _ _ _ (o2.keepNo k3).ints o3.ints (by omega)).mono ?_
      rintro e w4 ⟨rfl, k4⟩
      have k14 := ((k1.trans k2).trans k3).trans k4
      have o14 := ((o1.keepNo k2).keepNo k3).keepNo k4
      have o24 : OwnI w4 w1.heap.size w2.heap.size A2 c2 xs := (o2.keepNo k3).keepNo k4
      clear ci cs o1 o2 o3 k1 k2 k3 k4
      go_wp2_with fail
      refine (sameInts_same _ _ xs _ _ _ _ _ _ _ o24.ints o14.ints (by omega)).mono ?_
      rintro e w5 ⟨rfl, k5⟩
      go_wp2_with fail
      refine (alive_ _).mono ?_
      rintro e w' ⟨rfl, rfl⟩
      go_wp2_with fail
      go_ret
      exact ⟨rfl, k14.trans k5⟩
    · rw [hr] at ci cs
      clear hr
      obtain ⟨x0, x1⟩ := reads_at hv hx
      have hml : m < xs.length := (List.getElem?_eq_some_iff.1 hx).1
      have HV := Lib.hid (reads_set hv (k := m) (v := x + 1) (by omega))
      have Hx := Lib.hid hx
      clear hx hv hx1
      go_wp2_with fail
      refine (ci _ o1.ints).mono ?_
      rintro e w2 ⟨A2, c2, rfl, o2, k2⟩
      go_wp2_with fail
      refine (cs _ (o1.keepNo k2).ints).mono ?_
      rintro e w3 ⟨A3, c3, rfl, o3, k3⟩
      go_wp2_with fail
      refine (sameInts_n _ _ (xs.set m (x + 1)) _ _ _ _ _ _ _ _ _ (o2.keepNo k3).ints o3.ints (by simp; omega) (by simp) (by simp)).mono ?_
      rintro e w4 ⟨rfl, k4⟩
      have k14 := ((k1.trans k2).trans k3).trans k4
      have o14 := ((o1.keepNo k2).keepNo k3).keepNo k4
      have o24 : OwnI w4 w1.heap.size w2.heap.size A2 c2 (xs.set m (x + 1)) := (o2.keepNo k3).keepNo k4
      clear ci cs o1 o2 o3 k1 k2 k3 k4
      go_wp2_with fail
      go_loopw [9] (fun v wr => ∃ k : Nat, k ≤ xs.length ∧ v = .int .i64 k ∧ Kp No w4 wr) (fun v _ => xs.length - (intOf v).toNat)
      case atStart => exact ⟨0, Nat.zero_le _, rfl, Kp.refl _ _⟩
      case round =>
        obtain ⟨k, hk, rfl, hkr⟩ := hrel
        by_cases hlt : k < xs.length
        · obtain ⟨b, off, u, rfl, hb1, hb2, hu, hc⟩ := (o14.keepNo hkr).ints.at_ hlt
          obtain ⟨b', u', rfl, hb1', hb2', hu', hc', hf'⟩ := (o24.keepNo hkr).at_ (k := k) (by simpa using hlt)
          by_cases hkm : k = m
          · subst hkm
            obtain rfl : x = u := by have := Hx.out; rw [this] at hu; injection hu
            obtain rfl : x + 1 = u' := by
              rw [List.getElem?_set_self (by simpa using hlt)] at hu'; injection hu'
            have he : ((k : Int) == (k : Int)) = true := by simp
            have hn : ((k : Int) != (k : Int)) = false := by simp
            have hx1 : (x + 1 != x + 1) = false := by simp
            have hw : IntKind.i64.wrap (x + 1) = x + 1 := IntWalk.i64_in _ (by omega)
            clear hu hu'
            go_wp2_with fail
            go_quiet (fail)
            go_wp2_with fail
            go_roundw
            case rel => exact ⟨k + 1, by omega, by go_num, hkr.drewN _⟩
            case measure => simp [intOf]; omega
          · obtain rfl : u = u' := by
              rw [List.getElem?_set_ne (by omega), hu] at hu'; injection hu'
            have he : ((k : Int) == (m : Int)) = false := by simp; omega
            have hn : ((k : Int) != (m : Int)) = true := by simp; omega
            have hx1 : (u != u) = false := by simp
            clear hu hu'
            go_wp2_with fail
            go_quiet (fail)
            go_wp2_with fail
            go_roundw
            case rel => exact ⟨k + 1, by omega, by go_num, hkr.drewN _⟩
            case measure => simp [intOf]; omega
        · go_wp2_with fail
          refine (len1 (readsValid_impl _ _ _ _ _ _ (o24.keepNo hkr).ints (by simp; omega)) (by simp)).mono ?_
          rintro e w' ⟨rfl, rfl⟩
          rw [HV.out]
          go_wp2_with fail
          go_ret
          exact ⟨rfl, k14.trans hkr⟩

end Go.Proofs.Ytelbcicdophagaa
