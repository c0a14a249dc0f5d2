/- RunsValid, of the program and of the reference; the walk of its exact law. -/
import Derived.Test.YtjkncdmnajfkjaaPairsApp
import Derived.Test.YtjkncdmnajfkjaaRunMath
import Derived.WalkKit
import Derived.WalkSpells
import Derived.WalkLawsBesides
import Derived.Outline
import Derived.Deep.QuietTactic
import Derived.BigQuiet
namespace Go.Proofs.Ytjkncdmnajfkjaa
open Go.RowKit
set_option linter.unusedVariables false

theorem quietL {P : Program} {f : FuncId} {args : Array Value} {w : World} {n : Nat} {v : Value}
    (h : Calls P f args (w.drewN n) fun e w' => e = .returned v ∧ w.drewN n = w') : Calls P f args (w.drewN n) fun e w'' => e = .returned v ∧ ∃ m, w'' = w.drewN m :=
  h.mono fun _ _ ⟨he, hm⟩ => ⟨he, n, hm.symm⟩

set_option maxHeartbeats 2000000 in
theorem runsValid_impl (A : Option Addr) (ps : List (Int × Int)) (c lo hi : Nat) (w : World) (h : Prs w lo hi A ps) (hs : ps.length ≤ 4000000) : Calls Try.prog 16 #[.slice A ps.length c] w
    fun e w' => e = .returned (.bool (runsB ps)) ∧ Kp No w w' := by
  go_enter Try.func16, Try.ntmps16
  go_wp2_with fail
  go_loopw [3, 8] (fun a i wr => ∃ k : Nat, k ≤ ps.length ∧ i = .int .i64 k ∧ a = .int .i64 (sumM (ps.take k)) ∧ UptoN (runAt ps) k ∧ Kp No w wr) (fun _ i _ => ps.length - (intOf i).toNat)
  case atStart => exact ⟨0, Nat.zero_le _, rfl, rfl, UptoN.zero _, Kp.refl _ _⟩
  case round =>
    obtain ⟨k, hk, rfl, rfl, hall, hkp⟩ := hrel
    have hsb := sum_bound k hk hall
    by_cases hlt : k < ps.length
    · obtain ⟨b, off, x, y, rfl, hb1, hb2, hx, hc, hc2⟩ := (h.keepNo hkp).at_ hlt
      have Hx := Lib.hid hx
      have Hsum := Lib.hid (sumM_succ hx)
      clear hx
      have hhi : hi ≤ wr.heap.size := (h.keepNo hkp).2.1
      by_cases hok : 0 ≤ x ∧ x ≤ 9999 ∧ 1 ≤ y ∧ sumM (ps.take k) + y ≤ 30
      · have Hp := Lib.hid (runP_iff.2 hok)
        obtain ⟨x0, x1, y0, y1⟩ := hok
        rcases k with _ | j
        · have Hok := Lib.hid (show runAt ps 0 = true by rw [runAt_zero Hx.out]; simpa [sumM] using Hp.out)
          have hd : decide ((0 : Int) < ((0 : Nat) : Int)) = false := by simp
          have hz : sumM (ps.take 0) = 0 := rfl
          rw [hz] at hsb Hsum y1 ⊢
          clear hz
          simp only [Nat.zero_mul, Nat.add_zero] at hc hc2
          go_wp2_with fail
          go_quiet (fail)
          go_wp2_with fail
          go_roundw
          case rel => exact ⟨1, by omega, by go_num, congrArg (Value.int .i64) (by have := Hsum.out; simp only [Nat.zero_add] at this; omega), hall.succ Hok.out, (hkp.alloc _).drewN _⟩
          case measure => simp [intOf]; omega
        · obtain ⟨b', off', x', y', hA, _, _, hx', hc', _⟩ := (h.keepNo hkp).at_ (k := j) (by omega)
          obtain ⟨rfl, rfl⟩ : b = b' ∧ off = off' := by injection hA with hA; injection hA with h1 h2; exact ⟨h1, h2⟩
          have Hok := Lib.hid (show runAt ps (j + 1) = (x != x') by rw [runAt_succ Hx.out hx', Hp.out, Bool.true_and])
          clear hx' hA
          have hj : decide ((0 : Int) < ((j + 1 : Nat) : Int)) = true := by simp
          have ca : (wr.alloc (.cells #[.int .i64 x, .int .i64 y] 33)).cell? ⟨b, off + j * 2, none⟩ = some (.int .i64 x') := (((Kp.refl No wr).alloc _).cell (p := ⟨b, off + j * 2, none⟩) (by simp; omega) (fun e => e)).trans hc'
          by_cases hne : x = x'
          · have Hbad := Lib.hid (runsB_not hlt (by rw [Hok.out]; simpa using hne))
            have he : (x == x') = true := by simpa using hne
            have Hne := Lib.hid hne
            clear hne
            go_wp2_with fail
            go_quiet (fail)
            go_wp2_with fail
            go_ret
            exact ⟨ret_bool Hbad.out.symm, (hkp.alloc _).drewN _⟩
          · have he : (x == x') = false := by simpa using hne
            go_wp2_with fail
            go_quiet (fail)
            go_wp2_with fail
            go_roundw
            case rel => exact ⟨j + 1 + 1, by omega, by go_num, congrArg (Value.int .i64) (by have := Hsum.out; omega), hall.succ (by rw [Hok.out]; simpa using hne), (hkp.alloc _).drewN _⟩
            case measure => simp [intOf]; omega
      · have Hbad := Lib.hid (runsB_not hlt (runAt_bad Hx.out (runP_false hok)))
        have hok' : x < 0 ∨ 9999 < x ∨ y < 1 ∨ 30 - sumM (ps.take k) < y := by omega
        clear hok
        go_wp2_with fail
        all_goals go_ret
        all_goals exact ⟨ret_bool Hbad.out.symm, hkp.alloc _⟩
    · obtain rfl : k = ps.length := by omega
      go_wp2_with fail
      go_ret
      exact ⟨ret_bool hall.all.symm, hkp⟩

set_option maxHeartbeats 2000000 in
theorem runsValid_spec (A : Option Addr) (ps : List (Int × Int)) (c lo hi : Nat) (w : World) (h : Prs w lo hi A ps) (hs : ps.length ≤ 4000000) : Calls Try.prog 14 #[.slice A ps.length c] w
    fun e w' => e = .returned (.bool (runsB ps)) ∧ Kp No w w' := by
  go_enter Try.func14, Try.ntmps14
  go_wp2_with fail
  go_loopw [3, 4] (fun a i wr => ∃ k : Nat, k ≤ ps.length ∧ i = .int .i64 k ∧ a = .int .i64 (sumM (ps.take k)) ∧ UptoN (runAt ps) k ∧ Kp No w wr) (fun _ i _ => ps.length - (intOf i).toNat)
  case atStart => exact ⟨0, Nat.zero_le _, rfl, rfl, UptoN.zero _, Kp.refl _ _⟩
  case round =>
    obtain ⟨k, hk, rfl, rfl, hall, hkp⟩ := hrel
    have hsb := sum_bound k hk hall
    by_cases hlt : k < ps.length
    · obtain ⟨b, off, x, y, rfl, hb1, hb2, hx, hc, hc2⟩ := (h.keepNo hkp).at_ hlt
      have Hx := Lib.hid hx
      have Hsum := Lib.hid (sumM_succ hx)
      clear hx
      cases h1 : inB x 0 9999
      · have Hbad := Lib.hid (runsB_not hlt (runAt_bad Hx.out (by simp [runP, h1])))
        go_wp2_with fail
        go_quiet ((go_at_call 40; exact quietL (l1In_any _ _ _ _)))
        go_wp2_with fail
        go_ret
        exact ⟨ret_bool Hbad.out.symm, hkp.drewN _⟩
      · cases h2 : inB y 1 30
        · have Hbad := Lib.hid (runsB_not hlt (runAt_bad Hx.out (runP_false (by
            intro h
            rw [inB_true (by omega)] at h2
            cases h2))))
          go_wp2_with fail
          go_quiet ((go_at_call 40; exact quietL (l1In_any _ _ _ _)))
          go_wp2_with fail
          go_ret
          exact ⟨ret_bool Hbad.out.symm, hkp.drewN _⟩
        · have hy : 1 ≤ y ∧ y ≤ 30 := by simpa [inB] using h2
          have hx9 : 0 ≤ x ∧ x ≤ 9999 := by simpa [inB] using h1
          obtain ⟨y0, y1⟩ := hy
          rcases k with _ | j
          · have hd : decide ((0 : Int) < ((0 : Nat) : Int)) = false := by simp
            have hz : sumM (ps.take 0) = 0 := rfl
            rw [hz] at hsb Hsum ⊢
            have Hok := Lib.hid (show runAt ps 0 = true by rw [runAt_zero Hx.out]; exact runP_iff.2 ⟨hx9.1, hx9.2, y0, by omega⟩)
            clear hz
            simp only [Nat.zero_mul, Nat.add_zero] at hc hc2
            go_wp2_with fail
            go_quiet ((go_at_call 40; exact quietL (l1In_any _ _ _ _)))
            go_wp2_with fail
            go_roundw
            case rel => exact ⟨1, by omega, by go_num, congrArg (Value.int .i64) (by have := Hsum.out; simp only [Nat.zero_add] at this; omega), hall.succ Hok.out, hkp.drewN _⟩
            case measure => simp [intOf]; omega
          · obtain ⟨b', off', x', y', hA, _, _, hx', hc', _⟩ := (h.keepNo hkp).at_ (k := j) (by omega)
            obtain ⟨rfl, rfl⟩ : b = b' ∧ off = off' := by injection hA with hA; injection hA with h1 h2; exact ⟨h1, h2⟩
            have Hok := Lib.hid (runAt_succ Hx.out hx')
            clear hx' hA
            have hj : decide ((0 : Int) < ((j + 1 : Nat) : Int)) = true := by simp
            by_cases hne : x = x'
            · have Hbad := Lib.hid (runsB_not hlt (by rw [Hok.out]; simp [hne]))
              have he : (x == x') = true := by simpa using hne
              have Hne := Lib.hid hne
              clear hne
              go_wp2_with fail
              go_quiet ((go_at_call 40; exact quietL (l1In_any _ _ _ _)))
              go_wp2_with fail
              go_ret
              exact ⟨ret_bool Hbad.out.symm, hkp.drewN _⟩
            · have he : (x == x') = false := by simpa using hne
              by_cases hsum : sumM (ps.take (j + 1)) + y ≤ 30
              · have Hok2 := Lib.hid (show runAt ps (j + 1) = true by rw [Hok.out, runP_iff.2 ⟨hx9.1, hx9.2, y0, hsum⟩]; simpa using hne)
                go_wp2_with fail
                go_quiet ((go_at_call 40; exact quietL (l1In_any _ _ _ _)))
                go_wp2_with fail
                go_roundw
                case rel => exact ⟨j + 1 + 1, by omega, by go_num, congrArg (Value.int .i64) (by have := Hsum.out; omega), hall.succ Hok2.out, hkp.drewN _⟩
                case measure => simp [intOf]; omega
              · have Hbad := Lib.hid (runsB_not hlt (by rw [Hok.out, runP_false (by omega)]; rfl))
                go_wp2_with fail
                go_quiet ((go_at_call 40; exact quietL (l1In_any _ _ _ _)))
                go_wp2_with fail
                go_ret
                exact ⟨ret_bool Hbad.out.symm, hkp.drewN _⟩
    · obtain rfl : k = ps.length := by omega
      go_wp2_with fail
      go_ret
      exact ⟨ret_bool hall.all.symm, hkp⟩

set_option maxHeartbeats 2000000 in
theorem walk_FnExactRunsValid {w : World} (A : Option Addr) (xs : List (Int × Int)) (c : Nat) (h : Prs w 0 w.heap.size A xs) (hz : xs.length ≤ 9223372036854775807)  :
    Calls Try.prog 3 #[.slice A xs.length c] w fun e w' => e = .returned (.bool true) ∧ Kp No w w' := by
  go_enter Try.func3, Try.ntmps3
  have hne : (runsB xs != runsB xs) = false := by simp
  by_cases hl : 1048576 < xs.length
  · go_wp2_with fail
    refine (szRunS_big _ _ _ _ _ (by omega) hz (by omega)).mono ?_
    rintro e w' ⟨rfl, rfl⟩
    go_wp2_with fail
    go_ret
    exact ⟨rfl, Kp.refl _ _⟩
  · go_wp2_with fail
    refine (szRunS_ok _ _ _ _ _ (by omega) (by omega)).mono ?_
    rintro e w' ⟨rfl, rfl⟩
    go_wp2_with fail
    refine (toRunS_any _ _ _ _ _ _ h (by omega)).mono ?_
    rintro e w1 ⟨A1, c1, rfl, o1, k1⟩
    go_wp2_with fail
    refine (runsValid_spec _ _ _ _ _ _ o1.prs (by omega)).mono ?_
    rintro e w2 ⟨rfl, k2⟩
    go_wp2_with fail
    have h2 := (h.keepNo k1).keepNo k2
    refine (toRunS_any _ _ _ _ _ _ h2 (by omega)).mono ?_
    rintro e w3 ⟨A3, c3, rfl, o3, k3⟩
    go_wp2_with fail
    have h3 := h2.keepNo k3
    refine (runsValid_impl _ _ _ _ _ _ o3.prs (by omega)).mono ?_
    rintro e w4 ⟨rfl, k4⟩
    go_wp2_with fail
    have h4 := h3.keepNo k4
    have o34 := o3.keepNo k4
    refine (toRunS_any _ _ _ _ _ _ h4 (by omega)).mono ?_
    rintro e w5 ⟨A5, c5, rfl, o5, k5⟩
    go_wp2_with fail
    refine (eqRunS_same _ _ _ _ _ _ _ _ _ _ (o34.keepNo k5).prs o5.prs (by omega)).mono ?_
    rintro e w6 ⟨rfl, k6⟩
    go_wp2_with fail
    go_ret
    exact ⟨rfl, ((((k1.trans k2).trans k3).trans k4).trans k5).trans k6⟩
end Go.Proofs.Ytjkncdmnajfkjaa
