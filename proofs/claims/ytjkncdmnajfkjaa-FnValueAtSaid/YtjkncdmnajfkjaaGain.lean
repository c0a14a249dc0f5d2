/- RunGain and ValueAt, of the program and of the reference. -/
import Derived.Test.YtjkncdmnajfkjaaPack
import Derived.WalkKit
import Derived.WalkSpells
import Derived.WalkLawsBesides
import Derived.Outline
namespace Go.Proofs.Ytjkncdmnajfkjaa
open Go.RowKit
set_option linter.unusedVariables false

set_option maxHeartbeats 1000000 in
theorem runGain_impl (A : Option Addr) (xs : List Int) (c lo hi : Nat) (w : World) (h : Ints w lo hi A xs) (hs : xs.length ≤ 4000000) : Calls Try.prog 22 #[.slice A xs.length c] w
    fun e w' => e = .returned (.int .i64 (runGain xs)) ∧ Kp No w w' := by
  have hp := packRuns_impl A xs c lo hi w h hs
  have hl := packRuns_len xs
  obtain ⟨r, b, hr⟩ : ∃ r b, packRuns xs = (r, b) := ⟨_, _, rfl⟩
  rw [hr] at hp hl
  have hl : r.length ≤ 30 := hl
  have HP := Lib.hid hp
  clear hp
  cases b
  · have H := Lib.hid (show runGain xs = 0 by unfold runGain; rw [hr]; rfl)
    clear hr
    go_enter Try.func22, Try.ntmps22
    go_wp2_with fail
    refine HP.out.mono ?_
    rintro e w1 ⟨A1, c1, rfl, o1, k1⟩
    go_wp2_with fail
    go_ret
    exact ⟨ret_int H.out.symm, k1⟩
  · have H := Lib.hid (show runGain xs = (xs.length : Int) - 2 * r.length by unfold runGain; rw [hr]; rfl)
    clear hr
    go_enter Try.func22, Try.ntmps22
    go_wp2_with fail
    refine HP.out.mono ?_
    rintro e w1 ⟨A1, c1, rfl, o1, k1⟩
    have hl2 : (r.length : Int) ≤ 30 := by omega
    go_wp2_with fail
    go_ret
    exact ⟨ret_int (by rw [H.out]), k1⟩

set_option maxHeartbeats 1000000 in
theorem runGain_spec (A : Option Addr) (xs : List Int) (c lo hi : Nat) (w : World) (h : Ints w lo hi A xs) (hs : xs.length ≤ 4000000) : Calls Try.prog 20 #[.slice A xs.length c] w
    fun e w' => e = .returned (.int .i64 (runGain xs)) ∧ Kp No w w' := by
  have hp := packRuns_spec A xs c lo hi w h hs
  have hl := packRuns_len xs
  obtain ⟨r, b, hr⟩ : ∃ r b, packRuns xs = (r, b) := ⟨_, _, rfl⟩
  rw [hr] at hp hl
  have hl : r.length ≤ 30 := hl
  have HP := Lib.hid hp
  clear hp
  cases b
  · have H := Lib.hid (show runGain xs = 0 by unfold runGain; rw [hr]; rfl)
    clear hr
    go_enter Try.func20, Try.ntmps20
    go_wp2_with fail
    refine HP.out.mono ?_
    rintro e w1 ⟨A1, c1, rfl, o1, k1⟩
    go_wp2_with fail
    go_ret
    exact ⟨ret_int H.out.symm, k1⟩
  · have H := Lib.hid (show runGain xs = (xs.length : Int) - 2 * r.length by unfold runGain; rw [hr]; rfl)
    clear hr
    go_enter Try.func20, Try.ntmps20
    go_wp2_with fail
    refine HP.out.mono ?_
    rintro e w1 ⟨A1, c1, rfl, o1, k1⟩
    have hl2 : (r.length : Int) ≤ 30 := by omega
    go_wp2_with fail
    go_ret
    exact ⟨ret_int (by rw [H.out]), k1⟩

set_option maxHeartbeats 1000000 in
theorem valueAt_impl (A : Option Addr) (ps : List (Int × Int)) (c lo hi : Nat) (n : Int) (w : World) (h : Prs w lo hi A ps) (hs : ps.length ≤ 4000000) : Calls Try.prog 26 #[.slice A ps.length c, .int .i64 n] w
    fun e w' => e = .returned (.int .i64 (valueAt ps n)) ∧ Kp No w w' := by
  go_enter Try.func26, Try.ntmps26
  go_wp2_with fail
  refine (unpackRuns_impl _ _ _ _ _ _ h hs).mono ?_
  rintro e w1 ⟨A1, c1, rfl, o1, k1⟩
  have hul := unpack_len ps
  by_cases hn : 0 ≤ n ∧ n < (unpackRuns ps).length
  · obtain ⟨n0, n1⟩ := hn
    obtain ⟨m, rfl⟩ := Int.eq_ofNat_of_zero_le n0
    have hm : m < (unpackRuns ps).length := by omega
    obtain ⟨g, x, rfl, hg1, hg2, hx, hc, hf⟩ := o1.at_ hm
    have H := Lib.hid (show valueAt ps (m : Int) = x by
      unfold valueAt; rw [if_pos ⟨n0, n1⟩, List.getD_eq_getElem?_getD, Int.toNat_natCast, hx]; rfl)
    clear hx
    go_wp2_with fail
    go_ret
    exact ⟨ret_int H.out.symm, k1⟩
  · have H := Lib.hid (show valueAt ps n = -1 by unfold valueAt; rw [if_neg hn])
    have hn' : n < 0 ∨ ((unpackRuns ps).length : Int) ≤ n := by omega
    clear hn
    go_wp2_with fail
    all_goals go_ret
    all_goals exact ⟨ret_int H.out.symm, k1⟩

set_option maxHeartbeats 2000000 in
theorem valueAt_spec (A : Option Addr) (ps : List (Int × Int)) (c lo hi : Nat) (n : Int) (w : World) (h : Prs w lo hi A ps) (hs : ps.length ≤ 4000000) (hn : n ≤ 9223372036854775807) : Calls Try.prog 25 #[.slice A ps.length c, .int .i64 n] w
    fun e w' => e = .returned (.int .i64 (valueAt ps n)) ∧ Kp No w w' := by
  go_enter Try.func25, Try.ntmps25
  go_wp2_with fail
  refine (runsValid_spec _ _ _ _ _ _ h hs).mono ?_
  rintro e w1 ⟨rfl, k1⟩
  cases hv : runsB ps
  · have H := Lib.hid (valueAt_bad (n := n) (.inl hv))
    go_wp2_with fail
    go_ret
    exact ⟨ret_int H.out.symm, k1⟩
  · by_cases hn0 : n < 0
    · have H := Lib.hid (valueAt_bad (ps := ps) (.inr hn0))
      go_wp2_with fail
      go_ret
      exact ⟨ret_int H.out.symm, k1⟩
    · have Hv := Lib.hid hv
      clear hv
      have hz0 : sumM (ps.take 0) = 0 := rfl
      have Hz0 := Lib.hid hz0
      clear hz0
      go_wp2_with fail
      go_loopw [1, 5] (fun q i wr => ∃ (k : Nat) (r : Int), k ≤ ps.length ∧ i = .int .i64 k ∧ q = .int .i64 r ∧ Hid (r = n - sumM (ps.take k)) ∧ 0 ≤ r ∧ r ≤ n ∧ Kp No w wr) (fun _ i _ => ps.length - (intOf i).toNat)
      case atStart => exact ⟨0, n, Nat.zero_le _, rfl, rfl, (by show _ = _; rw [Hz0.out]; omega), by omega, by omega, k1⟩
      case round =>
        clear k1
        obtain ⟨k, r, hk, rfl, rfl, Hr, r0, r1, kr⟩ := hrel
        by_cases hlt : k < ps.length
        · obtain ⟨b, off, x, y, rfl, hb1, hb2, hx, hc, hc2⟩ := (h.keepNo kr).at_ hlt
          obtain ⟨x0, x1, y0, y1, y2⟩ := run_at Hv.out hx
          have Hx := Lib.hid hx
          clear hx
          by_cases hry : r < y
          · have H := Lib.hid (valueAt_run Hv.out Hx.out (n := n) (by rw [← Hr.out]; exact r0) (by rw [← Hr.out]; exact hry))
            go_wp2_with fail
            go_ret
            exact ⟨ret_int H.out.symm, kr⟩
          · have hy30 : y ≤ 30 := by omega
            go_wp2_with fail
            go_roundw
            case rel => exact ⟨k + 1, r - y, by omega, by go_num, rfl, (by show _ = _; rw [sumM_succ Hx.out, Hr.out]; omega), by omega, by omega, kr⟩
            case measure => simp [intOf]; omega
        · obtain rfl : k = ps.length := by omega
          have H := Lib.hid (valueAt_end Hv.out (n := n) (by have := Hr.out; rw [List.take_length] at this; omega))
          go_wp2_with fail
          go_ret
          exact ⟨ret_int H.out.symm, kr⟩

end Go.Proofs.Ytjkncdmnajfkjaa
