/- slices.Sort at []int, on at most twelve numbers: the length stays, and only the numbers' own block changes. -/
import Derived.Test.YtagcdpnbkfoeaaaInts
import Derived.Test.YtagcdpnbkfoeaaaApp2
import Derived.Lib.Strings
import Derived.Lib.Slices
import Derived.Lib.Small
import Derived.Lib.Walk
import Derived.Lib.BitFns
import Derived.WalkKit
import Derived.WalkSpells
import Derived.WalkLawsBesides
import Derived.Outline
import Derived.Deep.QuietTactic
import Derived.BigQuiet
import Derived.Deep.RegionHeld3
import Derived.Deep.RegionWith
namespace Go.Proofs.Ytagcdpnbkfoeaaa
open Go.RowKit
set_option linter.unusedVariables false

set_option maxRecDepth 100000 in
theorem len64_small (x : Int) (w : World) (h0 : 0 ≤ x) (h1 : x ≤ 12) : Calls Try.prog 61 #[.int .u64 x] w fun e w' => (∃ v, e = .returned (.int .i64 v)) ∧ w = w' := by
  go_enter Try.func61, Try.ntmps61
  go_wp2
  all_goals go_ret
  all_goals exact ⟨⟨_, rfl⟩, rfl⟩
theorem len_small (x : Int) (w : World) (h0 : 0 ≤ x) (h1 : x ≤ 12) : Calls Try.prog 48 #[.int .u64 x] w fun e w' => (∃ v, e = .returned (.int .i64 v)) ∧ w = w' := by
  go_enter Try.func48, Try.ntmps48
  go_wp2_with fail
  refine (len64_small x _ h0 h1).mono ?_
  rintro e w' ⟨⟨v, rfl⟩, rfl⟩
  go_wp2_with fail
  go_ret
  exact ⟨⟨v, rfl⟩, rfl⟩
theorem isNaN_any (x : Int) (w : World) : Calls Try.prog 67 #[.int .i64 x] w fun e w' => e = .returned (.bool false) ∧ w' = w := by
  have hx : (x != x) = false := by simp
  go_enter Try.func67, Try.ntmps67
  go_wp2
  go_ret
  exact ⟨rfl, rfl⟩
theorem less_any (x y : Int) (w : World) : Calls Try.prog 57 #[.int .i64 x, .int .i64 y] w fun e w' => e = .returned (.bool (decide (x < y))) ∧ w' = w := by
  go_enter Try.func57, Try.ntmps57
  go_wp2_with fail
  refine (isNaN_any _ _).mono ?_
  rintro e w' ⟨rfl, rfl⟩
  go_wp2_with fail
  go_ret
  exact ⟨rfl, rfl⟩

/-- What the sort leaves. -/
def SortR (n : Nat) (A : Option Addr) (c lo hi : Nat) (w : World) (e : Ending) (w' : World) : Prop :=
  e = .returned (.tuple #[]) ∧ ∃ d, OwnI w' lo hi A c d ∧ d.length = n ∧ Kp (Rg lo hi) w w'

set_option maxHeartbeats 4000000 in
theorem insSort_ (A : Option Addr) (bs : List Int) (c lo hi : Nat) (w : World) (ho : OwnI w lo hi A c bs) (hlen : bs.length ≤ 12) :
    Calls Try.prog 51 #[.slice A bs.length c, .int .i64 0, .int .i64 bs.length] w (SortR bs.length A c lo hi w) := by
  go_enter Try.func51, Try.ntmps51
  go_wp2_with fail
  go_loopw [6] (fun v wr => ∃ (i : Nat) (d : List Int), v = .int .i64 i ∧ 1 ≤ i ∧ i ≤ 13 ∧ OwnI wr lo hi A c d ∧ Hid (d.length = bs.length) ∧ Kp (Rg lo hi) w wr) (fun v _ => 13 - (intOf v).toNat)
  case atStart => exact ⟨1, bs, rfl, by omega, by omega, ho, Lib.hid rfl, Kp.refl _ _⟩
  case round =>
    obtain ⟨i, d, rfl, hi1, hi13, ho1, hdl, hk⟩ := hrel
    by_cases hil : i < bs.length
    · go_wp2_with fail
      go_loopw [7] (fun v wr => ∃ (j : Nat) (d : List Int), v = .int .i64 j ∧ j ≤ i ∧ OwnI wr lo hi A c d ∧ Hid (d.length = bs.length) ∧ Kp (Rg lo hi) w wr) (fun v _ => (intOf v).toNat)
      case atStart => exact ⟨i, d, rfl, Nat.le_refl _, ho1, hdl, hk⟩
      case round =>
        clear ho1 hdl hk
        obtain ⟨j, d2, rfl, hji, ho2, Hdl, hk2⟩ := hrel
        by_cases hj : 0 < j
        · obtain ⟨jp, rfl⟩ : ∃ jp, j = jp + 1 := ⟨j - 1, by omega⟩
          have hj1 : jp + 1 < d2.length := by rw [Hdl.out]; omega
          have hj0 : jp < d2.length := by omega
          obtain ⟨g, p, rfl, hg1, hg2, hp, hcp, hfp⟩ := ho2.at_ hj0
          obtain ⟨g', e, hA, _, _, he, hce, hfe⟩ := ho2.at_ hj1
          obtain rfl : g = g' := by injection hA with hA; injection hA
          clear hp he hA
          have hw : IntKind.i64.wrap (jp : Int) = (jp : Int) := IntWalk.i64_in _ (by omega)
          have hgd : decide ((0 : Int) < (jp : Int) + 1) = true := decide_eq_true (by omega)
          have hjl : jp < bs.length := by omega
          have hjl1 : jp + 1 < bs.length := by omega
          by_cases hlt : e < p
          · have hd : decide (e < p) = true := by simpa using hlt
            clear hlt
            go_wp2_with fail
            go_quiet ((go_at_call 57; exact Calls.quiet_of_same (less_any _ _ _)))
            go_wp2_with fail
            go_region
            go_wp2_with fail
            go_roundw
            case rel =>
              have o3 := ((ho2.keepNo ((Kp.refl No wr).drewN (nq + 1))).set_ (jp + 1) p).set_ jp e
              exact ⟨jp, _, rfl, by omega, o3, Lib.hid (by simpa using Hdl.out), ((hk2.drewN _).setCell (fun _ => ⟨hg1, hg2⟩) _).setCell (fun _ => ⟨hg1, hg2⟩) _⟩
            case measure => simp [intOf]
          · have hd : decide (e < p) = false := by simpa using hlt
            clear hlt
            go_wp2_with fail
            go_quiet ((go_at_call 57; exact Calls.quiet_of_same (less_any _ _ _)))
            go_wp2_with fail
            go_roundw
            case rel => exact ⟨i + 1, d2, by go_num, by omega, by omega, ho2.keepNo ((Kp.refl _ _).drewN _), Hdl, hk2.drewN _⟩
            case measure => simp [intOf]; omega
        · obtain rfl : j = 0 := by omega
          go_wp2_with fail
          go_quiet (fail)
          go_wp2_with fail
          go_roundw
          case rel => exact ⟨i + 1, d2, by go_num, by omega, by omega, ho2.keepNo ((Kp.refl _ _).drewN _), Hdl, hk2.drewN _⟩
          case measure => simp [intOf]; omega
    · go_wp2_with fail
      refine bodyPost_ret (v := .tuple #[]) (by simp [results, go_sem]) rfl ⟨rfl, d, ho1, hdl.out, hk⟩

set_option maxHeartbeats 4000000 in
theorem pdq_ (A : Option Addr) (bs : List Int) (c lo hi : Nat) (v : Int) (w : World) (ho : OwnI w lo hi A c bs) (hlen : bs.length ≤ 12) :
    Calls Try.prog 47 #[.slice A bs.length c, .int .i64 0, .int .i64 bs.length, .int .i64 v] w (SortR bs.length A c lo hi w) := by
  go_enter Try.func47, Try.ntmps47
  go_wp2_with fail
  refine wp_loop_rounds 1 ?_
  rw [rounds_succ]
  go_wp2_with fail
  refine (insSort_ _ _ _ _ _ _ ho hlen).mono ?_
  rintro e w' ⟨rfl, d, o, l, k⟩
  go_wp2_with fail
  refine bodyPost_ret (v := .tuple #[]) (by simp [results, go_sem]) rfl ⟨rfl, d, o, l, k⟩

set_option maxHeartbeats 4000000 in
theorem sort_ (A : Option Addr) (bs : List Int) (c lo hi : Nat) (w : World) (ho : OwnI w lo hi A c bs) (hlen : bs.length ≤ 12) :
    Calls Try.prog 37 #[.slice A bs.length c] w (SortR bs.length A c lo hi w) := by
  go_enter Try.func37, Try.ntmps37
  go_wp2_with fail
  refine (len_small _ _ (by omega) (by omega)).mono ?_
  rintro e w' ⟨⟨v, rfl⟩, rfl⟩
  go_wp2_with fail
  refine (pdq_ _ _ _ _ _ v _ ho hlen).mono ?_
  rintro e w' ⟨rfl, d, o, l, k⟩
  go_wp2_with fail
  refine bodyPost_ret (v := .tuple #[]) (by simp [results, go_sem]) rfl ⟨rfl, d, o, l, k⟩
end Go.Proofs.Ytagcdpnbkfoeaaa
