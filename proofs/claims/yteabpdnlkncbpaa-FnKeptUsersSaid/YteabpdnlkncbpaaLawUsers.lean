/- The walk of the law FnKeptUsers. -/
import Derived.Test.YteabpdnlkncbpaaDrawKept
import Derived.WalkKit
import Derived.WalkSpells
import Derived.WalkLawsBesides
import Derived.Outline
namespace Go.Proofs.Yteabpdnlkncbpaa
open Go.RowKit
set_option linter.unusedVariables false

set_option maxHeartbeats 4000000 in
theorem walk_FnKeptUsers {w : World} (A : Option Addr) (zs : List Int) (c : Nat) (h : Byts w A zs) (hcap : zs.length ≤ c) :
    Calls Try.prog 6 #[.slice A zs.length c] w fun e w' => e = .returned (.bool true) ∧ Kp No w w' := by
  go_enter Try.func6, Try.ntmps6
  by_cases hl : 1048576 < zs.length
  · go_wp2_with fail
    go_ret
    exact ⟨rfl, Kp.refl _ _⟩
  · go_wp2_with fail
    refine (drawKeptUsers _ _ _ _ h hcap (by omega)).mono ?_
    rintro e w1 ⟨A1, c1, ps, rfl, o1, l1, k1⟩
    clear h hcap
    have hbb : (keptUsers ps != keptUsers ps) = false := by simp
    go_wp2_with fail
    refine (keptUsers_impl _ _ _ _ _ _ o1.prs (by omega)).mono ?_
    rintro e w2 ⟨rfl, k2⟩
    go_wp2_with fail
    refine (keptUsers_spec _ _ _ _ _ _ (o1.keepNo k2).prs (by omega)).mono ?_
    rintro e w3 ⟨rfl, k3⟩
    have o3 := (o1.keepNo k2).keepNo k3
    have k13 := (k1.trans k2).trans k3
    clear o1 k1 k2 k3
    cases hv : keptB ps
    · have hm : keptUsers ps = -1 := by simp [keptUsers, hv]
      rw [hm] at hbb ⊢
      clear hm
      go_wp2_with fail
      refine (alive_ _).mono ?_
      rintro e w' ⟨rfl, rfl⟩
      go_wp2_with fail
      go_ret
      exact ⟨rfl, k13⟩
    · have hm : keptUsers ps = usersP ps := by simp [keptUsers, hv]
      rw [hm] at hbb ⊢
      have hbd := usersP_bound hv ps.length (Nat.le_refl _)
      rw [List.take_length] at hbd
      have Hv := Lib.hid hv
      clear hm hv
      generalize hN : usersP ps = N at *
      have HN := Lib.hid hN
      clear hN
      obtain ⟨hbd1, hbd2⟩ := hbd
      have hbd3 : decide ((ps.length : Int) ≤ N) = true := decide_eq_true hbd1
      go_wp2_with fail
      go_loopw [5, 6] (fun m i wr => ∃ k : Nat, k ≤ ps.length ∧ i = .int .i64 k ∧ m = .int .i64 (usersP (ps.take k)) ∧ Kp No w3 wr) (fun _ i _ => ps.length - (intOf i).toNat)
      case atStart => exact ⟨0, Nat.zero_le _, rfl, rfl, Kp.refl _ _⟩
      case round =>
        obtain ⟨k, hk, rfl, rfl, hkr⟩ := hrel
        have hbk := usersP_bound Hv.out k hk
        by_cases hlt : k < ps.length
        · obtain ⟨b, off, x, y, rfl, hb1, hb2, hx, hc, hc2⟩ := (o3.keepNo hkr).prs.at_ hlt
          have hy := kept_at Hv.out hx
          have Hx := Lib.hid (usersP_succ hx); clear hx
          go_wp2_with fail
          go_roundw
          case rel => exact ⟨k + 1, by omega, by go_num, by rw [Hx.out], hkr⟩
          case measure => simp [intOf]; omega
        · obtain rfl : k = ps.length := by omega
          have he : (N == usersP (ps.take ps.length)) = true := by rw [List.take_length, HN.out]; simp
          have he2 : (N == usersP ps) = true := by rw [HN.out]; simp
          go_wp2_with fail
          go_ret
          exact ⟨rfl, k13.trans hkr⟩
end Go.Proofs.Yteabpdnlkncbpaa
