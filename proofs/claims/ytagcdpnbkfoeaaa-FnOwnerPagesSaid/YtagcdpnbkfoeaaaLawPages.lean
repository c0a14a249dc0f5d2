/- The walk of the law FnOwnerPages. -/
import Derived.Test.YtagcdpnbkfoeaaaDrawPages
import Derived.Test.YtagcdpnbkfoeaaaUsed
import Derived.Test.YtagcdpnbkfoeaaaOver
namespace Go.Proofs.Ytagcdpnbkfoeaaa
open Go.RowKit
set_option linter.unusedVariables false

theorem np_take_succ (xss : List (List Int)) (f : Nat) : np (xss.take (f + 1)).flatten = np (xss.take f).flatten + np (xss.getD f []) := by
  rcases Nat.lt_or_ge f xss.length with hf | hf
  · rw [List.take_succ_eq_append_getElem hf, List.flatten_append, np_app]
    simp [List.getD, List.getElem?_eq_getElem hf]
  · rw [List.take_of_length_le (by omega), List.take_of_length_le hf]
    simp [List.getD, List.getElem?_eq_none hf, np]
theorem pg_sum (os : List Int) (xss : List (List Int)) (f : Nat) : pg os xss 0 f + pg os xss 1 f + pg os xss 2 f + pg os xss 3 f ≤ np (xss.take f).flatten := by
  induction f with
  | zero => simp [pg]
  | succ f ih =>
    rw [np_take_succ]
    simp only [pg]
    cases ho : os[f]? with
    | none => simp; omega
    | some o =>
      simp only [Option.some.injEq]
      by_cases h0 : o = ((0 : Nat) : Int)
      · rw [if_pos h0, if_neg (by omega), if_neg (by omega), if_neg (by omega)]; omega
      · by_cases h1 : o = ((1 : Nat) : Int)
        · rw [if_neg h0, if_pos h1, if_neg (by omega), if_neg (by omega)]; omega
        · by_cases h2 : o = ((2 : Nat) : Int)
          · rw [if_neg h0, if_neg h1, if_pos h2, if_neg (by omega)]; omega
          · rw [if_neg h0, if_neg h1, if_neg h2]
            split <;> omega
/-- What the pages of the owners are like. -/
theorem pages_facts (xss : List (List Int)) (os : List Int) : ((ownerPages xss os).length = 0 ∨ (ownerPages xss os).length = 4) ∧ (∀ x ∈ ownerPages xss os, 0 ≤ x ∧ x ≤ 48) ∧ (ownerPages xss os).sum ≤ (usedN xss : Int) := by
  cases hv : tableB xss with
  | false =>
    rw [pages_none (by rw [hv]; rfl)]
    exact ⟨.inl rfl, by simp, by simp⟩
  | true =>
    cases hw : ownersValid os with
    | false =>
      rw [pages_none (by rw [hv, hw]; rfl)]
      exact ⟨.inl rfl, by simp, by simp⟩
    | true =>
      have e : ownerPages xss os = p4 (fun n => pg os xss n 8) := by simp [ownerPages, hv, hw]
      obtain ⟨h8, h6, _⟩ := tableB_dec hv
      rw [e]
      refine ⟨.inr rfl, fun x hx => ?_, ?_⟩
      · have b := fun n => pg_le (os := os) h6 n 8
        simp only [p4, List.mem_cons, List.not_mem_nil, or_false] at hx
        have b0 := b 0; have b1 := b 1; have b2 := b 2; have b3 := b 3
        rcases hx with rfl | rfl | rfl | rfl <;> omega
      · have h := pg_sum os xss 8
        rw [← h8, List.take_length] at h
        simp only [p4, List.sum_cons, List.sum_nil, usedN, hv, if_true]
        rw [h8] at h
        omega

set_option maxHeartbeats 4000000 in
theorem walk_FnOwnerPages {w : World} (A : Option Addr) (zs : List Int) (c : Nat) (h : Byts w A zs) (hcap : zs.length ≤ c) :
    Calls Try.prog 5 #[.slice A zs.length c] w fun e w' => e = .returned (.bool true) ∧ Kp No w w' := by
  go_enter Try.func5, Try.ntmps5
  by_cases hl : 1048576 < zs.length
  · go_wp2_with fail
    go_ret
    exact ⟨rfl, Kp.refl _ _⟩
  · go_wp2_with fail
    refine (drawOwnerPages_ _ _ _ _ h hcap (by omega)).mono ?_
    rintro e w1 ⟨A1, xss, c1, A2, os, c2, rfl, ⟨gt, h8, h6, hnp⟩, ow, l8, kp⟩
    clear h hcap
    have hF := pages_facts xss os
    have bx := BoxT.new w1 32 A1 xss.length c1
    have kA : Kp No w1 (w1.alloc (.cells #[.slice A1 xss.length c1] 32)) := (Kp.refl _ _).alloc _
    replace kp := kp.trans kA
    replace gt := gt.keepNo kA
    replace ow := ow.keepNo kA
    clear kA
    have hrows : ∀ (k : Nat) (xs : List Int), xss[k]? = some xs → xs.length ≤ 4000000 := fun k xs hx => by have := h6 k xs hx; omega
    go_wp2_with fail
    refine (ownerPages_impl _ _ _ _ _ _ _ _ _ _ _ gt (by omega) hrows ow (by omega)).mono ?_
    rintro e w2 ⟨A3, c3, rfl, o3, k2⟩
    replace kp := kp.trans k2
    replace gt := gt.keepNo k2
    replace ow := ow.keepNo k2
    replace bx := bx.keepNo k2
    clear k2
    have y := bx
    obtain ⟨b0, b1, b2⟩ := y
    go_wp2_with fail
    refine (ownerPages_spec _ _ _ _ _ _ _ _ _ _ _ gt (by omega) hrows ow (by omega)).mono ?_
    rintro e w3 ⟨A4, c4, rfl, o4, k3⟩
    clear b0 b1 b2
    replace kp := kp.trans k3
    replace gt := gt.keepNo k3
    replace bx := bx.keepNo k3
    replace o3 := o3.keepNo k3
    clear k3 ow
    obtain ⟨hPl, hPx, hPs⟩ := hF
    have hP4 : (ownerPages xss os).length ≤ 4 := by omega
    generalize ownerPages xss os = P at *
    have HPl := Lib.hid hPl; have HPx := Lib.hid hPx; have HPs := Lib.hid hPs
    clear hPl hPx hPs
    go_wp2_with fail
    refine (sameInts_same _ _ _ _ _ _ _ _ _ _ o3.ints o4.ints (by omega)).mono ?_
    rintro e w4 ⟨rfl, k4⟩
    replace kp := kp.trans k4
    replace gt := gt.keepNo k4
    replace bx := bx.keepNo k4
    replace o3 := o3.keepNo k4
    clear k4 o4
    go_wp2_with fail
    go_loop [6, 7] (fun q i => ∃ (k : Nat) (sm : Int), k ≤ P.length ∧ i = .int .i64 k ∧ q = .int .i64 sm ∧ 0 ≤ sm ∧ sm ≤ 48 * k ∧ Hid (sm = (P.take k).sum)) (fun _ i => P.length - (intOf i).toNat)
    case atStart => exact ⟨0, 0, by omega, rfl, rfl, by omega, by omega, (by show _ = _; simp)⟩
    case round =>
      obtain ⟨k, sm, hk, rfl, rfl, hs0, hs1, hsm⟩ := hrel
      by_cases hkl : k < P.length
      · obtain ⟨b, off, x, rfl, hb1, hb2, hx, hc⟩ := o3.ints.at_ hkl
        have hxb := HPx.out x (List.mem_of_getElem? hx)
        have Hs := Lib.hid (show (P.take (k + 1)).sum = (P.take k).sum + x by
          obtain ⟨hk', rfl⟩ := List.getElem?_eq_some_iff.1 hx
          rw [List.take_succ_eq_append_getElem hk', List.sum_append_int]; simp)
        clear hx
        have hadd : IntKind.i64.wrap (sm + x) = sm + x := IntWalk.i64_in _ (by omega)
        obtain ⟨hx0, hx1⟩ := hxb
        go_wp2_with fail
        go_round
        case rel => exact ⟨k + 1, sm + x, by omega, by go_num, rfl, by omega, by omega, (by show _ = _; rw [Hs.out, hsm.out])⟩
        case measure => simp [intOf]; omega
      · obtain rfl : k = P.length := by omega
        have hsm' := hsm.out
        rw [List.take_length] at hsm'
        have hle : sm ≤ (usedN xss : Int) := by rw [hsm']; exact HPs.out
        clear hsm'
        have y := bx
        obtain ⟨b0, b1, b2⟩ := y
        go_wp2_with fail
        refine (usedPages_ _ _ _ _ _ _ gt (by omega) hrows hnp).mono ?_
        rintro e w5 ⟨A5, n5, c5, rfl, hn5, k5⟩
        rw [← hn5] at hle
        clear hn5 b0 b1 b2
        replace kp := kp.trans k5
        rcases HPl.out with hz | hz
        · have hz1 : ((P.length : Int) == 0) = true := by simp [hz]
          have hz2 : ((P.length : Int) == 4) = false := by simp [hz]
          go_wp2_with (go_at_call 14; refine (alive_ _).mono ?_; rintro e w' ⟨rfl, rfl⟩)
          go_ret
          exact ⟨rfl, kp⟩
        · have hz1 : ((P.length : Int) == 0) = false := by simp [hz]
          have hz2 : ((P.length : Int) == 4) = true := by simp [hz]
          go_wp2_with (go_at_call 14; refine (alive_ _).mono ?_; rintro e w' ⟨rfl, rfl⟩)
          go_ret
          exact ⟨rfl, kp⟩
end Go.Proofs.Ytagcdpnbkfoeaaa
