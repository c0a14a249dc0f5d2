/- The walk of the law FnOverOwners. -/
import Derived.Test.YtagcdpnbkfoeaaaDrawPages
import Derived.Test.YtagcdpnbkfoeaaaOverS
import Derived.Deep.QuietTactic
import Derived.BigQuiet
namespace Go.Proofs.Ytagcdpnbkfoeaaa
open Go.RowKit
set_option linter.unusedVariables false

def hasB (xs : List Int) (n : Int) : Bool := xs.contains n
theorem has_no {xs : List Int} {n : Int} (h : ∀ (j : Nat) (x : Int), j < xs.length → xs[j]? = some x → x ≠ n) : hasB xs n = false := by
  simp only [hasB, List.contains_eq_mem, decide_eq_false_iff_not]
  intro hm
  obtain ⟨j, hj⟩ := List.mem_iff_getElem?.1 hm
  exact h j n (List.getElem?_eq_some_iff.1 hj).1 hj rfl
theorem has_yes {xs : List Int} {n : Int} {j : Nat} (h : xs[j]? = some n) : hasB xs n = true := by
  simp only [hasB, List.contains_eq_mem, decide_eq_true_eq]
  exact List.mem_of_getElem? h
theorem hasInt_any (A : Option Addr) (xs : List Int) (c lo hi : Nat) (n : Int) (w : World) (h : Ints w lo hi A xs) (hs : xs.length ≤ 4000000) : Calls Try.prog 29 #[.slice A xs.length c, .int .i64 n] w
    fun e w' => e = .returned (.bool (hasB xs n)) ∧ w' = w := by
  go_enter Try.func29, Try.ntmps29
  go_wp2_with fail
  go_loop [5] (fun i => ∃ k : Nat, k ≤ xs.length ∧ i = .int .i64 k ∧ ∀ (j : Nat) (x : Int), j < k → xs[j]? = some x → x ≠ n) (fun i => xs.length - (intOf i).toNat)
  case atStart => exact ⟨0, by omega, rfl, fun j x hj => absurd hj (by omega)⟩
  case round =>
    obtain ⟨k, hk, rfl, hall⟩ := hrel
    have Hall := Lib.hid hall
    clear hall
    by_cases hlt : k < xs.length
    · obtain ⟨b, off, x, rfl, hb1, hb2, hx, hc⟩ := h.at_ hlt
      have Hx := Lib.hid hx; clear hx
      by_cases he : x = n
      · subst he
        have hbe : (x == x) = true := by simp
        have Hy := Lib.hid (has_yes Hx.out)
        go_wp2_with fail
        go_ret
        exact ⟨ret_bool Hy.out.symm, rfl⟩
      · have hbe : (x == n) = false := by simpa using he
        go_wp2_with fail
        go_round
        case rel => exact ⟨k + 1, by omega, by go_num, fun j y hj hy => by
          by_cases e : j = k
          · subst e; rw [Hx.out] at hy; injection hy with hy; rw [← hy]; exact he
          · exact Hall.out j y (by omega) hy⟩
        case measure => simp [intOf]; omega
    · obtain rfl : k = xs.length := by omega
      have Hn := Lib.hid (has_no Hall.out)
      go_wp2_with fail
      go_ret
      exact ⟨ret_bool Hn.out.symm, rfl⟩

theorem ovr_has (P ms : List Int) {k n : Nat} (hk : k < n) : hasB (ovr P ms n) (k : Int) = decide (ms.getD k 0 < P.getD k 0) := by
  rw [Bool.eq_iff_iff]
  simp only [hasB, ovr, List.contains_eq_mem, decide_eq_true_eq, List.mem_map, List.mem_filter, List.mem_range]
  constructor
  · rintro ⟨j, ⟨hj, h⟩, e⟩
    obtain rfl : j = k := by omega
    exact h
  · intro h
    exact ⟨k, ⟨hk, h⟩, rfl⟩
/-- What the owners who are over are like. -/
theorem over_facts (xss : List (List Int)) (os ms : List Int) : ((ownerPages xss os).length = 0 ∨ (ownerPages xss os).length = 4) ∧ (overOwners xss os ms).length ≤ 4 ∧
    ((ownerPages xss os).length = 0 ∨ ¬ ms.length = (ownerPages xss os).length → (overOwners xss os ms).length = 0) ∧
    (ms.length = (ownerPages xss os).length → ∀ (k : Nat) (p m : Int), (ownerPages xss os)[k]? = some p → ms[k]? = some m → hasB (overOwners xss os ms) (k : Int) = (ms.all (fun x => decide (0 ≤ x)) && decide (m < p))) := by
  have hle : (overOwners xss os ms).length ≤ 4 := by
    unfold overOwners
    split
    · exact ovr_le _ _ _
    · simp
  cases hall : (tableB xss && ownersValid os) with
  | false =>
    have h0 : overOwners xss os ms = [] := by
      rcases Bool.and_eq_false_iff.1 hall with h1 | h1
      · exact over_table h1
      · exact over_own h1
    rw [pages_none hall, h0]
    exact ⟨.inl rfl, by simp, fun _ => rfl, fun _ k p m hp => by simp at hp⟩
  | true =>
    obtain ⟨hv, hw⟩ := Bool.and_eq_true_iff.1 hall
    have h4 := pages_len hv hw
    refine ⟨.inr h4, hle, fun h => ?_, fun h k p m hp hm => ?_⟩
    · rw [h4] at h
      rw [over_len (by omega)]; rfl
    · have hk := (List.getElem?_eq_some_iff.1 hp).1
      rw [h4] at h hk
      cases hr : ms.all (fun x => decide (0 ≤ x)) with
      | false =>
        obtain ⟨x, hx, hx0⟩ := List.all_eq_false.1 hr
        obtain ⟨j, hj⟩ := List.mem_iff_getElem?.1 hx
        rw [over_neg hj (by simpa using hx0)]
        rfl
      | true =>
        rw [over_ok hv hw h (fun j x hj => by
          have := List.all_eq_true.1 hr x (List.mem_of_getElem? hj)
          simpa using this), ovr_has _ _ hk]
        simp [List.getD, hp, hm]

set_option maxHeartbeats 8000000 in
theorem walk_FnOverOwners {w : World} (A : Option Addr) (zs : List Int) (c : Nat) (h : Byts w A zs) (hcap : zs.length ≤ c) :
    Calls Try.prog 7 #[.slice A zs.length c] w fun e w' => e = .returned (.bool true) ∧ Kp No w w' := by
  go_enter Try.func7, Try.ntmps7
  by_cases hl : 1048576 < zs.length
  · go_wp2_with fail
    go_ret
    exact ⟨rfl, Kp.refl _ _⟩
  · go_wp2_with fail
    refine (drawOverOwners_ _ _ _ _ h hcap (by omega)).mono ?_
    rintro e w1 ⟨A1, xss, c1, A2, os, c2, A3, ms, c3, rfl, ⟨gt, h8, h6, _⟩, ow, l8, om, l4, kp⟩
    clear h hcap
    have hF := over_facts xss os ms
    have bx := BoxT.new w1 32 A1 xss.length c1
    have kA : Kp No w1 (w1.alloc (.cells #[.slice A1 xss.length c1] 32)) := (Kp.refl _ _).alloc _
    replace kp := kp.trans kA
    replace gt := gt.keepNo kA
    replace ow := ow.keepNo kA
    replace om := om.keepNo kA
    clear kA
    have hrows : ∀ (k : Nat) (xs : List Int), xss[k]? = some xs → xs.length ≤ 4000000 := fun k xs hx => by have := h6 k xs hx; omega
    go_wp2_with fail
    refine (overOwners_impl _ _ _ _ _ _ _ _ _ _ _ _ _ _ _ _ gt (by omega) hrows ow (by omega) om (by omega)).mono ?_
    rintro e w2 ⟨A4, c4, rfl, o4, k2⟩
    replace kp := kp.trans k2
    replace gt := gt.keepNo k2
    replace ow := ow.keepNo k2
    replace om := om.keepNo k2
    replace bx := bx.keepNo k2
    clear k2
    have y := bx
    obtain ⟨b0, b1, b2⟩ := y
    go_wp2_with fail
    refine (overOwners_spec _ _ _ _ _ _ _ _ _ _ _ _ _ _ _ _ gt (by omega) hrows ow (by omega) om (by omega)).mono ?_
    rintro e w3 ⟨A5, c5, rfl, o5, k3⟩
    clear b0 b1 b2
    replace kp := kp.trans k3
    replace gt := gt.keepNo k3
    replace ow := ow.keepNo k3
    replace om := om.keepNo k3
    replace bx := bx.keepNo k3
    replace o4 := o4.keepNo k3
    clear k3
    obtain ⟨hPl, hXl, hX0, hXk⟩ := hF
    generalize overOwners xss os ms = X at *
    have HX0 := Lib.hid hX0; have HXk := Lib.hid hXk
    clear hX0 hXk
    go_wp2_with fail
    refine (sameInts_same _ _ _ _ _ _ _ _ _ _ o4.ints o5.ints (by omega)).mono ?_
    rintro e w4 ⟨rfl, k4⟩
    replace kp := kp.trans k4
    replace gt := gt.keepNo k4
    replace ow := ow.keepNo k4
    replace om := om.keepNo k4
    replace bx := bx.keepNo k4
    replace o4 := o4.keepNo k4
    clear k4 o5
    have y := bx
    obtain ⟨b0, b1, b2⟩ := y
    go_wp2_with fail
    refine (ownerPages_impl _ _ _ _ _ _ _ _ _ _ _ gt (by omega) hrows ow (by omega)).mono ?_
    rintro e w5 ⟨A6, c6, rfl, o6, k5⟩
    clear b0 b1 b2
    replace kp := kp.trans k5
    replace om := om.keepNo k5
    replace o4 := o4.keepNo k5
    clear k5 gt ow bx
    generalize ownerPages xss os = P at *
    have HPl := Lib.hid hPl
    clear hPl
    by_cases hout : P.length = 0 ∨ ¬ ms.length = P.length
    · have hx := HX0.out hout
      have hx0 : ((X.length : Int) == 0) = true := by simp [hx]
      rcases hout with h0 | h0
      · have hp0 : ((P.length : Int) == 0) = true := by simp [h0]
        clear h0
        go_wp2_with (go_at_call 14; refine (alive_ _).mono ?_; rintro e w' ⟨rfl, rfl⟩)
        go_ret
        exact ⟨rfl, kp⟩
      · have hne : ((ms.length : Int) != (P.length : Int)) = true := by simp; omega
        cases hp0 : ((P.length : Int) == 0)
        · go_wp2_with (go_at_call 14; refine (alive_ _).mono ?_; rintro e w' ⟨rfl, rfl⟩)
          go_ret
          exact ⟨rfl, kp⟩
        · go_wp2_with (go_at_call 14; refine (alive_ _).mono ?_; rintro e w' ⟨rfl, rfl⟩)
          go_ret
          exact ⟨rfl, kp⟩
    · have hpne : ¬ P.length = 0 := fun e => hout (.inl e)
      have heq : ms.length = P.length := by omega
      have hP4 : P.length = 4 := by have := HPl.out; omega
      have hp0 : ((P.length : Int) == 0) = false := by simp [hpne]
      have hne : ((ms.length : Int) != (P.length : Int)) = false := by simp [heq]
      have hk2 := Lib.hid (HXk.out heq)
      have hpl1 : P.length ≤ 4 := by omega
      have hpl2 : 4 ≤ P.length := by omega
      have hml1 : ms.length ≤ P.length := by omega
      have hml2 : P.length ≤ ms.length := by omega
      clear heq hP4 hpne hout
      go_wp2_with fail
      go_loop [8, 9] (fun q i => ∃ (k : Nat) (rb : Bool), k ≤ ms.length ∧ i = .int .i64 k ∧ q = .bool rb ∧ Hid (rb = (ms.take k).all (fun x => decide (0 ≤ x)))) (fun _ i => ms.length - (intOf i).toNat)
      case atStart => exact ⟨0, true, by omega, rfl, rfl, (by show _ = _; simp)⟩
      case round =>
        obtain ⟨k, rb, hk, rfl, rfl, hrb⟩ := hrel
        by_cases hkl : k < ms.length
        · obtain ⟨b, off, x, rfl, hb1, hb2, hx, hc⟩ := om.at_ hkl
          have Hs := Lib.hid (show (ms.take (k + 1)).all (fun x => decide (0 ≤ x)) = ((ms.take k).all (fun x => decide (0 ≤ x)) && decide (0 ≤ x)) by
            obtain ⟨hk', rfl⟩ := List.getElem?_eq_some_iff.1 hx
            rw [List.take_succ_eq_append_getElem hk', List.all_append]; simp)
          clear hx
          cases rb
          · go_wp2_with fail
            go_round
            case rel => exact ⟨k + 1, false, by omega, by go_num, rfl, (by show _ = _; rw [Hs.out, ← hrb.out]; rfl)⟩
            case measure => simp [intOf]; omega
          · go_wp2_with fail
            go_round
            case rel => exact ⟨k + 1, decide (0 ≤ x), by omega, by go_num, rfl, (by show _ = _; rw [Hs.out, ← hrb.out]; rfl)⟩
            case measure => simp [intOf]; omega
        · obtain rfl : k = ms.length := by omega
          have hrb' := hrb.out
          rw [List.take_length] at hrb'
          have hk3 : Hid (∀ (k : Nat) (p m : Int), P[k]? = some p → ms[k]? = some m → hasB X (k : Int) = (rb && decide (m < p))) := Lib.hid (by rw [hrb']; exact hk2.out)
          clear hrb hrb' hk2
          go_wp2_with fail
          go_loopw [10] (fun i wr => ∃ k : Nat, k ≤ P.length ∧ i = .int .i64 k ∧ Kp No w5 wr) (fun i _ => P.length - (intOf i).toNat)
          case atStart => exact ⟨0, by omega, rfl, Kp.refl _ _⟩
          case round =>
            obtain ⟨k, hk, rfl, hkp⟩ := hrel
            by_cases hkl : k < P.length
            · obtain ⟨b, off, p, rfl, hb1, hb2, hp, hcp⟩ := (o6.ints.keepNo hkp).at_ hkl
              obtain ⟨bm, offm, m, rfl, hbm1, hbm2, hm, hcm⟩ := (om.keepNo hkp).at_ (k := k) (by omega)
              have hX := hk3.out k p m hp hm
              have hXi := o4.ints.keepNo hkp
              clear hp hm
              have hkm : k < ms.length := by omega
              cases rb
              · have hXf : hasB X (k : Int) = false := by rw [hX]; rfl
                have hbb : (false != false) = false := rfl
                clear hX
                go_wp2_with fail
                go_quiet ((go_at_call 29; exact Calls.quiet_of_same (hasInt_any _ _ _ _ _ _ _ (hXi.keepNo ((Kp.refl _ _).drewN _)) (by omega))))
                go_wp2_with fail
                go_roundw
                case rel => exact ⟨k + 1, by omega, by go_num, hkp.drewN _⟩
                case measure => simp [intOf]; omega
              · have hbb : (hasB X (k : Int) == decide (m < p)) = true := by rw [hX]; simp
                clear hX
                go_wp2_with fail
                go_quiet ((go_at_call 29; exact Calls.quiet_of_same (hasInt_any _ _ _ _ _ _ _ (hXi.keepNo ((Kp.refl _ _).drewN _)) (by omega))))
                go_wp2_with fail
                go_roundw
                case rel => exact ⟨k + 1, by omega, by go_num, hkp.drewN _⟩
                case measure => simp [intOf]; omega
            · obtain rfl : k = P.length := by omega
              have hXl' : X.length ≤ P.length := by omega
              go_wp2_with fail
              go_ret
              exact ⟨rfl, kp.trans hkp⟩
end Go.Proofs.Ytagcdpnbkfoeaaa
