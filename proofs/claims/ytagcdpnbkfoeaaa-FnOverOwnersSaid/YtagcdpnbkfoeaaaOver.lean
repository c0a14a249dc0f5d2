/- OverOwners, of the program and of the reference: one Lean function overOwners for both. -/
import Derived.Test.YtagcdpnbkfoeaaaPagesS
namespace Go.Proofs.Ytagcdpnbkfoeaaa
open Go.RowKit
set_option linter.unusedVariables false

/-- Who of the first k has more pages than is allowed. -/
def ovr (P ms : List Int) (k : Nat) : List Int := ((List.range k).filter fun n : Nat => decide (ms.getD n 0 < P.getD n 0)).map fun n : Nat => (n : Int)
theorem ovr_succ {P ms : List Int} {k : Nat} {p m : Int} (hp : P[k]? = some p) (hm : ms[k]? = some m) : ovr P ms (k + 1) = ovr P ms k ++ (if m < p then [(k : Int)] else []) := by
  have e1 : P.getD k 0 = p := by simp [List.getD, hp]
  have e2 : ms.getD k 0 = m := by simp [List.getD, hm]
  unfold ovr
  rw [List.range_succ, List.filter_append, List.map_append]
  congr 1
  by_cases h : m < p
  · rw [if_pos h, List.filter_cons, e1, e2]; simp [h]
  · rw [if_neg h, List.filter_cons, e1, e2]; simp [h]
theorem ovr_le (P ms : List Int) (k : Nat) : (ovr P ms k).length ≤ k := by
  unfold ovr
  rw [List.length_map]
  exact Nat.le_trans (List.length_filter_le _ _) (by simp)
def overOwners (xss : List (List Int)) (os ms : List Int) : List Int := if tableB xss && ownersValid os && (decide (ms.length = 4) && ms.all fun x => decide (0 ≤ x)) then ovr (ownerPages xss os) ms 4 else []
theorem over_table {xss : List (List Int)} {os ms : List Int} (h : tableB xss = false) : overOwners xss os ms = [] := by simp [overOwners, h]
theorem over_own {xss : List (List Int)} {os ms : List Int} (h : ownersValid os = false) : overOwners xss os ms = [] := by simp [overOwners, h]
theorem over_len {xss : List (List Int)} {os ms : List Int} (h : ¬ ms.length = 4) : overOwners xss os ms = [] := by simp [overOwners, h]
theorem over_neg {xss : List (List Int)} {os ms : List Int} {k : Nat} {x : Int} (h : ms[k]? = some x) (hx : x < 0) : overOwners xss os ms = [] := by
  have : ms.all (fun x => decide (0 ≤ x)) = false := by
    rw [List.all_eq_false]; exact ⟨x, List.mem_of_getElem? h, by simpa using hx⟩
  simp [overOwners, this]
theorem over_ok {xss : List (List Int)} {os ms : List Int} (h1 : tableB xss = true) (h2 : ownersValid os = true) (h3 : ms.length = 4) (h4 : ∀ (j : Nat) (x : Int), ms[j]? = some x → 0 ≤ x) : overOwners xss os ms = ovr (ownerPages xss os) ms 4 := by
  have : ms.all (fun x => decide (0 ≤ x)) = true := by
    rw [List.all_eq_true]; intro x hx; obtain ⟨j, hj⟩ := List.mem_iff_getElem?.1 hx; simpa using h4 j x hj
  simp [overOwners, h1, h2, h3, this]
theorem pages_len {xss : List (List Int)} {os : List Int} (h1 : tableB xss = true) (h2 : ownersValid os = true) : (ownerPages xss os).length = 4 := by simp [ownerPages, h1, h2, p4]
theorem pages_none {xss : List (List Int)} {os : List Int} (h : (tableB xss && ownersValid os) = false) : ownerPages xss os = [] := by simp only [ownerPages, h]; rfl

theorem ovr_yes {P ms : List Int} {k : Nat} {p m : Int} (hp : P[k]? = some p) (hm : ms[k]? = some m) (h : m < p) : ovr P ms (k + 1) = ovr P ms k ++ [(k : Int)] := by rw [ovr_succ hp hm, if_pos h]
theorem ovr_no {P ms : List Int} {k : Nat} {p m : Int} (hp : P[k]? = some p) (hm : ms[k]? = some m) (h : ¬ m < p) : ovr P ms (k + 1) = ovr P ms k := by rw [ovr_succ hp hm, if_neg h, List.append_nil]

set_option maxHeartbeats 2000000 in
theorem overOwners_impl (A : Option Addr) (xss : List (List Int)) (c lo hi : Nat) (B : Option Addr) (os : List Int) (d lo' hi' : Nat) (D : Option Addr) (ms : List Int) (g lo2 hi2 : Nat) (w : World) (h : Grid w lo hi A xss) (hs : xss.length ≤ 4000000) (hr : ∀ (k : Nat) (xs : List Int), xss[k]? = some xs → xs.length ≤ 4000000) (ho_ : Ints w lo' hi' B os) (hos : os.length ≤ 4000000) (hm_ : Ints w lo2 hi2 D ms) (hms : ms.length ≤ 4000000) :
    Calls Try.prog 27 #[.agg #[.slice A xss.length c], .slice B os.length d, .slice D ms.length g] w (NewI w (overOwners xss os ms)) := by
  have hbx := BoxT.new w 32 A xss.length c
  have ka := (Kp.refl No w).alloc (.cells #[.slice A xss.length c] 32)
  go_enter Try.func27, Try.ntmps27
  go_wp2_with fail
  refine (tableValid_impl _ _ _ _ _ _ (h.keepNo ka) hs hr).mono ?_
  rintro e w1 ⟨rfl, k1⟩
  have kp1 := ka.trans k1
  have bx1 := hbx.keepNo k1
  clear ka k1 hbx
  cases hv : tableB xss
  · have Hn := Lib.hid (over_table (os := os) (ms := ms) hv)
    go_wp2_with fail
    go_ret
    rw [Hn.out]
    exact ⟨none, 0, rfl, Own.nil (Nat.le_refl _), kp1⟩
  go_wp2_with fail
  refine (ownersValid_impl _ _ _ _ _ _ (ho_.keepNo kp1) hos).mono ?_
  rintro e w' ⟨rfl, rfl⟩
  cases hw : ownersValid os
  · have Hn := Lib.hid (over_own (xss := xss) (ms := ms) hw)
    go_wp2_with fail
    go_ret
    rw [Hn.out]
    exact ⟨none, 0, rfl, Own.nil (Nat.le_refl _), kp1⟩
  by_cases h4 : ¬ ms.length = 4
  · have Hn := Lib.hid (over_len (xss := xss) (os := os) h4)
    have hne : ((ms.length : Int) != 4) = true := by simp; omega
    clear h4
    go_wp2_with fail
    go_ret
    rw [Hn.out]
    exact ⟨none, 0, rfl, Own.nil (Nat.le_refl _), kp1⟩
  have h4 : ms.length = 4 := by omega
  have hne : ((ms.length : Int) != 4) = false := by rw [h4]; rfl
  have h4a : ms.length ≤ 4 := by omega
  have h4b : 4 ≤ ms.length := by omega
  have H4 := Lib.hid h4
  have Hv := Lib.hid hv; have Hw := Lib.hid hw
  clear h4
  go_wp2_with fail
  go_loop [27] (fun i => ∃ k : Nat, k ≤ ms.length ∧ i = .int .i64 k ∧ ∀ (j : Nat) (x : Int), j < k → ms[j]? = some x → 0 ≤ x) (fun i => ms.length - (intOf i).toNat)
  case atStart => exact ⟨0, by omega, rfl, fun j x hj => absurd hj (by omega)⟩
  case round =>
    obtain ⟨k, hk, rfl, hall⟩ := hrel
    have Hall := Lib.hid hall
    clear hall
    by_cases hlt : k < ms.length
    · obtain ⟨b, off, x, rfl, hb1, hb2, hx, hc⟩ := (hm_.keepNo kp1).at_ hlt
      have Hx := Lib.hid hx; clear hx
      by_cases hneg : x < 0
      · have Hn := Lib.hid (over_neg (xss := xss) (os := os) Hx.out hneg)
        go_wp2_with fail
        go_ret
        rw [Hn.out]
        exact ⟨none, 0, rfl, Own.nil (Nat.le_refl _), kp1⟩
      · go_wp2_with fail
        go_round
        case rel => exact ⟨k + 1, by omega, by go_num, fun j y hj hy => by
          by_cases e : j = k
          · subst e; rw [Hx.out] at hy; injection hy with hy; omega
          · exact Hall.out j y (by omega) hy⟩
        case measure => simp [intOf]; omega
    · obtain rfl : k = ms.length := by omega
      have Hp := Lib.hid (over_ok Hv.out Hw.out H4.out (fun j x hj => Hall.out j x (List.getElem?_eq_some_iff.1 hj).1 hj))
      have hP := pages_len Hv.out Hw.out
      clear Hall
      have Bx := Lib.hid bx1
      obtain ⟨bx0, bxf, bxl⟩ := bx1
      go_wp2_with fail
      refine (ownerPages_impl _ _ _ _ _ _ _ _ _ _ _ (h.keepNo kp1) hs hr (ho_.keepNo kp1) hos).mono ?_
      rintro e w2 ⟨A2, c2, rfl, o2, k2⟩
      have kp2 := kp1.trans k2
      generalize ownerPages xss os = P at *
      have hP1 : P.length ≤ 4 := Nat.le_of_eq hP
      have hP2 : 4 ≤ P.length := Nat.le_of_eq hP.symm
      have HP := Lib.hid hP
      clear hP bx0 bxf bxl
      go_wp2_with fail
      go_loopw [9, 38] (fun v i wr => ∃ (n : Nat) (A3 : Option Addr) (c3 : Nat) (ys : List Int), n ≤ 4 ∧ i = .int .i64 n ∧ v = .slice A3 ys.length c3 ∧ Hid (ys = ovr P ms n) ∧ ys.length ≤ n ∧ OwnI wr w2.heap.size wr.heap.size A3 c3 ys ∧ Kp No w wr ∧ w2.heap.size ≤ wr.heap.size ∧ Ints wr w1.heap.size w2.heap.size A2 P) (fun _ i _ => 4 - (intOf i).toNat)
      case atStart => exact ⟨0, none, 0, [], by omega, rfl, rfl, (by show _ = _; rfl), by simp, Own.nil (Nat.le_refl _), kp2, Nat.le_refl _, o2.ints⟩
      case round =>
        clear o2
        obtain ⟨n, A3, c3, ys, hn, rfl, rfl, hys, hyl, hown, hkp, hsz, hPi⟩ := hrel
        by_cases hn4 : n < 4
        · obtain ⟨b, off, p, rfl, hb1, hb2, hp, hc⟩ := hPi.at_ (k := n) (by omega)
          obtain ⟨bm, offm, m, rfl, hbm1, hbm2, hm, hcm⟩ := (hm_.keepNo hkp).at_ (k := n) (by omega)
          by_cases hlt : m < p
          · have Hy := Lib.hid (ovr_yes hp hm hlt)
            clear hp hm
            go_wp2_with (at_builtin; refine wpList_appI _ rfl _ _ rfl w2.heap.size wr.heap.size A3 c3 ys rfl (hown.keepNo ((Kp.refl _ _).alloc _)) _ _ _ _ [(n : Int)] rfl (ints_lit _ _ _) (by simp; omega) (by simp; omega) ?_; intro A4 c4 w4 ho4 hk4)
            have kA : Kp No wr (wr.alloc (.cells #[.int .i64 n] 3)) := (Kp.refl _ _).alloc _
            go_roundw
            case rel => exact ⟨n + 1, A4, c4, ys ++ [(n : Int)], by omega, by go_num, by simp, (by show _ = _; rw [Hy.out, ← hys.out]), by simp; omega, ho4, (hkp.trans kA).also hk4 (fun i hi e => by have := e.1; have := kp2.size; omega), Nat.le_trans hsz (Nat.le_trans kA.size hk4.size), (hPi.keepNo kA).keep hk4 (fun i h1 h2 e => by have := e.1; omega)⟩
            case measure => simp [intOf]; omega
          · have Hy := Lib.hid (ovr_no hp hm hlt)
            clear hp hm
            go_wp2_with fail
            go_roundw
            case rel => exact ⟨n + 1, A3, c3, ys, by omega, by go_num, rfl, (by show _ = _; rw [Hy.out, ← hys.out]), by omega, hown, hkp, hsz, hPi⟩
            case measure => simp [intOf]; omega
        · obtain rfl : n = 4 := by omega
          go_wp2_with fail
          go_ret
          rw [Hp.out, ← hys.out]
          exact ⟨A3, c3, rfl, hown.wide kp2.size (Nat.le_refl _) (Nat.le_refl _), hkp⟩
end Go.Proofs.Ytagcdpnbkfoeaaa
