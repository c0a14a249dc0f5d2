/- RepairStripe, of the program and of the reference: one Lean function repair for both; the walk of FnExactRepairStripe. -/
import Derived.Test.YtcnaehllegoefaaParity
import Derived.Test.YtcnaehllegoefaaLawParity
import Derived.WalkKit
import Derived.WalkSpells
import Derived.WalkLawsBesides
import Derived.Outline
namespace Go.Proofs.Ytcnaehllegoefaa
open Go.RowKit
set_option linter.unusedVariables false

/-- What a call leaves that hands back a new slice of ints and a bool. -/
def NewIB (w : World) (r : List Int × Bool) (e : Ending) (w' : World) : Prop := ∃ A c, e = .returned (.tuple #[.slice A r.1.length c, .bool r.2]) ∧ OwnI w' w.heap.size w'.heap.size A c r.1 ∧ Kp No w w'

theorem repair_bad {xs : List Int} {q : Int} (h : (stripeValid xs && inB q 0 255) = false) : repair xs q = ([], false) := by
  unfold repair
  rw [h]; simp
theorem repair_lost {xs : List Int} {q : Int} (h : ¬ lostN xs ≤ 1) : repair xs q = ([], false) := by
  unfold repair
  simp [h]
theorem repair_yes {xs ys : List Int} {q : Int} (h : stripeValid xs = true) (hq : inB q 0 255 = true) (hl : lostN xs ≤ 1) (hf : fill xs (fixOf xs q) = ys) (hp : parityOf ys = q) : repair xs q = (ys, true) := by
  unfold repair
  rw [h, hq, hf]; simp [hl, hp]
theorem repair_no {xs ys : List Int} {q : Int} (h : stripeValid xs = true) (hq : inB q 0 255 = true) (hl : lostN xs ≤ 1) (hf : fill xs (fixOf xs q) = ys) (hp : parityOf ys ≠ q) : repair xs q = ([], false) := by
  unfold repair
  rw [h, hq, hf]; simp [hl, hp]

set_option maxHeartbeats 400000 in
theorem repair_impl (A : Option Addr) (xs : List Int) (c lo hi : Nat) (q : Int) (w : World) (h : Ints w lo hi A xs) (hs : xs.length ≤ 4000000) : Calls Try.prog 26 #[.slice A xs.length c, .int .i64 q] w
    (NewIB w (repair xs q)) := by
  go_enter Try.func26, Try.ntmps26
  go_wp2_with fail
  refine (stripeValid_impl _ _ _ _ _ _ h hs).mono ?_
  rintro e w' ⟨rfl, rfl⟩
  cases hv : stripeValid xs
  · have H := Lib.hid (repair_bad (q := q) (show (stripeValid xs && inB q 0 255) = false by simp [hv]))
    go_wp2_with fail
    go_ret2
    rw [H.out]
    exact ⟨none, 0, rfl, Own.nil (Nat.le_refl _), Kp.refl _ _⟩
  · by_cases hq : 0 ≤ q ∧ q ≤ 255
    · obtain ⟨q0, q1⟩ := hq
      have hqB := Lib.hid (inB_true ⟨q0, q1⟩)
      have Hv := Lib.hid hv
      go_wp2_with fail
      refine (clone_any _ _ _ _ _ _ h hs).mono ?_
      rintro e w1 ⟨A1, c1, rfl, o1, k1⟩
      go_wp2_with fail
      refine (index_any _ _ _ _ _ _ _ o1.ints hs).mono ?_
      rintro e w' ⟨rfl, rfl⟩
      rcases idxI_cases xs (-1) with ⟨hi1, hi2⟩ | ⟨p, hi1, hi2, hi3⟩
      · rw [hi1]
        obtain ⟨r1, r2⟩ := repair_none (q := q) hv hi2
        clear hi1 hi2
        go_wp2_with fail
        refine (parityOf_impl _ _ _ _ _ _ o1.ints hs).mono ?_
        rintro e w' ⟨rfl, rfl⟩
        by_cases hpq : parityOf xs = q
        · have H := Lib.hid (repair_yes Hv.out hqB.out (by omega) r2 hpq)
          have hne : (parityOf xs != q) = false := by simp [hpq]
          clear hpq r1 r2
          go_wp2_with fail
          go_ret2
          rw [H.out]
          exact ⟨A1, c1, rfl, o1, k1⟩
        · have H := Lib.hid (repair_no Hv.out hqB.out (by omega) r2 hpq)
          have hne : (parityOf xs != q) = true := by simp [hpq]
          clear hpq r1 r2
          go_wp2_with fail
          go_ret2
          rw [H.out]
          exact ⟨none, 0, rfl, Own.nil (Nat.le_refl _), k1⟩
      · rw [hi1]
        have hpl : p < xs.length := (List.getElem?_eq_some_iff.1 hi2).1
        have Hp := Lib.hid hi2
        clear hi1 hi2 hi3
        obtain ⟨g, x, rfl, hg1, hg2, hx, hc, hf⟩ := o1.at_ hpl
        clear hx
        have o2 := o1.set_ p 0
        have k2 : Kp No w (w1.setCell ⟨g, p, none⟩ (.int .i64 0)) := k1.setCell (fun hh => absurd hh (by simp; omega)) _
        go_wp2_with fail
        refine (len2 (contains_any _ _ _ _ _ _ _ o2.ints (by simpa using hs)) (by simp)).mono ?_
        rintro e w' ⟨rfl, rfl⟩
        cases hcn : (xs.set p 0).contains (-1)
        · obtain ⟨r1, r2, r3⟩ := repair_one (q := q) Hv.out Hp.out hcn ⟨q0, q1⟩
          have H := Lib.hid (repair_yes Hv.out hqB.out (by omega) r2 r3)
          have R3 := Lib.hid r3
          clear r1 r2 r3 hcn
          obtain ⟨g', x', hA, _, _, hx', hc', hf'⟩ := o2.at_ (k := p) (by simpa using hpl)
          obtain rfl : g = g' := by injection hA with hA; injection hA
          clear hx' hA
          have o3 := o2.set_ p (bx (parityOf (xs.set p 0)) q)
          have k3 : Kp No w ((w1.setCell ⟨g, p, none⟩ (.int .i64 0)).setCell ⟨g, p, none⟩ (.int .i64 (bx (parityOf (xs.set p 0)) q))) := k2.setCell (fun hh => absurd hh (by simp; omega)) _
          rw [List.set_set] at o3
          go_wp2_with fail
          refine (len1 (parityOf_impl _ _ _ _ _ _ o2.ints (by simpa using hs)) (by simp)).mono ?_
          rintro e w' ⟨rfl, rfl⟩
          go_wp2_with fail
          refine (len1 (parityOf_impl _ _ _ _ _ _ o3.ints (by simpa using hs)) (by simp)).mono ?_
          rintro e w' ⟨rfl, rfl⟩
          rw [R3.out]
          have hne : (q != q) = false := by simp
          go_wp2_with fail
          go_ret2
          rw [H.out]
          exact ⟨_, c1, by simp, o3.wide (Nat.le_refl _) (by simp [World.setCell]) (Nat.le_refl _), k3⟩
        · have H := Lib.hid (repair_lost (q := q) (repair_two Hv.out Hp.out hcn))
          go_wp2_with fail
          go_ret2
          rw [H.out]
          exact ⟨none, 0, rfl, Own.nil (Nat.le_refl _), k2⟩
    · have H := Lib.hid (repair_bad (xs := xs) (show (stripeValid xs && inB q 0 255) = false by rw [inB_false hq]; simp))
      have hq' : q < 0 ∨ 255 < q := by omega
      go_wp2_with fail
      all_goals go_ret2
      all_goals rw [H.out]
      all_goals exact ⟨none, 0, rfl, Own.nil (Nat.le_refl _), Kp.refl _ _⟩

theorem fixOf_succ {xs : List Int} {q : Int} {k : Nat} {x : Int} (h : xs[k]? = some x) : fixOf (xs.take (k + 1)) q = bits .xor .i64 (fixOf (xs.take k) q) (if 0 < x then x else 0) := by
  obtain ⟨hk, hx⟩ := List.getElem?_eq_some_iff.1 h
  have e : (if 0 < x then x else 0) = max 0 x := by split <;> omega
  rw [List.take_succ_eq_append_getElem hk, fixOf, List.foldl_append, hx, e]; rfl
theorem fill_succ {xs : List Int} {v : Int} {k : Nat} {x : Int} (h : xs[k]? = some x) : fill (xs.take (k + 1)) v = fill (xs.take k) v ++ [if x < 0 then v else x] := by
  obtain ⟨hk, hx⟩ := List.getElem?_eq_some_iff.1 h
  rw [List.take_succ_eq_append_getElem hk, fill, List.map_append, hx]; rfl

set_option maxHeartbeats 2000000 in
theorem repair_spec (A : Option Addr) (xs : List Int) (c lo hi : Nat) (q : Int) (w : World) (h : Ints w lo hi A xs) (hs : xs.length ≤ 4000000) : Calls Try.prog 25 #[.slice A xs.length c, .int .i64 q] w
    (NewIB w (repair xs q)) := by
  have hnil := ownI_lit w w.heap.size #[] [] rfl (Nat.le_refl _) (by simp)
  have hknil : Kp No w (w.alloc (.cells #[] 3)) := (Kp.refl _ _).alloc _
  go_enter Try.func25, Try.ntmps25
  go_wp2_with fail
  refine (stripeValid_spec _ _ _ _ _ _ h hs).mono ?_
  rintro e w' ⟨rfl, rfl⟩
  cases hv : stripeValid xs
  · have H := Lib.hid (repair_bad (q := q) (show (stripeValid xs && inB q 0 255) = false by simp [hv]))
    go_wp2_with fail
    go_ret2
    rw [H.out]
    exact ⟨_, 0, rfl, hnil.wide (Nat.le_refl _) (by simp) (Nat.le_refl _), hknil⟩
  · go_wp2_with fail
    refine (l1In_any _ _ _ _).mono ?_
    rintro e w' ⟨rfl, rfl⟩
    cases hq : inB q 0 255
    · have H := Lib.hid (repair_bad (xs := xs) (show (stripeValid xs && inB q 0 255) = false by rw [hq]; simp))
      go_wp2_with fail
      go_ret2
      rw [H.out]
      exact ⟨_, 0, rfl, hnil.wide (Nat.le_refl _) (by simp) (Nat.le_refl _), hknil⟩
    · go_wp2_with fail
      refine (l22Lost_any _ _ _ _ _ _ h hs).mono ?_
      rintro e w' ⟨rfl, rfl⟩
      by_cases hl : lostN xs ≤ 1
      · have Hv := Lib.hid hv
        have Hq := Lib.hid hq
        have hd : decide (1 < lostN xs) = false := by simp; omega
        go_wp2_with fail
        go_loop [7, 8] (fun n i => ∃ k : Nat, k ≤ xs.length ∧ i = .int .i64 k ∧ n = .int .i64 (fixOf (xs.take k) q)) (fun _ i => xs.length - (intOf i).toNat)
        case atStart => exact ⟨0, Nat.zero_le _, rfl, rfl⟩
        case round =>
          obtain ⟨k, hk, rfl, rfl⟩ := hrel
          by_cases hlt : k < xs.length
          · obtain ⟨b, off, x, rfl, hb1, hb2, hx, hc'⟩ := (h.keepNo hknil).at_ hlt
            have Hx := Lib.hid (fixOf_succ (q := q) hx); clear hx
            go_wp2
            go_round
            case rel => exact ⟨k + 1, by omega, by go_num, by rw [Hx.out]⟩
            case measure => simp [intOf]; omega
          · obtain rfl : k = xs.length := by omega
            have Hf := Lib.hid (show fixOf (xs.take xs.length) q = fixOf xs q by rw [List.take_length])
            rw [Hf.out]
            go_wp2_with fail
            go_loopw [6, 9] (fun v i wr => ∃ (k : Nat) (A1 : Option Addr) (c1 : Nat), k ≤ xs.length ∧ i = .int .i64 k ∧ v = .slice A1 (fill (xs.take k) (fixOf xs q)).length c1 ∧ OwnI wr w.heap.size wr.heap.size A1 c1 (fill (xs.take k) (fixOf xs q)) ∧ Kp No w wr) (fun _ i _ => xs.length - (intOf i).toNat)
            case atStart => exact ⟨0, _, 0, Nat.zero_le _, rfl, rfl, hnil.wide (Nat.le_refl _) (by simp) (Nat.le_refl _), hknil⟩
            case round =>
              obtain ⟨k, A1, c1, hk', rfl, rfl, o1, k1⟩ := hrel
              have hsz := k1.size
              by_cases hlt' : k < xs.length
              · obtain ⟨b, off, x, rfl, hb1, hb2, hx, hc'⟩ := (h.keepNo k1).at_ hlt'
                have Hx := Lib.hid (fill_succ (v := fixOf xs q) hx); clear hx
                have hfl : (fill (xs.take k) (fixOf xs q)).length ≤ 4000000 := by simp [fill]; omega
                by_cases hx0 : x < 0
                · go_wp2_with (at_builtin; refine wpList_appI _ rfl _ _ rfl w.heap.size wr.heap.size A1 c1 _ rfl (o1.keepNo ((Kp.refl _ _).alloc _)) _ _ _ _ [fixOf xs q] rfl (ints_lit _ _ _) (by simp; omega) (by simp; omega) ?_; intro A4 c4 w4 o4 k4)
                  go_roundw
                  case rel =>
                    rw [if_pos hx0] at Hx
                    exact ⟨k + 1, A4, c4, by omega, by go_num, by rw [Hx.out]; simp, by rw [Hx.out]; exact o4, (k1.alloc _).also k4 (fun i hi e => by have := e.1; omega)⟩
                  case measure => simp [intOf]; omega
                · go_wp2_with (at_builtin; refine wpList_appI _ rfl _ _ rfl w.heap.size wr.heap.size A1 c1 _ rfl (o1.keepNo ((Kp.refl _ _).alloc _)) _ _ _ _ [x] rfl (ints_lit _ _ _) (by simp; omega) (by simp; omega) ?_; intro A4 c4 w4 o4 k4)
                  go_roundw
                  case rel =>
                    rw [if_neg hx0] at Hx
                    exact ⟨k + 1, A4, c4, by omega, by go_num, by rw [Hx.out]; simp, by rw [Hx.out]; exact o4, (k1.alloc _).also k4 (fun i hi e => by have := e.1; omega)⟩
                  case measure => simp [intOf]; omega
              · obtain rfl : k = xs.length := by omega
                rw [List.take_length] at o1 ⊢
                have hfl : (fill xs (fixOf xs q)).length ≤ 4000000 := by simp [fill]; omega
                go_wp2_with fail
                refine (parityOf_spec _ _ _ _ _ _ o1.ints hfl).mono ?_
                rintro e w' ⟨rfl, rfl⟩
                by_cases hp : parityOf (fill xs (fixOf xs q)) = q
                · have H := Lib.hid (repair_yes Hv.out Hq.out hl rfl hp)
                  have hne : (parityOf (fill xs (fixOf xs q)) != q) = false := by simp [hp]
                  clear hp
                  go_wp2_with fail
                  go_ret2
                  rw [H.out]
                  exact ⟨A1, c1, rfl, o1, k1⟩
                · have H := Lib.hid (repair_no Hv.out Hq.out hl rfl hp)
                  have hne : (parityOf (fill xs (fixOf xs q)) != q) = true := by simp [hp]
                  clear hp
                  have hnil2 := ownI_lit wr w.heap.size #[] [] rfl hsz (by simp)
                  go_wp2_with fail
                  go_ret2
                  rw [H.out]
                  exact ⟨_, 0, rfl, hnil2.wide (Nat.le_refl _) (by simp) (Nat.le_refl _), k1.alloc _⟩
      · have H := Lib.hid (repair_lost (q := q) hl)
        have hd : decide (1 < lostN xs) = true := by simp; omega
        go_wp2_with fail
        go_ret2
        rw [H.out]
        exact ⟨_, 0, rfl, hnil.wide (Nat.le_refl _) (by simp) (Nat.le_refl _), hknil⟩
end Go.Proofs.Ytcnaehllegoefaa
