/- TrimHas and TrimCount, of the program and of the reference; the walks of the exact laws of SpanValid, SpansValid, TrimHas, TrimCount. -/
import Derived.Test.YtjjglggfkbbhfaaSpan
import Derived.WalkKit
import Derived.WalkSpells
import Derived.WalkLawsBesides
import Derived.Outline
import Derived.Deep.QuietTactic
import Derived.BigQuiet
namespace Go.Proofs.Ytjjglggfkbbhfaa
open Go.RowKit
set_option linter.unusedVariables false

def inP (p : Int × Int) (n : Int) : Bool := decide (p.1 ≤ n) && decide (n < p.2)
def hasB (ps : List (Int × Int)) (n : Int) : Bool := ps.any fun p => inP p n
def trimHas (ps : List (Int × Int)) (n : Int) : Bool := spansB ps && hasB ps n
def sumP (ps : List (Int × Int)) : Int := ps.foldl (fun a p => a + (p.2 - p.1)) 0
def trimCount (ps : List (Int × Int)) : Int := if spansB ps then sumP ps else -1

theorem spans_at {ps : List (Int × Int)} (h : spansB ps = true) {k : Nat} {x y : Int} (hk : ps[k]? = some (x, y)) : 1 ≤ y ∧ y ≤ 60 ∧ 0 ≤ x ∧ x < y := by
  simp only [spansB, Bool.and_eq_true, List.all_eq_true, List.mem_range] at h
  have := h.2 k (List.getElem?_eq_some_iff.1 hk).1
  simp only [okAt, hk, Bool.and_eq_true] at this
  exact spanB_iff.1 this.1
theorem spans_len {ps : List (Int × Int)} (h : spansB ps = true) : ps.length ≤ 10 := by
  simp only [spansB, Bool.and_eq_true, decide_eq_true_eq] at h
  exact h.1
def NoneIn (ps : List (Int × Int)) (n : Int) (k : Nat) : Prop := ∀ (j : Nat) (p : Int × Int), j < k → ps[j]? = some p → inP p n = false
theorem NoneIn.succ {ps : List (Int × Int)} {n : Int} {k : Nat} {p : Int × Int} (h : NoneIn ps n k) (hk : ps[k]? = some p) (hp : inP p n = false) : NoneIn ps n (k + 1) := by
  intro j q hj hq
  by_cases e : j = k
  · subst e; rw [hk] at hq; injection hq with hq; rw [← hq]; exact hp
  · exact h j q (by omega) hq
theorem NoneIn.all {ps : List (Int × Int)} {n : Int} (h : NoneIn ps n ps.length) : hasB ps n = false := by
  rw [hasB, List.any_eq_false]
  intro p hp
  obtain ⟨j, hj⟩ := List.mem_iff_getElem?.1 hp
  simp [h j p (List.getElem?_eq_some_iff.1 hj).1 hj]
theorem has_of {ps : List (Int × Int)} {n : Int} {k : Nat} {p : Int × Int} (hk : ps[k]? = some p) (hp : inP p n = true) : hasB ps n = true := by
  rw [hasB, List.any_eq_true]; exact ⟨p, List.mem_of_getElem? hk, hp⟩
theorem inP_true {x y n : Int} (h : x ≤ n ∧ n < y) : inP (x, y) n = true := by simp [inP]; omega
theorem inP_false {x y n : Int} (h : ¬ (x ≤ n ∧ n < y)) : inP (x, y) n = false := by
  cases hb : inP (x, y) n with
  | false => rfl
  | true => simp [inP] at hb; omega
theorem sumP_succ {ps : List (Int × Int)} {k : Nat} {x y : Int} (h : ps[k]? = some (x, y)) : sumP (ps.take (k + 1)) = sumP (ps.take k) + (y - x) := by
  obtain ⟨hk, hx⟩ := List.getElem?_eq_some_iff.1 h
  rw [List.take_succ_eq_append_getElem hk, sumP, List.foldl_append, hx]; rfl
theorem sumP_bound {ps : List (Int × Int)} (h : spansB ps = true) : ∀ k, k ≤ ps.length → 0 ≤ sumP (ps.take k) ∧ sumP (ps.take k) ≤ 60 * k := by
  intro k
  induction k with
  | zero => intro _; simp [sumP]
  | succ k ih =>
    intro hk
    have ih := ih (by omega)
    have hg : ps[k]? = some (ps[k].1, ps[k].2) := List.getElem?_eq_getElem (by omega)
    have hs := spans_at h hg
    rw [sumP_succ hg]
    omega

set_option maxHeartbeats 1000000 in
theorem trimHas_impl (A : Option Addr) (ps : List (Int × Int)) (c lo hi : Nat) (n : Int) (w : World) (h : Prs w lo hi A ps) (hs : ps.length ≤ 4000000) : Calls Try.prog 27 #[.slice A ps.length c, .int .i64 n] w
    fun e w' => e = .returned (.bool (trimHas ps n)) ∧ Kp No w w' := by
  go_enter Try.func27, Try.ntmps27
  go_wp2_with fail
  refine (spansValid_impl _ _ _ _ _ _ h hs).mono ?_
  rintro e w1 ⟨rfl, k1⟩
  cases hv : spansB ps
  · have H := Lib.hid (show trimHas ps n = false by simp [trimHas, hv])
    go_wp2_with fail
    go_ret
    exact ⟨ret_bool H.out.symm, k1⟩
  · have H := Lib.hid (show trimHas ps n = hasB ps n by simp [trimHas, hv])
    go_wp2_with fail
    go_loopw [12] (fun i wr => ∃ k : Nat, k ≤ ps.length ∧ i = .int .i64 k ∧ NoneIn ps n k ∧ Kp No w wr) (fun i _ => ps.length - (intOf i).toNat)
    case atStart => exact ⟨0, Nat.zero_le _, rfl, fun j p hj => absurd hj (by omega), k1⟩
    case round =>
      obtain ⟨k, hk, rfl, hall, hkp⟩ := hrel
      by_cases hlt : k < ps.length
      · obtain ⟨b, off, x, y, rfl, hb1, hb2, hx, hc, hc2⟩ := (h.keepNo hkp).at_ hlt
        have Hx := Lib.hid hx; clear hx
        by_cases hin : x ≤ n ∧ n < y
        · have Hh := Lib.hid (has_of Hx.out (inP_true hin))
          obtain ⟨h1, h2⟩ := hin
          go_wp2
          go_ret
          exact ⟨ret_bool (by rw [H.out, Hh.out]), hkp.alloc _⟩
        · have Hh := Lib.hid (hall.succ Hx.out (inP_false hin))
          have hin' : n < x ∨ y ≤ n := by omega
          clear hin
          go_wp2
          all_goals go_roundw
          all_goals first | exact ⟨k + 1, by omega, by go_num, Hh.out, hkp.alloc _⟩ | (simp [intOf]; omega)
      · obtain rfl : k = ps.length := by omega
        have Hn := Lib.hid hall.all
        go_wp2
        go_ret
        exact ⟨ret_bool (by rw [H.out, Hn.out]), hkp⟩

set_option maxHeartbeats 1000000 in
theorem trimHas_spec (A : Option Addr) (ps : List (Int × Int)) (c lo hi : Nat) (n : Int) (w : World) (h : Prs w lo hi A ps) (hs : ps.length ≤ 4000000) : Calls Try.prog 26 #[.slice A ps.length c, .int .i64 n] w
    fun e w' => e = .returned (.bool (trimHas ps n)) ∧ Kp No w w' := by
  go_enter Try.func26, Try.ntmps26
  go_wp2_with fail
  go_loopw [5] (fun i wr => ∃ k : Nat, k ≤ ps.length ∧ i = .int .i64 k ∧ NoneIn ps n k ∧ Kp No w wr) (fun i _ => ps.length - (intOf i).toNat)
  case atStart => exact ⟨0, Nat.zero_le _, rfl, fun j p hj => absurd hj (by omega), Kp.refl _ _⟩
  case round =>
    obtain ⟨k, hk, rfl, hall, hkp⟩ := hrel
    by_cases hlt : k < ps.length
    · go_wp2_with fail
      refine (spansValid_spec _ _ _ _ _ _ (h.keepNo hkp) hs).mono ?_
      rintro e w1 ⟨rfl, k1⟩
      have hkp1 := hkp.trans k1
      cases hv : spansB ps
      · have H := Lib.hid (show trimHas ps n = false by simp [trimHas, hv])
        go_wp2_with fail
        go_ret
        exact ⟨ret_bool H.out.symm, hkp1⟩
      · have H := Lib.hid (show trimHas ps n = hasB ps n by simp [trimHas, hv])
        obtain ⟨b, off, x, y, rfl, hb1, hb2, hx, hc, hc2⟩ := (h.keepNo hkp1).at_ hlt
        have Hx := Lib.hid hx; clear hx
        by_cases hin : x ≤ n ∧ n < y
        · have Hh := Lib.hid (has_of Hx.out (inP_true hin))
          obtain ⟨h1, h2⟩ := hin
          go_wp2
          go_ret
          exact ⟨ret_bool (by rw [H.out, Hh.out]), hkp1⟩
        · have Hh := Lib.hid (hall.succ Hx.out (inP_false hin))
          have hin' : n < x ∨ y ≤ n := by omega
          clear hin
          go_wp2
          all_goals go_roundw
          all_goals first | exact ⟨k + 1, by omega, by go_num, Hh.out, hkp1⟩ | (simp [intOf]; omega)
    · obtain rfl : k = ps.length := by omega
      have Hn := Lib.hid hall.all
      go_wp2_with fail
      go_ret
      exact ⟨ret_bool (by rw [trimHas, Hn.out, Bool.and_false]), hkp⟩

set_option maxHeartbeats 1000000 in
theorem trimCount_impl (A : Option Addr) (ps : List (Int × Int)) (c lo hi : Nat) (w : World) (h : Prs w lo hi A ps) (hs : ps.length ≤ 4000000) : Calls Try.prog 30 #[.slice A ps.length c] w
    fun e w' => e = .returned (.int .i64 (trimCount ps)) ∧ Kp No w w' := by
  go_enter Try.func30, Try.ntmps30
  go_wp2_with fail
  refine (spansValid_impl _ _ _ _ _ _ h hs).mono ?_
  rintro e w1 ⟨rfl, k1⟩
  cases hv : spansB ps
  · have H := Lib.hid (show trimCount ps = -1 by simp [trimCount, hv])
    go_wp2_with fail
    go_ret
    exact ⟨ret_int H.out.symm, k1⟩
  · have H := Lib.hid (show trimCount ps = sumP ps by simp [trimCount, hv])
    have Hv := Lib.hid hv
    have hlen := spans_len hv
    go_wp2_with fail
    go_loopw [3, 11] (fun t i wr => ∃ k : Nat, k ≤ ps.length ∧ i = .int .i64 k ∧ t = .int .i64 (sumP (ps.take k)) ∧ Kp No w wr) (fun _ i _ => ps.length - (intOf i).toNat)
    case atStart => exact ⟨0, Nat.zero_le _, rfl, rfl, k1⟩
    case round =>
      obtain ⟨k, hk, rfl, rfl, hkp⟩ := hrel
      by_cases hlt : k < ps.length
      · obtain ⟨b, off, x, y, rfl, hb1, hb2, hx, hc, hc2⟩ := (h.keepNo hkp).at_ hlt
        obtain ⟨b1, b2⟩ := sumP_bound Hv.out k hk
        obtain ⟨s1, s2, s3, s4⟩ := spans_at Hv.out hx
        have Hx := Lib.hid (sumP_succ hx); clear hx
        go_wp2
        go_roundw
        case rel => exact ⟨k + 1, by omega, by go_num, by rw [Hx.out], hkp.alloc _⟩
        case measure => simp [intOf]; omega
      · obtain rfl : k = ps.length := by omega
        go_wp2
        go_ret
        exact ⟨ret_int (by rw [H.out, List.take_length]), hkp⟩

set_option maxHeartbeats 1000000 in
theorem trimCount_spec (A : Option Addr) (ps : List (Int × Int)) (c lo hi : Nat) (w : World) (h : Prs w lo hi A ps) (hs : ps.length ≤ 4000000) : Calls Try.prog 29 #[.slice A ps.length c] w
    fun e w' => e = .returned (.int .i64 (trimCount ps)) ∧ Kp No w w' := by
  go_enter Try.func29, Try.ntmps29
  go_wp2_with fail
  refine (spansValid_spec _ _ _ _ _ _ h hs).mono ?_
  rintro e w1 ⟨rfl, k1⟩
  cases hv : spansB ps
  · have H := Lib.hid (show trimCount ps = -1 by simp [trimCount, hv])
    go_wp2_with fail
    go_ret
    exact ⟨ret_int H.out.symm, k1⟩
  · have H := Lib.hid (show trimCount ps = sumP ps by simp [trimCount, hv])
    have Hv := Lib.hid hv
    have hlen := spans_len hv
    go_wp2_with fail
    go_loopw [3, 4] (fun t i wr => ∃ k : Nat, k ≤ ps.length ∧ i = .int .i64 k ∧ t = .int .i64 (sumP (ps.take k)) ∧ Kp No w wr) (fun _ i _ => ps.length - (intOf i).toNat)
    case atStart => exact ⟨0, Nat.zero_le _, rfl, rfl, k1⟩
    case round =>
      obtain ⟨k, hk, rfl, rfl, hkp⟩ := hrel
      by_cases hlt : k < ps.length
      · obtain ⟨b, off, x, y, rfl, hb1, hb2, hx, hc, hc2⟩ := (h.keepNo hkp).at_ hlt
        obtain ⟨b1, b2⟩ := sumP_bound Hv.out k hk
        obtain ⟨s1, s2, s3, s4⟩ := spans_at Hv.out hx
        have Hx := Lib.hid (sumP_succ hx); clear hx
        have q1 := Lib.hid (IntWalk.i64_in (sumP (ps.take k) + y) (by omega))
        go_wp2_with fail
        have q1' := q1.out
        have q2' := IntWalk.i64_in (sumP (ps.take k) + y - x) (by omega)
        go_quiet (fail)
        clear q1' q2'
        go_wp2_with fail
        go_roundw
        case rel => exact ⟨k + 1, by omega, by go_num, by rw [Hx.out]; go_num, hkp.drewN _⟩
        case measure => simp [intOf]; omega
      · obtain rfl : k = ps.length := by omega
        go_wp2_with fail
        go_ret
        exact ⟨ret_int (by rw [H.out, List.take_length]), hkp⟩

theorem walk_FnExactSpanValid {w : World} (x y : Int) (_ : (Lit.int .i64 x).wf = true) (_ : (Lit.int .i64 y).wf = true) :
    Calls Try.prog 3 #[.agg #[.int .i64 x, .int .i64 y]] w fun e w' => e = .returned (.bool true) ∧ Kp No w w' := by
  have hne : (spanB x y != spanB x y) = false := by simp
  go_enter Try.func3, Try.ntmps3
  go_wp2_with fail
  refine (toSpan_any _ _ _).mono ?_
  rintro e w1 ⟨rfl, k1⟩
  have ka : Kp No w w1 := ((Kp.refl _ _).alloc _).trans k1
  have c0 : w1.cell? ⟨w.heap.size, 0, none⟩ = some (.int .i64 x) := (k1.cell (p := ⟨w.heap.size, 0, none⟩) (by simp) (fun e => e)).trans (by simp)
  have c1 : w1.cell? ⟨w.heap.size, 1, none⟩ = some (.int .i64 y) := (k1.cell (p := ⟨w.heap.size, 1, none⟩) (by simp) (fun e => e)).trans (by simp)
  have s1 := k1.size
  simp only [World.size_alloc] at s1
  go_wp2_with fail
  refine (spanValid_spec _ _ _).mono ?_
  rintro e w2 ⟨rfl, k2⟩
  have d0 := (k2.cell (p := ⟨w.heap.size, 0, none⟩) (by show w.heap.size < _; omega) (fun e => e)).trans c0
  have d1 := (k2.cell (p := ⟨w.heap.size, 1, none⟩) (by show w.heap.size < _; omega) (fun e => e)).trans c1
  clear c0 c1
  go_wp2_with fail
  refine (toSpan_any _ _ _).mono ?_
  rintro e w3 ⟨rfl, k3⟩
  go_wp2_with fail
  refine (spanValid_impl _ _ _).mono ?_
  rintro e w4 ⟨rfl, k4⟩
  go_wp2_with fail
  go_ret
  exact ⟨rfl, ((ka.trans k2).trans k3).trans k4⟩

set_option maxHeartbeats 2000000 in
theorem walk_FnExactSpansValid {w : World} (A : Option Addr) (xs : List (Int × Int)) (c : Nat) (h : Prs w 0 w.heap.size A xs) (hz : xs.length ≤ 9223372036854775807)  :
    Calls Try.prog 5 #[.slice A xs.length c] w fun e w' => e = .returned (.bool true) ∧ Kp No w w' := by
  go_enter Try.func5, Try.ntmps5
  have hne : (spansB xs != spansB xs) = false := by simp
  by_cases hl : 1048576 < xs.length
  · go_wp2_with fail
    refine (szSpanS_big _ _ _ _ _ (by omega) hz (by omega)).mono ?_
    rintro e w' ⟨rfl, rfl⟩
    go_wp2_with fail
    go_ret
    exact ⟨rfl, Kp.refl _ _⟩
  · go_wp2_with fail
    refine (szSpanS_ok _ _ _ _ _ (by omega) (by omega)).mono ?_
    rintro e w' ⟨rfl, rfl⟩
    go_wp2_with fail
    refine (toSpanS_any _ _ _ _ _ _ h (by omega)).mono ?_
    rintro e w1 ⟨A1, c1, rfl, o1, k1⟩
    go_wp2_with fail
    refine (spansValid_spec _ _ _ _ _ _ o1.prs (by omega)).mono ?_
    rintro e w2 ⟨rfl, k2⟩
    go_wp2_with fail
    have h2 := (h.keepNo k1).keepNo k2
    refine (toSpanS_any _ _ _ _ _ _ h2 (by omega)).mono ?_
    rintro e w3 ⟨A3, c3, rfl, o3, k3⟩
    go_wp2_with fail
    have h3 := h2.keepNo k3
    refine (spansValid_impl _ _ _ _ _ _ o3.prs (by omega)).mono ?_
    rintro e w4 ⟨rfl, k4⟩
    go_wp2_with fail
    have h4 := h3.keepNo k4
    have o34 := o3.keepNo k4
    refine (toSpanS_any _ _ _ _ _ _ h4 (by omega)).mono ?_
    rintro e w5 ⟨A5, c5, rfl, o5, k5⟩
    go_wp2_with fail
    refine (eqSpanS_same _ _ _ _ _ _ _ _ _ _ (o34.keepNo k5).prs o5.prs (by omega)).mono ?_
    rintro e w6 ⟨rfl, k6⟩
    go_wp2_with fail
    go_ret
    exact ⟨rfl, ((((k1.trans k2).trans k3).trans k4).trans k5).trans k6⟩

set_option maxHeartbeats 2000000 in
theorem walk_FnExactTrimHas {w : World} (A : Option Addr) (xs : List (Int × Int)) (c : Nat) (h : Prs w 0 w.heap.size A xs) (hz : xs.length ≤ 9223372036854775807) (n : Int) (_ : (Lit.int .i64 n).wf = true) :
    Calls Try.prog 7 #[.slice A xs.length c, .int .i64 n] w fun e w' => e = .returned (.bool true) ∧ Kp No w w' := by
  go_enter Try.func7, Try.ntmps7
  have hne : (trimHas xs n != trimHas xs n) = false := by simp
  by_cases hl : 1048576 < xs.length
  · go_wp2_with fail
    refine (szSpanS_big _ _ _ _ _ (by omega) hz (by omega)).mono ?_
    rintro e w' ⟨rfl, rfl⟩
    go_wp2_with fail
    go_ret
    exact ⟨rfl, Kp.refl _ _⟩
  · go_wp2_with fail
    refine (szSpanS_ok _ _ _ _ _ (by omega) (by omega)).mono ?_
    rintro e w' ⟨rfl, rfl⟩
    go_wp2_with fail
    refine (toSpanS_any _ _ _ _ _ _ h (by omega)).mono ?_
    rintro e w1 ⟨A1, c1, rfl, o1, k1⟩
    go_wp2_with fail
    refine (trimHas_spec _ _ _ _ _ _ _ o1.prs (by omega)).mono ?_
    rintro e w2 ⟨rfl, k2⟩
    go_wp2_with fail
    have h2 := (h.keepNo k1).keepNo k2
    refine (toSpanS_any _ _ _ _ _ _ h2 (by omega)).mono ?_
    rintro e w3 ⟨A3, c3, rfl, o3, k3⟩
    go_wp2_with fail
    have h3 := h2.keepNo k3
    refine (trimHas_impl _ _ _ _ _ _ _ o3.prs (by omega)).mono ?_
    rintro e w4 ⟨rfl, k4⟩
    go_wp2_with fail
    have h4 := h3.keepNo k4
    have o34 := o3.keepNo k4
    refine (toSpanS_any _ _ _ _ _ _ h4 (by omega)).mono ?_
    rintro e w5 ⟨A5, c5, rfl, o5, k5⟩
    go_wp2_with fail
    refine (eqSpanS_same _ _ _ _ _ _ _ _ _ _ (o34.keepNo k5).prs o5.prs (by omega)).mono ?_
    rintro e w6 ⟨rfl, k6⟩
    go_wp2_with fail
    go_ret
    exact ⟨rfl, ((((k1.trans k2).trans k3).trans k4).trans k5).trans k6⟩

set_option maxHeartbeats 2000000 in
theorem walk_FnExactTrimCount {w : World} (A : Option Addr) (xs : List (Int × Int)) (c : Nat) (h : Prs w 0 w.heap.size A xs) (hz : xs.length ≤ 9223372036854775807)  :
    Calls Try.prog 9 #[.slice A xs.length c] w fun e w' => e = .returned (.bool true) ∧ Kp No w w' := by
  go_enter Try.func9, Try.ntmps9
  have hne : (trimCount xs != trimCount xs) = false := by simp
  by_cases hl : 1048576 < xs.length
  · go_wp2_with fail
    refine (szSpanS_big _ _ _ _ _ (by omega) hz (by omega)).mono ?_
    rintro e w' ⟨rfl, rfl⟩
    go_wp2_with fail
    go_ret
    exact ⟨rfl, Kp.refl _ _⟩
  · go_wp2_with fail
    refine (szSpanS_ok _ _ _ _ _ (by omega) (by omega)).mono ?_
    rintro e w' ⟨rfl, rfl⟩
    go_wp2_with fail
    refine (toSpanS_any _ _ _ _ _ _ h (by omega)).mono ?_
    rintro e w1 ⟨A1, c1, rfl, o1, k1⟩
    go_wp2_with fail
    refine (trimCount_spec _ _ _ _ _ _ o1.prs (by omega)).mono ?_
    rintro e w2 ⟨rfl, k2⟩
    go_wp2_with fail
    have h2 := (h.keepNo k1).keepNo k2
    refine (toSpanS_any _ _ _ _ _ _ h2 (by omega)).mono ?_
    rintro e w3 ⟨A3, c3, rfl, o3, k3⟩
    go_wp2_with fail
    have h3 := h2.keepNo k3
    refine (trimCount_impl _ _ _ _ _ _ o3.prs (by omega)).mono ?_
    rintro e w4 ⟨rfl, k4⟩
    go_wp2_with fail
    have h4 := h3.keepNo k4
    have o34 := o3.keepNo k4
    refine (toSpanS_any _ _ _ _ _ _ h4 (by omega)).mono ?_
    rintro e w5 ⟨A5, c5, rfl, o5, k5⟩
    go_wp2_with fail
    refine (eqSpanS_same _ _ _ _ _ _ _ _ _ _ (o34.keepNo k5).prs o5.prs (by omega)).mono ?_
    rintro e w6 ⟨rfl, k6⟩
    go_wp2_with fail
    go_ret
    exact ⟨rfl, ((((k1.trans k2).trans k3).trans k4).trans k5).trans k6⟩
end Go.Proofs.Ytjjglggfkbbhfaa
