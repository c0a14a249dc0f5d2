/- KeptValid and KeptUsers, of the program and of the reference; the walks of their exact laws. -/
import Derived.Test.YteabpdnlkncbpaaPairs
import Derived.WalkKit
import Derived.WalkSpells
import Derived.WalkLawsBesides
import Derived.Outline
import Derived.Deep.QuietTactic
import Derived.BigQuiet
namespace Go.Proofs.Yteabpdnlkncbpaa
open Go.RowKit
set_option linter.unusedVariables false

theorem quietL {P : Program} {f : FuncId} {args : Array Value} {w : World} {n : Nat} {v : Value}
    (h : Calls P f args (w.drewN n) fun e w' => e = .returned v ∧ w.drewN n = w') : Calls P f args (w.drewN n) fun e w'' => e = .returned v ∧ ∃ m, w'' = w.drewN m :=
  h.mono fun _ _ ⟨he, hm⟩ => ⟨he, n, hm.symm⟩
def keptP (x y : Int) : Bool := inB x 0 9999 && inB y 1 1000
theorem keptP_true {x y : Int} (h : 0 ≤ x ∧ x ≤ 9999 ∧ 1 ≤ y ∧ y ≤ 1000) : keptP x y = true := by simp [keptP, inB]; omega
theorem keptP_false {x y : Int} (h : ¬ (0 ≤ x ∧ x ≤ 9999 ∧ 1 ≤ y ∧ y ≤ 1000)) : keptP x y = false := by
  cases hb : keptP x y with
  | false => rfl
  | true => simp [keptP, inB] at hb; omega
theorem keptP_iff {x y : Int} : keptP x y = true ↔ 0 ≤ x ∧ x ≤ 9999 ∧ 1 ≤ y ∧ y ≤ 1000 := by simp [keptP, inB]; omega
def keptAt (ps : List (Int × Int)) (k : Nat) : Bool := match ps[k]? with
  | none => true
  | some (x, y) => keptP x y && match k with
    | 0 => true
    | j + 1 => match ps[j]? with
      | none => true
      | some (x', _) => decide (x' < x)
def keptB (ps : List (Int × Int)) : Bool := decide (ps.length ≤ 10) && (List.range ps.length).all (keptAt ps)
theorem keptAt_zero {ps : List (Int × Int)} {x y : Int} (h : ps[0]? = some (x, y)) : keptAt ps 0 = keptP x y := by simp [keptAt, h]
theorem keptAt_succ {ps : List (Int × Int)} {k : Nat} {x y x' y' : Int} (h : ps[k + 1]? = some (x, y)) (h' : ps[k]? = some (x', y')) : keptAt ps (k + 1) = (keptP x y && decide (x' < x)) := by simp [keptAt, h, h']
theorem keptAt_bad {ps : List (Int × Int)} {k : Nat} {x y : Int} (h : ps[k]? = some (x, y)) (hb : keptP x y = false) : keptAt ps k = false := by simp [keptAt, h, hb]
def UptoN (f : Nat → Bool) (k : Nat) : Prop := ∀ j, j < k → f j = true
theorem UptoN.zero (f : Nat → Bool) : UptoN f 0 := fun j hj => absurd hj (by omega)
theorem UptoN.succ {f : Nat → Bool} {k : Nat} (h : UptoN f k) (hk : f k = true) : UptoN f (k + 1) := fun j hj => by
  by_cases e : j = k
  · subst e; exact hk
  · exact h j (by omega)
theorem UptoN.all {f : Nat → Bool} {k : Nat} (h : UptoN f k) : (List.range k).all f = true := by
  rw [List.all_eq_true]; intro j hj; exact h j (by simpa using hj)
theorem all_range_not {f : Nat → Bool} {n k : Nat} (hk : k < n) (h : f k = false) : (List.range n).all f = false := by
  rw [List.all_eq_false]; exact ⟨k, by simpa using hk, by simp [h]⟩
theorem keptB_not {ps : List (Int × Int)} {k : Nat} (hk : k < ps.length) (h : keptAt ps k = false) : keptB ps = false := by simp [keptB, all_range_not hk h]
theorem keptB_long {ps : List (Int × Int)} (h : ¬ ps.length ≤ 10) : keptB ps = false := by simp [keptB, h]
theorem keptB_len {ps : List (Int × Int)} (h : keptB ps = true) : ps.length ≤ 10 := by
  simp only [keptB, Bool.and_eq_true, decide_eq_true_eq] at h; exact h.1
theorem kept_at {ps : List (Int × Int)} (h : keptB ps = true) {k : Nat} {x y : Int} (hk : ps[k]? = some (x, y)) : 0 ≤ x ∧ x ≤ 9999 ∧ 1 ≤ y ∧ y ≤ 1000 := by
  simp only [keptB, Bool.and_eq_true, List.all_eq_true, List.mem_range] at h
  have := h.2 k (List.getElem?_eq_some_iff.1 hk).1
  simp only [keptAt, hk, Bool.and_eq_true] at this
  exact keptP_iff.1 this.1

set_option maxHeartbeats 2000000 in
theorem keptValid_impl (A : Option Addr) (ps : List (Int × Int)) (c lo hi : Nat) (w : World) (h : Prs w lo hi A ps) (hs : ps.length ≤ 4000000) : Calls Try.prog 14 #[.slice A ps.length c] w
    fun e w' => e = .returned (.bool (keptB ps)) ∧ Kp No w w' := by
  go_enter Try.func14, Try.ntmps14
  by_cases hl : ps.length ≤ 10
  · go_wp2_with fail
    go_loopw [10] (fun i wr => ∃ k : Nat, k ≤ ps.length ∧ i = .int .i64 k ∧ UptoN (keptAt ps) k ∧ Kp No w wr) (fun i _ => ps.length - (intOf i).toNat)
    case atStart => exact ⟨0, Nat.zero_le _, rfl, UptoN.zero _, Kp.refl _ _⟩
    case round =>
      obtain ⟨k, hk, rfl, hall, hkp⟩ := hrel
      by_cases hlt : k < ps.length
      · obtain ⟨b, off, x, y, rfl, hb1, hb2, hx, hc, hc2⟩ := (h.keepNo hkp).at_ hlt
        have Hx := Lib.hid hx; clear hx
        have hhi : hi ≤ wr.heap.size := (h.keepNo hkp).2.1
        by_cases hok : 0 ≤ x ∧ x ≤ 9999 ∧ 1 ≤ y ∧ y ≤ 1000
        · have Hp := Lib.hid (keptP_true hok)
          obtain ⟨x0, x1, y0, y1⟩ := hok
          rcases k with _ | j
          · have Hok := Lib.hid (show keptAt ps 0 = true by rw [keptAt_zero Hx.out, Hp.out])
            have hd : decide ((0 : Int) < ((0 : Nat) : Int)) = false := by simp
            simp only [Nat.zero_mul, Nat.add_zero] at hc hc2
            go_wp2_with fail
            go_quiet (fail)
            go_wp2_with fail
            go_roundw
            case rel => exact ⟨1, by omega, by go_num, hall.succ Hok.out, (hkp.alloc _).drewN _⟩
            case measure => simp [intOf]; omega
          · obtain ⟨b', off', x', y', hA, _, _, hx', hc', _⟩ := (h.keepNo hkp).at_ (k := j) (by omega)
            obtain ⟨rfl, rfl⟩ : b = b' ∧ off = off' := by injection hA with hA; injection hA with h1 h2; exact ⟨h1, h2⟩
            have Hok := Lib.hid (show keptAt ps (j + 1) = decide (x' < x) by rw [keptAt_succ Hx.out hx', Hp.out, Bool.true_and])
            clear hx' hA
            have hj : decide ((0 : Int) < ((j + 1 : Nat) : Int)) = true := by simp
            have ca : (wr.alloc (.cells #[.int .i64 x, .int .i64 y] 33)).cell? ⟨b, off + j * 2, none⟩ = some (.int .i64 x') := (((Kp.refl No wr).alloc _).cell (p := ⟨b, off + j * 2, none⟩) (by simp; omega) (fun e => e)).trans hc'
            by_cases hlt2 : x' < x
            · go_wp2_with fail
              go_quiet (fail)
              go_wp2_with fail
              go_roundw
              case rel => exact ⟨j + 1 + 1, by omega, by go_num, hall.succ (by rw [Hok.out]; simpa using hlt2), (hkp.alloc _).drewN _⟩
              case measure => simp [intOf]; omega
            · have Hbad := Lib.hid (keptB_not hlt (by rw [Hok.out]; simpa using hlt2))
              go_wp2_with fail
              go_quiet (fail)
              go_wp2_with fail
              go_ret
              exact ⟨ret_bool Hbad.out.symm, (hkp.alloc _).drewN _⟩
        · have Hbad := Lib.hid (keptB_not hlt (keptAt_bad Hx.out (keptP_false hok)))
          have hok' : x < 0 ∨ 9999 < x ∨ y < 1 ∨ 1000 < y := by omega
          clear hok
          go_wp2_with fail
          all_goals go_ret
          all_goals exact ⟨ret_bool Hbad.out.symm, hkp.alloc _⟩
      · obtain rfl : k = ps.length := by omega
        go_wp2_with fail
        go_ret
        exact ⟨ret_bool (by simp [keptB, hall.all]; omega), hkp⟩
  · have Hbad := Lib.hid (keptB_long hl)
    go_wp2_with fail
    go_ret
    exact ⟨ret_bool Hbad.out.symm, Kp.refl _ _⟩

set_option maxHeartbeats 2000000 in
theorem keptValid_spec (A : Option Addr) (ps : List (Int × Int)) (c lo hi : Nat) (w : World) (h : Prs w lo hi A ps) (hs : ps.length ≤ 4000000) : Calls Try.prog 12 #[.slice A ps.length c] w
    fun e w' => e = .returned (.bool (keptB ps)) ∧ Kp No w w' := by
  go_enter Try.func12, Try.ntmps12
  go_wp2_with fail
  go_loopw [3] (fun i wr => ∃ k : Nat, k ≤ ps.length ∧ i = .int .i64 k ∧ UptoN (keptAt ps) k ∧ Kp No w wr) (fun i _ => ps.length - (intOf i).toNat)
  case atStart => exact ⟨0, Nat.zero_le _, rfl, UptoN.zero _, Kp.refl _ _⟩
  case round =>
    obtain ⟨k, hk, rfl, hall, hkp⟩ := hrel
    by_cases hlt : k < ps.length
    · obtain ⟨b, off, x, y, rfl, hb1, hb2, hx, hc, hc2⟩ := (h.keepNo hkp).at_ hlt
      have Hx := Lib.hid hx; clear hx
      cases h1 : inB x 0 9999
      · have Hbad := Lib.hid (keptB_not hlt (keptAt_bad Hx.out (by simp [keptP, h1])))
        go_wp2_with fail
        go_quiet ((go_at_call 30; exact quietL (l1In_any _ _ _ _)))
        go_wp2_with fail
        go_ret
        exact ⟨ret_bool Hbad.out.symm, hkp.drewN _⟩
      · cases h2 : inB y 1 1000
        · have Hbad := Lib.hid (keptB_not hlt (keptAt_bad Hx.out (by simp [keptP, h2])))
          go_wp2_with fail
          go_quiet ((go_at_call 30; exact quietL (l1In_any _ _ _ _)))
          go_wp2_with fail
          go_ret
          exact ⟨ret_bool Hbad.out.symm, hkp.drewN _⟩
        · have Hp := Lib.hid (show keptP x y = true by simp [keptP, h1, h2])
          rcases k with _ | j
          · have Hok := Lib.hid (show keptAt ps 0 = true by rw [keptAt_zero Hx.out, Hp.out])
            have hd : decide ((0 : Int) < ((0 : Nat) : Int)) = false := by simp
            simp only [Nat.zero_mul, Nat.add_zero] at hc hc2
            go_wp2_with fail
            go_quiet ((go_at_call 30; exact quietL (l1In_any _ _ _ _)))
            go_wp2_with fail
            go_roundw
            case rel => exact ⟨1, by omega, by go_num, hall.succ Hok.out, hkp.drewN _⟩
            case measure => simp [intOf]; omega
          · obtain ⟨b', off', x', y', hA, _, _, hx', hc', _⟩ := (h.keepNo hkp).at_ (k := j) (by omega)
            obtain ⟨rfl, rfl⟩ : b = b' ∧ off = off' := by injection hA with hA; injection hA with h1 h2; exact ⟨h1, h2⟩
            have Hok := Lib.hid (show keptAt ps (j + 1) = decide (x' < x) by rw [keptAt_succ Hx.out hx', Hp.out, Bool.true_and])
            clear hx' hA
            have hj : decide ((0 : Int) < ((j + 1 : Nat) : Int)) = true := by simp
            by_cases hlt2 : x' < x
            · have hd2 : decide (x ≤ x') = false := by simpa using hlt2
              go_wp2_with fail
              go_quiet ((go_at_call 30; exact quietL (l1In_any _ _ _ _)))
              go_wp2_with fail
              go_roundw
              case rel => exact ⟨j + 1 + 1, by omega, by go_num, hall.succ (by rw [Hok.out]; simpa using hlt2), hkp.drewN _⟩
              case measure => simp [intOf]; omega
            · have hd2 : decide (x ≤ x') = true := by simpa using hlt2
              have Hbad := Lib.hid (keptB_not hlt (by rw [Hok.out]; simpa using hlt2))
              go_wp2_with fail
              go_quiet ((go_at_call 30; exact quietL (l1In_any _ _ _ _)))
              go_wp2_with fail
              go_ret
              exact ⟨ret_bool Hbad.out.symm, hkp.drewN _⟩
    · obtain rfl : k = ps.length := by omega
      go_wp2_with fail
      go_ret
      refine ⟨ret_bool ?_, hkp⟩
      rw [keptB, hall.all, Bool.and_true]
      rw [Bool.eq_iff_iff]; simp; omega

def usersP (ps : List (Int × Int)) : Int := ps.foldl (fun a p => a + p.2) 0
def keptUsers (ps : List (Int × Int)) : Int := if keptB ps then usersP ps else -1
theorem usersP_succ {ps : List (Int × Int)} {k : Nat} {x y : Int} (h : ps[k]? = some (x, y)) : usersP (ps.take (k + 1)) = usersP (ps.take k) + y := by
  obtain ⟨hk, hx⟩ := List.getElem?_eq_some_iff.1 h
  rw [List.take_succ_eq_append_getElem hk, usersP, List.foldl_append, hx]; rfl
theorem usersP_bound {ps : List (Int × Int)} (h : keptB ps = true) : ∀ k, k ≤ ps.length → (k : Int) ≤ usersP (ps.take k) ∧ usersP (ps.take k) ≤ 1000 * k := by
  intro k
  induction k with
  | zero => intro _; simp [usersP]
  | succ k ih =>
    intro hk
    have ih := ih (by omega)
    have hg : ps[k]? = some (ps[k].1, ps[k].2) := List.getElem?_eq_getElem (by omega)
    have hs := kept_at h hg
    rw [usersP_succ hg]
    omega

set_option maxHeartbeats 1000000 in
theorem keptUsers_impl (A : Option Addr) (ps : List (Int × Int)) (c lo hi : Nat) (w : World) (h : Prs w lo hi A ps) (hs : ps.length ≤ 4000000) : Calls Try.prog 19 #[.slice A ps.length c] w
    fun e w' => e = .returned (.int .i64 (keptUsers ps)) ∧ Kp No w w' := by
  go_enter Try.func19, Try.ntmps19
  go_wp2_with fail
  refine (keptValid_impl _ _ _ _ _ _ h hs).mono ?_
  rintro e w1 ⟨rfl, k1⟩
  cases hv : keptB ps
  · have H := Lib.hid (show keptUsers ps = -1 by simp [keptUsers, hv])
    go_wp2_with fail
    go_ret
    exact ⟨ret_int H.out.symm, k1⟩
  · have H := Lib.hid (show keptUsers ps = usersP ps by simp [keptUsers, hv])
    have Hv := Lib.hid hv
    have hl10 := keptB_len hv
    clear hv
    go_wp2_with fail
    go_loopw [3, 11] (fun a i wr => ∃ k : Nat, k ≤ ps.length ∧ i = .int .i64 k ∧ a = .int .i64 (usersP (ps.take k)) ∧ Kp No w wr) (fun _ i _ => ps.length - (intOf i).toNat)
    case atStart => exact ⟨0, Nat.zero_le _, rfl, rfl, k1⟩
    case round =>
      obtain ⟨k, hk, rfl, rfl, hkp⟩ := hrel
      have hbd := usersP_bound Hv.out k hk
      by_cases hlt : k < ps.length
      · obtain ⟨b, off, x, y, rfl, hb1, hb2, hx, hc, hc2⟩ := (h.keepNo hkp).at_ hlt
        have hy := kept_at Hv.out hx
        have Hx := Lib.hid (usersP_succ hx); clear hx
        go_wp2_with fail
        go_roundw
        case rel => exact ⟨k + 1, by omega, by go_num, by rw [Hx.out], by repeat (first | exact hkp | apply Kp.alloc)⟩
        case measure => simp [intOf]; omega
      · obtain rfl : k = ps.length := by omega
        have Hf := Lib.hid (show usersP (ps.take ps.length) = usersP ps by rw [List.take_length])
        go_wp2_with fail
        go_ret
        exact ⟨ret_int (by rw [H.out, Hf.out]), hkp⟩
set_option maxHeartbeats 1000000 in
theorem keptUsers_spec (A : Option Addr) (ps : List (Int × Int)) (c lo hi : Nat) (w : World) (h : Prs w lo hi A ps) (hs : ps.length ≤ 4000000) : Calls Try.prog 18 #[.slice A ps.length c] w
    fun e w' => e = .returned (.int .i64 (keptUsers ps)) ∧ Kp No w w' := by
  go_enter Try.func18, Try.ntmps18
  go_wp2_with fail
  refine (keptValid_spec _ _ _ _ _ _ h hs).mono ?_
  rintro e w1 ⟨rfl, k1⟩
  cases hv : keptB ps
  · have H := Lib.hid (show keptUsers ps = -1 by simp [keptUsers, hv])
    go_wp2_with fail
    go_ret
    exact ⟨ret_int H.out.symm, k1⟩
  · have H := Lib.hid (show keptUsers ps = usersP ps by simp [keptUsers, hv])
    have Hv := Lib.hid hv
    have hl10 := keptB_len hv
    clear hv
    go_wp2_with fail
    go_loopw [3, 4] (fun a i wr => ∃ k : Nat, k ≤ ps.length ∧ i = .int .i64 k ∧ a = .int .i64 (usersP (ps.take k)) ∧ Kp No w wr) (fun _ i _ => ps.length - (intOf i).toNat)
    case atStart => exact ⟨0, Nat.zero_le _, rfl, rfl, k1⟩
    case round =>
      obtain ⟨k, hk, rfl, rfl, hkp⟩ := hrel
      have hbd := usersP_bound Hv.out k hk
      by_cases hlt : k < ps.length
      · obtain ⟨b, off, x, y, rfl, hb1, hb2, hx, hc, hc2⟩ := (h.keepNo hkp).at_ hlt
        have hy := kept_at Hv.out hx
        have Hx := Lib.hid (usersP_succ hx); clear hx
        go_wp2_with fail
        go_roundw
        case rel => exact ⟨k + 1, by omega, by go_num, by rw [Hx.out], by repeat (first | exact hkp | apply Kp.alloc)⟩
        case measure => simp [intOf]; omega
      · obtain rfl : k = ps.length := by omega
        have Hf := Lib.hid (show usersP (ps.take ps.length) = usersP ps by rw [List.take_length])
        go_wp2_with fail
        go_ret
        exact ⟨ret_int (by rw [H.out, Hf.out]), hkp⟩

set_option maxHeartbeats 2000000 in
theorem walk_FnExactKeptValid {w : World} (A : Option Addr) (xs : List (Int × Int)) (c : Nat) (h : Prs w 0 w.heap.size A xs) (hz : xs.length ≤ 9223372036854775807)  :
    Calls Try.prog 3 #[.slice A xs.length c] w fun e w' => e = .returned (.bool true) ∧ Kp No w w' := by
  go_enter Try.func3, Try.ntmps3
  have hne : (keptB xs != keptB xs) = false := by simp
  by_cases hl : 1048576 < xs.length
  · go_wp2_with fail
    refine (szKeptS_big _ _ _ _ _ (by omega) hz (by omega)).mono ?_
    rintro e w' ⟨rfl, rfl⟩
    go_wp2_with fail
    go_ret
    exact ⟨rfl, Kp.refl _ _⟩
  · go_wp2_with fail
    refine (szKeptS_ok _ _ _ _ _ (by omega) (by omega)).mono ?_
    rintro e w' ⟨rfl, rfl⟩
    go_wp2_with fail
    refine (toKeptS_any _ _ _ _ _ _ h (by omega)).mono ?_
    rintro e w1 ⟨A1, c1, rfl, o1, k1⟩
    go_wp2_with fail
    refine (keptValid_spec _ _ _ _ _ _ o1.prs (by omega)).mono ?_
    rintro e w2 ⟨rfl, k2⟩
    go_wp2_with fail
    have h2 := (h.keepNo k1).keepNo k2
    refine (toKeptS_any _ _ _ _ _ _ h2 (by omega)).mono ?_
    rintro e w3 ⟨A3, c3, rfl, o3, k3⟩
    go_wp2_with fail
    have h3 := h2.keepNo k3
    refine (keptValid_impl _ _ _ _ _ _ o3.prs (by omega)).mono ?_
    rintro e w4 ⟨rfl, k4⟩
    go_wp2_with fail
    have h4 := h3.keepNo k4
    have o34 := o3.keepNo k4
    refine (toKeptS_any _ _ _ _ _ _ h4 (by omega)).mono ?_
    rintro e w5 ⟨A5, c5, rfl, o5, k5⟩
    go_wp2_with fail
    refine (eqKeptS_same _ _ _ _ _ _ _ _ _ _ (o34.keepNo k5).prs o5.prs (by omega)).mono ?_
    rintro e w6 ⟨rfl, k6⟩
    go_wp2_with fail
    go_ret
    exact ⟨rfl, ((((k1.trans k2).trans k3).trans k4).trans k5).trans k6⟩

set_option maxHeartbeats 2000000 in
theorem walk_FnExactKeptUsers {w : World} (A : Option Addr) (xs : List (Int × Int)) (c : Nat) (h : Prs w 0 w.heap.size A xs) (hz : xs.length ≤ 9223372036854775807)  :
    Calls Try.prog 5 #[.slice A xs.length c] w fun e w' => e = .returned (.bool true) ∧ Kp No w w' := by
  go_enter Try.func5, Try.ntmps5
  have hne : (keptUsers xs != keptUsers xs) = false := by simp
  by_cases hl : 1048576 < xs.length
  · go_wp2_with fail
    refine (szKeptS_big _ _ _ _ _ (by omega) hz (by omega)).mono ?_
    rintro e w' ⟨rfl, rfl⟩
    go_wp2_with fail
    go_ret
    exact ⟨rfl, Kp.refl _ _⟩
  · go_wp2_with fail
    refine (szKeptS_ok _ _ _ _ _ (by omega) (by omega)).mono ?_
    rintro e w' ⟨rfl, rfl⟩
    go_wp2_with fail
    refine (toKeptS_any _ _ _ _ _ _ h (by omega)).mono ?_
    rintro e w1 ⟨A1, c1, rfl, o1, k1⟩
    go_wp2_with fail
    refine (keptUsers_spec _ _ _ _ _ _ o1.prs (by omega)).mono ?_
    rintro e w2 ⟨rfl, k2⟩
    go_wp2_with fail
    have h2 := (h.keepNo k1).keepNo k2
    refine (toKeptS_any _ _ _ _ _ _ h2 (by omega)).mono ?_
    rintro e w3 ⟨A3, c3, rfl, o3, k3⟩
    go_wp2_with fail
    have h3 := h2.keepNo k3
    refine (keptUsers_impl _ _ _ _ _ _ o3.prs (by omega)).mono ?_
    rintro e w4 ⟨rfl, k4⟩
    go_wp2_with fail
    have h4 := h3.keepNo k4
    have o34 := o3.keepNo k4
    refine (toKeptS_any _ _ _ _ _ _ h4 (by omega)).mono ?_
    rintro e w5 ⟨A5, c5, rfl, o5, k5⟩
    go_wp2_with fail
    refine (eqKeptS_same _ _ _ _ _ _ _ _ _ _ (o34.keepNo k5).prs o5.prs (by omega)).mono ?_
    rintro e w6 ⟨rfl, k6⟩
    go_wp2_with fail
    go_ret
    exact ⟨rfl, ((((k1.trans k2).trans k3).trans k4).trans k5).trans k6⟩
end Go.Proofs.Yteabpdnlkncbpaa
