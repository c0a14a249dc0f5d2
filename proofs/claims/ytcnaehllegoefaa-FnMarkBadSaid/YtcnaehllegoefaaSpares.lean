/- SparesValid, of the program and of the reference: one Lean function sparesB for both. -/
import Derived.Test.YtcnaehllegoefaaInts
import Derived.Test.YtcnaehllegoefaaSlices
import Derived.WalkKit
import Derived.WalkSpells
import Derived.WalkLawsBesides
import Derived.Outline
import Derived.Deep.QuietTactic
import Derived.BigQuiet
namespace Go.Proofs.Ytcnaehllegoefaa
open Go.RowKit
set_option linter.unusedVariables false

theorem quietL {P : Program} {f : FuncId} {args : Array Value} {w : World} {n : Nat} {v : Value}
    (h : Calls P f args (w.drewN n) fun e w' => e = .returned v ∧ w.drewN n = w') : Calls P f args (w.drewN n) fun e w'' => e = .returned v ∧ ∃ m, w'' = w.drewN m :=
  h.mono fun _ _ ⟨he, hm⟩ => ⟨he, n, hm.symm⟩
/-- The block at k is one of those before its spare, and new. -/
def badAt (B : Int) (xs : List Int) (k : Nat) : Bool := match xs[k]? with
  | some x => inB x 0 (B + k - 1) && !(xs.take k).contains x
  | none => true
def sparesB (B X : Int) (xs : List Int) : Bool := inB B 1 12 && (inB X 0 12 && (decide ((xs.length : Int) ≤ X) && (List.range xs.length).all (badAt B xs)))
theorem badAt_of {B : Int} {xs : List Int} {k : Nat} {x : Int} (h : xs[k]? = some x) : badAt B xs k = (inB x 0 (B + k - 1) && !(xs.take k).contains x) := by simp [badAt, h]
def UptoS (f : Nat → Bool) (k : Nat) : Prop := ∀ j, j < k → f j = true
theorem UptoS.zero (f : Nat → Bool) : UptoS f 0 := fun j hj => absurd hj (by omega)
theorem UptoS.succ {f : Nat → Bool} {k : Nat} (h : UptoS f k) (hk : f k = true) : UptoS f (k + 1) := fun j hj => by
  by_cases e : j = k
  · rw [e]; exact hk
  · exact h j (by omega)
theorem UptoS.all {f : Nat → Bool} {k : Nat} (h : UptoS f k) : (List.range k).all f = true := by
  rw [List.all_eq_true]; intro j hj; exact h j (by simpa using hj)
theorem sparesB_not {B X : Int} {xs : List Int} {k : Nat} (hk : k < xs.length) (h : badAt B xs k = false) : sparesB B X xs = false := by
  have : (List.range xs.length).all (badAt B xs) = false := by rw [List.all_eq_false]; exact ⟨k, by simpa using hk, by simp [h]⟩
  simp [sparesB, this]
theorem sparesB_out {B X : Int} {xs : List Int} (h : ¬ (1 ≤ B ∧ B ≤ 12 ∧ 0 ≤ X ∧ X ≤ 12 ∧ (xs.length : Int) ≤ X)) : sparesB B X xs = false := by
  cases hb : sparesB B X xs with
  | false => rfl
  | true =>
    simp only [sparesB, inB, Bool.and_eq_true, decide_eq_true_eq] at hb
    omega
theorem sparesB_in {B X : Int} {xs : List Int} (h : 1 ≤ B ∧ B ≤ 12 ∧ 0 ≤ X ∧ X ≤ 12 ∧ (xs.length : Int) ≤ X) (hu : UptoS (badAt B xs) xs.length) : sparesB B X xs = true := by
  obtain ⟨h1, h2, h3, h4, h5⟩ := h
  simp only [sparesB, inB, hu.all, h1, h2, h3, h4, h5, decide_true, Bool.and_true]
theorem sparesB_dec {B X : Int} {xs : List Int} (h : sparesB B X xs = true) : (1 ≤ B ∧ B ≤ 12 ∧ 0 ≤ X ∧ X ≤ 12 ∧ (xs.length : Int) ≤ X) ∧ ∀ (k : Nat) (x : Int), xs[k]? = some x → 0 ≤ x ∧ x < B + k ∧ (xs.take k).contains x = false := by
  simp only [sparesB, inB, Bool.and_eq_true, decide_eq_true_eq, List.all_eq_true] at h
  refine ⟨by omega, fun k x hx => ?_⟩
  have hk := (List.getElem?_eq_some_iff.1 hx).1
  have := h.2.2.2 k (by simpa using hk)
  rw [badAt_of hx, inB] at this
  simp only [Bool.and_eq_true, decide_eq_true_eq, Bool.not_eq_true'] at this
  exact ⟨by omega, by omega, this.2⟩

/-- A box that holds spares. -/
def BoxS (w : World) (b : Nat) (B X : Int) (A : Option Addr) (n c : Nat) : Prop := w.cell? ⟨b, 0, none⟩ = some (.int .i64 B) ∧ w.cell? ⟨b, 1, none⟩ = some (.int .i64 X) ∧ w.cell? ⟨b, 2, none⟩ = some (.slice A n c) ∧ w.frozen? ⟨b, 0, none⟩ = false ∧ w.frozen? ⟨b, 1, none⟩ = false ∧ w.frozen? ⟨b, 2, none⟩ = false ∧ b < w.heap.size
theorem BoxS.new (w : World) (t : TypeId) (B X : Int) (A : Option Addr) (n c : Nat) : BoxS (w.alloc (.cells #[.int .i64 B, .int .i64 X, .slice A n c] t)) w.heap.size B X A n c := by
  refine ⟨by simp, by simp, by simp, by simp, by simp, by simp, by simp⟩
theorem BoxS.keep {w w' : World} {S : Nat → Prop} {b : Nat} {B X : Int} {A : Option Addr} {n c : Nat} (h : BoxS w b B X A n c) (k : Kp S w w') (hn : ¬ S b) : BoxS w' b B X A n c :=
  ⟨(k.cell h.2.2.2.2.2.2 hn).trans h.1, (k.cell h.2.2.2.2.2.2 hn).trans h.2.1, (k.cell h.2.2.2.2.2.2 hn).trans h.2.2.1, (k.frozen h.2.2.2.2.2.2 hn).trans h.2.2.2.1, (k.frozen h.2.2.2.2.2.2 hn).trans h.2.2.2.2.1, (k.frozen h.2.2.2.2.2.2 hn).trans h.2.2.2.2.2.1, Nat.lt_of_lt_of_le h.2.2.2.2.2.2 k.size⟩
theorem BoxS.keepNo {w w' : World} {b : Nat} {B X : Int} {A : Option Addr} {n c : Nat} (h : BoxS w b B X A n c) (k : Kp No w w') : BoxS w' b B X A n c := h.keep k (fun e => e)

set_option maxHeartbeats 1000000 in
theorem sparesValid_impl (B X : Int) (A : Option Addr) (xs : List Int) (c lo hi : Nat) (w : World) (h : Ints w lo hi A xs) (hs : xs.length ≤ 4000000) (hcap : xs.length ≤ c) : Calls Try.prog 36 #[.agg #[.int .i64 B, .int .i64 X, .slice A xs.length c]] w
    fun e w' => e = .returned (.bool (sparesB B X xs)) ∧ Kp No w w' := by
  go_enter Try.func36, Try.ntmps36
  by_cases hl : 1 ≤ B ∧ B ≤ 12 ∧ 0 ≤ X ∧ X ≤ 12 ∧ (xs.length : Int) ≤ X
  · have Hl := Lib.hid hl
    obtain ⟨h1, h2, h3, h4, h5⟩ := hl
    go_wp2
    go_loop [34] (fun i => ∃ k : Nat, k ≤ xs.length ∧ i = .int .i64 k ∧ UptoS (badAt B xs) k) (fun i => xs.length - (intOf i).toNat)
    case atStart => exact ⟨0, Nat.zero_le _, rfl, UptoS.zero _⟩
    case round =>
      obtain ⟨k, hk, rfl, hall⟩ := hrel
      by_cases hlt : k < xs.length
      · obtain ⟨b, off, x, rfl, hb1, hb2, hx, hc⟩ := h.at_ hlt
        have hb3 : b < w.heap.size := Nat.lt_of_lt_of_le hb2 h.2.1
        have Hx := Lib.hid hx; clear hx
        by_cases hok : 0 ≤ x ∧ x < B + k
        · obtain ⟨hx1, hx2⟩ := hok
          have hsum : IntKind.i64.wrap (B + (k : Int)) = B + k := IntWalk.i64_in _ (by omega)
          have hkc : k ≤ c := by omega
          have hc0 : ¬ c = 0 := by omega
          go_wp2_with fail
          refine (len2 (contains_any _ (xs.take k) c lo hi x _ ((h.cut (by omega)).keepNo ((Kp.refl _ _).alloc _)) (by simp; omega)) (by simp; omega)).mono ?_
          rintro e w' ⟨rfl, rfl⟩
          cases hcon : (xs.take k).contains x
          · have Hok := Lib.hid (show badAt B xs k = true by rw [badAt_of Hx.out, hcon, inB_true (by omega)]; rfl)
            go_wp2
            go_round
            case rel => exact ⟨k + 1, by omega, by go_num, hall.succ Hok.out⟩
            case measure => simp [intOf]; omega
          · have Hbad := Lib.hid (sparesB_not (X := X) (B := B) hlt (by rw [badAt_of Hx.out, hcon]; simp))
            go_wp2
            go_ret
            exact ⟨ret_bool Hbad.out.symm, (Kp.refl _ _).alloc _⟩
        · have Hbad := Lib.hid (sparesB_not (X := X) (B := B) hlt (by rw [badAt_of Hx.out, inB_false (by omega)]; rfl))
          have hsum : IntKind.i64.wrap (B + (k : Int)) = B + k := IntWalk.i64_in _ (by omega)
          have hok' : x < 0 ∨ B + k ≤ x := by omega
          clear hok
          go_wp2
          all_goals go_ret
          all_goals exact ⟨ret_bool Hbad.out.symm, (Kp.refl _ _).alloc _⟩
      · go_wp2
        go_ret
        obtain rfl : k = xs.length := by omega
        exact ⟨ret_bool (sparesB_in Hl.out hall).symm, (Kp.refl _ _).alloc _⟩
  · have Hbad := Lib.hid (sparesB_out hl)
    have hl' : B < 1 ∨ 12 < B ∨ X < 0 ∨ 12 < X ∨ X < (xs.length : Int) := by omega
    clear hl
    go_wp2
    all_goals go_ret
    all_goals exact ⟨ret_bool Hbad.out.symm, (Kp.refl _ _).alloc _⟩

theorem in_take {xs : List Int} {k j : Nat} {x : Int} (hj : j < k) (h : xs[j]? = some x) : (xs.take k).contains x = true := by
  simp only [List.contains_eq_mem, decide_eq_true_eq]
  exact List.mem_of_getElem? (i := j) (by rw [List.getElem?_take, if_pos hj, h])
theorem not_in_take {xs : List Int} {k : Nat} {x : Int} (h : Before xs x k) : (xs.take k).contains x = false := by
  simp only [List.contains_eq_mem, decide_eq_false_iff_not]
  intro hm
  obtain ⟨j, hj⟩ := List.mem_iff_getElem?.1 hm
  rw [List.getElem?_take] at hj
  split at hj
  · exact h j x (by assumption) hj rfl
  · cases hj

set_option maxHeartbeats 1000000 in
theorem sparesValid_spec (B X : Int) (A : Option Addr) (xs : List Int) (c lo hi : Nat) (w : World) (h : Ints w lo hi A xs) (hs : xs.length ≤ 4000000) : Calls Try.prog 57 #[.agg #[.int .i64 B, .int .i64 X, .slice A xs.length c]] w
    fun e w' => e = .returned (.bool (sparesB B X xs)) ∧ Kp No w w' := by
  go_enter Try.func57, Try.ntmps57
  by_cases hl : 1 ≤ B ∧ B ≤ 12 ∧ 0 ≤ X ∧ X ≤ 12 ∧ (xs.length : Int) ≤ X
  · have Hl := Lib.hid hl
    obtain ⟨h1, h2, h3, h4, h5⟩ := hl
    have g1 : inB B 1 12 = true := inB_true ⟨h1, h2⟩
    have g2 : inB X 0 12 = true := inB_true ⟨h3, h4⟩
    go_wp2_with (go_at_call 43; refine (l1In_any _ _ _ _).mono ?_; rintro e w' ⟨rfl, rfl⟩)
    go_loopw [3] (fun i wr => ∃ k : Nat, k ≤ xs.length ∧ i = .int .i64 k ∧ UptoS (badAt B xs) k ∧ Kp No w wr ∧ BoxS wr w.heap.size B X A xs.length c) (fun i _ => xs.length - (intOf i).toNat)
    case atStart => exact ⟨0, Nat.zero_le _, rfl, UptoS.zero _, (Kp.refl _ _).alloc _, BoxS.new _ _ _ _ _ _ _⟩
    case round =>
      obtain ⟨k, hk, rfl, hall, hkp, hbox⟩ := hrel
      have Hbox := Lib.hid hbox
      obtain ⟨hc0, hc1, hc2, hf0, hf1, hf2, hbl⟩ := hbox
      by_cases hlt : k < xs.length
      · obtain ⟨b, off, x, rfl, hb1, hb2, hx, hc⟩ := (h.keepNo hkp).at_ hlt
        have Hx := Lib.hid hx; clear hx
        have hsum : IntKind.i64.wrap (B + (k : Int)) = B + k := IntWalk.i64_in _ (by omega)
        have hsub : IntKind.i64.wrap (B + (k : Int) - 1) = B + k - 1 := IntWalk.i64_in _ (by omega)
        cases hin : inB x 0 (B + k - 1)
        · have Hbad := Lib.hid (sparesB_not (X := X) (B := B) hlt (by rw [badAt_of Hx.out, hin]; rfl))
          go_wp2_with fail
          go_quiet ((go_at_call 43; exact quietL (l1In_any _ _ _ _)))
          go_wp2_with fail
          go_ret
          exact ⟨ret_bool Hbad.out.symm, hkp.drewN _⟩
        · have hx2 : 0 ≤ x ∧ x ≤ B + k - 1 := by simpa [inB] using hin
          go_wp2_with fail
          go_quiet ((go_at_call 43; exact quietL (l1In_any _ _ _ _)))
          go_wp2_with fail
          go_loopw [4] (fun i wr => ∃ m : Nat, m ≤ k ∧ i = .int .i64 m ∧ Before xs x m ∧ Kp No w wr ∧ BoxS wr w.heap.size B X (some ⟨b, off, none⟩) xs.length c) (fun i _ => k - (intOf i).toNat)
          case atStart => exact ⟨0, Nat.zero_le _, rfl, fun j x hj => absurd hj (by omega), hkp.drewN _, Hbox.out.keepNo ((Kp.refl _ _).drewN _)⟩
          case round =>
            clear hc0 hc1 hc2 hf0 hf1 hf2 hbl hc Hbox hkp
            obtain ⟨m, hm, rfl, hbe, hkp, hbox⟩ := hrel
            have Hbox := Lib.hid hbox
            obtain ⟨hc0, hc1, hc2, hf0, hf1, hf2, hbl⟩ := hbox
            obtain ⟨bb, oo, xx, hA, _, _, hx, hc⟩ := (h.keepNo hkp).at_ hlt
            obtain ⟨rfl, rfl⟩ : b = bb ∧ off = oo := by injection hA with hA; injection hA with h1 h2; exact ⟨h1, h2⟩
            obtain rfl : x = xx := by rw [Hx.out] at hx; injection hx
            clear hA hx
            by_cases hmk : m < k
            · obtain ⟨b', off', y, hA, _, _, hy, hc'⟩ := (h.keepNo hkp).at_ (k := m) (by omega)
              obtain ⟨rfl, rfl⟩ : b = b' ∧ off = off' := by injection hA with hA; injection hA with h1 h2; exact ⟨h1, h2⟩
              clear hA
              have Hy := Lib.hid hy; clear hy
              have hml : m < xs.length := by omega
              by_cases he : y = x
              · subst he
                have Hbad := Lib.hid (sparesB_not (X := X) (B := B) hlt (by rw [badAt_of Hx.out, in_take hmk Hy.out]; simp))
                have hbe : (y == y) = true := by simp
                go_wp2_with fail
                go_quiet (fail)
                go_wp2_with fail
                go_ret
                exact ⟨ret_bool Hbad.out.symm, hkp.drewN _⟩
              · have hbf : (y == x) = false := by simpa using he
                go_wp2_with fail
                go_quiet (fail)
                go_wp2_with fail
                go_roundw
                case rel => exact ⟨m + 1, by omega, by go_num, hbe.succ Hy.out he, hkp.drewN _, Hbox.out.keepNo ((Kp.refl _ _).drewN _)⟩
                case measure => simp [intOf]; omega
            · obtain rfl : m = k := by omega
              have Hok := Lib.hid (show badAt B xs m = true by rw [badAt_of Hx.out, hin, not_in_take hbe]; rfl)
              go_wp2_with fail
              go_roundw
              case rel => exact ⟨m + 1, by omega, by go_num, hall.succ Hok.out, hkp, Hbox.out⟩
              case measure => simp [intOf]; omega
      · go_wp2_with fail
        go_ret
        obtain rfl : k = xs.length := by omega
        exact ⟨ret_bool (sparesB_in Hl.out hall).symm, hkp⟩
  · have Hbad := Lib.hid (sparesB_out hl)
    go_wp2_with fail
    refine (l1In_any _ _ _ _).mono ?_
    rintro e w' ⟨rfl, rfl⟩
    cases hb : inB B 1 12
    · go_wp2_with fail
      go_ret
      exact ⟨ret_bool Hbad.out.symm, (Kp.refl _ _).alloc _⟩
    · go_wp2_with fail
      refine (l1In_any _ _ _ _).mono ?_
      rintro e w' ⟨rfl, rfl⟩
      cases hb2 : inB X 0 12
      · go_wp2_with fail
        go_ret
        exact ⟨ret_bool Hbad.out.symm, (Kp.refl _ _).alloc _⟩
      · have hl' : X < (xs.length : Int) := by
          simp only [inB, Bool.and_eq_true, decide_eq_true_eq] at hb hb2
          omega
        go_wp2_with fail
        go_ret
        exact ⟨ret_bool Hbad.out.symm, (Kp.refl _ _).alloc _⟩
end Go.Proofs.Ytcnaehllegoefaa
