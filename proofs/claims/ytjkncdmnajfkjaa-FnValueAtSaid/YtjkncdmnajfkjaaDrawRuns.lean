/- l20Values, l20Runs and the draws: some values, some runs come out. -/
import Derived.Test.YtjkncdmnajfkjaaDraw
import Derived.Test.YtjkncdmnajfkjaaTab
import Derived.Test.YtjkncdmnajfkjaaGain
import Derived.WalkKit
import Derived.WalkSpells
import Derived.WalkLawsBesides
import Derived.Outline
namespace Go.Proofs.Ytjkncdmnajfkjaa
open Go.RowKit
set_option linter.unusedVariables false

/-- What a draw leaves: some own slice of ints, of at most L numbers. -/
def DrawI (L : Nat) (w : World) (a B : Nat) (e : Ending) (w' : World) : Prop :=
  ∃ A c xs, e = .returned (.slice A (xs : List Int).length c) ∧ OwnI w' w.heap.size w'.heap.size A c xs ∧ xs.length ≤ L ∧ Rdr w' a B ∧ Kp (At a) w w'
def DrawP (L : Nat) (w : World) (a B : Nat) (e : Ending) (w' : World) : Prop :=
  ∃ A c ps, e = .returned (.slice A (ps : List (Int × Int)).length c) ∧ OwnP w' w.heap.size w'.heap.size A c ps ∧ ps.length ≤ L ∧ Rdr w' a B ∧ Kp (At a) w w'
def SomeP (L : Nat) (w : World) (e : Ending) (w' : World) : Prop := ∃ A c ps, e = .returned (.slice A (ps : List (Int × Int)).length c) ∧ OwnP w' w.heap.size w'.heap.size A c ps ∧ ps.length ≤ L ∧ Kp No w w'
def SomePN (L : Nat) (w : World) (e : Ending) (w' : World) : Prop := ∃ A c ps n, e = .returned (.tuple #[.slice A (ps : List (Int × Int)).length c, .int .i64 n]) ∧ OwnP w' w.heap.size w'.heap.size A c ps ∧ ps.length ≤ L ∧ -1 ≤ n ∧ n ≤ 100 ∧ Kp No w w'

set_option maxHeartbeats 4000000 in
theorem l20Values_ (a B : Nat) (n : Int) (w : World) (h : Rdr w a B) (hB : B ≤ 10000) (h1 : 0 ≤ n) (hn : n ≤ 1000) :
    Calls Try.prog 46 #[.pointer (some ⟨a, 0, none⟩), .int .i64 n] w (DrawI 31 w a (B + 50)) := by
  have hal := h.lt
  have hmk : ∀ w, (Instr.makeSlice 35 (.int .i64 31) (.int .i64 31)).run Try.prog w = .ok (.slice (some ⟨w.heap.size, 0, none⟩) 31 31) (w.alloc (.cells #[.int .i64 0, .int .i64 0, .int .i64 0, .int .i64 0, .int .i64 0, .int .i64 0, .int .i64 0, .int .i64 0, .int .i64 0, .int .i64 0, .int .i64 0, .int .i64 0, .int .i64 0, .int .i64 0, .int .i64 0, .int .i64 0, .int .i64 0, .int .i64 0, .int .i64 0, .int .i64 0, .int .i64 0, .int .i64 0, .int .i64 0, .int .i64 0, .int .i64 0, .int .i64 0, .int .i64 0, .int .i64 0, .int .i64 0, .int .i64 0, .int .i64 0] 3)) := fun _ => by kernel_rfl
  have HMK := Lib.hid hmk
  clear hmk
  have r0 := h.keepNo ((Kp.refl No w).alloc (.cells #[] 3))
  have k0 : Kp (At a) w (w.alloc (.cells #[] 3)) := (Kp.refl _ _).alloc _
  have o0 := ownI_lit w w.heap.size #[] [] rfl (Nat.le_refl _) (by simp)
  go_enter Try.func46, Try.ntmps46
  go_wp2_with fail
  refine (pick_ _ _ _ _ r0 (by omega) (by omega) (by omega)).mono ?_
  rintro e w1 ⟨v1, rfl, v1a, v1b, r1, k1, z1⟩
  go_wp2_with fail
  refine (pick_ _ _ _ _ r1 (by omega) (by omega) (by omega)).mono ?_
  rintro e w2 ⟨v2, rfl, v2a, v2b, r2, k2, z2⟩
  have o2 := (o0.keep k1 (fun i hi _ e => by simp only [At] at e; omega)).keep k2 (fun i hi _ e => by simp only [At] at e; omega)
  have k02 := (k0.trans k1).trans k2
  obtain ⟨m2, rfl⟩ := Int.eq_ofNat_of_zero_le v2a
  clear r0 r1 k0 k1 k2 o0
  go_wp2_with fail
  go_loopw [5, 6, 7] (fun v u i wr => ∃ (m : Nat) (q : Int) (A : Option Addr) (c : Nat) (xs : List Int), i = .int .i64 m ∧ m ≤ 19 ∧ u = .int .i64 q ∧ 0 ≤ q ∧ q < 5 ∧ v = .slice A xs.length c ∧ OwnI wr w.heap.size wr.heap.size A c xs ∧ xs.length + m ≤ 19 ∧ Rdr wr a (B + 2 + 2 * (19 - m)) ∧ Kp (At a) w wr) (fun _ _ i _ => (intOf i).toNat)
  case atStart => exact ⟨m2, v1, _, _, [], rfl, by omega, rfl, by omega, by omega, rfl, o2.wide (Nat.le_refl _) o2.2.2 (Nat.le_refl _), by simp; omega, r2.le (by omega), k02⟩
  case round =>
    clear r2 k02 o2
    obtain ⟨m, q, A, c, xs, rfl, hm9, rfl, q0, q1, rfl, ho, hl, hr, hk⟩ := hrel
    have hs1 := hk.size
    by_cases hm : 0 < m
    · go_wp2_with (at_builtin; refine wpList_appI _ rfl _ _ rfl w.heap.size wr.heap.size A c xs rfl (ho.keepNo ((Kp.refl _ _).alloc _)) _ _ _ _ [q] rfl (ints_lit _ _ _) (by simp; omega) (by simp; omega) ?_; intro A4 c4 w4 ho4 hk4)
      have hr4 := (hr.keepNo ((Kp.refl _ _).alloc _)).keep hk4 (fun i hi e => by have := e.1; omega)
      have k4 := (hk.alloc _).also hk4 (fun i hi e => by have := e.1; omega)
      have ho4 : OwnI w4 w.heap.size w4.heap.size A4 c4 (xs ++ [q]) := ho4
      have hl4 : (xs ++ [q]).length = xs.length + 1 := by simp
      generalize xs ++ [q] = ys at ho4 hl4
      rw [← hl4]
      clear hk4 hr
      refine (pick_ _ _ _ _ hr4 (by omega) (by omega) (by omega)).mono ?_
      rintro e w5 ⟨v5, rfl, v5a, v5b, r5, k5, z5⟩
      have ho5 := ho4.keep k5 (fun i hi _ e => by simp only [At] at e; omega)
      have k45 := k4.trans k5
      clear ho4 hr4 k4
      by_cases hz : v5 = 0
      · have he : (v5 == 0) = true := by simpa using hz
        clear hz
        go_wp2_with fail
        refine (pick_ _ _ _ _ r5 (by omega) (by omega) (by omega)).mono ?_
        rintro e w6 ⟨v6, rfl, v6a, v6b, r6, k6, z6⟩
        have ho6 := ho5.keep k6 (fun i hi _ e => by simp only [At] at e; omega)
        go_wp2_with fail
        go_roundw
        case rel => exact ⟨m - 1, v6, A4, c4, ys, by go_num, by omega, rfl, v6a, v6b, by rw [hl4], ho6.wide (Nat.le_refl _) (by omega) (Nat.le_refl _), by omega, r6.le (by omega), k45.trans k6⟩
        case measure => simp [intOf]; omega
      · have he : (v5 == 0) = false := by simpa using hz
        clear hz
        go_wp2_with fail
        go_roundw
        case rel => exact ⟨m - 1, q, A4, c4, ys, by go_num, by omega, rfl, q0, q1, by rw [hl4], ho5.wide (Nat.le_refl _) (by omega) (Nat.le_refl _), by omega, r5.le (by omega), k45⟩
        case measure => simp [intOf]; omega
    · obtain rfl : m = 0 := by omega
      go_wp2_with fail
      refine (odd_ _ _ _ _ hr (by omega) (by omega) (by omega)).mono ?_
      rintro e w2 ⟨b, rfl, r2, k2, z2⟩
      have hk2 := hk.trans k2
      have ho2 := ho.keep k2 (fun i hi _ e => by simp only [At] at e; omega)
      clear ho hr hk k2
      cases b
      · go_wp2_with fail
        go_ret
        exact ⟨_, _, xs, rfl, ho2.wide (Nat.le_refl _) (by omega) (Nat.le_refl _), by omega, r2.le (by omega), hk2⟩
      · go_wp2_with fail
        refine (pick_ _ _ _ _ r2 (by omega) (by omega) (by omega)).mono ?_
        rintro e w3 ⟨v3, rfl, v3a, v3b, r3, k3, z3⟩
        have ho3 := ho2.keep k3 (fun i hi _ e => by simp only [At] at e; omega)
        have hk3 := hk2.trans k3
        clear ho2 r2 hk2
        by_cases hz : v3 = 0
        · have he : (v3 == 0) = true := by simpa using hz
          have hmk := HMK.out w3
          clear hz
          have om := ownI_lit w3 w.heap.size #[.int .i64 0, .int .i64 0, .int .i64 0, .int .i64 0, .int .i64 0, .int .i64 0, .int .i64 0, .int .i64 0, .int .i64 0, .int .i64 0, .int .i64 0, .int .i64 0, .int .i64 0, .int .i64 0, .int .i64 0, .int .i64 0, .int .i64 0, .int .i64 0, .int .i64 0, .int .i64 0, .int .i64 0, .int .i64 0, .int .i64 0, .int .i64 0, .int .i64 0, .int .i64 0, .int .i64 0, .int .i64 0, .int .i64 0, .int .i64 0, .int .i64 0] (List.replicate 31 0) rfl (by omega) (by simp)
          go_wp2_with fail
          go_ret
          exact ⟨_, 31, List.replicate 31 0, by simp, om.wide (Nat.le_refl _) (by simp) (Nat.le_refl _), by simp, (r3.keepNo ((Kp.refl _ _).alloc _)).le (by omega), hk3.alloc _⟩
        · have he : (v3 == 0) = false := by simpa using hz
          clear hz
          have t3 := TabI.lit w3 w3.heap.size 3 [-1, 10000] #[.int .i64 (-1), .int .i64 10000] rfl (fun _ => True) (by simp) (Nat.le_refl _)
          have r3' := r3.keepNo ((Kp.refl No w3).alloc (.cells #[.int .i64 (-1), .int .i64 10000] 3))
          have ho3' := ho3.keepNo ((Kp.refl No w3).alloc (.cells #[.int .i64 (-1), .int .i64 10000] 3))
          have k33 : Kp (At a) w (w3.alloc (.cells #[.int .i64 (-1), .int .i64 10000] 3)) := hk3.alloc _
          clear ho3 r3
          go_wp2_with fail
          refine (pick_ _ _ _ _ r3' (by omega) (by omega) (by omega)).mono ?_
          rintro e w5 ⟨v5, rfl, v5a, v5b, r5, k5, z5⟩
          obtain ⟨g, hg, hg1, hg2, hc5⟩ := t3.keep (show a < w3.heap.size by omega) k5
          obtain rfl : w3.heap.size = g := by injection hg with hg; injection hg with hg; injection hg
          obtain ⟨j, rfl⟩ := Int.eq_ofNat_of_zero_le v5a
          have hj2 : j < 2 := by omega
          obtain ⟨x, hx, _⟩ := hc5 j (by simpa using hj2)
          have ho5 := ho3'.keep k5 (fun i hi _ e => by simp only [At] at e; omega)
          have k35 := k33.trans k5
          have z5' : w3.heap.size + 1 = w5.heap.size := by rw [← z5]; simp
          clear hc5 hg t3 ho3' r3' k33 k5 z5
          go_wp2_with (at_builtin; refine wpList_appI _ rfl _ _ rfl w.heap.size wr.heap.size A c xs rfl (ho5.keepNo ((Kp.refl _ _).alloc _)) _ _ _ _ [x] rfl (ints_lit _ _ _) (by simp; omega) (by simp; omega) ?_; intro A4 c4 w4 ho4 hk4)
          go_ret
          exact ⟨A4, c4, xs ++ [x], by simp, ho4, by simp; omega, ((r5.keepNo ((Kp.refl _ _).alloc _)).keep hk4 (fun i hi e => by have := e.1; omega)).le (by omega), (k35.alloc _).also hk4 (fun i hi e => by have := e.1; omega)⟩

theorem prs_lit2 (w : World) (a b c d : Int) (t : TypeId) : Prs (w.alloc (.cells #[.int .i64 a, .int .i64 b, .int .i64 c, .int .i64 d] t)) w.heap.size (w.heap.size + 1) (some ⟨w.heap.size, 0, none⟩) [(a, b), (c, d)] := by
  refine ⟨rfl, by simp, fun _ => ⟨_, 0, rfl, Nat.le_refl _, by omega, fun j u hj => ?_⟩⟩
  match j, hj with
  | 0, hj => simp [flatP] at hj; subst hj; simp
  | 1, hj => simp [flatP] at hj; subst hj; simp
  | 2, hj => simp [flatP] at hj; subst hj; simp
  | 3, hj => simp [flatP] at hj; subst hj; simp

set_option maxHeartbeats 4000000 in
theorem l20Runs_ (a B : Nat) (n : Int) (w : World) (h : Rdr w a B) (hB : B ≤ 5000) (h1 : 0 ≤ n) (hn : n ≤ 1000) :
    Calls Try.prog 43 #[.pointer (some ⟨a, 0, none⟩), .int .i64 n] w (DrawP 32 w a (B + 60)) := by
  have hal := h.lt
  go_enter Try.func43, Try.ntmps43
  go_wp2_with fail
  refine (l20Values_ _ _ _ _ h (by omega) (by omega) (by omega)).mono ?_
  rintro e w1 ⟨A1, c1, xs, rfl, o1, l1, r1, k1⟩
  go_wp2_with fail
  refine (packRuns_spec _ _ _ _ _ _ o1.ints (by omega)).mono ?_
  rintro e w2 ⟨A2, c2, rfl, o2, k2⟩
  have hpl := packRuns_len xs
  have r2 := r1.keepNo k2
  have k12 := k1.alsoNo k2
  have hs1 := k1.size
  have o2' := o2.wide (lo' := w.heap.size) (by omega) (Nat.le_refl _) (Nat.le_refl _)
  clear o1 o2 k1 k2 r1
  go_wp2_with fail
  refine (odd_ _ _ _ _ r2 (by omega) (by omega) (by omega)).mono ?_
  rintro e w3 ⟨b, rfl, r3, k3, z3⟩
  have o3 := o2'.keep k3 (fun i hi _ e => by simp only [At] at e; omega)
  have k13 := k12.trans k3
  have hs3 := k13.size
  clear o2' k12 k3 r2
  cases b
  · go_wp2_with fail
    go_ret
    exact ⟨A2, c2, _, rfl, o3.wide (Nat.le_refl _) (by omega) (Nat.le_refl _), by omega, r3.le (by omega), k13⟩
  · have r3' := r3.keepNo ((Kp.refl No w3).alloc (.cells #[.int .i64 0, .int .i64 0, .int .i64 (-1), .int .i64 1, .int .i64 77, .int .i64 30, .int .i64 77, .int .i64 31] 33))
    have o3' := o3.keepNo ((Kp.refl No w3).alloc (.cells #[.int .i64 0, .int .i64 0, .int .i64 (-1), .int .i64 1, .int .i64 77, .int .i64 30, .int .i64 77, .int .i64 31] 33))
    have k13' : Kp (At a) w (w3.alloc (.cells #[.int .i64 0, .int .i64 0, .int .i64 (-1), .int .i64 1, .int .i64 77, .int .i64 30, .int .i64 77, .int .i64 31] 33)) := k13.alloc _
    have hna2 : ¬ At a w3.heap.size := by simp only [At]; omega
    clear r3 o3 k13
    go_wp2_with fail
    refine (pick_ _ _ _ _ r3' (by omega) (by omega) (by omega)).mono ?_
    rintro e w4 ⟨v4, rfl, v4a, v4b, r4, k4, z4⟩
    have o4 := o3'.keep k4 (fun i hi _ e => by simp only [At] at e; omega)
    have k14 := k13'.trans k4
    have hs4 := k14.size
    have z4' : w3.heap.size + 1 = w4.heap.size := by rw [← z4]; simp
    have tc : ∀ j, w4.cell? ⟨w3.heap.size, j, none⟩ = (w3.alloc (.cells #[.int .i64 0, .int .i64 0, .int .i64 (-1), .int .i64 1, .int .i64 77, .int .i64 30, .int .i64 77, .int .i64 31] 33)).cell? ⟨w3.heap.size, j, none⟩ := fun j => k4.cell (p := ⟨w3.heap.size, j, none⟩) (by simp) hna2
    clear r3' o3' k13' k4 z4
    have hv : v4 = 0 ∨ v4 = 1 ∨ v4 = 2 ∨ v4 = 3 := by omega
    rcases hv with rfl | rfl | rfl | rfl
    · have t0 : w4.cell? ⟨w3.heap.size, 0, none⟩ = some (.int .i64 0) := (tc 0).trans (by simp)
      have t1 : w4.cell? ⟨w3.heap.size, 1, none⟩ = some (.int .i64 0) := (tc 1).trans (by simp)
      clear tc
      go_wp2_with (at_builtin; refine wpList_appP _ rfl _ _ rfl w.heap.size _ A2 c2 (packRuns xs).1 rfl (o4.keepNo ((Kp.refl _ _).alloc _)) _ _ _ _ [(0, 0), (78, 1)] rfl (prs_lit2 _ _ _ _ _ _) (by simp; omega) (by simp; omega) ?_; intro A5 c5 w5 o5 k5)
      go_ret
      exact ⟨A5, c5, (packRuns xs).1 ++ [(0, 0), (78, 1)], by simp, o5, by simp; omega, ((r4.keepNo ((Kp.refl _ _).alloc _)).keep k5 (fun i hi e => by have := e.1; omega)).le (by omega), (k14.alloc _).also k5 (fun i hi e => by have := e.1; omega)⟩
    · have t0 : w4.cell? ⟨w3.heap.size, 2, none⟩ = some (.int .i64 (-1)) := (tc 2).trans (by simp)
      have t1 : w4.cell? ⟨w3.heap.size, 3, none⟩ = some (.int .i64 1) := (tc 3).trans (by simp)
      clear tc
      go_wp2_with (at_builtin; refine wpList_appP _ rfl _ _ rfl w.heap.size _ A2 c2 (packRuns xs).1 rfl (o4.keepNo ((Kp.refl _ _).alloc _)) _ _ _ _ [(-1, 1), (78, 1)] rfl (prs_lit2 _ _ _ _ _ _) (by simp; omega) (by simp; omega) ?_; intro A5 c5 w5 o5 k5)
      go_ret
      exact ⟨A5, c5, (packRuns xs).1 ++ [(-1, 1), (78, 1)], by simp, o5, by simp; omega, ((r4.keepNo ((Kp.refl _ _).alloc _)).keep k5 (fun i hi e => by have := e.1; omega)).le (by omega), (k14.alloc _).also k5 (fun i hi e => by have := e.1; omega)⟩
    · have t0 : w4.cell? ⟨w3.heap.size, 4, none⟩ = some (.int .i64 77) := (tc 4).trans (by simp)
      have t1 : w4.cell? ⟨w3.heap.size, 5, none⟩ = some (.int .i64 30) := (tc 5).trans (by simp)
      clear tc
      go_wp2_with (at_builtin; refine wpList_appP _ rfl _ _ rfl w.heap.size _ A2 c2 (packRuns xs).1 rfl (o4.keepNo ((Kp.refl _ _).alloc _)) _ _ _ _ [(77, 30), (78, 1)] rfl (prs_lit2 _ _ _ _ _ _) (by simp; omega) (by simp; omega) ?_; intro A5 c5 w5 o5 k5)
      go_ret
      exact ⟨A5, c5, (packRuns xs).1 ++ [(77, 30), (78, 1)], by simp, o5, by simp; omega, ((r4.keepNo ((Kp.refl _ _).alloc _)).keep k5 (fun i hi e => by have := e.1; omega)).le (by omega), (k14.alloc _).also k5 (fun i hi e => by have := e.1; omega)⟩
    · have t0 : w4.cell? ⟨w3.heap.size, 6, none⟩ = some (.int .i64 77) := (tc 6).trans (by simp)
      have t1 : w4.cell? ⟨w3.heap.size, 7, none⟩ = some (.int .i64 31) := (tc 7).trans (by simp)
      clear tc
      go_wp2_with (at_builtin; refine wpList_appP _ rfl _ _ rfl w.heap.size _ A2 c2 (packRuns xs).1 rfl (o4.keepNo ((Kp.refl _ _).alloc _)) _ _ _ _ [(77, 31), (78, 1)] rfl (prs_lit2 _ _ _ _ _ _) (by simp; omega) (by simp; omega) ?_; intro A5 c5 w5 o5 k5)
      go_ret
      exact ⟨A5, c5, (packRuns xs).1 ++ [(77, 31), (78, 1)], by simp, o5, by simp; omega, ((r4.keepNo ((Kp.refl _ _).alloc _)).keep k5 (fun i hi e => by have := e.1; omega)).le (by omega), (k14.alloc _).also k5 (fun i hi e => by have := e.1; omega)⟩

set_option maxHeartbeats 1000000 in
theorem drawRunsValid (A : Option Addr) (zs : List Int) (c : Nat) (w : World) (h : Byts w A zs) (hcap : zs.length ≤ c) (hl : zs.length ≤ 4000000) :
    Calls Try.prog 18 #[.slice A zs.length c] w (SomeP 32 w) := by
  go_enter Try.func18, Try.ntmps18
  go_wp2_with fail
  refine (open_ _ _ _ _ h hcap hl).mono ?_
  rintro e w1 ⟨rfl, r1, k1, z1⟩
  go_wp2_with fail
  refine (l20Runs_ _ _ _ _ r1 (by omega) (by omega) (by omega)).mono ?_
  rintro e w2 ⟨A2, c2, ps, rfl, o2, l2, r2, k2⟩
  go_wp2_with fail
  go_ret
  exact ⟨A2, c2, ps, rfl, o2.wide (by omega) (Nat.le_refl _) (Nat.le_refl _), l2, k1.also k2 (fun i hi e => by simp only [At] at e; omega)⟩

set_option maxHeartbeats 1000000 in
theorem drawUnpackRuns (A : Option Addr) (zs : List Int) (c : Nat) (w : World) (h : Byts w A zs) (hcap : zs.length ≤ c) (hl : zs.length ≤ 4000000) :
    Calls Try.prog 33 #[.slice A zs.length c] w (SomeP 32 w) := by
  go_enter Try.func33, Try.ntmps33
  go_wp2_with fail
  refine (open_ _ _ _ _ h hcap hl).mono ?_
  rintro e w1 ⟨rfl, r1, k1, z1⟩
  go_wp2_with fail
  refine (l20Runs_ _ _ _ _ r1 (by omega) (by omega) (by omega)).mono ?_
  rintro e w2 ⟨A2, c2, ps, rfl, o2, l2, r2, k2⟩
  go_wp2_with fail
  go_ret
  exact ⟨A2, c2, ps, rfl, o2.wide (by omega) (Nat.le_refl _) (Nat.le_refl _), l2, k1.also k2 (fun i hi e => by simp only [At] at e; omega)⟩

set_option maxHeartbeats 1000000 in
theorem drawPackRuns (A : Option Addr) (zs : List Int) (c : Nat) (w : World) (h : Byts w A zs) (hcap : zs.length ≤ c) (hl : zs.length ≤ 4000000) :
    Calls Try.prog 39 #[.slice A zs.length c] w (SomeI 31 w) := by
  go_enter Try.func39, Try.ntmps39
  go_wp2_with fail
  refine (open_ _ _ _ _ h hcap hl).mono ?_
  rintro e w1 ⟨rfl, r1, k1, z1⟩
  go_wp2_with fail
  refine (l20Values_ _ _ _ _ r1 (by omega) (by omega) (by omega)).mono ?_
  rintro e w2 ⟨A2, c2, ps, rfl, o2, l2, r2, k2⟩
  go_wp2_with fail
  go_ret
  exact ⟨A2, c2, ps, rfl, o2.wide (by omega) (Nat.le_refl _) (Nat.le_refl _), l2, k1.also k2 (fun i hi e => by simp only [At] at e; omega)⟩

set_option maxHeartbeats 1000000 in
theorem drawRunGain (A : Option Addr) (zs : List Int) (c : Nat) (w : World) (h : Byts w A zs) (hcap : zs.length ≤ c) (hl : zs.length ≤ 4000000) :
    Calls Try.prog 24 #[.slice A zs.length c] w (SomeI 31 w) := by
  go_enter Try.func24, Try.ntmps24
  go_wp2_with fail
  refine (open_ _ _ _ _ h hcap hl).mono ?_
  rintro e w1 ⟨rfl, r1, k1, z1⟩
  go_wp2_with fail
  refine (l20Values_ _ _ _ _ r1 (by omega) (by omega) (by omega)).mono ?_
  rintro e w2 ⟨A2, c2, ps, rfl, o2, l2, r2, k2⟩
  go_wp2_with fail
  go_ret
  exact ⟨A2, c2, ps, rfl, o2.wide (by omega) (Nat.le_refl _) (Nat.le_refl _), l2, k1.also k2 (fun i hi e => by simp only [At] at e; omega)⟩

set_option maxHeartbeats 1000000 in
theorem drawValueAt (A : Option Addr) (zs : List Int) (c : Nat) (w : World) (h : Byts w A zs) (hcap : zs.length ≤ c) (hl : zs.length ≤ 4000000) :
    Calls Try.prog 27 #[.slice A zs.length c] w (SomePN 32 w) := by
  go_enter Try.func27, Try.ntmps27
  go_wp2_with fail
  refine (open_ _ _ _ _ h hcap hl).mono ?_
  rintro e w1 ⟨rfl, r1, k1, z1⟩
  go_wp2_with fail
  refine (l20Runs_ _ _ _ _ r1 (by omega) (by omega) (by omega)).mono ?_
  rintro e w2 ⟨A2, c2, ps, rfl, o2, l2, r2, k2⟩
  go_wp2_with fail
  refine (pick_ _ _ _ _ r2 (by omega) (by omega) (by omega)).mono ?_
  rintro e w3 ⟨v3, rfl, v3a, v3b, r3, k3, z3⟩
  have o3 := o2.keep k3 (fun i hi _ e => by simp only [At] at e; omega)
  go_wp2_with fail
  refine (pick_ _ _ _ _ r3 (by omega) (by omega) (by omega)).mono ?_
  rintro e w4 ⟨v4, rfl, v4a, v4b, r4, k4, z4⟩
  have o4 := o3.keep k4 (fun i hi _ e => by simp only [At] at e; omega)
  go_wp2_with fail
  go_ret2
  exact ⟨A2, c2, ps, _, rfl, o4.wide (by omega) (by omega) (Nat.le_refl _), l2, by omega, by omega, ((k1.also k2 (fun i hi e => by simp only [At] at e; omega)).also k3 (fun i hi e => by simp only [At] at e; omega)).also k4 (fun i hi e => by simp only [At] at e; omega)⟩
end Go.Proofs.Ytjkncdmnajfkjaa
