/- l20Kept and the draws: some kept values come out. -/
import Derived.Test.YteabpdnlkncbpaaTab
import Derived.Test.YteabpdnlkncbpaaKeepS
import Derived.WalkKit
import Derived.WalkSpells
import Derived.WalkLawsBesides
import Derived.Outline
namespace Go.Proofs.Yteabpdnlkncbpaa
open Go.RowKit
set_option linter.unusedVariables false

def DrawP (L : Nat) (w : World) (a B : Nat) (e : Ending) (w' : World) : Prop :=
  ∃ A c ps, e = .returned (.slice A (ps : List (Int × Int)).length c) ∧ OwnP w' w.heap.size w'.heap.size A c ps ∧ ps.length ≤ L ∧ Rdr w' a B ∧ Kp (At a) w w'
def SomeP (L : Nat) (w : World) (e : Ending) (w' : World) : Prop := ∃ A c ps, e = .returned (.slice A (ps : List (Int × Int)).length c) ∧ OwnP w' w.heap.size w'.heap.size A c ps ∧ ps.length ≤ L ∧ Kp No w w'
def SomePN (L : Nat) (w : World) (e : Ending) (w' : World) : Prop := ∃ A c ps n, e = .returned (.tuple #[.slice A (ps : List (Int × Int)).length c, .int .i64 n]) ∧ OwnP w' w.heap.size w'.heap.size A c ps ∧ ps.length ≤ L ∧ Kp No w w'

set_option maxHeartbeats 4000000 in
theorem l20Kept_ (a B : Nat) (n : Int) (w : World) (h : Rdr w a B) (hB : B ≤ 10000) (h1 : 0 ≤ n) (hn : n ≤ 1000) :
    Calls Try.prog 33 #[.pointer (some ⟨a, 0, none⟩), .int .i64 n] w (DrawP 11 w a (B + 40)) := by
  have hal := h.lt
  have r0 := h.keepNo ((Kp.refl No w).alloc (.cells #[] 33))
  have k0 : Kp (At a) w (w.alloc (.cells #[] 33)) := (Kp.refl _ _).alloc _
  have o0 := ownP_lit w w.heap.size #[] [] rfl (Nat.le_refl _) (by simp)
  go_enter Try.func33, Try.ntmps33
  go_wp2_with fail
  refine (pick_ _ _ _ _ r0 (by omega) (by omega) (by omega)).mono ?_
  rintro e w1 ⟨v1, rfl, v1a, v1b, r1, k1, z1⟩
  have o1 := o0.keep k1 (fun i hi _ e => by simp only [At] at e; omega)
  have k01 := k0.trans k1
  obtain ⟨m1, rfl⟩ := Int.eq_ofNat_of_zero_le v1a
  clear r0 k0 o0 k1
  go_wp2_with fail
  go_loopw [5, 6] (fun v i wr => ∃ (m : Nat) (A : Option Addr) (c : Nat) (ps : List (Int × Int)), i = .int .i64 m ∧ m ≤ 11 ∧ v = .slice A ps.length c ∧ OwnP wr w.heap.size wr.heap.size A c ps ∧ ps.length ≤ 10 ∧ Rdr wr a (B + 1 + 2 * (11 - m)) ∧ Kp (At a) w wr) (fun _ i _ => (intOf i).toNat)
  case atStart => exact ⟨m1, _, _, [], rfl, by omega, rfl, o1.wide (Nat.le_refl _) o1.2.2 (Nat.le_refl _), by simp, r1.le (by omega), k01⟩
  case round =>
    clear r1 k01 o1
    obtain ⟨m, A, c, ps, rfl, hm8, rfl, ho, hl, hr, hk⟩ := hrel
    have hs1 := hk.size
    by_cases hm : 0 < m
    · go_wp2_with fail
      refine (pick_ _ _ _ _ hr (by omega) (by omega) (by omega)).mono ?_
      rintro e w2 ⟨v2, rfl, v2a, v2b, r2, k2, z2⟩
      have ho2 := ho.keep k2 (fun i hi _ e => by simp only [At] at e; omega)
      by_cases hz : v2 = 0
      · have he : (v2 == 0) = true := by simpa using hz
        clear hz
        go_wp2_with fail
        refine (pick_ _ _ _ _ r2 (by omega) (by omega) (by omega)).mono ?_
        rintro e w3 ⟨v3, rfl, v3a, v3b, r3, k3, z3⟩
        have ho3 := ho2.keep k3 (fun i hi _ e => by simp only [At] at e; omega)
        go_wp2_with fail
        refine (freeValue_spec _ _ _ _ _ _ _ ho3.prs (by omega)).mono ?_
        rintro e w4 ⟨A4, c4, rfl, o4, k4⟩
        go_wp2_with fail
        go_roundw
        case rel => exact ⟨m - 1, A4, c4, _, by go_num, by omega, rfl, o4.wide (by omega) (Nat.le_refl _) (Nat.le_refl _), freeValue_len _ _, (r3.keepNo k4).le (by omega), ((hk.trans k2).trans k3).alsoNo k4⟩
        case measure => simp [intOf]; omega
      · have he : (v2 == 0) = false := by simpa using hz
        clear hz
        go_wp2_with fail
        refine (pick_ _ _ _ _ r2 (by omega) (by omega) (by omega)).mono ?_
        rintro e w3 ⟨v3, rfl, v3a, v3b, r3, k3, z3⟩
        have ho3 := ho2.keep k3 (fun i hi _ e => by simp only [At] at e; omega)
        go_wp2_with fail
        refine (keepValue_spec _ _ _ _ _ _ _ ho3 (by omega)).mono ?_
        rintro e w4 ⟨A4, c4, rfl, o4, k4⟩
        go_wp2_with fail
        go_roundw
        case rel => exact ⟨m - 1, A4, c4, _, by go_num, by omega, rfl, o4.wide (by omega) (Nat.le_refl _) (Nat.le_refl _), keepValue_len _ _, (r3.keepNo k4).le (by omega), ((hk.trans k2).trans k3).alsoNo k4⟩
        case measure => simp [intOf]; omega
    · obtain rfl : m = 0 := by omega
      go_wp2_with fail
      refine (odd_ _ _ _ _ hr (by omega) (by omega) (by omega)).mono ?_
      rintro e w2 ⟨b, rfl, r2, k2, z2⟩
      have hk2 := hk.trans k2
      have ho2 := ho.keep k2 (fun i hi _ e => by simp only [At] at e; omega)
      clear ho hr hk k2
      cases b
      · go_wp2_with fail
        refine (odd_ _ _ _ _ r2 (by omega) (by omega) (by omega)).mono ?_
        rintro e w5 ⟨b5, rfl, r5, k5, z5⟩
        have ho5 := ho2.keep k5 (fun i hi _ e => by simp only [At] at e; omega)
        have hk5 := hk2.trans k5
        have hs5 := hk5.size
        clear ho2 r2 hk2 k5
        cases b5
        · go_wp2_with fail
          go_ret
          exact ⟨_, _, ps, rfl, ho5.wide (Nat.le_refl _) (by omega) (Nat.le_refl _), by omega, r5.le (by omega), hk5⟩
        · have r5' := r5.keepNo ((Kp.refl No w5).alloc (.cells #[.int .i64 0, .int .i64 0, .int .i64 99, .int .i64 0, .int .i64 10000, .int .i64 1, .int .i64 99, .int .i64 1001] 33))
          have o5' := ho5.keepNo ((Kp.refl No w5).alloc (.cells #[.int .i64 0, .int .i64 0, .int .i64 99, .int .i64 0, .int .i64 10000, .int .i64 1, .int .i64 99, .int .i64 1001] 33))
          have k5' : Kp (At a) w (w5.alloc (.cells #[.int .i64 0, .int .i64 0, .int .i64 99, .int .i64 0, .int .i64 10000, .int .i64 1, .int .i64 99, .int .i64 1001] 33)) := hk5.alloc _
          have hna2 : ¬ At a w5.heap.size := by simp only [At]; omega
          clear r5 ho5 hk5
          go_wp2_with fail
          refine (pick_ _ _ _ _ r5' (by omega) (by omega) (by omega)).mono ?_
          rintro e w6 ⟨v6, rfl, v6a, v6b, r6, k6, z6⟩
          have o6 := o5'.keep k6 (fun i hi _ e => by simp only [At] at e; omega)
          have k16 := k5'.trans k6
          have hs6 := k16.size
          have z6' : w5.heap.size + 1 = w6.heap.size := by rw [← z6]; simp
          have tc : ∀ j, w6.cell? ⟨w5.heap.size, j, none⟩ = (w5.alloc (.cells #[.int .i64 0, .int .i64 0, .int .i64 99, .int .i64 0, .int .i64 10000, .int .i64 1, .int .i64 99, .int .i64 1001] 33)).cell? ⟨w5.heap.size, j, none⟩ := fun j => k6.cell (p := ⟨w5.heap.size, j, none⟩) (by simp) hna2
          clear r5' o5' k5' k6 z6
          have hv : v6 = 0 ∨ v6 = 1 ∨ v6 = 2 ∨ v6 = 3 := by omega
          rcases hv with rfl | rfl | rfl | rfl
          · have t0 : w6.cell? ⟨w5.heap.size, 0, none⟩ = some (.int .i64 0) := (tc 0).trans (by simp)
            have t1 : w6.cell? ⟨w5.heap.size, 1, none⟩ = some (.int .i64 0) := (tc 1).trans (by simp)
            clear tc
            go_wp2_with (at_builtin; refine wpList_appP _ rfl _ _ rfl w.heap.size _ _ _ ps rfl (o6.keepNo ((Kp.refl _ _).alloc _)) _ _ _ _ [(0, 0)] rfl (prs_lit _ _ _ _) (by simp; omega) (by simp; omega) ?_; intro A7 c7 w7 o7 k7)
            go_ret
            exact ⟨A7, c7, ps ++ [(0, 0)], by simp, o7, by simp; omega, ((r6.keepNo ((Kp.refl _ _).alloc _)).keep k7 (fun i hi e => by have := e.1; omega)).le (by omega), (k16.alloc _).also k7 (fun i hi e => by have := e.1; omega)⟩
          · have t0 : w6.cell? ⟨w5.heap.size, 2, none⟩ = some (.int .i64 99) := (tc 2).trans (by simp)
            have t1 : w6.cell? ⟨w5.heap.size, 3, none⟩ = some (.int .i64 0) := (tc 3).trans (by simp)
            clear tc
            go_wp2_with (at_builtin; refine wpList_appP _ rfl _ _ rfl w.heap.size _ _ _ ps rfl (o6.keepNo ((Kp.refl _ _).alloc _)) _ _ _ _ [(99, 0)] rfl (prs_lit _ _ _ _) (by simp; omega) (by simp; omega) ?_; intro A7 c7 w7 o7 k7)
            go_ret
            exact ⟨A7, c7, ps ++ [(99, 0)], by simp, o7, by simp; omega, ((r6.keepNo ((Kp.refl _ _).alloc _)).keep k7 (fun i hi e => by have := e.1; omega)).le (by omega), (k16.alloc _).also k7 (fun i hi e => by have := e.1; omega)⟩
          · have t0 : w6.cell? ⟨w5.heap.size, 4, none⟩ = some (.int .i64 10000) := (tc 4).trans (by simp)
            have t1 : w6.cell? ⟨w5.heap.size, 5, none⟩ = some (.int .i64 1) := (tc 5).trans (by simp)
            clear tc
            go_wp2_with (at_builtin; refine wpList_appP _ rfl _ _ rfl w.heap.size _ _ _ ps rfl (o6.keepNo ((Kp.refl _ _).alloc _)) _ _ _ _ [(10000, 1)] rfl (prs_lit _ _ _ _) (by simp; omega) (by simp; omega) ?_; intro A7 c7 w7 o7 k7)
            go_ret
            exact ⟨A7, c7, ps ++ [(10000, 1)], by simp, o7, by simp; omega, ((r6.keepNo ((Kp.refl _ _).alloc _)).keep k7 (fun i hi e => by have := e.1; omega)).le (by omega), (k16.alloc _).also k7 (fun i hi e => by have := e.1; omega)⟩
          · have t0 : w6.cell? ⟨w5.heap.size, 6, none⟩ = some (.int .i64 99) := (tc 6).trans (by simp)
            have t1 : w6.cell? ⟨w5.heap.size, 7, none⟩ = some (.int .i64 1001) := (tc 7).trans (by simp)
            clear tc
            go_wp2_with (at_builtin; refine wpList_appP _ rfl _ _ rfl w.heap.size _ _ _ ps rfl (o6.keepNo ((Kp.refl _ _).alloc _)) _ _ _ _ [(99, 1001)] rfl (prs_lit _ _ _ _) (by simp; omega) (by simp; omega) ?_; intro A7 c7 w7 o7 k7)
            go_ret
            exact ⟨A7, c7, ps ++ [(99, 1001)], by simp, o7, by simp; omega, ((r6.keepNo ((Kp.refl _ _).alloc _)).keep k7 (fun i hi e => by have := e.1; omega)).le (by omega), (k16.alloc _).also k7 (fun i hi e => by have := e.1; omega)⟩
      · by_cases hp : 0 < ps.length
        · obtain ⟨g, x, y, rfl, hg1, hg2, hx, c0, c1, f0, f1⟩ := ho2.at_ hp
          have o3 := ho2.set2 0 1000 hx
          simp only [Nat.zero_mul, Nat.zero_add] at c0 c1 f0 f1 o3
          have ks : Kp (At g) w2 (w2.setCell ⟨g, 1, none⟩ (.int .i64 1000)) := Kp.setCell (Kp.refl (At g) w2) (p := ⟨g, 1, none⟩) (fun _ => (rfl : g = g)) _
          have r3 := r2.keep ks (fun i hi e => by simp only [At] at e; omega)
          have hk3 := hk2.also ks (fun i hi e => by simp only [At] at e; omega)
          have hzs : w2.heap.size ≤ (w2.setCell ⟨g, 1, none⟩ (.int .i64 1000)).heap.size := ks.size
          have hl3 : (ps.set 0 (x, 1000)).length = ps.length := by simp
          clear hx r2 hk2 ho2
          go_wp2_with fail
          generalize w2.setCell ⟨g, 1, none⟩ (.int .i64 1000) = w2' at o3 ks r3 hk3 hzs ⊢
          generalize ps.set 0 (x, 1000) = qs at o3 hl3
          rw [← hl3]
          have hl : qs.length ≤ 10 := by omega
          clear hl3
          refine (odd_ _ _ _ _ r3 (by omega) (by omega) (by omega)).mono ?_
          rintro e w5 ⟨b5, rfl, r5, k5, z5⟩
          have ho5 := o3.keep k5 (fun i hi _ e => by simp only [At] at e; omega)
          have hk5 := hk3.trans k5
          have hs5 := hk5.size
          clear o3 r3 hk3 k5
          cases b5
          · go_wp2_with fail
            go_ret
            exact ⟨_, _, qs, rfl, ho5.wide (Nat.le_refl _) (by omega) (Nat.le_refl _), by omega, r5.le (by omega), hk5⟩
          · have r5' := r5.keepNo ((Kp.refl No w5).alloc (.cells #[.int .i64 0, .int .i64 0, .int .i64 99, .int .i64 0, .int .i64 10000, .int .i64 1, .int .i64 99, .int .i64 1001] 33))
            have o5' := ho5.keepNo ((Kp.refl No w5).alloc (.cells #[.int .i64 0, .int .i64 0, .int .i64 99, .int .i64 0, .int .i64 10000, .int .i64 1, .int .i64 99, .int .i64 1001] 33))
            have k5' : Kp (At a) w (w5.alloc (.cells #[.int .i64 0, .int .i64 0, .int .i64 99, .int .i64 0, .int .i64 10000, .int .i64 1, .int .i64 99, .int .i64 1001] 33)) := hk5.alloc _
            have hna2 : ¬ At a w5.heap.size := by simp only [At]; omega
            clear r5 ho5 hk5
            go_wp2_with fail
            refine (pick_ _ _ _ _ r5' (by omega) (by omega) (by omega)).mono ?_
            rintro e w6 ⟨v6, rfl, v6a, v6b, r6, k6, z6⟩
            have o6 := o5'.keep k6 (fun i hi _ e => by simp only [At] at e; omega)
            have k16 := k5'.trans k6
            have hs6 := k16.size
            have z6' : w5.heap.size + 1 = w6.heap.size := by rw [← z6]; simp
            have tc : ∀ j, w6.cell? ⟨w5.heap.size, j, none⟩ = (w5.alloc (.cells #[.int .i64 0, .int .i64 0, .int .i64 99, .int .i64 0, .int .i64 10000, .int .i64 1, .int .i64 99, .int .i64 1001] 33)).cell? ⟨w5.heap.size, j, none⟩ := fun j => k6.cell (p := ⟨w5.heap.size, j, none⟩) (by simp) hna2
            clear r5' o5' k5' k6 z6
            have hv : v6 = 0 ∨ v6 = 1 ∨ v6 = 2 ∨ v6 = 3 := by omega
            rcases hv with rfl | rfl | rfl | rfl
            · have t0 : w6.cell? ⟨w5.heap.size, 0, none⟩ = some (.int .i64 0) := (tc 0).trans (by simp)
              have t1 : w6.cell? ⟨w5.heap.size, 1, none⟩ = some (.int .i64 0) := (tc 1).trans (by simp)
              clear tc
              go_wp2_with (at_builtin; refine wpList_appP _ rfl _ _ rfl w.heap.size _ _ _ qs rfl (o6.keepNo ((Kp.refl _ _).alloc _)) _ _ _ _ [(0, 0)] rfl (prs_lit _ _ _ _) (by simp; omega) (by simp; omega) ?_; intro A7 c7 w7 o7 k7)
              go_ret
              exact ⟨A7, c7, qs ++ [(0, 0)], by simp, o7, by simp; omega, ((r6.keepNo ((Kp.refl _ _).alloc _)).keep k7 (fun i hi e => by have := e.1; omega)).le (by omega), (k16.alloc _).also k7 (fun i hi e => by have := e.1; omega)⟩
            · have t0 : w6.cell? ⟨w5.heap.size, 2, none⟩ = some (.int .i64 99) := (tc 2).trans (by simp)
              have t1 : w6.cell? ⟨w5.heap.size, 3, none⟩ = some (.int .i64 0) := (tc 3).trans (by simp)
              clear tc
              go_wp2_with (at_builtin; refine wpList_appP _ rfl _ _ rfl w.heap.size _ _ _ qs rfl (o6.keepNo ((Kp.refl _ _).alloc _)) _ _ _ _ [(99, 0)] rfl (prs_lit _ _ _ _) (by simp; omega) (by simp; omega) ?_; intro A7 c7 w7 o7 k7)
              go_ret
              exact ⟨A7, c7, qs ++ [(99, 0)], by simp, o7, by simp; omega, ((r6.keepNo ((Kp.refl _ _).alloc _)).keep k7 (fun i hi e => by have := e.1; omega)).le (by omega), (k16.alloc _).also k7 (fun i hi e => by have := e.1; omega)⟩
            · have t0 : w6.cell? ⟨w5.heap.size, 4, none⟩ = some (.int .i64 10000) := (tc 4).trans (by simp)
              have t1 : w6.cell? ⟨w5.heap.size, 5, none⟩ = some (.int .i64 1) := (tc 5).trans (by simp)
              clear tc
              go_wp2_with (at_builtin; refine wpList_appP _ rfl _ _ rfl w.heap.size _ _ _ qs rfl (o6.keepNo ((Kp.refl _ _).alloc _)) _ _ _ _ [(10000, 1)] rfl (prs_lit _ _ _ _) (by simp; omega) (by simp; omega) ?_; intro A7 c7 w7 o7 k7)
              go_ret
              exact ⟨A7, c7, qs ++ [(10000, 1)], by simp, o7, by simp; omega, ((r6.keepNo ((Kp.refl _ _).alloc _)).keep k7 (fun i hi e => by have := e.1; omega)).le (by omega), (k16.alloc _).also k7 (fun i hi e => by have := e.1; omega)⟩
            · have t0 : w6.cell? ⟨w5.heap.size, 6, none⟩ = some (.int .i64 99) := (tc 6).trans (by simp)
              have t1 : w6.cell? ⟨w5.heap.size, 7, none⟩ = some (.int .i64 1001) := (tc 7).trans (by simp)
              clear tc
              go_wp2_with (at_builtin; refine wpList_appP _ rfl _ _ rfl w.heap.size _ _ _ qs rfl (o6.keepNo ((Kp.refl _ _).alloc _)) _ _ _ _ [(99, 1001)] rfl (prs_lit _ _ _ _) (by simp; omega) (by simp; omega) ?_; intro A7 c7 w7 o7 k7)
              go_ret
              exact ⟨A7, c7, qs ++ [(99, 1001)], by simp, o7, by simp; omega, ((r6.keepNo ((Kp.refl _ _).alloc _)).keep k7 (fun i hi e => by have := e.1; omega)).le (by omega), (k16.alloc _).also k7 (fun i hi e => by have := e.1; omega)⟩
        · go_wp2_with fail
          refine (odd_ _ _ _ _ r2 (by omega) (by omega) (by omega)).mono ?_
          rintro e w5 ⟨b5, rfl, r5, k5, z5⟩
          have ho5 := ho2.keep k5 (fun i hi _ e => by simp only [At] at e; omega)
          have hk5 := hk2.trans k5
          have hs5 := hk5.size
          clear ho2 r2 hk2 k5
          cases b5
          · go_wp2_with fail
            go_ret
            exact ⟨_, _, ps, rfl, ho5.wide (Nat.le_refl _) (by omega) (Nat.le_refl _), by omega, r5.le (by omega), hk5⟩
          · have r5' := r5.keepNo ((Kp.refl No w5).alloc (.cells #[.int .i64 0, .int .i64 0, .int .i64 99, .int .i64 0, .int .i64 10000, .int .i64 1, .int .i64 99, .int .i64 1001] 33))
            have o5' := ho5.keepNo ((Kp.refl No w5).alloc (.cells #[.int .i64 0, .int .i64 0, .int .i64 99, .int .i64 0, .int .i64 10000, .int .i64 1, .int .i64 99, .int .i64 1001] 33))
            have k5' : Kp (At a) w (w5.alloc (.cells #[.int .i64 0, .int .i64 0, .int .i64 99, .int .i64 0, .int .i64 10000, .int .i64 1, .int .i64 99, .int .i64 1001] 33)) := hk5.alloc _
            have hna2 : ¬ At a w5.heap.size := by simp only [At]; omega
            clear r5 ho5 hk5
            go_wp2_with fail
            refine (pick_ _ _ _ _ r5' (by omega) (by omega) (by omega)).mono ?_
            rintro e w6 ⟨v6, rfl, v6a, v6b, r6, k6, z6⟩
            have o6 := o5'.keep k6 (fun i hi _ e => by simp only [At] at e; omega)
            have k16 := k5'.trans k6
            have hs6 := k16.size
            have z6' : w5.heap.size + 1 = w6.heap.size := by rw [← z6]; simp
            have tc : ∀ j, w6.cell? ⟨w5.heap.size, j, none⟩ = (w5.alloc (.cells #[.int .i64 0, .int .i64 0, .int .i64 99, .int .i64 0, .int .i64 10000, .int .i64 1, .int .i64 99, .int .i64 1001] 33)).cell? ⟨w5.heap.size, j, none⟩ := fun j => k6.cell (p := ⟨w5.heap.size, j, none⟩) (by simp) hna2
            clear r5' o5' k5' k6 z6
            have hv : v6 = 0 ∨ v6 = 1 ∨ v6 = 2 ∨ v6 = 3 := by omega
            rcases hv with rfl | rfl | rfl | rfl
            · have t0 : w6.cell? ⟨w5.heap.size, 0, none⟩ = some (.int .i64 0) := (tc 0).trans (by simp)
              have t1 : w6.cell? ⟨w5.heap.size, 1, none⟩ = some (.int .i64 0) := (tc 1).trans (by simp)
              clear tc
              go_wp2_with (at_builtin; refine wpList_appP _ rfl _ _ rfl w.heap.size _ _ _ ps rfl (o6.keepNo ((Kp.refl _ _).alloc _)) _ _ _ _ [(0, 0)] rfl (prs_lit _ _ _ _) (by simp; omega) (by simp; omega) ?_; intro A7 c7 w7 o7 k7)
              go_ret
              exact ⟨A7, c7, ps ++ [(0, 0)], by simp, o7, by simp; omega, ((r6.keepNo ((Kp.refl _ _).alloc _)).keep k7 (fun i hi e => by have := e.1; omega)).le (by omega), (k16.alloc _).also k7 (fun i hi e => by have := e.1; omega)⟩
            · have t0 : w6.cell? ⟨w5.heap.size, 2, none⟩ = some (.int .i64 99) := (tc 2).trans (by simp)
              have t1 : w6.cell? ⟨w5.heap.size, 3, none⟩ = some (.int .i64 0) := (tc 3).trans (by simp)
              clear tc
              go_wp2_with (at_builtin; refine wpList_appP _ rfl _ _ rfl w.heap.size _ _ _ ps rfl (o6.keepNo ((Kp.refl _ _).alloc _)) _ _ _ _ [(99, 0)] rfl (prs_lit _ _ _ _) (by simp; omega) (by simp; omega) ?_; intro A7 c7 w7 o7 k7)
              go_ret
              exact ⟨A7, c7, ps ++ [(99, 0)], by simp, o7, by simp; omega, ((r6.keepNo ((Kp.refl _ _).alloc _)).keep k7 (fun i hi e => by have := e.1; omega)).le (by omega), (k16.alloc _).also k7 (fun i hi e => by have := e.1; omega)⟩
            · have t0 : w6.cell? ⟨w5.heap.size, 4, none⟩ = some (.int .i64 10000) := (tc 4).trans (by simp)
              have t1 : w6.cell? ⟨w5.heap.size, 5, none⟩ = some (.int .i64 1) := (tc 5).trans (by simp)
              clear tc
              go_wp2_with (at_builtin; refine wpList_appP _ rfl _ _ rfl w.heap.size _ _ _ ps rfl (o6.keepNo ((Kp.refl _ _).alloc _)) _ _ _ _ [(10000, 1)] rfl (prs_lit _ _ _ _) (by simp; omega) (by simp; omega) ?_; intro A7 c7 w7 o7 k7)
              go_ret
              exact ⟨A7, c7, ps ++ [(10000, 1)], by simp, o7, by simp; omega, ((r6.keepNo ((Kp.refl _ _).alloc _)).keep k7 (fun i hi e => by have := e.1; omega)).le (by omega), (k16.alloc _).also k7 (fun i hi e => by have := e.1; omega)⟩
            · have t0 : w6.cell? ⟨w5.heap.size, 6, none⟩ = some (.int .i64 99) := (tc 6).trans (by simp)
              have t1 : w6.cell? ⟨w5.heap.size, 7, none⟩ = some (.int .i64 1001) := (tc 7).trans (by simp)
              clear tc
              go_wp2_with (at_builtin; refine wpList_appP _ rfl _ _ rfl w.heap.size _ _ _ ps rfl (o6.keepNo ((Kp.refl _ _).alloc _)) _ _ _ _ [(99, 1001)] rfl (prs_lit _ _ _ _) (by simp; omega) (by simp; omega) ?_; intro A7 c7 w7 o7 k7)
              go_ret
              exact ⟨A7, c7, ps ++ [(99, 1001)], by simp, o7, by simp; omega, ((r6.keepNo ((Kp.refl _ _).alloc _)).keep k7 (fun i hi e => by have := e.1; omega)).le (by omega), (k16.alloc _).also k7 (fun i hi e => by have := e.1; omega)⟩

set_option maxHeartbeats 2000000 in
theorem drawKeptValid (A : Option Addr) (zs : List Int) (c : Nat) (w : World) (h : Byts w A zs) (hcap : zs.length ≤ c) (hl : zs.length ≤ 4000000) :
    Calls Try.prog 16 #[.slice A zs.length c] w (SomeP 11 w) := by
  go_enter Try.func16, Try.ntmps16
  go_wp2_with fail
  refine (open_ _ _ _ _ h hcap hl).mono ?_
  rintro e w1 ⟨rfl, r1, k1, z1⟩
  go_wp2_with fail
  refine (l20Kept_ _ _ _ _ r1 (by omega) (by omega) (by omega)).mono ?_
  rintro e w2 ⟨A2, c2, ps, rfl, o2, l2, r2, k2⟩
  go_wp2_with fail
  go_ret
  exact ⟨A2, c2, ps, rfl, o2.wide (by omega) (Nat.le_refl _) (Nat.le_refl _), l2, k1.also k2 (fun i hi e => by simp only [At] at e; omega)⟩

set_option maxHeartbeats 2000000 in
theorem drawKeptUsers (A : Option Addr) (zs : List Int) (c : Nat) (w : World) (h : Byts w A zs) (hcap : zs.length ≤ c) (hl : zs.length ≤ 4000000) :
    Calls Try.prog 20 #[.slice A zs.length c] w (SomeP 11 w) := by
  go_enter Try.func20, Try.ntmps20
  go_wp2_with fail
  refine (open_ _ _ _ _ h hcap hl).mono ?_
  rintro e w1 ⟨rfl, r1, k1, z1⟩
  go_wp2_with fail
  refine (l20Kept_ _ _ _ _ r1 (by omega) (by omega) (by omega)).mono ?_
  rintro e w2 ⟨A2, c2, ps, rfl, o2, l2, r2, k2⟩
  go_wp2_with fail
  go_ret
  exact ⟨A2, c2, ps, rfl, o2.wide (by omega) (Nat.le_refl _) (Nat.le_refl _), l2, k1.also k2 (fun i hi e => by simp only [At] at e; omega)⟩

def FKV (lo a : Nat) (A2 : Option Addr) (n2 c2 : Nat) (i : Nat) (v : Value) (wx : World) : Prop := match i with
  | 0 => v = .slice A2 n2 c2
  | 1 => v = .pointer (some ⟨a, 0, none⟩)
  | 2 => IntV (fun x => 0 ≤ x ∧ x < 9) v
  | 3 => TabI lo 3 (fun _ => True) v wx
  | 4 => TabI lo 8 (fun x => 0 ≤ x ∧ x < 3) v wx
  | 5 => v = .pointer (some ⟨a, 0, none⟩)
  | 6 => IntV (fun x => 0 ≤ x ∧ x < 8) v
  | 7 => PtrI lo (fun x => 0 ≤ x ∧ x < 3) v wx
  | 8 => IntV (fun x => 0 ≤ x ∧ x < 3) v
  | 9 => PtrI lo (fun _ => True) v wx
  | 10 => IntV (fun _ => True) v
  | 11 => v = .slice A2 n2 c2
  | 12 => IntV (fun _ => True) v
  | _ => True
theorem FKV.keep {lo a : Nat} {A2 : Option Addr} {n2 c2 : Nat} (ha : a < lo) (j : Nat) (v : Value) (wx wy : World) (k : Kp (At a) wx wy) (h : FKV lo a A2 n2 c2 j v wx) : FKV lo a A2 n2 c2 j v wy := by
  unfold FKV at h ⊢
  split at h
  all_goals first | exact h | exact TabI.keep h ha k | exact PtrI.keep h ha k | trivial

set_option maxHeartbeats 2000000 in
theorem drawKeepValue (A : Option Addr) (zs : List Int) (c : Nat) (w : World) (h : Byts w A zs) (hcap : zs.length ≤ c) (hl : zs.length ≤ 4000000) :
    Calls Try.prog 29 #[.slice A zs.length c] w (SomePN 11 w) := by
  go_enter Try.func29, Try.ntmps29
  go_wp2_with fail
  refine (open_ _ _ _ _ h hcap hl).mono ?_
  rintro e w1 ⟨rfl, r1, k1, z1⟩
  go_wp2_with fail
  refine (l20Kept_ _ _ _ _ r1 (by omega) (by omega) (by omega)).mono ?_
  rintro e w2 ⟨A2, c2, ps, rfl, o2, l2, r2, k2⟩
  have ha : w.heap.size < w2.heap.size := by have := k2.size; omega
  have k12 : Kp No w w2 := k1.also k2 (fun i hi e => by simp only [At] at e; omega)
  obtain ⟨n2, hn2⟩ : ∃ n2, n2 = ps.length := ⟨_, rfl⟩
  rw [← hn2]
  have Hn2 := Lib.hid hn2
  clear h hcap k1 k2 r1 hn2
  go_wp2_with fail
  refine wp_region_facts [2, 3, 10, 11, 12, 13, 14, 15, 16, 17, 18, 19, 20] (Kp (At w.heap.size)) (fun L wx => Kp (At w.heap.size) w2 wx ∧ Rdr wx w.heap.size (40 + cnt L [2, 6])) (FKV w2.heap.size w.heap.size A2 n2 c2) (by kernel_rfl) (by kernel_rfl) (by kernel_rfl) (by simp) ?mono ?start ?steps ?fin
  case mono => exact fun j v wx wy hR hF => FKV.keep ha j v wx wy hR hF
  case start => exact ⟨(Kp.refl _ _).drew, by rw [cnt_none]; exact (r2.le (by omega)).keepNo ((Kp.refl _ _).drew)⟩
  case steps =>
    refine ⟨?s0, ?s1, ?s2, ?s3, ?s4, ?s5, ?s6, ?s7, ?s8, ?s9, ?s10, ?s11, ?s12, trivial⟩
    case s0 =>
      intro L s fr wx hin hout hL hG haft K hK
      have g0 := hout 5 (by simp)
      simp at g0
      clear haft hin hout
      go_simp
      exact hK 10 rfl _ _ (Kp.refl _ _) ⟨hG.1, hG.2.le (Nat.add_le_add_left (cnt_mono _ _ _) _)⟩ rfl
    case s1 =>
      intro L s fr wx hin hout hL hG haft K hK
      have g0 := hout 4 (by simp)
      simp at g0
      clear haft hin hout
      go_simp
      exact hK 11 rfl _ _ (Kp.refl _ _) ⟨hG.1, hG.2.le (Nat.add_le_add_left (cnt_mono _ _ _) _)⟩ rfl
    case s2 =>
      intro L s fr wx hin hout hL hG haft K hK
      have e0 : s 11 = .pointer (some ⟨w.heap.size, 0, none⟩) := (haft ⟨1, .data⟩ (by simp) rfl).2
      have g0 := hin 11 (by simp)
      rw [e0] at g0
      clear haft hin hout e0
      have hcl := cnt_le L [2, 6]
      simp only [List.length_cons, List.length_nil] at hcl
      go_simp
      refine (pick_ w.heap.size _ 9 _ hG.2 (by omega) (by omega) (by omega)).mono ?_
      rintro e w5 ⟨v5, rfl, v5a, v5b, r5, k5, z5⟩
      exact hK 12 rfl _ _ k5 ⟨hG.1.trans k5, r5.le (by have := cnt_step (is := [2, 6]) (by simp) hL; omega)⟩ ⟨v5, rfl, ⟨v5a, v5b⟩⟩
    case s3 =>
      intro L s fr wx hin hout hL hG haft K hK
      obtain ⟨x1, ex1, hx1⟩ : IntV (fun x => 0 ≤ x ∧ x < 9) (s 12) := (haft ⟨2, .data⟩ (by simp) rfl).2
      have gx1 := hin 12 (by simp)
      rw [ex1] at gx1
      clear haft hin hout ex1
      go_simp
      exact hK 13 rfl _ _ ((Kp.refl _ _).alloc _) ⟨hG.1.alloc _, (hG.2.keepNo ((Kp.refl _ _).alloc _)).le (Nat.add_le_add_left (cnt_mono _ _ _) _)⟩ (TabI.lit wx w2.heap.size _ [x1, 10000, -1] _ rfl _ (by simp) hG.1.size)
    case s4 =>
      intro L s fr wx hin hout hL hG haft K hK
      clear haft hin hout
      go_simp
      exact hK 14 rfl _ _ ((Kp.refl _ _).alloc _) ⟨hG.1.alloc _, (hG.2.keepNo ((Kp.refl _ _).alloc _)).le (Nat.add_le_add_left (cnt_mono _ _ _) _)⟩ (TabI.lit wx w2.heap.size _ [0, 0, 0, 0, 0, 0, 1, 2] _ rfl _ (by simp) hG.1.size)
    case s5 =>
      intro L s fr wx hin hout hL hG haft K hK
      have g0 := hout 4 (by simp)
      simp at g0
      clear haft hin hout
      go_simp
      exact hK 15 rfl _ _ (Kp.refl _ _) ⟨hG.1, hG.2.le (Nat.add_le_add_left (cnt_mono _ _ _) _)⟩ rfl
    case s6 =>
      intro L s fr wx hin hout hL hG haft K hK
      have e0 : s 15 = .pointer (some ⟨w.heap.size, 0, none⟩) := (haft ⟨5, .data⟩ (by simp) rfl).2
      have g0 := hin 15 (by simp)
      rw [e0] at g0
      clear haft hin hout e0
      have hcl := cnt_le L [2, 6]
      simp only [List.length_cons, List.length_nil] at hcl
      go_simp
      refine (pick_ w.heap.size _ 8 _ hG.2 (by omega) (by omega) (by omega)).mono ?_
      rintro e w5 ⟨v5, rfl, v5a, v5b, r5, k5, z5⟩
      exact hK 16 rfl _ _ k5 ⟨hG.1.trans k5, r5.le (by have := cnt_step (is := [2, 6]) (by simp) hL; omega)⟩ ⟨v5, rfl, ⟨v5a, v5b⟩⟩
    case s7 =>
      intro L s fr wx hin hout hL hG haft K hK
      obtain ⟨g, e4, hg1, hg2, hc4⟩ : TabI w2.heap.size 8 (fun x => 0 ≤ x ∧ x < 3) (s 14) wx := (haft ⟨4, .data⟩ (by simp) rfl).2
      obtain ⟨v, e6, hv0, hv1⟩ : IntV (fun x => 0 ≤ x ∧ x < 8) (s 16) := (haft ⟨6, .data⟩ (by simp) rfl).2
      obtain ⟨j, rfl⟩ := Int.eq_ofNat_of_zero_le hv0
      have g4 := hin 14 (by simp)
      have g6 := hin 16 (by simp)
      rw [e4] at g4
      rw [e6] at g6
      obtain ⟨x, hx, hV⟩ := hc4 j (by omega)
      have hV := Lib.hid hV
      clear haft hin hout e4 e6 hc4
      go_simp
      exact hK 17 rfl _ _ (Kp.refl _ _) ⟨hG.1, hG.2.le (Nat.add_le_add_left (cnt_mono _ _ _) _)⟩ ⟨g, j, x, rfl, hg1, hg2, hx, hV.out⟩
    case s8 =>
      intro L s fr wx hin hout hL hG haft K hK
      obtain ⟨g, j, x, e7, hg1, hg2, hx, hV⟩ : PtrI w2.heap.size (fun x => 0 ≤ x ∧ x < 3) (s 17) wx := (haft ⟨7, .data⟩ (by simp) rfl).2
      have g7 := hin 17 (by simp)
      rw [e7] at g7
      have hV := Lib.hid hV
      clear haft hin hout e7
      go_simp
      exact hK 18 rfl _ _ (Kp.refl _ _) ⟨hG.1, hG.2.le (Nat.add_le_add_left (cnt_mono _ _ _) _)⟩ ⟨x, rfl, hV.out⟩
    case s9 =>
      intro L s fr wx hin hout hL hG haft K hK
      obtain ⟨g, e4, hg1, hg2, hc4⟩ : TabI w2.heap.size 3 (fun _ => True) (s 13) wx := (haft ⟨3, .data⟩ (by simp) rfl).2
      obtain ⟨v, e6, hv0, hv1⟩ : IntV (fun x => 0 ≤ x ∧ x < 3) (s 18) := (haft ⟨8, .data⟩ (by simp) rfl).2
      obtain ⟨j, rfl⟩ := Int.eq_ofNat_of_zero_le hv0
      have g4 := hin 13 (by simp)
      have g6 := hin 18 (by simp)
      rw [e4] at g4
      rw [e6] at g6
      obtain ⟨x, hx, hV⟩ := hc4 j (by omega)
      have hV := Lib.hid hV
      clear haft hin hout e4 e6 hc4
      go_simp
      exact hK 19 rfl _ _ (Kp.refl _ _) ⟨hG.1, hG.2.le (Nat.add_le_add_left (cnt_mono _ _ _) _)⟩ ⟨g, j, x, rfl, hg1, hg2, hx, hV.out⟩
    case s10 =>
      intro L s fr wx hin hout hL hG haft K hK
      obtain ⟨g, j, x, e7, hg1, hg2, hx, hV⟩ : PtrI w2.heap.size (fun _ => True) (s 19) wx := (haft ⟨9, .data⟩ (by simp) rfl).2
      have g7 := hin 19 (by simp)
      rw [e7] at g7
      have hV := Lib.hid hV
      clear haft hin hout e7
      go_simp
      exact hK 20 rfl _ _ (Kp.refl _ _) ⟨hG.1, hG.2.le (Nat.add_le_add_left (cnt_mono _ _ _) _)⟩ ⟨x, rfl, hV.out⟩
    case s11 =>
      intro L s fr wx hin hout hL hG haft K hK
      have e0 : s 10 = .slice A2 n2 c2 := (haft ⟨0, .data⟩ (by simp) rfl).2
      have g0 := hin 10 (by simp)
      rw [e0] at g0
      clear haft hin hout e0
      go_simp
      exact hK 2 rfl _ _ (Kp.refl _ _) ⟨hG.1, hG.2.le (Nat.add_le_add_left (cnt_mono _ _ _) _)⟩ rfl
    case s12 =>
      intro L s fr wx hin hout hL hG haft K hK
      obtain ⟨x0, e0, hx0⟩ : IntV (fun _ => True) (s 20) := (haft ⟨10, .data⟩ (by simp) rfl).2
      have g0 := hin 20 (by simp)
      rw [e0] at g0
      clear haft hin hout e0
      go_simp
      exact hK 3 rfl _ _ (Kp.refl _ _) ⟨hG.1, hG.2.le (Nat.add_le_add_left (cnt_mono _ _ _) _)⟩ ⟨x0, rfl, hx0⟩
  case fin =>
    intro L s wx hL hG hF
    have e2 : s 2 = .slice A2 n2 c2 := hF 11 (by decide)
    obtain ⟨z, e3, _⟩ : IntV (fun _ => True) (s 3) := hF 12 (by decide)
    simp only [frameOf, List.foldl, List.setIfInBounds_toArray, List.set_cons_succ, List.set_cons_zero]
    rw [e2, e3]
    clear e2 e3 hF hL
    go_wp2_with fail
    go_ret2
    exact ⟨A2, c2, ps, z, (by have := Hn2.out; subst this; rfl), (o2.keep hG.1 (fun i hi _ e => by simp only [At] at e; omega)).wide (by omega) hG.1.size (Nat.le_refl _), l2, k12.also hG.1 (fun i hi e => by simp only [At] at e; omega)⟩

set_option maxHeartbeats 2000000 in
theorem drawFreeValue (A : Option Addr) (zs : List Int) (c : Nat) (w : World) (h : Byts w A zs) (hcap : zs.length ≤ c) (hl : zs.length ≤ 4000000) :
    Calls Try.prog 25 #[.slice A zs.length c] w (SomePN 11 w) := by
  go_enter Try.func25, Try.ntmps25
  go_wp2_with fail
  refine (drawKeepValue _ _ _ _ h hcap hl).mono ?_
  rintro e w1 ⟨A1, c1, ps, n, rfl, o1, l1, k1⟩
  go_wp2_with fail
  go_ret2
  exact ⟨A1, c1, ps, n, rfl, o1, l1, k1⟩
end Go.Proofs.Yteabpdnlkncbpaa
