/- l20Owners and DrawOwnersValid: some owners come out. -/
import Derived.Test.YtagcdpnbkfoeaaaTab
import Derived.Test.YtagcdpnbkfoeaaaOwners
import Derived.Test.YtagcdpnbkfoeaaaApp
import Derived.WalkKit
import Derived.WalkSpells
import Derived.WalkLawsBesides
import Derived.Outline
namespace Go.Proofs.Ytagcdpnbkfoeaaa
open Go.RowKit
set_option linter.unusedVariables false

theorem ownI_lit (w : World) (lo : Nat) (cs : Array Value) (xs : List Int) (h : cs.toList = xs.map (Value.int .i64)) (hlo : lo ≤ w.heap.size) (hl : xs.length ≤ 4000000) :
    OwnI (w.alloc (.cells cs 3)) lo (w.heap.size + 1) (some ⟨w.heap.size, 0, none⟩) xs.length xs := by
  have hs : cs.size = xs.length * 1 := by
    have := congrArg List.length h
    simpa using this
  refine ⟨?_, fun g hg => by simp [Value.ownBlock] at hg; omega, by simp⟩
  rw [← h]
  exact World.ownsRow_lit w cs xs.length hlo (by unfold maxLen; omega) hs
theorem Ints.tail {w : World} {lo hi b off : Nat} {x : Int} {xs : List Int} (h : Ints w lo hi (some ⟨b, off, none⟩) (x :: xs)) : Ints w lo hi (some ⟨b, off + 1, none⟩) xs := by
  obtain ⟨h1, h2, h3⟩ := h
  refine ⟨by simp, h2, fun hn => ?_⟩
  obtain ⟨b', off', e, g1, g2, g3⟩ := h3 (by simp)
  injection e with e
  injection e with e1 e2
  subst e1 e2
  refine ⟨_, _, rfl, g1, g2, fun j u hu => ?_⟩
  have := g3 (j + 1) u (by simpa using hu)
  rwa [show off + 1 + j = off + (j + 1) by omega]
/-- What a draw leaves: some slice of at most L ints in new memory. -/
def DrawR (L : Nat) (w : World) (a B : Nat) (e : Ending) (w' : World) : Prop :=
  ∃ A c xs, e = .returned (.slice A (xs : List Int).length c) ∧ Ints w' w.heap.size w'.heap.size A xs ∧ xs.length ≤ c ∧ xs.length ≤ L ∧ Rdr w' a B ∧ Kp (At a) w w'
def SomeR (L : Nat) (w : World) (e : Ending) (w' : World) : Prop :=
  ∃ A c xs, e = .returned (.slice A (xs : List Int).length c) ∧ Ints w' w.heap.size w'.heap.size A xs ∧ xs.length ≤ c ∧ xs.length ≤ L ∧ Kp No w w'

set_option maxHeartbeats 4000000 in
theorem l20Owners_ (a B : Nat) (n : Int) (w : World) (h : Rdr w a B) (hB : B ≤ 10000) (h1 : 0 ≤ n) (hn : n ≤ 1000) :
    Calls Try.prog 31 #[.pointer (some ⟨a, 0, none⟩), .int .i64 n] w (DrawR 8 w a (B + 12)) := by
  have hal := h.lt
  have r0 := h.keepNo ((Kp.refl No w).alloc (.cells #[] 3))
  have k0 : Kp (At a) w (w.alloc (.cells #[] 3)) := (Kp.refl _ _).alloc _
  have o0 := ownI_lit w w.heap.size #[] [] rfl (Nat.le_refl _) (by simp)
  go_enter Try.func31, Try.ntmps31
  go_wp2_with fail
  go_loopw [5, 6] (fun v i wr => ∃ (k : Nat) (A : Option Addr) (c : Nat) (xs : List Int), i = .int .i64 k ∧ k ≤ 8 ∧ v = .slice A xs.length c ∧ OwnI wr w.heap.size wr.heap.size A c xs ∧ Hid (xs.length = k) ∧ Rdr wr a (B + k) ∧ Kp (At a) w wr) (fun _ i _ => 8 - (intOf i).toNat)
  case atStart => exact ⟨0, _, 0, [], rfl, by omega, rfl, o0.wide (Nat.le_refl _) (by simp) (Nat.le_refl _), (by show _ = _; rfl), r0.le (by omega), k0⟩
  case round =>
    clear r0 k0 o0
    obtain ⟨k, A, c, xs, rfl, hk8, rfl, ho, Hl, hr, hk⟩ := hrel
    have hs1 := hk.size
    have hlk : xs.length ≤ k := Nat.le_of_eq Hl.out
    by_cases hlt : k < 8
    · go_wp2_with fail
      refine (pick_ _ _ _ _ hr (by omega) (by omega) (by omega)).mono ?_
      rintro e w3 ⟨v3, rfl, v3a, v3b, r3, k3, z3⟩
      have ho3 := ho.keep k3 (fun i hi _ e => by simp only [At] at e; omega)
      go_wp2_with (at_builtin; refine wpList_appI _ rfl _ _ rfl w.heap.size wr.heap.size A c xs rfl (ho3.keepNo ((Kp.refl _ _).alloc _)) _ _ _ _ [v3 - 1] rfl (ints_lit _ _ _) (by simp; omega) (by simp; omega) ?_; intro A4 c4 w4 ho4 hk4)
      go_roundw
      case rel => exact ⟨k + 1, A4, c4, xs ++ [v3 - 1], by go_num, by omega, by simp, ho4, (by show _ = _; simp; exact Hl.out), ((r3.keepNo ((Kp.refl _ _).alloc _)).keep hk4 (fun i hi e => by have := e.1; omega)).le (by omega), ((hk.trans k3).alloc _).also hk4 (fun i hi e => by have := e.1; omega)⟩
      case measure => simp [intOf]; omega
    · obtain rfl : k = 8 := by omega
      obtain ⟨x, ys, rfl⟩ : ∃ x ys, xs = x :: ys := by
        rcases xs with _ | ⟨x, ys⟩
        · have := Hl.out; simp at this
        · exact ⟨x, ys, rfl⟩
      have hy7 : ys.length ≤ 7 := by have := Hl.out; simp at this; omega
      have hy7' : 7 ≤ ys.length := by have := Hl.out; simp at this; omega
      have hcp := ho.cap
      simp only [List.length_cons] at hcp hlk ⊢
      go_wp2_with fail
      refine (odd_ _ _ _ _ hr (by omega) (by omega) (by omega)).mono ?_
      rintro e w2 ⟨b, rfl, r2, k2, z2⟩
      have hk2 := hk.trans k2
      have ho2 := ho.keep k2 (fun i hi _ e => by simp only [At] at e; omega)
      clear ho hr hk k2
      obtain ⟨g, rfl, hg1, hg2⟩ := Own.form ho2 (by simp)
      cases b
      · go_wp2_with fail
        go_ret
        exact ⟨_, c, x :: ys, rfl, ho2.ints.wide (Nat.le_refl _) (by omega) (Nat.le_refl _), by simp; omega, by simp; omega, r2.le (by omega), hk2⟩
      · go_wp2_with fail
        refine (pick_ _ _ _ _ r2 (by omega) (by omega) (by omega)).mono ?_
        rintro e w3 ⟨v3, rfl, v3a, v3b, r3, k3, z3⟩
        have ho3 := ho2.keep k3 (fun i hi _ e => by simp only [At] at e; omega)
        have hk3 := hk2.trans k3
        clear ho2 r2 hk2
        by_cases hz : v3 = 0
        · have he : (v3 == 0) = true := by simpa using hz
          have hc1 : ¬ c = 1 := by omega
          clear hz
          go_wp2_with fail
          go_ret
          exact ⟨_, c - 1, ys, rfl, ho3.ints.tail.wide (Nat.le_refl _) (by omega) (Nat.le_refl _), by omega, by omega, r3.le (by omega), hk3⟩
        · have he : (v3 == 0) = false := by simpa using hz
          clear hz
          have t3 := TabI.lit w3 w3.heap.size 3 [-2, 4] #[.int .i64 (-2), .int .i64 4] rfl (fun _ => True) (by simp) (Nat.le_refl _)
          have r3' := r3.keepNo ((Kp.refl No w3).alloc (.cells #[.int .i64 (-2), .int .i64 4] 3))
          have ho3' := ho3.keepNo ((Kp.refl No w3).alloc (.cells #[.int .i64 (-2), .int .i64 4] 3))
          have k33 : Kp (At a) w (w3.alloc (.cells #[.int .i64 (-2), .int .i64 4] 3)) := hk3.alloc _
          clear ho3 r3
          go_wp2_with fail
          refine (pick_ _ _ _ _ r3' (by omega) (by omega) (by omega)).mono ?_
          rintro e w5 ⟨v5, rfl, v5a, v5b, r5, k5, z5⟩
          obtain ⟨g5, hg5, hg51, hg52, hc5⟩ := t3.keep (show a < w3.heap.size by omega) k5
          obtain rfl : w3.heap.size = g5 := by injection hg5 with hg; injection hg with hg; injection hg
          obtain ⟨j, rfl⟩ := Int.eq_ofNat_of_zero_le v5a
          have hj2 : j < 2 := by omega
          obtain ⟨x5, hx5, _⟩ := hc5 j (by simpa using hj2)
          have ho5 := ho3'.keep k5 (fun i hi _ e => by simp only [At] at e; omega)
          have k35 := k33.trans k5
          have z5' : w3.heap.size + 1 = w5.heap.size := by rw [← z5]; simp
          clear hc5 hg5 t3 ho3' r3' k33 k5 z5
          obtain ⟨g', x', hA, _, _, _, hc0, hf0⟩ := ho5.at_ (k := 0) (by simp)
          obtain rfl : g = g' := by injection hA with hA; injection hA
          have o6 := ho5.set_ 0 x5
          have k6 : Kp (At g) w5 (w5.setCell ⟨g, 0, none⟩ (.int .i64 x5)) := Kp.setCell (Kp.refl (At g) w5) (p := ⟨g, 0, none⟩) (fun _ => (rfl : g = g)) _
          have r6 := r5.keep k6 (fun i hi e => by simp only [At] at e; omega)
          clear hA
          go_wp2_with fail
          go_ret
          exact ⟨some ⟨g, 0, none⟩, c, x5 :: ys, by simp, (by simpa using o6.ints.wide (Nat.le_refl _) (by have := k6.size; omega) (Nat.le_refl _)), by simp; omega, by simp; omega, r6.le (by omega), k35.also k6 (fun i hi e => by simp only [At] at e; omega)⟩

set_option maxHeartbeats 1000000 in
theorem drawOwnersValid (A : Option Addr) (zs : List Int) (c : Nat) (w : World) (h : Byts w A zs) (hcap : zs.length ≤ c) (hl : zs.length ≤ 4000000) :
    Calls Try.prog 13 #[.slice A zs.length c] w (SomeR 8 w) := by
  go_enter Try.func13, Try.ntmps13
  go_wp2_with fail
  refine (open_ _ _ _ _ h hcap hl).mono ?_
  rintro e w1 ⟨rfl, r1, k1, z1⟩
  go_wp2_with fail
  refine (l20Owners_ _ _ _ _ r1 (by omega) (by omega) (by omega)).mono ?_
  rintro e w2 ⟨A2, c2, xs, rfl, o2, cp2, l2, r2, k2⟩
  go_wp2_with fail
  go_ret
  exact ⟨A2, c2, xs, rfl, o2.wide (by omega) (Nat.le_refl _) (Nat.le_refl _), cp2, l2, k1.also k2 (fun i hi e => by simp only [At] at e; omega)⟩
end Go.Proofs.Ytagcdpnbkfoeaaa
