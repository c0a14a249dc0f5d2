/- l20Reads: some slice of ints comes out, of at most 13 numbers. -/
import Derived.Test.YtelbcicdophagaaDraw
import Derived.Test.YtelbcicdophagaaApp
import Derived.Test.YtelbcicdophagaaRegion
import Derived.Test.YtelbcicdophagaaTab
import Derived.WalkKit
import Derived.WalkSpells
import Derived.WalkLawsBesides
import Derived.Outline
import Derived.Deep.QuietTactic
import Derived.BigQuiet
import Derived.Deep.RegionHeld3
import Derived.Deep.RegionWith
namespace Go.Proofs.Ytelbcicdophagaa
open Go.RowKit
set_option linter.unusedVariables false

/-- What a draw leaves: some own slice of ints, of at most L numbers. -/
def DrawI (L : Nat) (w : World) (a B : Nat) (e : Ending) (w' : World) : Prop :=
  ∃ A c xs, e = .returned (.slice A xs.length c) ∧ OwnI w' w.heap.size w'.heap.size A c xs ∧ xs.length ≤ L ∧ Rdr w' a B ∧ Kp (At a) w w'

theorem cell_one (W : World) (x : Value) (t : TypeId) : ∀ j u, [x][j]? = some u → (W.alloc (.cells #[x] t)).cell? ((⟨W.heap.size, 0, none⟩ : Addr).add j) = some u := by
  intro j u hj
  match j, hj with
  | 0, hj => simp at hj; subst hj; simp [Addr.add]

/-- A slice of at most 13 ints, in a block from w's end on. -/
def Sl7 (w : World) (v : Value) (wx : World) : Prop := ∃ A c ys, v = .slice A ys.length c ∧ OwnI wx w.heap.size wx.heap.size A c ys ∧ ys.length ≤ 13

theorem Sl7.keep {w wx wy : World} {a : Nat} {v : Value} (ha : a < w.heap.size) (h : Sl7 w v wx) (k : Kp (At a) wx wy) : Sl7 w v wy := by
  obtain ⟨A, c, ys, e, ho, hl⟩ := h
  exact ⟨A, c, ys, e, (ho.keep k (fun i hi _ e => by simp only [At] at e; omega)).wide (Nat.le_refl _) k.size (Nat.le_refl _), hl⟩

def F7 (w : World) (a : Nat) (i : Nat) (v : Value) (wx : World) : Prop := match i with
  | 0 | 1 | 2 | 3 | 8 | 9 => Sl7 w v wx
  | 4 => ∃ g, v = .slice (some ⟨g, 0, none⟩) 4 4 ∧ w.heap.size ≤ g ∧ g < wx.heap.size ∧ ∀ j, j < 4 → ∃ u, wx.cell? ⟨g, j, none⟩ = some u ∧ Sl7 w u wx
  | 5 => v = .pointer (some ⟨a, 0, none⟩)
  | 6 => ∃ n : Int, v = .int .i64 n ∧ 0 ≤ n ∧ n < 4
  | 7 => ∃ g j u, v = .pointer (some ⟨g, j, none⟩) ∧ w.heap.size ≤ g ∧ g < wx.heap.size ∧ wx.cell? ⟨g, j, none⟩ = some u ∧ Sl7 w u wx
  | _ => True

theorem F7.keep {w : World} {a : Nat} (ha : a < w.heap.size) (j : Nat) (v : Value) (wx wy : World) (k : Kp (At a) wx wy) (h : F7 w a j v wx) : F7 w a j v wy := by
  have hs := k.size
  unfold F7 at h ⊢
  split at h
  case h_1 => exact Sl7.keep ha h k
  case h_2 => exact Sl7.keep ha h k
  case h_3 => exact Sl7.keep ha h k
  case h_4 => exact Sl7.keep ha h k
  case h_5 => exact Sl7.keep ha h k
  case h_6 => exact Sl7.keep ha h k
  case h_7 =>
    obtain ⟨g, e, h1, h2, h3⟩ := h
    refine ⟨g, e, h1, by omega, fun j hj => ?_⟩
    obtain ⟨u, hu, hS⟩ := h3 j hj
    exact ⟨u, (k.cell h2 (by simp only [At]; omega)).trans hu, hS.keep ha k⟩
  case h_8 => exact h
  case h_9 => exact h
  case h_10 =>
    obtain ⟨g, j, u, e, h1, h2, h3, hS⟩ := h
    exact ⟨g, j, u, e, h1, by omega, (k.cell h2 (by simp only [At]; omega)).trans h3, hS.keep ha k⟩
  case h_11 => trivial

set_option maxHeartbeats 2000000 in
theorem l20Reads_ (a B : Nat) (n : Int) (w : World) (h : Rdr w a B) (hB : B ≤ 1000) (h1 : 0 ≤ n) (hn : n ≤ 1000) :
    Calls Try.prog 31 #[.pointer (some ⟨a, 0, none⟩), .int .i64 n] w (DrawI 13 w a (B + 20)) := by
  obtain ⟨i0, hi0, hz0, hz1, hz2⟩ := info_parts int_info
  go_enter Try.func31, Try.ntmps31
  go_wp2_with fail
  refine (pick_ _ _ _ _ h (by omega) (by omega) (by omega)).mono ?_
  rintro e w1 ⟨v1, rfl, v1a, v1b, r1, k1, z1⟩
  go_wp2_with fail
  have o1 : OwnI (w1.alloc (.cells #[.int .i64 v1] 3)) w.heap.size (w1.heap.size + 1) (some ⟨w1.heap.size, 0, none⟩) 1 [v1] :=
    ⟨World.ownsRow_lit w1 #[.int .i64 v1] 1 (by have := k1.size; omega) (by decide) rfl, fun g hg => by simp [Value.ownBlock] at hg; omega, by simp⟩
  have k1' : Kp (At a) w (w1.alloc (.cells #[.int .i64 v1] 3)) := k1.alloc _
  have r1' := r1.keepNo ((Kp.refl No w1).alloc (.cells #[.int .i64 v1] 3))
  refine (pick_ _ _ _ _ r1' (by omega) (by omega) (by omega)).mono ?_
  rintro e w2 ⟨v2, rfl, v2a, v2b, r2, k2, z2⟩
  have o2 := o1.keep k2 (fun i hi _ e => by simp only [At] at e; have := h.lt; omega)
  have k12 : Kp (At a) w w2 := k1'.trans k2
  clear r1 r1' k1' o1 k2
  obtain ⟨m2, rfl⟩ := Int.eq_ofNat_of_zero_le v2a
  go_wp2_with fail
  go_loopw [5, 6] (fun v i wr => ∃ (m : Nat) (A : Option Addr) (c : Nat) (xs : List Int), i = .int .i64 m ∧ v = .slice A xs.length c ∧ OwnI wr w.heap.size wr.heap.size A c xs ∧ xs.length + m ≤ 6 ∧ Rdr wr a (B + 14 - 2 * m) ∧ Kp (At a) w wr) (fun _ i _ => (intOf i).toNat)
  case atStart => exact ⟨m2, _, _, [v1], rfl, rfl, o2.wide (Nat.le_refl _) (by simpa using o2.2.2) (Nat.le_refl _), by simp; omega, r2.le (by omega), k12⟩
  case round =>
    obtain ⟨m, A, c, xs, rfl, rfl, ho, hl, hr, hk⟩ := hrel
    clear o2 r2 k12
    have hsz := hk.size
    by_cases hm : 0 < m
    · go_wp2_with fail
      refine (pick_ _ _ _ _ hr (by omega) (by omega) (by omega)).mono ?_
      rintro e w3 ⟨v3, rfl, v3a, v3b, r3, k3, z3⟩
      have ho3 := ho.keep k3 (fun i hi _ e => by simp only [At] at e; have := h.lt; omega)
      have t3 := TabI.lit w3 w3.heap.size 3 [v3, 100, 99, 1000] #[.int .i64 v3, .int .i64 100, .int .i64 99, .int .i64 1000] rfl (fun _ => True) (by simp) (Nat.le_refl _)
      have r3' := r3.keepNo ((Kp.refl No w3).alloc (.cells #[.int .i64 v3, .int .i64 100, .int .i64 99, .int .i64 1000] 3))
      have ho3' := ho3.keepNo ((Kp.refl No w3).alloc (.cells #[.int .i64 v3, .int .i64 100, .int .i64 99, .int .i64 1000] 3))
      have k33 : Kp (At a) w (w3.alloc (.cells #[.int .i64 v3, .int .i64 100, .int .i64 99, .int .i64 1000] 3)) := (hk.trans k3).alloc _
      have hal := h.lt
      clear ho3 hr
      go_wp2_with fail
      refine (pick_ _ _ _ _ r3' (by omega) (by omega) (by omega)).mono ?_
      rintro e w5 ⟨v5, rfl, v5a, v5b, r5, k5, z5⟩
      obtain ⟨g, hg, hg1, hg2, hc5⟩ := t3.keep (show a < w3.heap.size by omega) k5
      obtain rfl : w3.heap.size = g := by injection hg with hg; injection hg with hg; injection hg
      obtain ⟨j, rfl⟩ := Int.eq_ofNat_of_zero_le v5a
      have hj4 : j < 4 := by omega
      obtain ⟨x, hx, _⟩ := hc5 j (by simpa using hj4)
      have ho5 := ho3'.keep k5 (fun i hi _ e => by simp only [At] at e; omega)
      have k35 := k33.trans k5
      clear hc5 hg t3 ho3' r3' r3 k33 k5 k3
      have z5' : w3.heap.size + 1 = w5.heap.size := by rw [← z5]; simp
      clear z5
      go_wp2_with (at_builtin; refine wpList_appI _ rfl _ _ rfl w.heap.size wr.heap.size A c xs rfl (ho5.keepNo ((Kp.refl _ _).alloc _)) _ _ _ _ [x] rfl (ints_lit _ _ _) (by simp; omega) (by simp; omega) ?_; intro A4 c4 w4 ho4 hk4)
      go_roundw
      case rel => exact ⟨m - 1, A4, c4, xs ++ [x], by go_num, by simp, ho4, by simp; omega, ((r5.keepNo ((Kp.refl _ _).alloc _)).keep hk4 (fun i hi e => by have := e.1; omega)).le (by omega), (k35.alloc _).also hk4 (fun i hi e => by have := e.1; omega)⟩
      case measure => simp [intOf]; omega
    · obtain rfl : m = 0 := by omega
      go_wp2_with fail
      refine (odd_ _ _ _ _ hr (by omega) h1 (by omega)).mono ?_
      rintro e w3 ⟨b, rfl, r3, k3, z3⟩
      have ho3 := ho.keep k3 (fun i hi _ e => by simp only [At] at e; have := h.lt; omega)
      have hk3 := hk.trans k3
      clear ho hr hk k3
      cases b
      · go_wp2_with fail
        go_ret
        exact ⟨A, c, xs, rfl, ho3.wide (Nat.le_refl _) (by omega) (Nat.le_refl _), by omega, r3.le (by omega), hk3⟩
      · clear ho3
        have hmk : ∀ w, (Instr.makeSlice 22 (.int .i64 13) (.int .i64 13)).run Try.prog w = .ok (.slice (some ⟨w.heap.size, 0, none⟩) 13 13) (w.alloc (.cells #[.int .i64 0, .int .i64 0, .int .i64 0, .int .i64 0, .int .i64 0, .int .i64 0, .int .i64 0, .int .i64 0, .int .i64 0, .int .i64 0, .int .i64 0, .int .i64 0, .int .i64 0] 3)) := fun _ => by kernel_rfl
        go_wp2_with fail
        refine wp_region_facts [4, 29, 30, 31, 32, 33, 34, 35, 36, 37] (Kp (At a)) (fun L wx => Kp (At a) w wx ∧ Rdr wx a (if L 6 = true then B + 20 else B + 19)) (F7 w a) (by kernel_rfl) (by kernel_rfl) (by kernel_rfl) (by simp) ?mono ?start ?steps ?fin
        case mono => exact fun j v w1 w2 hR hF => F7.keep h.lt j v w1 w2 hR hF
        case start => exact ⟨hk3.drew, by simpa using (r3.le (show _ ≤ B + 19 by omega)).keepNo ((Kp.refl _ _).drew)⟩
        case steps =>
          refine ⟨?s0, ?s1, ?s2, ?s3, ?s4, ?s5, ?s6, ?s7, ?s8, ?s9, trivial⟩
          case s0 =>
            intro L s fr wx hin hout hL hG haft K hK
            clear haft hin hout
            go_simp
            exact hK 29 rfl _ _ ((Kp.refl _ _).alloc _) ⟨hG.1.alloc _, by simpa [upd] using hG.2.keepNo ((Kp.refl _ _).alloc _)⟩
              ⟨some ⟨wx.heap.size, 0, none⟩, 0, [], rfl, Own.of (World.ownsRow_lit wx #[] 0 hG.1.size (by decide) rfl), by simp⟩
          case s4 =>
            intro L s fr wx hin hout hL hG haft K hK
            obtain ⟨A0, c0, y0, e0, o0, l0⟩ : Sl7 w (s 29) wx := (haft ⟨0, .data⟩ (by simp) rfl).2
            obtain ⟨A1, c1, y1, e1, o1, l1⟩ : Sl7 w (s 30) wx := (haft ⟨1, .data⟩ (by simp) rfl).2
            obtain ⟨A2, c2, y2, e2, o2, l2⟩ : Sl7 w (s 31) wx := (haft ⟨2, .data⟩ (by simp) rfl).2
            obtain ⟨A3, c3, y3, e3, o3, l3⟩ : Sl7 w (s 32) wx := (haft ⟨3, .data⟩ (by simp) rfl).2
            have g0 := hin 29 (by simp); have g1 := hin 30 (by simp); have g2 := hin 31 (by simp); have g3 := hin 32 (by simp)
            rw [e0] at g0; rw [e1] at g1; rw [e2] at g2; rw [e3] at g3
            clear haft hin hout e0 e1 e2 e3
            go_simp
            have k4 : Kp (At a) wx (wx.alloc (.cells #[.slice A0 y0.length c0, .slice A1 y1.length c1, .slice A2 y2.length c2, .slice A3 y3.length c3] 22)) := (Kp.refl _ _).alloc _
            refine hK 33 rfl _ _ k4 ⟨hG.1.alloc _, by simpa [upd] using hG.2.keepNo ((Kp.refl _ _).alloc _)⟩ ⟨wx.heap.size, rfl, hG.1.size, by simp, fun j hj => ?_⟩
            have hcases : j = 0 ∨ j = 1 ∨ j = 2 ∨ j = 3 := by omega
            rcases hcases with rfl | rfl | rfl | rfl
            · exact ⟨_, by simp, Sl7.keep h.lt ⟨A0, c0, y0, rfl, o0, l0⟩ k4⟩
            · exact ⟨_, by simp, Sl7.keep h.lt ⟨A1, c1, y1, rfl, o1, l1⟩ k4⟩
            · exact ⟨_, by simp, Sl7.keep h.lt ⟨A2, c2, y2, rfl, o2, l2⟩ k4⟩
            · exact ⟨_, by simp, Sl7.keep h.lt ⟨A3, c3, y3, rfl, o3, l3⟩ k4⟩
          case s1 =>
            intro L s fr wx hin hout hL hG haft K hK
            clear haft hin hout
            go_simp
            exact hK 30 rfl _ _ ((Kp.refl _ _).alloc _) ⟨hG.1.alloc _, by simpa [upd] using hG.2.keepNo ((Kp.refl _ _).alloc _)⟩
              ⟨some ⟨wx.heap.size, 0, none⟩, 1, [-1], rfl, Own.of (World.ownsRow_lit wx #[.int .i64 (-1)] 1 hG.1.size (by decide) rfl), by simp⟩
          case s2 =>
            intro L s fr wx hin hout hL hG haft K hK
            clear haft hin hout
            go_simp
            exact hK 31 rfl _ _ ((Kp.refl _ _).alloc _) ⟨hG.1.alloc _, by simpa [upd] using hG.2.keepNo ((Kp.refl _ _).alloc _)⟩
              ⟨some ⟨wx.heap.size, 0, none⟩, 1, [1001], rfl, Own.of (World.ownsRow_lit wx #[.int .i64 1001] 1 hG.1.size (by decide) rfl), by simp⟩
          case s3 =>
            intro L s fr wx hin hout hL hG haft K hK
            clear haft hin hout
            go_simp
            exact hK 32 rfl _ _ ((Kp.refl _ _).alloc _) ⟨hG.1.alloc _, by simpa [upd] using hG.2.keepNo ((Kp.refl _ _).alloc _)⟩
              ⟨some ⟨wx.heap.size, 0, none⟩, 13, [0, 0, 0, 0, 0, 0, 0, 0, 0, 0, 0, 0, 0], rfl, Own.of (World.ownsRow_lit wx #[.int .i64 0, .int .i64 0, .int .i64 0, .int .i64 0, .int .i64 0, .int .i64 0, .int .i64 0, .int .i64 0, .int .i64 0, .int .i64 0, .int .i64 0, .int .i64 0, .int .i64 0] 13 hG.1.size (by decide) rfl), by simp⟩
          case s5 =>
            intro L s fr wx hin hout hL hG haft K hK
            have g0 := hout 0 (by simp)
            simp at g0
            clear haft hin hout
            go_simp
            exact hK 34 rfl _ _ (Kp.refl _ _) (by simpa [upd] using hG) rfl
          case s6 =>
            intro L s fr wx hin hout hL hG haft K hK
            have e5 : s 34 = .pointer (some ⟨a, 0, none⟩) := (haft ⟨5, .data⟩ (by simp) rfl).2
            have g0 := hin 34 (by simp)
            rw [e5] at g0
            have hG2 := hG.2
            rw [hL] at hG2
            clear haft hin hout e5
            go_simp
            refine (pick_ a (B + 19) 4 _ (by simpa using hG2) (by omega) (by omega) (by omega)).mono ?_
            rintro e w5 ⟨v5, rfl, v5a, v5b, r5, k5, z5⟩
            exact hK 35 rfl _ _ k5 ⟨hG.1.trans k5, by simpa [upd] using r5⟩ ⟨v5, rfl, v5a, v5b⟩
          case s7 =>
            intro L s fr wx hin hout hL hG haft K hK
            obtain ⟨g, e4, hg1, hg2, hc4⟩ : F7 w a 4 (s 33) wx := (haft ⟨4, .data⟩ (by simp) rfl).2
            obtain ⟨v, e6, v0, v1'⟩ : F7 w a 6 (s 35) wx := (haft ⟨6, .data⟩ (by simp) rfl).2
            obtain ⟨j, rfl⟩ := Int.eq_ofNat_of_zero_le v0
            have g4 := hin 33 (by simp); have g6 := hin 35 (by simp)
            rw [e4] at g4; rw [e6] at g6
            obtain ⟨u, hu, hS⟩ := hc4 j (by omega)
            clear haft hin hout e4 e6 hc4
            go_simp
            exact hK 36 rfl _ _ (Kp.refl _ _) (by simpa [upd] using hG) ⟨g, j, u, rfl, hg1, hg2, hu, hS⟩
          case s8 =>
            intro L s fr wx hin hout hL hG haft K hK
            obtain ⟨g, j, u, e7, hg1, hg2, hu, A0, c0, y0, rfl, o0, l0⟩ : F7 w a 7 (s 36) wx := (haft ⟨7, .data⟩ (by simp) rfl).2
            have g7 := hin 36 (by simp)
            rw [e7] at g7
            clear haft hin hout e7
            go_simp
            exact hK 37 rfl _ _ (Kp.refl _ _) (by simpa [upd] using hG) ⟨A0, c0, y0, rfl, o0, l0⟩
          case s9 =>
            intro L s fr wx hin hout hL hG haft K hK
            obtain ⟨A0, c0, y0, e8, o0, l0⟩ : Sl7 w (s 37) wx := (haft ⟨8, .data⟩ (by simp) rfl).2
            have g7 := hin 37 (by simp)
            rw [e8] at g7
            clear haft hin hout e8
            go_simp
            exact hK 4 rfl _ _ (Kp.refl _ _) (by simpa [upd] using hG) ⟨A0, c0, y0, rfl, o0, l0⟩
        case fin =>
          intro L s wx hL hG hF
          obtain ⟨A0, c0, y0, e8, o0, l0⟩ : Sl7 w (s 4) wx := hF 9 (by decide)
          have hL6 := hL 6 (by decide)
          have hR := hG.2
          rw [hL6] at hR
          simp only [frameOf, List.foldl]
          rw [e8]
          go_wp2_with fail
          go_ret
          exact ⟨A0, c0, y0, rfl, o0, l0, by simpa using hR, hG.1⟩
end Go.Proofs.Ytelbcicdophagaa
