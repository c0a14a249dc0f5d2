/- l20Span, l20Spans and the draws: some span, some spans come out. -/
import Derived.Test.YtjjglggfkbbhfaaDraw
import Derived.Test.YtjjglggfkbbhfaaPairsApp
import Derived.Test.YtjjglggfkbbhfaaTrimA
import Derived.WalkKit
import Derived.WalkSpells
import Derived.WalkLawsBesides
import Derived.Outline
namespace Go.Proofs.Ytjjglggfkbbhfaa
open Go.RowKit
set_option linter.unusedVariables false

/-- A variable of two ints in block b. -/
def Box2 (w : World) (b : Nat) (x y : Int) : Prop := w.cell? ⟨b, 0, none⟩ = some (.int .i64 x) ∧ w.cell? ⟨b, 1, none⟩ = some (.int .i64 y) ∧ w.frozen? ⟨b, 0, none⟩ = false ∧ w.frozen? ⟨b, 1, none⟩ = false ∧ b < w.heap.size
theorem Box2.new (w : World) (t : TypeId) (x y : Int) : Box2 (w.alloc (.cells #[.int .i64 x, .int .i64 y] t)) w.heap.size x y := by
  refine ⟨by simp, by simp, by simp, by simp, by simp⟩
theorem Box2.keep {w w' : World} {S : Nat → Prop} {b : Nat} {x y : Int} (h : Box2 w b x y) (k : Kp S w w') (hn : ¬ S b) : Box2 w' b x y :=
  ⟨(k.cell (p := ⟨b, 0, none⟩) h.2.2.2.2 hn).trans h.1, (k.cell (p := ⟨b, 1, none⟩) h.2.2.2.2 hn).trans h.2.1, (k.frozen (p := ⟨b, 0, none⟩) h.2.2.2.2 hn).trans h.2.2.1, (k.frozen (p := ⟨b, 1, none⟩) h.2.2.2.2 hn).trans h.2.2.2.1, Nat.lt_of_lt_of_le h.2.2.2.2 k.size⟩
theorem Box2.keepNo {w w' : World} {b : Nat} {x y : Int} (h : Box2 w b x y) (k : Kp No w w') : Box2 w' b x y := h.keep k (fun e => e)

theorem Box2.set {w : World} {b : Nat} {x y : Int} (h : Box2 w b x y) (x' y' : Int) : Box2 ((w.setCell ⟨b, 0, none⟩ (.int .i64 x')).setCell ⟨b, 1, none⟩ (.int .i64 y')) b x' y' := by
  obtain ⟨h0, h1, f0, f1, hl⟩ := h
  have e1 : (w.setCell ⟨b, 0, none⟩ (.int .i64 x')).cell? ⟨b, 1, none⟩ = some (.int .i64 y) := by rw [World.cell?_setCell_other _ _ _ _ (by simp)]; exact h1
  refine ⟨?_, World.cell?_setCell_same _ _ _ e1, by simpa using f0, by simpa using f1, by simpa [World.setCell] using hl⟩
  rw [World.cell?_setCell_other _ _ _ _ (by simp)]
  exact World.cell?_setCell_same _ _ _ h0

theorem Kp.set2 (w : World) (b : Nat) (u v : Value) : Kp (At b) w ((w.setCell ⟨b, 0, none⟩ u).setCell ⟨b, 1, none⟩ v) :=
  Kp.setCell (Kp.setCell (Kp.refl (At b) w) (p := ⟨b, 0, none⟩) (fun _ => (rfl : b = b)) u) (p := ⟨b, 1, none⟩) (fun _ => (rfl : b = b)) v

/-- What a draw leaves: some pair. -/
def DrawS (w : World) (a B : Nat) (e : Ending) (w' : World) : Prop := ∃ x y : Int, e = .returned (.agg #[.int .i64 x, .int .i64 y]) ∧ Rdr w' a B ∧ Kp (At a) w w'
/-- What a draw leaves: some own slice of at most L pairs. -/
def DrawP (L : Nat) (w : World) (a B : Nat) (e : Ending) (w' : World) : Prop :=
  ∃ A c ps, e = .returned (.slice A (ps : List (Int × Int)).length c) ∧ OwnP w' w.heap.size w'.heap.size A c ps ∧ ps.length ≤ L ∧ Rdr w' a B ∧ Kp (At a) w w'

set_option maxHeartbeats 2000000 in
theorem l20Span_ (a B : Nat) (n : Int) (w : World) (h : Rdr w a B) (hB : B ≤ 100000) (h1 : 0 ≤ n) (hn : n ≤ 1000) :
    Calls Try.prog 42 #[.pointer (some ⟨a, 0, none⟩), .int .i64 n] w (DrawS w a (B + 3)) := by
  have hal := h.lt
  have r0 := h.keepNo ((Kp.refl No w).alloc (.cells #[.int .i64 0, .int .i64 0] 25))
  have k0 : Kp (At a) w (w.alloc (.cells #[.int .i64 0, .int .i64 0] 25)) := (Kp.refl _ _).alloc _
  have b0 := Box2.new w 25 0 0
  have hna : ¬ At a w.heap.size := by simp only [At]; omega
  go_enter Try.func42, Try.ntmps42
  go_wp2_with fail
  refine (pick_ _ _ _ _ r0 (by omega) (by omega) (by omega)).mono ?_
  rintro e w1 ⟨v1, rfl, v1a, v1b, r1, k1, z1⟩
  have z1' : w.heap.size + 1 = w1.heap.size := by rw [← z1]; simp
  clear z1 r0
  go_wp2_with fail
  refine (odd_ _ _ _ _ r1 (by omega) (by omega) (by omega)).mono ?_
  rintro e w2 ⟨b, rfl, r2, k2, z2⟩
  have k12 := k0.trans (k1.trans k2)
  have b2 := (b0.keep k1 hna).keep k2 hna
  clear r1 k1 k2 b0 k0
  cases b
  · go_wp2_with fail
    refine (pick_ _ _ _ _ r2 (by omega) (by omega) (by omega)).mono ?_
    rintro e w3 ⟨v3, rfl, v3a, v3b, r3, k3, z3⟩
    have k13 := k12.trans k3
    have b3 := b2.keep k3 hna
    clear b2
    by_cases hmin : v1 + 1 + v3 < 60
    · have d3 := b3.set (v1) (v1 + 1 + v3)
      have ks : Kp (At w.heap.size) w3 ((w3.setCell ⟨w.heap.size, 0, none⟩ (.int .i64 (v1))).setCell ⟨w.heap.size, 1, none⟩ (.int .i64 (v1 + 1 + v3))) := Kp.set2 _ _ _ _
      obtain ⟨c0, c1, f0, f1, _⟩ := b3
      go_wp2_with fail
      exact bodyPost_ret (v := .agg #[.int .i64 (v1), .int .i64 (v1 + 1 + v3)]) (by simp [results, Try.results42, go_sem, d3.1, d3.2.1]) rfl ⟨v1, v1 + 1 + v3, rfl, (r3.keep ks (fun i hi e => by simp only [At] at e; omega)).le (by omega), k13.also ks (fun i hi e => by simp only [At] at e; omega)⟩
    · omega
  · have r2' := r2.keepNo ((Kp.refl No w2).alloc (.cells #[.int .i64 0, .int .i64 0, .int .i64 5, .int .i64 5, .int .i64 (-1), .int .i64 5, .int .i64 5, .int .i64 61] 25))
    have k2' : Kp (At a) w (w2.alloc (.cells #[.int .i64 0, .int .i64 0, .int .i64 5, .int .i64 5, .int .i64 (-1), .int .i64 5, .int .i64 5, .int .i64 61] 25)) := k12.alloc _
    have b2' := b2.keepNo ((Kp.refl No w2).alloc (.cells #[.int .i64 0, .int .i64 0, .int .i64 5, .int .i64 5, .int .i64 (-1), .int .i64 5, .int .i64 5, .int .i64 61] 25))
    have hna2 : ¬ At a w2.heap.size := by simp only [At]; omega
    go_wp2_with fail
    refine (pick_ _ _ _ _ r2' (by omega) (by omega) (by omega)).mono ?_
    rintro e w3 ⟨v3, rfl, v3a, v3b, r3, k3, z3⟩
    have k13 := k2'.trans k3
    have b3 := b2'.keep k3 hna
    have tc : ∀ j, w3.cell? ⟨w2.heap.size, j, none⟩ = (w2.alloc (.cells #[.int .i64 0, .int .i64 0, .int .i64 5, .int .i64 5, .int .i64 (-1), .int .i64 5, .int .i64 5, .int .i64 61] 25)).cell? ⟨w2.heap.size, j, none⟩ := fun j => k3.cell (p := ⟨w2.heap.size, j, none⟩) (by simp) hna2
    clear b2 b2' r2 r2' k2'
    have hv : v3 = 0 ∨ v3 = 1 ∨ v3 = 2 ∨ v3 = 3 := by omega
    rcases hv with rfl | rfl | rfl | rfl
    · have t0 : w3.cell? ⟨w2.heap.size, 0, none⟩ = some (.int .i64 0) := (tc 0).trans (by simp)
      have t1 : w3.cell? ⟨w2.heap.size, 1, none⟩ = some (.int .i64 0) := (tc 1).trans (by simp)
      clear tc
      have d3 := b3.set (0) (0)
      have ks : Kp (At w.heap.size) w3 ((w3.setCell ⟨w.heap.size, 0, none⟩ (.int .i64 (0))).setCell ⟨w.heap.size, 1, none⟩ (.int .i64 (0))) := Kp.set2 _ _ _ _
      obtain ⟨c0, c1, f0, f1, _⟩ := b3
      go_wp2_with fail
      exact bodyPost_ret (v := .agg #[.int .i64 (0), .int .i64 (0)]) (by simp [results, Try.results42, go_sem, d3.1, d3.2.1]) rfl ⟨0, 0, rfl, (r3.keep ks (fun i hi e => by simp only [At] at e; omega)).le (by omega), k13.also ks (fun i hi e => by simp only [At] at e; omega)⟩
    · have t0 : w3.cell? ⟨w2.heap.size, 2, none⟩ = some (.int .i64 5) := (tc 2).trans (by simp)
      have t1 : w3.cell? ⟨w2.heap.size, 3, none⟩ = some (.int .i64 5) := (tc 3).trans (by simp)
      clear tc
      have d3 := b3.set (5) (5)
      have ks : Kp (At w.heap.size) w3 ((w3.setCell ⟨w.heap.size, 0, none⟩ (.int .i64 (5))).setCell ⟨w.heap.size, 1, none⟩ (.int .i64 (5))) := Kp.set2 _ _ _ _
      obtain ⟨c0, c1, f0, f1, _⟩ := b3
      go_wp2_with fail
      exact bodyPost_ret (v := .agg #[.int .i64 (5), .int .i64 (5)]) (by simp [results, Try.results42, go_sem, d3.1, d3.2.1]) rfl ⟨5, 5, rfl, (r3.keep ks (fun i hi e => by simp only [At] at e; omega)).le (by omega), k13.also ks (fun i hi e => by simp only [At] at e; omega)⟩
    · have t0 : w3.cell? ⟨w2.heap.size, 4, none⟩ = some (.int .i64 (-1)) := (tc 4).trans (by simp)
      have t1 : w3.cell? ⟨w2.heap.size, 5, none⟩ = some (.int .i64 5) := (tc 5).trans (by simp)
      clear tc
      have d3 := b3.set (-1) (5)
      have ks : Kp (At w.heap.size) w3 ((w3.setCell ⟨w.heap.size, 0, none⟩ (.int .i64 (-1))).setCell ⟨w.heap.size, 1, none⟩ (.int .i64 (5))) := Kp.set2 _ _ _ _
      obtain ⟨c0, c1, f0, f1, _⟩ := b3
      go_wp2_with fail
      exact bodyPost_ret (v := .agg #[.int .i64 (-1), .int .i64 (5)]) (by simp [results, Try.results42, go_sem, d3.1, d3.2.1]) rfl ⟨-1, 5, rfl, (r3.keep ks (fun i hi e => by simp only [At] at e; omega)).le (by omega), k13.also ks (fun i hi e => by simp only [At] at e; omega)⟩
    · have t0 : w3.cell? ⟨w2.heap.size, 6, none⟩ = some (.int .i64 5) := (tc 6).trans (by simp)
      have t1 : w3.cell? ⟨w2.heap.size, 7, none⟩ = some (.int .i64 61) := (tc 7).trans (by simp)
      clear tc
      have d3 := b3.set (5) (61)
      have ks : Kp (At w.heap.size) w3 ((w3.setCell ⟨w.heap.size, 0, none⟩ (.int .i64 (5))).setCell ⟨w.heap.size, 1, none⟩ (.int .i64 (61))) := Kp.set2 _ _ _ _
      obtain ⟨c0, c1, f0, f1, _⟩ := b3
      go_wp2_with fail
      exact bodyPost_ret (v := .agg #[.int .i64 (5), .int .i64 (61)]) (by simp [results, Try.results42, go_sem, d3.1, d3.2.1]) rfl ⟨5, 61, rfl, (r3.keep ks (fun i hi e => by simp only [At] at e; omega)).le (by omega), k13.also ks (fun i hi e => by simp only [At] at e; omega)⟩

set_option maxHeartbeats 4000000 in
theorem l20Spans_ (a B : Nat) (n : Int) (w : World) (h : Rdr w a B) (hB : B ≤ 10000) (h1 : 0 ≤ n) (hn : n ≤ 1000) :
    Calls Try.prog 46 #[.pointer (some ⟨a, 0, none⟩), .int .i64 n] w (DrawP 11 w a (B + 40)) := by
  have hal := h.lt
  have r0 := h.keepNo ((Kp.refl No w).alloc (.cells #[] 25))
  have k0 : Kp (At a) w (w.alloc (.cells #[] 25)) := (Kp.refl _ _).alloc _
  have o0 := ownP_lit w w.heap.size #[] [] rfl (Nat.le_refl _) (by simp)
  go_enter Try.func46, Try.ntmps46
  go_wp2_with fail
  refine (pick_ _ _ _ _ r0 (by omega) (by omega) (by omega)).mono ?_
  rintro e w1 ⟨v1, rfl, v1a, v1b, r1, k1, z1⟩
  have o1 := o0.keep k1 (fun i hi _ e => by simp only [At] at e; omega)
  have k01 := k0.trans k1
  obtain ⟨m1, rfl⟩ := Int.eq_ofNat_of_zero_le v1a
  clear r0 k0 o0 k1
  go_wp2_with fail
  go_loopw [5, 6] (fun v i wr => ∃ (m : Nat) (A : Option Addr) (c : Nat) (ps : List (Int × Int)), i = .int .i64 m ∧ m ≤ 8 ∧ v = .slice A ps.length c ∧ OwnP wr w.heap.size wr.heap.size A c ps ∧ ps.length ≤ 10 ∧ Rdr wr a (B + 1 + 3 * (8 - m)) ∧ Kp (At a) w wr) (fun _ i _ => (intOf i).toNat)
  case atStart => exact ⟨m1, _, _, [], rfl, by omega, rfl, o1.wide (Nat.le_refl _) o1.2.2 (Nat.le_refl _), by simp, r1.le (by omega), k01⟩
  case round =>
    clear r1 k01 o1
    obtain ⟨m, A, c, ps, rfl, hm8, rfl, ho, hl, hr, hk⟩ := hrel
    by_cases hm : 0 < m
    · go_wp2_with fail
      refine (l20Span_ _ _ _ _ hr (by omega) (by omega) (by omega)).mono ?_
      rintro e w2 ⟨x, y, rfl, r2, k2⟩
      have ho2 := ho.keep k2 (fun i hi _ e => by simp only [At] at e; omega)
      go_wp2_with fail
      refine (trimAdd_spec _ _ _ _ _ _ _ _ ho2.prs (by omega)).mono ?_
      rintro e w3 ⟨A3, c3, rfl, o3, k3⟩
      have hs1 := hk.size; have hs2 := k2.size
      go_wp2_with fail
      go_roundw
      case rel => exact ⟨m - 1, A3, c3, _, by go_num, by omega, rfl, o3.wide (by omega) (Nat.le_refl _) (Nat.le_refl _), trimWith_len _ _ _, (r2.keepNo k3).le (by omega), (hk.trans k2).alsoNo k3⟩
      case measure => simp [intOf]; omega
    · obtain rfl : m = 0 := by omega
      go_wp2_with fail
      refine (odd_ _ _ _ _ hr (by omega) (by omega) (by omega)).mono ?_
      rintro e w2 ⟨b, rfl, r2, k2, z2⟩
      have hk2 := hk.trans k2
      have ho2 := ho.keep k2 (fun i hi _ e => by simp only [At] at e; omega)
      have hs1 := hk.size
      clear ho hr hk k2
      cases b
      · go_wp2_with fail
        refine (odd_ _ _ _ _ r2 (by omega) (by omega) (by omega)).mono ?_
        rintro e w5 ⟨b5, rfl, r5, k5, z5⟩
        have ho5 := ho2.keep k5 (fun i hi _ e => by simp only [At] at e; omega)
        have hk5 := hk2.trans k5
        have hs5 := hk5.size
        clear ho2 r2 hk2 k5
        cases b5
        · go_wp2_with fail
          go_ret
          exact ⟨_, _, _, rfl, ho5.wide (Nat.le_refl _) (by omega) (Nat.le_refl _), by omega, r5.le (by omega), hk5⟩
        · go_wp2_with fail
          refine (l20Span_ _ _ _ _ r5 (by omega) (by omega) (by omega)).mono ?_
          rintro e w6 ⟨x6, y6, rfl, r6, k6⟩
          have ho6 := ho5.keep k6 (fun i hi _ e => by simp only [At] at e; omega)
          have hk6 := hk5.trans k6
          have hs6 := hk6.size
          clear ho5 r5 hk5
          go_wp2_with (at_builtin; refine wpList_appP _ rfl _ _ rfl w.heap.size _ _ _ _ rfl (ho6.keepNo ((Kp.refl _ _).alloc _)) _ _ _ _ [(x6, y6)] rfl (prs_lit _ _ _ _) (by simp; omega) (by simp; omega) ?_; intro A7 c7 w7 ho7 hk7)
          go_ret
          exact ⟨A7, c7, _ ++ [(x6, y6)], by simp, ho7, by simp; omega, ((r6.keepNo ((Kp.refl _ _).alloc _)).keep hk7 (fun i hi e => by have := e.1; omega)).le (by omega), (hk6.alloc _).also hk7 (fun i hi e => by have := e.1; omega)⟩
      · have on := ownP_lit w2 w.heap.size #[] [] rfl (by omega) (by simp)
        have rn := r2.keepNo ((Kp.refl No w2).alloc (.cells #[] 25))
        have kn : Kp (At a) w (w2.alloc (.cells #[] 25)) := hk2.alloc _
        clear ho2 r2 hk2
        go_wp2_with fail
        go_loopw [5, 9] (fun v i wr => ∃ (k : Nat) (A : Option Addr) (c : Nat) (ps : List (Int × Int)), i = .int .i64 k ∧ k ≤ 10 ∧ v = .slice A ps.length c ∧ OwnP wr w.heap.size wr.heap.size A c ps ∧ ps.length ≤ k ∧ Rdr wr a (B + 30) ∧ Kp (At a) w wr) (fun _ i _ => 10 - (intOf i).toNat)
        case atStart => exact ⟨0, _, _, [], rfl, by omega, rfl, on.wide (Nat.le_refl _) (by simp) (Nat.le_refl _), by simp, rn.le (by omega), kn⟩
        case round =>
          clear on rn kn
          obtain ⟨k, A, c, ps, rfl, hk10, rfl, ho, hl, hr, hk⟩ := hrel
          have hs1 := hk.size
          by_cases hlt : k < 10
          · go_wp2_with (at_builtin; refine wpList_appP _ rfl _ _ rfl w.heap.size wr.heap.size A c ps rfl (ho.keepNo ((Kp.refl _ _).alloc _)) _ _ _ _ [(5 * (k : Int), 5 * (k : Int) + 2)] rfl (prs_lit _ _ _ _) (by simp; omega) (by simp; omega) ?_; intro A4 c4 w4 ho4 hk4)
            go_roundw
            case rel => exact ⟨k + 1, A4, c4, ps ++ [(5 * (k : Int), 5 * (k : Int) + 2)], by go_num, by omega, by simp, ho4, by simp; omega, (hr.keepNo ((Kp.refl _ _).alloc _)).keep hk4 (fun i hi e => by have := e.1; omega), (hk.alloc _).also hk4 (fun i hi e => by have := e.1; omega)⟩
            case measure => simp [intOf]; omega
          · have hl10 : ps.length ≤ 10 := by omega
            go_wp2_with fail
            refine (odd_ _ _ _ _ hr (by omega) (by omega) (by omega)).mono ?_
            rintro e w5 ⟨b5, rfl, r5, k5, z5⟩
            have ho5 := ho.keep k5 (fun i hi _ e => by simp only [At] at e; omega)
            have hk5 := hk.trans k5
            have hs5 := hk5.size
            clear ho hr hk k5
            cases b5
            · go_wp2_with fail
              go_ret
              exact ⟨_, _, _, rfl, ho5.wide (Nat.le_refl _) (by omega) (Nat.le_refl _), by omega, r5.le (by omega), hk5⟩
            · go_wp2_with fail
              refine (l20Span_ _ _ _ _ r5 (by omega) (by omega) (by omega)).mono ?_
              rintro e w6 ⟨x6, y6, rfl, r6, k6⟩
              have ho6 := ho5.keep k6 (fun i hi _ e => by simp only [At] at e; omega)
              have hk6 := hk5.trans k6
              have hs6 := hk6.size
              clear ho5 r5 hk5
              go_wp2_with (at_builtin; refine wpList_appP _ rfl _ _ rfl w.heap.size _ _ _ _ rfl (ho6.keepNo ((Kp.refl _ _).alloc _)) _ _ _ _ [(x6, y6)] rfl (prs_lit _ _ _ _) (by simp; omega) (by simp; omega) ?_; intro A7 c7 w7 ho7 hk7)
              go_ret
              exact ⟨A7, c7, _ ++ [(x6, y6)], by simp, ho7, by simp; omega, ((r6.keepNo ((Kp.refl _ _).alloc _)).keep hk7 (fun i hi e => by have := e.1; omega)).le (by omega), (hk6.alloc _).also hk7 (fun i hi e => by have := e.1; omega)⟩
end Go.Proofs.Ytjjglggfkbbhfaa
