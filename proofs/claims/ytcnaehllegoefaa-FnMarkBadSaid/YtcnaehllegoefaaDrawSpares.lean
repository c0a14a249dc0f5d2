/- l20Spares, DrawSpareOf and DrawMarkBad: some spares and some block come out. -/
import Derived.Test.YtcnaehllegoefaaTab
import Derived.Test.YtcnaehllegoefaaSparesMath
import Derived.Deep.RegionHeld3
namespace Go.Proofs.Ytcnaehllegoefaa
open Go.RowKit
set_option linter.unusedVariables false

theorem Kp.shift {S : Nat → Prop} {w w' w'' : World} (h : Kp S w w') (k : Kp No w' w'') : Kp S w w'' := h.alsoNo k

theorem ints_lits (w : World) (xs : List Int) (cs : Array Value) (t : TypeId) (h : cs.toList = xs.map (Value.int .i64)) : Ints (w.alloc (.cells cs t)) w.heap.size (w.heap.size + 1) (some ⟨w.heap.size, 0, none⟩) xs := by
  refine ⟨by simp, by simp, fun _ => ⟨_, 0, rfl, Nat.le_refl _, by omega, fun j u hj => ?_⟩⟩
  have hb : (w.alloc (.cells cs t)).heap[w.heap.size]? = some (.cells cs t (0, 0)) := heap_alloc_new w _
  rw [Nat.zero_add, cell_of_row _ _ j cs t (0, 0) hb, ← Array.getElem?_toList, h, hj]
/-- After the mark: the spares lie in the box b7. -/
def Aft (w W : World) (a Bd b7 : Nat) (B X : Int) (A : Option Addr) (ys : List Int) (c : Nat) : Prop :=
  Kp (At a) w W ∧ BoxS W w.heap.size 0 0 none 0 0 ∧ (∃ A0 n0 c0, BoxS W (w.heap.size + 1) B X A0 n0 c0) ∧ BoxS W b7 B X A ys.length c ∧ Ints W (w.heap.size + 2) W.heap.size A ys ∧ Rdr W a Bd ∧ w.heap.size + 2 ≤ b7
theorem Aft.late {w wr w5 w6 : World} {a Bd n c c6 : Nat} {B X : Int} {A A6 : Option Addr} {ys : List Int} (t : TypeId) (hal : a < w.heap.size) (hk : Kp (At a) w wr) (kq : Kp (At a) wr w5) (q6 : Kp No w5 w6) (hb : BoxS wr w.heap.size 0 0 none 0 0)
    (hs : BoxS wr (w.heap.size + 1) B X A n c) (o6 : OwnI w6 w5.heap.size w6.heap.size A6 c6 ys) (r5 : Rdr w5 a Bd) : Aft w (w6.alloc (.cells #[.int .i64 B, .int .i64 X, .slice A6 ys.length c6] t)) a Bd w6.heap.size B X A6 ys c6 := by
  have s1 := hs.2.2.2.2.2.2
  have s2 := kq.size
  have s3 := q6.size
  have ka : Kp No w6 (w6.alloc (.cells #[.int .i64 B, .int .i64 X, .slice A6 ys.length c6] t)) := (Kp.refl _ _).alloc _
  have q := q6.trans ka
  refine ⟨(hk.trans kq).alsoNo q, (hb.keep kq (fun e => by simp only [At] at e; omega)).keepNo q, ⟨_, _, _, (hs.keep kq (fun e => by simp only [At] at e; omega)).keepNo q⟩, BoxS.new _ _ _ _ _ _ _, (o6.ints.keepNo ka).wide (by omega) (by simp) (Nat.le_refl _), r5.keepNo q, by omega⟩
theorem Aft.soon {w wr w5 w6 : World} {a Bd n c c6 b7 lo6 : Nat} {B X : Int} {A A6 : Option Addr} {ys : List Int} (hal : a < w.heap.size) (hk : Kp (At a) w wr) (kq : Kp (At a) wr w5) (q6 : Kp No w5 w6) (hb : BoxS wr w.heap.size 0 0 none 0 0)
    (hs : BoxS wr (w.heap.size + 1) B X A n c) (o6 : OwnI w6 lo6 w6.heap.size A6 c6 ys) (r5 : Rdr w5 a Bd) (bx : BoxS w6 b7 0 0 none 0 0) (h1 : b7 < lo6) (h2 : w.heap.size + 2 ≤ b7) :
    Aft w (((w6.setCell ⟨b7, 0, none⟩ (.int .i64 B)).setCell ⟨b7, 1, none⟩ (.int .i64 X)).setCell ⟨b7, 2, none⟩ (.slice A6 ys.length c6)) a Bd b7 B X A6 ys c6 := by
  have s1 := hs.2.2.2.2.2.2
  have s2 := kq.size
  have s3 := q6.size
  have s4 := bx.2.2.2.2.2.2
  have ks := Kp.set3 w6 b7 (.int .i64 B) (.int .i64 X) (.slice A6 ys.length c6)
  have s5 := ks.size
  refine ⟨((hk.trans kq).alsoNo q6).also ks (fun i hi e => by simp only [At] at e; omega), ((hb.keep kq (fun e => by simp only [At] at e; omega)).keepNo q6).keep ks (fun e => by simp only [At] at e; omega),
    ⟨_, _, _, ((hs.keep kq (fun e => by simp only [At] at e; omega)).keepNo q6).keep ks (fun e => by simp only [At] at e; omega)⟩, bx.set B X A6 ys.length c6, (o6.ints.keep ks (fun i h1 _ e => by simp only [At] at e; omega)).wide (by omega) s5 (Nat.le_refl _), (r5.keepNo q6).keep ks (fun i hi e => by simp only [At] at e; omega), h2⟩

set_option maxHeartbeats 8000000 in
theorem l20Spares_ (a Bd : Nat) (n : Int) (w : World) (h : Rdr w a Bd) (hB : Bd ≤ 10000) (h1 : 0 ≤ n) (hn : n ≤ 1000) :
    Calls Try.prog 56 #[.pointer (some ⟨a, 0, none⟩), .int .i64 n] w (fun e w' => ∃ B X A c xs, e = .returned (.agg #[.int .i64 B, .int .i64 X, .slice A (xs : List Int).length c]) ∧ 0 ≤ B ∧ B ≤ 13 ∧ Ints w' w.heap.size w'.heap.size A xs ∧ xs.length ≤ c ∧ xs.length ≤ 12 ∧ Rdr w' a (Bd + 20) ∧ Kp (At a) w w') := by
  have hal := h.lt
  have r0 := h.keepNo ((Kp.refl No w).alloc (.cells #[.int .i64 0, .int .i64 0, .slice none 0 0] 42))
  have k0 : Kp (At a) w (w.alloc (.cells #[.int .i64 0, .int .i64 0, .slice none 0 0] 42)) := (Kp.refl _ _).alloc _
  have b0 := BoxS.new w 42 0 0 none 0 0
  have z0 : w.heap.size + 1 = (w.alloc (.cells #[.int .i64 0, .int .i64 0, .slice none 0 0] 42)).heap.size := by simp
  go_enter Try.func56, Try.ntmps56
  go_wp2_with fail
  refine (pick_ _ _ _ _ r0 (by omega) (by omega) (by omega)).mono ?_
  rintro e w1 ⟨v1, rfl, v1a, v1b, r1, k1, z1⟩
  have b1 := b0.keep k1 (fun e => by simp only [At] at e; omega)
  have k01 := k0.trans k1
  go_wp2_with fail
  refine (pick_ _ _ _ _ r1 (by omega) (by omega) (by omega)).mono ?_
  rintro e w2 ⟨v2, rfl, v2a, v2b, r2, k2, z2⟩
  have b2 := b1.keep k2 (fun e => by simp only [At] at e; omega)
  have k02 := k01.trans k2
  have z3 : w2.heap.size = w.heap.size + 1 := by omega
  have b3 := b2.keepNo ((Kp.refl No w2).alloc (.cells #[.int .i64 (1 + v1), .int .i64 v2, .slice none 0 0] 42))
  have s3 := BoxS.new w2 42 (1 + v1) v2 none 0 0
  have k03 := k02.alloc (.cells #[.int .i64 (1 + v1), .int .i64 v2, .slice none 0 0] 42)
  have r3 := r2.keepNo ((Kp.refl No w2).alloc (.cells #[.int .i64 (1 + v1), .int .i64 v2, .slice none 0 0] 42))
  have z4 : w.heap.size + 2 = (w2.alloc (.cells #[.int .i64 (1 + v1), .int .i64 v2, .slice none 0 0] 42)).heap.size := by simp; omega
  rw [z3] at s3
  clear b0 b1 b2 k0 k01 k02 k1 k2 r0 r1 r2 z0 z1 z2
  go_wp2_with fail
  refine (pick_ _ _ _ _ r3 (by omega) (by omega) (by omega)).mono ?_
  rintro e w4 ⟨v4, rfl, v4a, v4b, r4, k4, z5⟩
  have b4 := b3.keep k4 (fun e => by simp only [At] at e; omega)
  have s4 := s3.keep k4 (fun e => by simp only [At] at e; omega)
  have k04 := k03.trans k4
  have z6 : w4.heap.size = w.heap.size + 2 := by omega
  have hv0 : sparesB (1 + v1) v2 [] = true := sparesB_in (by simp; omega) (UptoS.zero _)
  clear b3 s3 k03 k4 r3 z4 z5
  have HV := Lib.hid hv0; clear hv0
  go_wp2_with fail
  go_loopw [6] (fun i wr => ∃ (k : Nat) (A : Option Addr) (c : Nat) (xs : List Int), i = .int .i64 k ∧ k ≤ 5 ∧ BoxS wr w.heap.size 0 0 none 0 0 ∧ BoxS wr (w.heap.size + 1) (1 + v1) v2 A xs.length c ∧ Ints wr (w.heap.size + 2) wr.heap.size A xs ∧ xs.length ≤ c ∧ xs.length ≤ 12 ∧ Hid (sparesB (1 + v1) v2 xs = true) ∧ Rdr wr a (Bd + 8 - k) ∧ Kp (At a) w wr) (fun i _ => (intOf i).toNat)
  case atStart => exact ⟨v4.toNat, none, 0, [], by rw [Int.toNat_of_nonneg v4a], by omega, b4, s4, Row.empty (by omega), by simp, by simp, HV, r4.le (by omega), k04⟩
  case round =>
    clear b4 s4 r4 k04 HV z3 z6
    obtain ⟨k, A, c, xs, rfl, hk5, hb, hs, hi, hcap, hl12, hV, hr, hk⟩ := hrel
    have sz := hk.size
    by_cases hlt : 0 < k
    · have Hs := Lib.hid hs; have Hb := Lib.hid hb
      have hbl := hb.2.2.2.2.2.2
      have hsl := hs.2.2.2.2.2.2
      obtain ⟨hc0, hc1, hc2, hf0, hf1, hf2, _⟩ := hs
      clear hb
      go_wp2_with fail
      go_region_held3 (fun w' => w'.cell? ⟨w.heap.size + 1, 0, none⟩ = some (.int .i64 (1 + v1)) ∧ w'.cell? ⟨w.heap.size + 1, 1, none⟩ = some (.int .i64 v2) ∧ w'.cell? ⟨w.heap.size + 1, 2, none⟩ = some (.slice A xs.length c))
        (first | exact ⟨m0, m1, m2⟩ | exact ⟨q0, q1, q2⟩ | exact ⟨p0, p1, p2⟩ | go_keep | exact ⟨hc0, hc1, hc2⟩)
        (first
          | (go_at_call 45
             refine (pick_ _ _ _ _ (hr.keepNo (by repeat (first | exact Kp.refl _ _ | apply Kp.drew | apply Kp.alloc))) (by omega) (by omega) (by omega)).mono ?_
             rintro e w5 ⟨v5, rfl, v5a, v5b, r5, k5, z5⟩
             have kq : Kp (At a) wr w5 := ((by repeat (first | exact Kp.refl _ _ | apply Kp.drew | apply Kp.alloc) : Kp No wr _).no : Kp (At a) wr _).trans k5
             have bs5 := Hs.out.keep kq (fun e => by simp only [At] at e; omega)
             have i5 := hi.keep kq (fun i _ _ e => by simp only [At] at e; omega)
             have p0 := bs5.1; have p1 := bs5.2.1; have p2 := bs5.2.2.1
             have Bs5 := Lib.hid bs5; clear bs5
             have sz5 := kq.size
             obtain ⟨ys, ok, hm, hy, hyl⟩ := markBad_valid hV.out v5a v5b
             have Hm := Lib.hid hm; have Hy := Lib.hid hy; clear hm hy
             try (have bx : BoxS w5 wr.heap.size 0 0 none 0 0 := ((BoxS.new wr 42 0 0 none 0 0).keepNo ((Kp.refl No _).drew)).keep k5 (fun e => by simp only [At] at e; omega)
                  have Bx := Lib.hid bx; obtain ⟨g0, g1, g2, g3, g4, g5, g6⟩ := bx))
          | (go_at_call 33
             refine (markBad_spec _ _ _ _ _ _ _ _ _ (i5.keepNo (by repeat (first | exact Kp.refl _ _ | apply Kp.drew | apply Kp.alloc))) (by omega)).mono ?_
             rintro e w6 ⟨A6, c6, rfl, o6, k6⟩
             have q6 : Kp No w5 w6 := (by repeat (first | exact Kp.refl _ _ | apply Kp.drew | apply Kp.alloc) : Kp No w5 _).trans k6
             rw [Hm.out] at o6
             simp only [Hm.out]
             have bs6 := Bs5.out.keepNo q6
             have q0 := bs6.1; have q1 := bs6.2.1; have q2 := bs6.2.2.1
             have Bs6 := Lib.hid bs6; clear bs6
             have sz6 := q6.size
             try (have bx := Bx.out.keepNo q6
                  clear g0 g1 g2 g3 g4 g5 g6 Bx
                  have ks := Kp.set3 w6 wr.heap.size (.int .i64 (1 + v1)) (.int .i64 v2) (.slice A6 ys.length c6)
                  have m0 := (ks.cell (p := ⟨w.heap.size + 1, 0, none⟩) (by show w.heap.size + 1 < _; omega) (by simp only [At]; omega)).trans q0
                  have m1 := (ks.cell (p := ⟨w.heap.size + 1, 1, none⟩) (by show w.heap.size + 1 < _; omega) (by simp only [At]; omega)).trans q1
                  have m2 := (ks.cell (p := ⟨w.heap.size + 1, 2, none⟩) (by show w.heap.size + 1 < _; omega) (by simp only [At]; omega)).trans q2
                  have Bx := Lib.hid bx; obtain ⟨g0, g1, g2, g3, g4, g5, g6⟩ := bx)
             try (have bx := (BoxS.new w5 42 0 0 none 0 0).keepNo k6
                  have ks := Kp.set3 w6 w5.heap.size (.int .i64 (1 + v1)) (.int .i64 v2) (.slice A6 ys.length c6)
                  have m0 := (ks.cell (p := ⟨w.heap.size + 1, 0, none⟩) (by show w.heap.size + 1 < _; omega) (by simp only [At]; omega)).trans q0
                  have m1 := (ks.cell (p := ⟨w.heap.size + 1, 1, none⟩) (by show w.heap.size + 1 < _; omega) (by simp only [At]; omega)).trans q1
                  have m2 := (ks.cell (p := ⟨w.heap.size + 1, 2, none⟩) (by show w.heap.size + 1 < _; omega) (by simp only [At]; omega)).trans q2
                  have Bx := Lib.hid bx; obtain ⟨g0, g1, g2, g3, g4, g5, g6⟩ := bx)))
      · have M := Aft.late 42 hal hk kq q6 Hb.out Hs.out o6 r5
        have cp6 := o6.cap
        clear Hs Hb hc0 hc1 hc2 hf0 hf1 hf2 hi hr hk r5 k5 kq Bs5 i5 p0 p1 p2 k6 q6 q0 q1 q2 Bs6 o6 hV Hm
        generalize (w6.alloc (.cells #[.int .i64 (1 + v1), .int .i64 v2, .slice A6 ys.length c6] 42)) = W at M ⊢
        generalize w6.heap.size = b7 at M ⊢
        obtain ⟨M1, M2, ⟨A0, n0, c0, M3⟩, M4, M5, M6, M7⟩ := M
        have d := M3.set (1 + v1) v2 A6 ys.length c6
        have ks := Kp.set3 W (w.heap.size + 1) (.int .i64 (1 + v1)) (.int .i64 v2) (.slice A6 ys.length c6)
        have s9 := ks.size
        have i9 := (M5.keep ks (fun i h1 _ e => by simp only [At] at e; omega)).wide (Nat.le_refl _) s9 (Nat.le_refl _)
        have r9 := M6.keep ks (fun i hi e => by simp only [At] at e; omega)
        have b9 := M2.keep ks (fun e => by simp only [At] at e; omega)
        have k9 := M1.also ks (fun i hi e => by simp only [At] at e; omega)
        obtain ⟨e0, e1, e2, e3, e4, e5, e6⟩ := M3
        obtain ⟨y0, y1, y2, y3, y4, y5, y6⟩ := M4
        go_wp2_with fail
        go_roundw
        case rel => exact ⟨k - 1, A6, c6, ys, by go_num, by omega, b9, d, i9, cp6, hyl, Hy, r9.le (by omega), k9⟩
        case measure => simp [intOf]; omega
      · have M := Aft.soon hal hk kq q6 Hb.out Hs.out o6 r5 Bx.out (by simp) (by omega)
        clear ks m0 m1 m2 Bx g0 g1 g2 g3 g4 g5 g6
        have cp6 := o6.cap
        clear Hs Hb hc0 hc1 hc2 hf0 hf1 hf2 hi hr hk r5 k5 kq Bs5 i5 p0 p1 p2 k6 q6 q0 q1 q2 Bs6 o6 hV Hm
        generalize (((w6.setCell ⟨w5.heap.size, 0, none⟩ (.int .i64 (1 + v1))).setCell ⟨w5.heap.size, 1, none⟩ (.int .i64 v2)).setCell ⟨w5.heap.size, 2, none⟩ (.slice A6 ys.length c6)) = W at M ⊢
        generalize w5.heap.size = b7 at M ⊢
        obtain ⟨M1, M2, ⟨A0, n0, c0, M3⟩, M4, M5, M6, M7⟩ := M
        have d := M3.set (1 + v1) v2 A6 ys.length c6
        have ks := Kp.set3 W (w.heap.size + 1) (.int .i64 (1 + v1)) (.int .i64 v2) (.slice A6 ys.length c6)
        have s9 := ks.size
        have i9 := (M5.keep ks (fun i h1 _ e => by simp only [At] at e; omega)).wide (Nat.le_refl _) s9 (Nat.le_refl _)
        have r9 := M6.keep ks (fun i hi e => by simp only [At] at e; omega)
        have b9 := M2.keep ks (fun e => by simp only [At] at e; omega)
        have k9 := M1.also ks (fun i hi e => by simp only [At] at e; omega)
        obtain ⟨e0, e1, e2, e3, e4, e5, e6⟩ := M3
        obtain ⟨y0, y1, y2, y3, y4, y5, y6⟩ := M4
        go_wp2_with fail
        go_roundw
        case rel => exact ⟨k - 1, A6, c6, ys, by go_num, by omega, b9, d, i9, cp6, hyl, Hy, r9.le (by omega), k9⟩
        case measure => simp [intOf]; omega
      · have M := Aft.soon hal hk kq q6 Hb.out Hs.out o6 r5 Bx.out (by simp at z5; omega) (by omega)
        clear ks m0 m1 m2 Bx g0 g1 g2 g3 g4 g5 g6
        have cp6 := o6.cap
        clear Hs Hb hc0 hc1 hc2 hf0 hf1 hf2 hi hr hk r5 k5 kq Bs5 i5 p0 p1 p2 k6 q6 q0 q1 q2 Bs6 o6 hV Hm
        generalize (((w6.setCell ⟨wr.heap.size, 0, none⟩ (.int .i64 (1 + v1))).setCell ⟨wr.heap.size, 1, none⟩ (.int .i64 v2)).setCell ⟨wr.heap.size, 2, none⟩ (.slice A6 ys.length c6)) = W at M ⊢
        generalize wr.heap.size = b7 at M ⊢
        obtain ⟨M1, M2, ⟨A0, n0, c0, M3⟩, M4, M5, M6, M7⟩ := M
        have d := M3.set (1 + v1) v2 A6 ys.length c6
        have ks := Kp.set3 W (w.heap.size + 1) (.int .i64 (1 + v1)) (.int .i64 v2) (.slice A6 ys.length c6)
        have s9 := ks.size
        have i9 := (M5.keep ks (fun i h1 _ e => by simp only [At] at e; omega)).wide (Nat.le_refl _) s9 (Nat.le_refl _)
        have r9 := M6.keep ks (fun i hi e => by simp only [At] at e; omega)
        have b9 := M2.keep ks (fun e => by simp only [At] at e; omega)
        have k9 := M1.also ks (fun i hi e => by simp only [At] at e; omega)
        obtain ⟨e0, e1, e2, e3, e4, e5, e6⟩ := M3
        obtain ⟨y0, y1, y2, y3, y4, y5, y6⟩ := M4
        go_wp2_with fail
        go_roundw
        case rel => exact ⟨k - 1, A6, c6, ys, by go_num, by omega, b9, d, i9, cp6, hyl, Hy, r9.le (by omega), k9⟩
        case measure => simp [intOf]; omega
    · obtain rfl : k = 0 := by omega
      have hd := (sparesB_dec hV.out).1
      have hsl := hs.2.2.2.2.2.2
      have Hs := Lib.hid hs; have Hb := Lib.hid hb
      go_wp2_with fail
      refine (odd_ _ _ _ _ hr (by omega) (by omega) (by omega)).mono ?_
      rintro e w5 ⟨b, rfl, r5, k5, z5⟩
      have s5 := Hs.out.keep k5 (fun e => by simp only [At] at e; omega)
      have b5 := Hb.out.keep k5 (fun e => by simp only [At] at e; omega)
      have i5 := hi.keep k5 (fun i _ _ e => by simp only [At] at e; omega)
      have k05 := hk.trans k5
      clear Hs Hb hs hb hi hr hk k5
      cases b
      · have d := b5.set (1 + v1) v2 A xs.length c
        have ks := Kp.set3 w5 w.heap.size (.int .i64 (1 + v1)) (.int .i64 v2) (.slice A xs.length c)
        have s9 := ks.size
        obtain ⟨e0, e1, e2, e3, e4, e5, e6⟩ := s5
        obtain ⟨y0, y1, y2, y3, y4, y5, y6⟩ := b5
        go_wp2_with fail
        refine bodyPost_ret (v := .agg #[.int .i64 (1 + v1), .int .i64 v2, .slice A xs.length c]) (by simp [results, Try.results56, go_sem, d.1, d.2.1, d.2.2.1]) rfl ?_
        exact ⟨_, _, _, _, _, rfl, by omega, by omega, (i5.keep ks (fun i h1 _ e => by simp only [At] at e; omega)).wide (by omega) (by omega) (Nat.le_refl _), hcap, hl12, (r5.keep ks (fun i hi e => by simp only [At] at e; omega)).le (by omega), k05.also ks (fun i hi e => by simp only [At] at e; omega)⟩
      · have e1 : (w5.alloc (.cells #[.int .i64 4] 3)).heap.size = w5.heap.size + 1 := by simp
        have e2 : ((w5.alloc (.cells #[.int .i64 4] 3)).alloc (.cells #[.int .i64 1, .int .i64 1] 3)).heap.size = w5.heap.size + 1 + 1 := by simp
        have e3 : (((w5.alloc (.cells #[.int .i64 4] 3)).alloc (.cells #[.int .i64 1, .int .i64 1] 3)).alloc (.cells #[.int .i64 1] 3)).heap.size = w5.heap.size + 1 + 1 + 1 := by simp
        have e4 : ((((w5.alloc (.cells #[.int .i64 4] 3)).alloc (.cells #[.int .i64 1, .int .i64 1] 3)).alloc (.cells #[.int .i64 1] 3)).alloc (.cells #[.int .i64 (-1)] 3)).heap.size = w5.heap.size + 1 + 1 + 1 + 1 := by simp
        have j1 := ints_lits w5 [4] #[.int .i64 4] 3 rfl
        have j2 := ints_lits (w5.alloc (.cells #[.int .i64 4] 3)) [1, 1] #[.int .i64 1, .int .i64 1] 3 rfl
        have j3 := ints_lits ((w5.alloc (.cells #[.int .i64 4] 3)).alloc (.cells #[.int .i64 1, .int .i64 1] 3)) [1] #[.int .i64 1] 3 rfl
        have j4 := ints_lits (((w5.alloc (.cells #[.int .i64 4] 3)).alloc (.cells #[.int .i64 1, .int .i64 1] 3)).alloc (.cells #[.int .i64 1] 3)) [-1] #[.int .i64 (-1)] 3 rfl
        rw [e1] at j2
        rw [e2] at j3
        rw [e3] at j4
        have kA : Kp No w5 (((((w5.alloc (.cells #[.int .i64 4] 3)).alloc (.cells #[.int .i64 1, .int .i64 1] 3)).alloc (.cells #[.int .i64 1] 3)).alloc (.cells #[.int .i64 (-1)] 3)).alloc (.cells #[.int .i64 0, .int .i64 0, .slice none 0 0, .int .i64 4, .int .i64 3, .slice (some ⟨w5.heap.size, 0, none⟩) 1 1, .int .i64 4, .int .i64 3, .slice (some ⟨w5.heap.size + 1, 0, none⟩) 2 2, .int .i64 4, .int .i64 0, .slice (some ⟨w5.heap.size + 1 + 1, 0, none⟩) 1 1, .int .i64 13, .int .i64 0, .slice none 0 0, .int .i64 4, .int .i64 3, .slice (some ⟨w5.heap.size + 1 + 1 + 1, 0, none⟩) 1 1] 42)) := ((((((Kp.refl No w5).alloc _).alloc _).alloc _).alloc _).alloc _)
        have k1 : Kp No (w5.alloc (.cells #[.int .i64 4] 3)) (((((w5.alloc (.cells #[.int .i64 4] 3)).alloc (.cells #[.int .i64 1, .int .i64 1] 3)).alloc (.cells #[.int .i64 1] 3)).alloc (.cells #[.int .i64 (-1)] 3)).alloc (.cells #[.int .i64 0, .int .i64 0, .slice none 0 0, .int .i64 4, .int .i64 3, .slice (some ⟨w5.heap.size, 0, none⟩) 1 1, .int .i64 4, .int .i64 3, .slice (some ⟨w5.heap.size + 1, 0, none⟩) 2 2, .int .i64 4, .int .i64 0, .slice (some ⟨w5.heap.size + 1 + 1, 0, none⟩) 1 1, .int .i64 13, .int .i64 0, .slice none 0 0, .int .i64 4, .int .i64 3, .slice (some ⟨w5.heap.size + 1 + 1 + 1, 0, none⟩) 1 1] 42)) := (((((Kp.refl No _).alloc _).alloc _).alloc _).alloc _)
        have k2 : Kp No ((w5.alloc (.cells #[.int .i64 4] 3)).alloc (.cells #[.int .i64 1, .int .i64 1] 3)) (((((w5.alloc (.cells #[.int .i64 4] 3)).alloc (.cells #[.int .i64 1, .int .i64 1] 3)).alloc (.cells #[.int .i64 1] 3)).alloc (.cells #[.int .i64 (-1)] 3)).alloc (.cells #[.int .i64 0, .int .i64 0, .slice none 0 0, .int .i64 4, .int .i64 3, .slice (some ⟨w5.heap.size, 0, none⟩) 1 1, .int .i64 4, .int .i64 3, .slice (some ⟨w5.heap.size + 1, 0, none⟩) 2 2, .int .i64 4, .int .i64 0, .slice (some ⟨w5.heap.size + 1 + 1, 0, none⟩) 1 1, .int .i64 13, .int .i64 0, .slice none 0 0, .int .i64 4, .int .i64 3, .slice (some ⟨w5.heap.size + 1 + 1 + 1, 0, none⟩) 1 1] 42)) := ((((Kp.refl No _).alloc _).alloc _).alloc _)
        have k3 : Kp No (((w5.alloc (.cells #[.int .i64 4] 3)).alloc (.cells #[.int .i64 1, .int .i64 1] 3)).alloc (.cells #[.int .i64 1] 3)) (((((w5.alloc (.cells #[.int .i64 4] 3)).alloc (.cells #[.int .i64 1, .int .i64 1] 3)).alloc (.cells #[.int .i64 1] 3)).alloc (.cells #[.int .i64 (-1)] 3)).alloc (.cells #[.int .i64 0, .int .i64 0, .slice none 0 0, .int .i64 4, .int .i64 3, .slice (some ⟨w5.heap.size, 0, none⟩) 1 1, .int .i64 4, .int .i64 3, .slice (some ⟨w5.heap.size + 1, 0, none⟩) 2 2, .int .i64 4, .int .i64 0, .slice (some ⟨w5.heap.size + 1 + 1, 0, none⟩) 1 1, .int .i64 13, .int .i64 0, .slice none 0 0, .int .i64 4, .int .i64 3, .slice (some ⟨w5.heap.size + 1 + 1 + 1, 0, none⟩) 1 1] 42)) := (((Kp.refl No _).alloc _).alloc _)
        have k4 : Kp No ((((w5.alloc (.cells #[.int .i64 4] 3)).alloc (.cells #[.int .i64 1, .int .i64 1] 3)).alloc (.cells #[.int .i64 1] 3)).alloc (.cells #[.int .i64 (-1)] 3)) (((((w5.alloc (.cells #[.int .i64 4] 3)).alloc (.cells #[.int .i64 1, .int .i64 1] 3)).alloc (.cells #[.int .i64 1] 3)).alloc (.cells #[.int .i64 (-1)] 3)).alloc (.cells #[.int .i64 0, .int .i64 0, .slice none 0 0, .int .i64 4, .int .i64 3, .slice (some ⟨w5.heap.size, 0, none⟩) 1 1, .int .i64 4, .int .i64 3, .slice (some ⟨w5.heap.size + 1, 0, none⟩) 2 2, .int .i64 4, .int .i64 0, .slice (some ⟨w5.heap.size + 1 + 1, 0, none⟩) 1 1, .int .i64 13, .int .i64 0, .slice none 0 0, .int .i64 4, .int .i64 3, .slice (some ⟨w5.heap.size + 1 + 1 + 1, 0, none⟩) 1 1] 42)) := ((Kp.refl No _).alloc _)
        have hT : (((((w5.alloc (.cells #[.int .i64 4] 3)).alloc (.cells #[.int .i64 1, .int .i64 1] 3)).alloc (.cells #[.int .i64 1] 3)).alloc (.cells #[.int .i64 (-1)] 3)).alloc (.cells #[.int .i64 0, .int .i64 0, .slice none 0 0, .int .i64 4, .int .i64 3, .slice (some ⟨w5.heap.size, 0, none⟩) 1 1, .int .i64 4, .int .i64 3, .slice (some ⟨w5.heap.size + 1, 0, none⟩) 2 2, .int .i64 4, .int .i64 0, .slice (some ⟨w5.heap.size + 1 + 1, 0, none⟩) 1 1, .int .i64 13, .int .i64 0, .slice none 0 0, .int .i64 4, .int .i64 3, .slice (some ⟨w5.heap.size + 1 + 1 + 1, 0, none⟩) 1 1] 42)).heap[w5.heap.size + 1 + 1 + 1 + 1]? = some (.cells #[.int .i64 0, .int .i64 0, .slice none 0 0, .int .i64 4, .int .i64 3, .slice (some ⟨w5.heap.size, 0, none⟩) 1 1, .int .i64 4, .int .i64 3, .slice (some ⟨w5.heap.size + 1, 0, none⟩) 2 2, .int .i64 4, .int .i64 0, .slice (some ⟨w5.heap.size + 1 + 1, 0, none⟩) 1 1, .int .i64 13, .int .i64 0, .slice none 0 0, .int .i64 4, .int .i64 3, .slice (some ⟨w5.heap.size + 1 + 1 + 1, 0, none⟩) 1 1] 42 (0, 0)) := by rw [← e4]; exact heap_alloc_new _ _
        have eT : (((((w5.alloc (.cells #[.int .i64 4] 3)).alloc (.cells #[.int .i64 1, .int .i64 1] 3)).alloc (.cells #[.int .i64 1] 3)).alloc (.cells #[.int .i64 (-1)] 3)).alloc (.cells #[.int .i64 0, .int .i64 0, .slice none 0 0, .int .i64 4, .int .i64 3, .slice (some ⟨w5.heap.size, 0, none⟩) 1 1, .int .i64 4, .int .i64 3, .slice (some ⟨w5.heap.size + 1, 0, none⟩) 2 2, .int .i64 4, .int .i64 0, .slice (some ⟨w5.heap.size + 1 + 1, 0, none⟩) 1 1, .int .i64 13, .int .i64 0, .slice none 0 0, .int .i64 4, .int .i64 3, .slice (some ⟨w5.heap.size + 1 + 1 + 1, 0, none⟩) 1 1] 42)).heap.size = w5.heap.size + 5 := by simp
        have j1 := j1.keepNo k1
        have j2 := j2.keepNo k2
        have j3 := j3.keepNo k3
        have j4 := j4.keepNo k4
        have r6 := r5.keepNo kA
        have b6 := b5.keepNo kA
        have kk6 := k05.alsoNo kA
        clear k1 k2 k3 k4 kA e1 e2 e3 e4 k05 b5 s5 r5 i5
        have HT := Lib.hid hT; have J1 := Lib.hid j1; have J2 := Lib.hid j2; have J3 := Lib.hid j3; have J4 := Lib.hid j4; have B6 := Lib.hid b6; have R6 := Lib.hid r6; have K6 := Lib.hid kk6; have ET := Lib.hid eT
        clear hT j1 j2 j3 j4 b6 r6 kk6 eT
        go_wp2_with fail
        generalize (((((w5.alloc (.cells #[.int .i64 4] 3)).alloc (.cells #[.int .i64 1, .int .i64 1] 3)).alloc (.cells #[.int .i64 1] 3)).alloc (.cells #[.int .i64 (-1)] 3)).alloc (.cells #[.int .i64 0, .int .i64 0, .slice none 0 0, .int .i64 4, .int .i64 3, .slice (some ⟨w5.heap.size, 0, none⟩) 1 1, .int .i64 4, .int .i64 3, .slice (some ⟨w5.heap.size + 1, 0, none⟩) 2 2, .int .i64 4, .int .i64 0, .slice (some ⟨w5.heap.size + 1 + 1, 0, none⟩) 1 1, .int .i64 13, .int .i64 0, .slice none 0 0, .int .i64 4, .int .i64 3, .slice (some ⟨w5.heap.size + 1 + 1 + 1, 0, none⟩) 1 1] 42)) = W at HT J1 J2 J3 J4 B6 R6 K6 ET ⊢
        have eT := ET.out
        refine (pick_ _ _ _ _ R6.out (by omega) (by omega) (by omega)).mono ?_
        rintro e w7 ⟨v7, rfl, v7a, v7b, r7, k7, z7⟩
        have b7 := B6.out.keep k7 (fun e => by simp only [At] at e; omega)
        have kk7 := K6.out.trans k7
        have J1 := Lib.hid ((J1.out.keep k7 (fun i _ _ e => by simp only [At] at e; omega)).wide (lo' := w.heap.size + 1) (hi' := w7.heap.size) (by omega) (by omega) (Nat.le_refl _))
        have J2 := Lib.hid ((J2.out.keep k7 (fun i _ _ e => by simp only [At] at e; omega)).wide (lo' := w.heap.size + 1) (hi' := w7.heap.size) (by omega) (by omega) (Nat.le_refl _))
        have J3 := Lib.hid ((J3.out.keep k7 (fun i _ _ e => by simp only [At] at e; omega)).wide (lo' := w.heap.size + 1) (hi' := w7.heap.size) (by omega) (by omega) (Nat.le_refl _))
        have J4 := Lib.hid ((J4.out.keep k7 (fun i _ _ e => by simp only [At] at e; omega)).wide (lo' := w.heap.size + 1) (hi' := w7.heap.size) (by omega) (by omega) (Nat.le_refl _))
        have hcell : ∀ j, w7.cell? ⟨w5.heap.size + 1 + 1 + 1 + 1, j, none⟩ = (#[.int .i64 0, .int .i64 0, .slice none 0 0, .int .i64 4, .int .i64 3, .slice (some ⟨w5.heap.size, 0, none⟩) 1 1, .int .i64 4, .int .i64 3, .slice (some ⟨w5.heap.size + 1, 0, none⟩) 2 2, .int .i64 4, .int .i64 0, .slice (some ⟨w5.heap.size + 1 + 1, 0, none⟩) 1 1, .int .i64 13, .int .i64 0, .slice none 0 0, .int .i64 4, .int .i64 3, .slice (some ⟨w5.heap.size + 1 + 1 + 1, 0, none⟩) 1 1] : Array Value)[j]? := fun j => by
          rw [k7.cell (p := ⟨w5.heap.size + 1 + 1 + 1 + 1, j, none⟩) (by show w5.heap.size + 1 + 1 + 1 + 1 < _; omega) (by simp only [At]; omega), cell_of_row _ _ j _ _ (0, 0) HT.out]
        have J0 : Hid (Ints w7 w.heap.size w7.heap.size none []) := Lib.hid (Row.empty (Nat.le_refl _))
        clear R6 K6 B6 HT k7 ET eT
        obtain ⟨j, rfl⟩ := Int.eq_ofNat_of_zero_le v7a
        have hj : j = 0 ∨ j = 1 ∨ j = 2 ∨ j = 3 ∨ j = 4 ∨ j = 5 := by omega
        rcases hj with rfl | rfl | rfl | rfl | rfl | rfl
        · have t0 := hcell 0; have t1 := hcell 1; have t2 := hcell 2
          simp at t0 t1 t2
          clear hcell
          have d := b7.set 0 0 (none) 0 0
          have ks := Kp.set3 w7 w.heap.size (.int .i64 0) (.int .i64 0) (.slice none 0 0)
          have s9 := ks.size
          have B7 := Lib.hid b7
          obtain ⟨y0, y1, y2, y3, y4, y5, y6⟩ := b7
          go_wp2_with fail
          refine bodyPost_ret (v := .agg #[.int .i64 0, .int .i64 0, .slice none 0 0]) (by simp [results, Try.results56, go_sem, d.1, d.2.1, d.2.2.1]) rfl ?_
          refine ⟨0, 0, _, 0, [], rfl, by omega, by omega, (Row.empty (Nat.le_refl _)), by simp, by simp, (r7.keep ks (fun i hi e => by simp only [At] at e; omega)).le (by omega), kk7.also ks (fun i hi e => by simp only [At] at e; omega)⟩
        · have t0 := hcell 3; have t1 := hcell 4; have t2 := hcell 5
          simp at t0 t1 t2
          clear hcell
          have d := b7.set 4 3 (some ⟨w5.heap.size, 0, none⟩) 1 1
          have ks := Kp.set3 w7 w.heap.size (.int .i64 4) (.int .i64 3) (.slice (some ⟨w5.heap.size, 0, none⟩) 1 1)
          have s9 := ks.size
          have B7 := Lib.hid b7
          obtain ⟨y0, y1, y2, y3, y4, y5, y6⟩ := b7
          go_wp2_with fail
          refine bodyPost_ret (v := .agg #[.int .i64 4, .int .i64 3, .slice (some ⟨w5.heap.size, 0, none⟩) 1 1]) (by simp [results, Try.results56, go_sem, d.1, d.2.1, d.2.2.1]) rfl ?_
          refine ⟨4, 3, _, 1, [4], rfl, by omega, by omega, ((J1.out.keep ks (fun i h1 _ e => by simp only [At] at e; omega)).wide (by omega) s9 (Nat.le_refl _)), by simp, by simp, (r7.keep ks (fun i hi e => by simp only [At] at e; omega)).le (by omega), kk7.also ks (fun i hi e => by simp only [At] at e; omega)⟩
        · have t0 := hcell 6; have t1 := hcell 7; have t2 := hcell 8
          simp at t0 t1 t2
          clear hcell
          have d := b7.set 4 3 (some ⟨w5.heap.size + 1, 0, none⟩) 2 2
          have ks := Kp.set3 w7 w.heap.size (.int .i64 4) (.int .i64 3) (.slice (some ⟨w5.heap.size + 1, 0, none⟩) 2 2)
          have s9 := ks.size
          have B7 := Lib.hid b7
          obtain ⟨y0, y1, y2, y3, y4, y5, y6⟩ := b7
          go_wp2_with fail
          refine bodyPost_ret (v := .agg #[.int .i64 4, .int .i64 3, .slice (some ⟨w5.heap.size + 1, 0, none⟩) 2 2]) (by simp [results, Try.results56, go_sem, d.1, d.2.1, d.2.2.1]) rfl ?_
          refine ⟨4, 3, _, 2, [1, 1], rfl, by omega, by omega, ((J2.out.keep ks (fun i h1 _ e => by simp only [At] at e; omega)).wide (by omega) s9 (Nat.le_refl _)), by simp, by simp, (r7.keep ks (fun i hi e => by simp only [At] at e; omega)).le (by omega), kk7.also ks (fun i hi e => by simp only [At] at e; omega)⟩
        · have t0 := hcell 9; have t1 := hcell 10; have t2 := hcell 11
          simp at t0 t1 t2
          clear hcell
          have d := b7.set 4 0 (some ⟨w5.heap.size + 1 + 1, 0, none⟩) 1 1
          have ks := Kp.set3 w7 w.heap.size (.int .i64 4) (.int .i64 0) (.slice (some ⟨w5.heap.size + 1 + 1, 0, none⟩) 1 1)
          have s9 := ks.size
          have B7 := Lib.hid b7
          obtain ⟨y0, y1, y2, y3, y4, y5, y6⟩ := b7
          go_wp2_with fail
          refine bodyPost_ret (v := .agg #[.int .i64 4, .int .i64 0, .slice (some ⟨w5.heap.size + 1 + 1, 0, none⟩) 1 1]) (by simp [results, Try.results56, go_sem, d.1, d.2.1, d.2.2.1]) rfl ?_
          refine ⟨4, 0, _, 1, [1], rfl, by omega, by omega, ((J3.out.keep ks (fun i h1 _ e => by simp only [At] at e; omega)).wide (by omega) s9 (Nat.le_refl _)), by simp, by simp, (r7.keep ks (fun i hi e => by simp only [At] at e; omega)).le (by omega), kk7.also ks (fun i hi e => by simp only [At] at e; omega)⟩
        · have t0 := hcell 12; have t1 := hcell 13; have t2 := hcell 14
          simp at t0 t1 t2
          clear hcell
          have d := b7.set 13 0 (none) 0 0
          have ks := Kp.set3 w7 w.heap.size (.int .i64 13) (.int .i64 0) (.slice none 0 0)
          have s9 := ks.size
          have B7 := Lib.hid b7
          obtain ⟨y0, y1, y2, y3, y4, y5, y6⟩ := b7
          go_wp2_with fail
          refine bodyPost_ret (v := .agg #[.int .i64 13, .int .i64 0, .slice none 0 0]) (by simp [results, Try.results56, go_sem, d.1, d.2.1, d.2.2.1]) rfl ?_
          refine ⟨13, 0, _, 0, [], rfl, by omega, by omega, (Row.empty (Nat.le_refl _)), by simp, by simp, (r7.keep ks (fun i hi e => by simp only [At] at e; omega)).le (by omega), kk7.also ks (fun i hi e => by simp only [At] at e; omega)⟩
        · have t0 := hcell 15; have t1 := hcell 16; have t2 := hcell 17
          simp at t0 t1 t2
          clear hcell
          have d := b7.set 4 3 (some ⟨w5.heap.size + 1 + 1 + 1, 0, none⟩) 1 1
          have ks := Kp.set3 w7 w.heap.size (.int .i64 4) (.int .i64 3) (.slice (some ⟨w5.heap.size + 1 + 1 + 1, 0, none⟩) 1 1)
          have s9 := ks.size
          have B7 := Lib.hid b7
          obtain ⟨y0, y1, y2, y3, y4, y5, y6⟩ := b7
          go_wp2_with fail
          refine bodyPost_ret (v := .agg #[.int .i64 4, .int .i64 3, .slice (some ⟨w5.heap.size + 1 + 1 + 1, 0, none⟩) 1 1]) (by simp [results, Try.results56, go_sem, d.1, d.2.1, d.2.2.1]) rfl ?_
          refine ⟨4, 3, _, 1, [-1], rfl, by omega, by omega, ((J4.out.keep ks (fun i h1 _ e => by simp only [At] at e; omega)).wide (by omega) s9 (Nat.le_refl _)), by simp, by simp, (r7.keep ks (fun i hi e => by simp only [At] at e; omega)).le (by omega), kk7.also ks (fun i hi e => by simp only [At] at e; omega)⟩
end Go.Proofs.Ytcnaehllegoefaa
