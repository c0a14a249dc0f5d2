/- The walk of FnExactMarkBad. -/
import Derived.Test.YtcnaehllegoefaaExSpares
namespace Go.Proofs.Ytcnaehllegoefaa
open Go.RowKit
set_option linter.unusedVariables false

theorem markBad_len (B X : Int) (xs : List Int) (v : Int) : (markBad B X xs v).1.2.2.length ≤ xs.length + 1 := by
  unfold markBad
  split
  · simp
  · split <;> simp

set_option maxRecDepth 100000 in
set_option maxHeartbeats 8000000 in
theorem walk_FnExactMarkBad {w : World} (B X : Int) (A : Option Addr) (xs : List Int) (c : Nat) (_ : (Lit.int .i64 B).wf = true) (_ : (Lit.int .i64 X).wf = true) (h : Ints w 0 w.heap.size A xs) (hz : xs.length ≤ 9223372036854775807) (v : Int) (_ : (Lit.int .i64 v).wf = true) :
    Calls Try.prog 12 #[.agg #[.int .i64 B, .int .i64 X, .slice A xs.length c], .int .i64 v] w fun e w' => e = .returned (.bool true) ∧ Kp No w w' := by
  have ka := (Kp.refl No w).alloc (.cells #[.int .i64 B, .int .i64 X, .slice A xs.length c] 50)
  have ba := BoxS.new w 50 B X A xs.length c
  go_enter Try.func12, Try.ntmps12
  go_wp2_with fail
  refine (szSpares_ _ _ _ _ _ _ _ hz (by omega) (by omega)).mono ?_
  rintro e w1 ⟨rfl, k1⟩
  have kp1 := ka.trans k1
  have ba1 := ba.keepNo k1
  have h1 := h.keepNo kp1
  clear ka k1 ba
  by_cases hl : (1048576 : Int) < xs.length
  · rw [if_pos hl]
    go_wp2_with fail
    go_ret
    exact ⟨rfl, kp1⟩
  rw [if_neg hl]
  have hneg : ¬ ((1048576 : Int) - xs.length < 0) := by omega
  have hs : xs.length ≤ 4000000 := by omega
  have hylen := markBad_len B X xs v
  obtain ⟨c10, c11, c12, _, _, _, l1⟩ := ba1
  have Ba1 := Lib.hid (show BoxS w1 w.heap.size B X A xs.length c from ⟨c10, c11, c12, by assumption, by assumption, by assumption, l1⟩)
  go_wp2_with fail
  refine (toSpares_ _ _ _ _ _ _ _ _ h1 hs).mono ?_
  rintro e w2 ⟨A2, c2, rfl, o2, k2⟩
  go_wp2_with fail
  refine (markBad_spec _ _ _ _ _ _ _ _ _ o2.ints hs).mono ?_
  rintro e w3 ⟨A3, c3, rfl, o3, k3⟩
  generalize hR : markBad B X xs v = r at *
  obtain ⟨⟨R1, R2, ys⟩, ok⟩ := r
  have HR := Lib.hid hR
  clear hR
  simp only at hylen o3 ⊢
  have hy : ys.length ≤ 4000000 := by omega
  have hbne : (ok != ok) = false := by simp
  have t1 := k2.size; have t2 := k3.size

  have k23 := k2.trans k3
  have ba3 := Ba1.out.keepNo k23
  have kp3 := kp1.trans k23
  have h3 := h.keepNo kp3
  have Ba3 := Lib.hid ba3
  obtain ⟨c30, c31, c32, _, _, _, l3⟩ := ba3
  clear k23 k2 k3 kp1 h1 Ba1 c10 c11 c12 o2
  have b6 := BoxS.new w3 42 R1 R2 A3 ys.length c3
  have kA : Kp No w3 (w3.alloc (.cells #[.int .i64 R1, .int .i64 R2, .slice A3 ys.length c3] 42)) := (Kp.refl _ _).alloc _
  have e3 : (w3.alloc (.cells #[.int .i64 R1, .int .i64 R2, .slice A3 ys.length c3] 42)).heap.size = w3.heap.size + 1 := by simp
  go_wp2_with fail
  refine (toSpares_ _ _ _ _ _ _ _ _ (h3.keepNo kA) hs).mono ?_
  rintro e w4 ⟨A4, c4, rfl, o4, k4⟩
  rw [e3] at o4
  have t3 := k4.size
  rw [e3] at t3
  have b64 := b6.keepNo k4
  have kA4 := kA.trans k4
  have o34 := o3.keepNo kA4
  have ba4 := Ba3.out.keepNo kA4
  have kp4 := kp3.trans kA4
  clear b6 kA k4 kA4 e3 o3 Ba3 c30 c31 c32 l3 kp3 h3
  have b8 := BoxS.new w4 42 B X A4 xs.length c4
  have kA : Kp No w4 (w4.alloc (.cells #[.int .i64 B, .int .i64 X, .slice A4 xs.length c4] 42)) := (Kp.refl _ _).alloc _
  have e4 : (w4.alloc (.cells #[.int .i64 B, .int .i64 X, .slice A4 xs.length c4] 42)).heap.size = w4.heap.size + 1 := by simp
  go_wp2_with fail
  refine (markBad_impl _ _ _ _ _ _ _ _ _ (o4.keepNo kA).ints hs o4.cap).mono ?_
  rintro e w5 ⟨A5, c5, rfl, o5, k5⟩
  rw [HR.out] at o5
  simp only [HR.out]
  rw [e4] at o5
  have t4 := k5.size
  rw [e4] at t4
  have kA5 := kA.trans k5
  have b85 := b8.keepNo k5
  have b65 := b64.keepNo kA5
  have o35 := o34.keepNo kA5
  have o45 := o4.keepNo kA5
  have ba5 := ba4.keepNo kA5
  have kp5 := kp4.trans kA5
  clear b8 kA k5 kA5 e4 o34 o4 ba4 kp4 b64
  have g6 := b65
  obtain ⟨x0, x1, x2, _, _, _, x6⟩ := g6
  have kA : Kp No w5 (w5.alloc (.cells #[.int .i64 R1, .int .i64 R2, .slice A5 ys.length c5] 42)) := (Kp.refl _ _).alloc _
  have b9 := BoxS.new w5 42 R1 R2 A5 ys.length c5
  go_wp2_with fail
  refine (eqSpares_ _ _ _ _ _ _ _ _ _ _ _ _ (o5.keepNo kA).ints (o35.keepNo kA).ints hy).mono ?_
  rintro e w6 ⟨rfl, k6⟩
  have kA6 := kA.trans k6
  have t5 := kA6.size
  have b96 := b9.keepNo k6
  have b86 := b85.keepNo kA6
  have b66 := b65.keepNo kA6
  have o36 := o35.keepNo kA6
  have o46 := o45.keepNo kA6
  have o56 := o5.keepNo kA6
  have ba6 := ba5.keepNo kA6
  have kp6 := kp5.trans kA6
  have t6 : w5.heap.size + 1 ≤ w6.heap.size := by have := k6.size; simp at this; omega
  clear b9 kA k6 kA6 o35 o45 o5 ba5 kp5 b65 b85 x0 x1 x2 x6
  have h6 := h.keepNo kp6
  have Ba6 := Lib.hid ba6; have B86 := Lib.hid b86
  obtain ⟨a0, a1, a2, _, _, _, a6⟩ := ba6
  obtain ⟨d0, d1, d2, _, _, _, d6⟩ := b86
  go_wp2_with fail
  go_region_held3 (fun w' => w'.cell? ⟨w.heap.size, 0, none⟩ = some (.int .i64 B) ∧ w'.cell? ⟨w.heap.size, 1, none⟩ = some (.int .i64 X) ∧ w'.cell? ⟨w.heap.size, 2, none⟩ = some (.slice A xs.length c) ∧ w'.cell? ⟨w4.heap.size, 0, none⟩ = some (.int .i64 B) ∧ w'.cell? ⟨w4.heap.size, 1, none⟩ = some (.int .i64 X) ∧ w'.cell? ⟨w4.heap.size, 2, none⟩ = some (.slice A4 xs.length c4))
    (first | exact ⟨q0, q1, q2, q3, q4, q5⟩ | exact ⟨p0, p1, p2, p3, p4, p5⟩ | exact ⟨a0, a1, a2, d0, d1, d2⟩)
    (first
      | (go_at_call 39; refine (toSpares_ _ _ _ _ _ _ _ _ (h6.keepNo ((Kp.refl _ _).drew)) hs).mono ?_; rintro e w7 ⟨A7, c7, rfl, o7, k7⟩
         have k67 : Kp No w6 w7 := ((Kp.refl No w6).drew).trans k7
         have y1 := Ba6.out.keepNo k67
         have y2 := B86.out.keepNo k67
         have p0 := y1.1; have p1 := y1.2.1; have p2 := y1.2.2.1; have p3 := y2.1; have p4 := y2.2.1; have p5 := y2.2.2.1)
      | (go_at_call 40; refine (eqSpares_ _ _ _ _ _ _ _ _ _ _ _ _ (o46.keepNo k67).ints o7.ints hs).mono ?_; rintro e w8 ⟨rfl, k8⟩
         have k68 := k67.trans k8
         have z1 := Ba6.out.keepNo k68
         have z2 := B86.out.keepNo k68
         have q0 := z1.1; have q1 := z1.2.1; have q2 := z1.2.2.1; have q3 := z2.1; have q4 := z2.2.1; have q5 := z2.2.2.1))
  have t8 := k68.size
  have b68 := b66.keepNo k68
  have b98 := b96.keepNo k68
  have o38 := o36.keepNo k68
  have o48 := o46.keepNo k68
  have o58 := o56.keepNo k68
  have kp8 := kp6.trans k68
  clear a0 a1 a2 a6 d0 d1 d2 d6 p0 p1 p2 p3 p4 p5 y1 y2 k67 k7 o7 k8 k68 b66 b96 o36 o46 o56 kp6 h6 Ba6 B86
  go_wp2_with fail
  refine (markSpares_ _ _ _ _ _ _ _ _ _ o48 hs (by omega) (by omega)).mono ?_
  rintro e w9 ⟨rfl, _, k9⟩
  have t9 := k9.size
  have b69 := b68.keep k9 (fun e => by have := e.1; omega)
  have b99 := b98.keep k9 (fun e => by have := e.2; omega)
  have ba9 := z1.keep k9 (fun e => by have := e.1; omega)
  have o39 := o38.keep k9 (fun i h1 h2 e => by have := e.1; omega)
  have o59 := o58.keep k9 (fun i h1 h2 e => by have := e.2; omega)
  have kp9 := kp8.also k9 (fun i hi e => by have := e.1; omega)
  clear b68 b98 z1 z2 o38 o48 o58 k9 q0 q1 q2 q3 q4 q5 kp8
  have B69 := Lib.hid b69; have B99 := Lib.hid b99
  obtain ⟨d0, d1, d2, _, _, _, d6⟩ := b69
  obtain ⟨f0, f1, f2, _, _, _, f6⟩ := b99
  have hn1 : ¬ ((1 : Int) + xs.length < 0) := by omega
  go_wp2_with fail
  refine (eqSpares_ _ _ _ _ _ _ _ _ _ _ _ _ o59.ints o39.ints hy).mono ?_
  rintro e w10 ⟨rfl, k10⟩
  have t10 := k10.size
  have b610 := B69.out.keepNo k10
  have b910 := B99.out.keepNo k10
  have ba10 := ba9.keepNo k10
  have o310 := o39.keepNo k10
  have o510 := o59.keepNo k10
  have kp10 := kp9.trans k10
  clear d0 d1 d2 d6 f0 f1 f2 f6 B69 B99 ba9 o39 o59 kp9 k10
  have B910 := Lib.hid b910
  obtain ⟨f0, f1, f2, _, _, _, f6⟩ := b910
  go_wp2_with fail
  refine (markSpares_ _ _ _ _ _ _ _ _ _ o510 hy (by omega) (by omega)).mono ?_
  rintro e w11 ⟨rfl, o511, k11⟩
  have t11 := k11.size
  have b611 := b610.keep k11 (fun e => by have := e.1; omega)
  have b911 := B910.out.keep k11 (fun e => by have := e.2; omega)
  have ba11 := ba10.keep k11 (fun e => by have := e.1; omega)
  have o311 := o310.keep k11 (fun i h1 h2 e => by have := e.1; omega)
  have kp11 := kp10.also k11 (fun i hi e => by have := e.1; omega)
  clear f0 f1 f2 f6 B910 b610 ba10 o310 o510 kp10 k11
  have B911 := Lib.hid b911
  obtain ⟨f0, f1, f2, _, _, _, f6⟩ := b911
  have hn2 : ¬ ((1 : Int) + ys.length < 0) := by omega
  have hmm : ((1 : Int) + ys.length != 1 + ys.length) = false := by simp
  go_wp2_with fail
  refine (heldSpares_ _ _ _ _ _ _ _ _ _ o511.ints hy (by omega) (by omega)).mono ?_
  rintro e w12 ⟨rfl, k12⟩
  have t12 := k12.size
  have b612 := b611.keepNo k12
  have b912 := B911.out.keepNo k12
  have ba12 := ba11.keepNo k12
  have o312 := o311.keepNo k12
  have o512 := o511.keepNo k12
  have kp12 := kp11.trans k12
  have h12 := h.keepNo kp12
  clear f0 f1 f2 f6 B911 b611 ba11 o311 o511 kp11 k12
  obtain ⟨a0, a1, a2, _, _, _, a6⟩ := ba12
  go_wp2_with fail
  refine (toSpares_ _ _ _ _ _ _ _ _ h12 hs).mono ?_
  rintro e w13 ⟨A13, c13, rfl, o13, k13⟩
  go_wp2_with fail
  refine (markBad_impl _ _ _ _ _ _ _ _ _ o13.ints hs o13.cap).mono ?_
  rintro e w14 ⟨A14, c14, rfl, o14, k14⟩
  rw [HR.out] at o14
  simp only [HR.out]
  have k134 := k13.trans k14
  have t13 := k134.size
  have b614 := b612.keepNo k134
  have b914 := b912.keepNo k134
  have o314 := o312.keepNo k134
  have o514 := o512.keepNo k134
  have kp14 := kp12.trans k134
  clear a0 a1 a2 a6 k13 k14 o13 b612 b912 o312 o512 kp12 k134 h12
  obtain ⟨d0, d1, d2, _, _, _, d6⟩ := b614
  have kA : Kp No w14 (w14.alloc (.cells #[.int .i64 R1, .int .i64 R2, .slice A14 ys.length c14] 42)) := (Kp.refl _ _).alloc _
  go_wp2_with fail
  refine (eqSpares_ _ _ _ _ _ _ _ _ _ _ _ _ (o14.keepNo kA).ints (o314.keepNo kA).ints hy).mono ?_
  rintro e w15 ⟨rfl, k15⟩
  have kA15 := kA.trans k15
  have b915 := b914.keepNo kA15
  have o515 := o514.keepNo kA15
  have kp15 := kp14.trans kA15
  clear d0 d1 d2 d6 b914 o514 kp14 kA15 k15 kA
  obtain ⟨f0, f1, f2, _, _, _, f6⟩ := b915
  go_wp2_with fail
  refine (heldSpares_ _ _ _ _ _ _ _ _ _ o515.ints hy (by omega) (by omega)).mono ?_
  rintro e w16 ⟨rfl, k16⟩
  go_wp2_with fail
  go_ret
  exact ⟨rfl, kp15.trans k16⟩
end Go.Proofs.Ytcnaehllegoefaa
