/- The walk of FnExactOverOwners. -/
import Derived.Test.YtagcdpnbkfoeaaaOverS
import Derived.Test.YtagcdpnbkfoeaaaExTab
namespace Go.Proofs.Ytagcdpnbkfoeaaa
open Go.RowKit
set_option linter.unusedVariables false

theorem overOwners_le (xss : List (List Int)) (os ms : List Int) : (overOwners xss os ms).length ≤ 4 := by
  unfold overOwners
  split
  · exact ovr_le _ _ _
  · simp

set_option maxRecDepth 100000 in
set_option maxHeartbeats 8000000 in
theorem walk_FnExactOverOwners {w : World} (A : Option Addr) (xss : List (List Int)) (c : Nat) (h : Grid w 0 w.heap.size A xss) (hz : xss.length ≤ 9223372036854775807 ∧ ∀ (k : Nat) (xs : List Int), xss[k]? = some xs → xs.length ≤ 9223372036854775807) (B : Option Addr) (os : List Int) (d : Nat) (ho_ : Ints w 0 w.heap.size B os) (_ : ∀ x ∈ os, (Lit.int .i64 x).wf = true) (D : Option Addr) (ms : List Int) (g : Nat) (hm_ : Ints w 0 w.heap.size D ms) (_ : ∀ x ∈ ms, (Lit.int .i64 x).wf = true) :
    Calls Try.prog 8 #[.agg #[.slice A xss.length c], .slice B os.length d, .slice D ms.length g] w fun e w' => e = .returned (.bool true) ∧ Kp No w w' := by
  have kp := (Kp.refl No w).alloc (.cells #[.slice A xss.length c] 37)
  have bx := BoxT.new w 37 A xss.length c
  go_enter Try.func8, Try.ntmps8
  by_cases hlos : 1048576 < os.length
  · go_wp2_with fail
    go_ret
    exact ⟨rfl, kp⟩
  by_cases hlms : 1048576 < ms.length
  · go_wp2_with fail
    go_ret
    exact ⟨rfl, kp⟩
  have ybx := bx
  obtain ⟨bx0, bx1, bx2⟩ := ybx
  go_wp2_with fail
  refine (szTable_ _ _ _ _ _ _ (h.keepNo kp) hz.1 hz.2).mono ?_
  rintro e w1 ⟨r, rfl, hr, k1⟩
  clear bx0 bx1 bx2
  replace bx := bx.keepNo k1
  replace kp := kp.trans k1
  clear k1
  have t1 := bx.2.2
  rcases hr with hr | ⟨hr, hs⟩
  · go_wp2_with fail
    go_ret
    exact ⟨rfl, kp⟩
  have hneg : ¬ r < 0 := by omega
  have hrows := hs.rows
  have hs1 : xss.length ≤ 4000000 := by have := hs.1; omega
  have hs2 := hs.2
  have hos : os.length ≤ 4000000 := by omega
  have hms : ms.length ≤ 4000000 := by omega
  have hRl : (overOwners xss os ms).length ≤ 4 := overOwners_le xss os ms
  have ybx := bx
  obtain ⟨bx0, bx1, bx2⟩ := ybx
  go_wp2_with fail
  refine (toTable_ _ _ _ _ _ _ (h.keepNo kp) hs).mono ?_
  rintro e w2 ⟨A2, c2, rfl, q2, k2⟩
  clear bx0 bx1 bx2
  replace bx := bx.keepNo k2
  replace kp := kp.trans k2
  have t2 := k2.size
  go_wp2_with fail
  refine (toIntS_any _ _ _ _ _ _ (ho_.keepNo kp) hos).mono ?_
  rintro e w3 ⟨A3, c3, rfl, q3, k3⟩
  replace bx := bx.keepNo k3
  replace q2 := q2.keepNo k3
  replace kp := kp.trans k3
  have t3 := k3.size
  go_wp2_with fail
  refine (toIntS_any _ _ _ _ _ _ (hm_.keepNo kp) hms).mono ?_
  rintro e w3m ⟨A3m, c3m, rfl, q3m, k3m⟩
  replace bx := bx.keepNo k3m
  replace q2 := q2.keepNo k3m
  replace q3 := q3.keepNo k3m
  replace kp := kp.trans k3m
  have t3m := k3m.size
  go_wp2_with fail
  refine (overOwners_spec _ _ _ _ _ _ _ _ _ _ _ _ _ _ _ _ q2.grid hs1 hrows q3.ints hos q3m.ints hms).mono ?_
  rintro e w4 ⟨A4, c4, rfl, o4, k4⟩
  replace bx := bx.keepNo k4
  replace kp := kp.trans k4
  have t4 := k4.size
  clear q2 q3 k2 k3 k4 q3m k3m
  have ybx := bx
  obtain ⟨bx0, bx1, bx2⟩ := ybx
  go_wp2_with fail
  refine (toTable_ _ _ _ _ _ _ (h.keepNo kp) hs).mono ?_
  rintro e w5 ⟨A5, c5, rfl, x0, k5⟩
  clear bx0 bx1 bx2
  replace bx := bx.keepNo k5
  replace o4 := o4.keepNo k5
  replace kp := kp.trans k5
  have t5 := k5.size
  clear k5
  have b7 := BoxT.new w5 32 A5 xss.length c5
  have kA : Kp No w5 (w5.alloc (.cells #[.slice A5 xss.length c5] 32)) := (Kp.refl _ _).alloc _
  have e5 : (w5.alloc (.cells #[.slice A5 xss.length c5] 32)).heap.size = w5.heap.size + 1 := by simp
  replace bx := bx.keepNo kA
  replace o4 := o4.keepNo kA
  replace x0 := x0.keepNo kA
  replace kp := kp.trans kA
  go_wp2_with fail
  refine (toIntS_any _ _ _ _ _ _ (ho_.keepNo kp) hos).mono ?_
  rintro e w6 ⟨A6, c6, rfl, x1, k6⟩
  replace bx := bx.keepNo k6
  replace o4 := o4.keepNo k6
  replace x0 := x0.keepNo k6
  replace b7 := b7.keepNo k6
  replace kp := kp.trans k6
  have t6 := k6.size
  rw [e5] at x1 t6
  clear kA e5 k6
  go_wp2_with fail
  refine (toIntS_any _ _ _ _ _ _ (hm_.keepNo kp) hms).mono ?_
  rintro e w6m ⟨A6m, c6m, rfl, x2, k6m⟩
  replace bx := bx.keepNo k6m
  replace o4 := o4.keepNo k6m
  replace x0 := x0.keepNo k6m
  replace b7 := b7.keepNo k6m
  replace x1 := x1.keepNo k6m
  replace kp := kp.trans k6m
  have t6m := k6m.size
  clear k6m
  have yb7 := b7
  obtain ⟨b70, b71, b72⟩ := yb7
  go_wp2_with fail
  refine (overOwners_impl _ _ _ _ _ _ _ _ _ _ _ _ _ _ _ _ x0.grid hs1 hrows x1.ints hos x2.ints hms).mono ?_
  rintro e w7 ⟨A7, c7, rfl, g0, k7⟩
  clear b70 b71 b72
  replace bx := bx.keepNo k7
  replace o4 := o4.keepNo k7
  replace x0 := x0.keepNo k7
  replace b7 := b7.keepNo k7
  replace x1 := x1.keepNo k7
  replace x2 := x2.keepNo k7
  replace kp := kp.trans k7
  have t7 := k7.size
  clear k7
  go_wp2_with fail
  refine (eqIntS_same _ _ _ _ _ _ _ _ _ _ g0.ints o4.ints (by omega)).mono ?_
  rintro e w8 ⟨rfl, k8⟩
  replace bx := bx.keepNo k8
  replace o4 := o4.keepNo k8
  replace x0 := x0.keepNo k8
  replace b7 := b7.keepNo k8
  replace x1 := x1.keepNo k8
  replace x2 := x2.keepNo k8
  replace g0 := g0.keepNo k8
  replace kp := kp.trans k8
  have t8 := k8.size
  clear k8
  have h8 := h.keepNo kp
  have ybx := bx
  obtain ⟨bx0, bx1, bx2⟩ := ybx
  have yb7 := b7
  obtain ⟨b70, b71, b72⟩ := yb7
  go_wp2_with fail
  go_region_held3 (fun w' => w'.cell? ⟨w.heap.size, 0, none⟩ = some (.slice A xss.length c) ∧ w'.cell? ⟨w5.heap.size, 0, none⟩ = some (.slice A5 xss.length c5))
    (first | exact ⟨n0, n1⟩ | exact ⟨m0, m1⟩ | exact ⟨bx0, b70⟩)
    (first
      | (go_at_call 21; refine (toTable_ _ _ _ _ _ _ (h8.keepNo ((Kp.refl _ _).drew)) hs).mono ?_; rintro e w9 ⟨A9, c9, rfl, o9, k9⟩
         have k89 : Kp No w8 w9 := ((Kp.refl No w8).drew).trans k9
         have m0 := (bx.keepNo k89).1; have m1 := (b7.keepNo k89).1)
      | (go_at_call 22; refine (eqTable_ _ _ _ _ _ _ _ _ _ _ (x0.keepNo k89).grid o9.grid hs).mono ?_; rintro e w10 ⟨rfl, k10⟩
         have k810 := k89.trans k10
         have n0 := (bx.keepNo k810).1; have n1 := (b7.keepNo k810).1))
  clear m0 m1 n0 n1 bx0 bx1 bx2 b70 b71 b72 h8 o9 k9 k89 k10
  replace bx := bx.keepNo k810
  replace o4 := o4.keepNo k810
  replace x0 := x0.keepNo k810
  replace b7 := b7.keepNo k810
  replace x1 := x1.keepNo k810
  replace x2 := x2.keepNo k810
  replace g0 := g0.keepNo k810
  replace kp := kp.trans k810
  have t10 := k810.size
  clear k810
  go_wp2_with fail
  refine (toIntS_any _ _ _ _ _ _ (ho_.keepNo kp) hos).mono ?_
  rintro e w11 ⟨A11, c11, rfl, q11, k11⟩
  replace bx := bx.keepNo k11
  replace o4 := o4.keepNo k11
  replace x0 := x0.keepNo k11
  replace b7 := b7.keepNo k11
  replace x1 := x1.keepNo k11
  replace x2 := x2.keepNo k11
  replace g0 := g0.keepNo k11
  replace kp := kp.trans k11
  have t11 := k11.size
  go_wp2_with fail
  refine (eqIntS_same _ _ _ _ _ _ _ _ _ _ x1.ints q11.ints hos).mono ?_
  rintro e w12 ⟨rfl, k12⟩
  replace bx := bx.keepNo k12
  replace o4 := o4.keepNo k12
  replace x0 := x0.keepNo k12
  replace b7 := b7.keepNo k12
  replace x1 := x1.keepNo k12
  replace x2 := x2.keepNo k12
  replace g0 := g0.keepNo k12
  replace kp := kp.trans k12
  have t12 := k12.size
  clear q11 k11 k12
  go_wp2_with fail
  refine (toIntS_any _ _ _ _ _ _ (hm_.keepNo kp) hms).mono ?_
  rintro e w11m ⟨A11m, c11m, rfl, q11m, k11m⟩
  replace bx := bx.keepNo k11m
  replace o4 := o4.keepNo k11m
  replace x0 := x0.keepNo k11m
  replace b7 := b7.keepNo k11m
  replace x1 := x1.keepNo k11m
  replace x2 := x2.keepNo k11m
  replace g0 := g0.keepNo k11m
  replace kp := kp.trans k11m
  have t11m := k11m.size
  go_wp2_with fail
  refine (eqIntS_same _ _ _ _ _ _ _ _ _ _ x2.ints q11m.ints hms).mono ?_
  rintro e w12m ⟨rfl, k12m⟩
  replace bx := bx.keepNo k12m
  replace o4 := o4.keepNo k12m
  replace x0 := x0.keepNo k12m
  replace b7 := b7.keepNo k12m
  replace x1 := x1.keepNo k12m
  replace x2 := x2.keepNo k12m
  replace g0 := g0.keepNo k12m
  replace kp := kp.trans k12m
  have t12m := k12m.size
  clear q11m k11m k12m
  have yb7 := b7
  obtain ⟨b70, b71, b72⟩ := yb7
  go_wp2_with fail
  refine (markTable_ _ _ _ _ _ _ _ x0 hs (by omega) (by omega)).mono ?_
  rintro e w13 ⟨rfl, k13⟩
  clear b70 b71 b72
  clear x0 b7
  replace bx := bx.keep k13 (fun e => by have := e.1; have := e.2; omega)
  replace o4 := o4.keep k13 (fun i h1 h2 e => by have := e.1; have := e.2; omega)
  replace x1 := x1.keep k13 (fun i h1 h2 e => by have := e.1; have := e.2; omega)
  replace x2 := x2.keep k13 (fun i h1 h2 e => by have := e.1; have := e.2; omega)
  replace g0 := g0.keep k13 (fun i h1 h2 e => by have := e.1; have := e.2; omega)
  replace kp := kp.also k13 (fun i hi e => by have := e.1; omega)
  have t13 := k13.size
  clear k13
  go_wp2_with fail
  refine (markIntS_any _ _ _ _ _ _ _ x1 hos (by omega) (by omega)).mono ?_
  rintro e w14 ⟨rfl, _, k14⟩
  clear x1
  replace bx := bx.keep k14 (fun e => by have := e.1; have := e.2; omega)
  replace o4 := o4.keep k14 (fun i h1 h2 e => by have := e.1; have := e.2; omega)
  replace x2 := x2.keep k14 (fun i h1 h2 e => by have := e.1; have := e.2; omega)
  replace g0 := g0.keep k14 (fun i h1 h2 e => by have := e.1; have := e.2; omega)
  replace kp := kp.also k14 (fun i hi e => by have := e.1; omega)
  have t14 := k14.size
  clear k14
  go_wp2_with fail
  refine (markIntS_any _ _ _ _ _ _ _ x2 hms (by omega) (by omega)).mono ?_
  rintro e w14m ⟨rfl, _, k14m⟩
  clear x2
  replace bx := bx.keep k14m (fun e => by have := e.1; have := e.2; omega)
  replace o4 := o4.keep k14m (fun i h1 h2 e => by have := e.1; have := e.2; omega)
  replace g0 := g0.keep k14m (fun i h1 h2 e => by have := e.1; have := e.2; omega)
  replace kp := kp.also k14m (fun i hi e => by have := e.1; omega)
  have t14m := k14m.size
  clear k14m
  have hn1 : ¬ (1 + (tot xss : Int) + os.length + ms.length < 0) := by omega
  go_wp2_with fail
  refine (eqIntS_same _ _ _ _ _ _ _ _ _ _ g0.ints o4.ints (by omega)).mono ?_
  rintro e w15 ⟨rfl, k15⟩
  replace bx := bx.keepNo k15
  replace o4 := o4.keepNo k15
  replace g0 := g0.keepNo k15
  replace kp := kp.trans k15
  have t15 := k15.size
  clear k15
  go_wp2_with fail
  refine (markIntS_any _ _ _ _ _ _ _ g0 (by omega) (by omega) (by omega)).mono ?_
  rintro e w16 ⟨rfl, g16, k16⟩
  clear g0
  replace bx := bx.keep k16 (fun e => by have := e.1; have := e.2; omega)
  replace o4 := o4.keep k16 (fun i h1 h2 e => by have := e.1; have := e.2; omega)
  replace kp := kp.also k16 (fun i hi e => by have := e.1; omega)
  have t16 := k16.size
  clear k16
  have hn2 : ¬ ((1 : Int) + (overOwners xss os ms).length < 0) := by omega
  have hmm : ((1 : Int) + (overOwners xss os ms).length != 1 + (overOwners xss os ms).length) = false := by simp
  go_wp2_with fail
  refine (heldIntS_any _ _ _ _ _ _ _ g16.ints (by omega) (by omega) (by omega)).mono ?_
  rintro e w17 ⟨rfl, rfl⟩
  have ybx := bx
  obtain ⟨bx0, bx1, bx2⟩ := ybx
  go_wp2_with fail
  refine (toTable_ _ _ _ _ _ _ (h.keepNo kp) hs).mono ?_
  rintro e w18 ⟨A18, c18, rfl, q18, k18⟩
  clear bx0 bx1 bx2
  replace bx := bx.keepNo k18
  replace o4 := o4.keepNo k18
  replace g16 := g16.keepNo k18
  replace kp := kp.trans k18
  go_wp2_with fail
  refine (toIntS_any _ _ _ _ _ _ (ho_.keepNo kp) hos).mono ?_
  rintro e w19 ⟨A19, c19, rfl, q19, k19⟩
  replace bx := bx.keepNo k19
  replace o4 := o4.keepNo k19
  replace g16 := g16.keepNo k19
  replace q18 := q18.keepNo k19
  replace kp := kp.trans k19
  go_wp2_with fail
  refine (toIntS_any _ _ _ _ _ _ (hm_.keepNo kp) hms).mono ?_
  rintro e w19m ⟨A19m, c19m, rfl, q19m, k19m⟩
  replace bx := bx.keepNo k19m
  replace o4 := o4.keepNo k19m
  replace g16 := g16.keepNo k19m
  replace q18 := q18.keepNo k19m
  replace q19 := q19.keepNo k19m
  replace kp := kp.trans k19m
  go_wp2_with fail
  refine (overOwners_impl _ _ _ _ _ _ _ _ _ _ _ _ _ _ _ _ q18.grid hs1 hrows q19.ints hos q19m.ints hms).mono ?_
  rintro e w20 ⟨A20, c20, rfl, o20, k20⟩
  replace bx := bx.keepNo k20
  replace o4 := o4.keepNo k20
  replace g16 := g16.keepNo k20
  replace kp := kp.trans k20
  clear q18 q19 k18 k19 k20 q19m k19m
  go_wp2_with fail
  refine (eqIntS_same _ _ _ _ _ _ _ _ _ _ o20.ints o4.ints (by omega)).mono ?_
  rintro e w21 ⟨rfl, k21⟩
  replace bx := bx.keepNo k21
  replace o4 := o4.keepNo k21
  replace g16 := g16.keepNo k21
  replace o20 := o20.keepNo k21
  replace kp := kp.trans k21
  clear k21
  go_wp2_with fail
  refine (heldIntS_any _ _ _ _ _ _ _ g16.ints (by omega) (by omega) (by omega)).mono ?_
  rintro e w22 ⟨rfl, rfl⟩
  go_wp2_with fail
  go_ret
  exact ⟨rfl, kp⟩
end Go.Proofs.Ytagcdpnbkfoeaaa
