/- The walks of the laws FnExactTrimAdd and FnExactTrimCut. -/
import Derived.Test.YtjjglggfkbbhfaaTrimA
import Derived.WalkKit
import Derived.WalkSpells
import Derived.WalkLawsBesides
import Derived.Outline
import Derived.Deep.RegionHeld3
namespace Go.Proofs.Ytjjglggfkbbhfaa
open Go.RowKit
set_option linter.unusedVariables false

set_option maxRecDepth 100000 in
set_option maxHeartbeats 8000000 in
theorem walk_FnExactTrimAdd {w : World} (A : Option Addr) (xs : List (Int × Int)) (c : Nat) (h : Prs w 0 w.heap.size A xs) (hz : xs.length ≤ 9223372036854775807) (x y : Int) (_ : (Lit.int .i64 x).wf = true) (_ : (Lit.int .i64 y).wf = true) :
    Calls Try.prog 11 #[.slice A xs.length c, .agg #[.int .i64 x, .int .i64 y]] w fun e w' => e = .returned (.bool true) ∧ Kp No w w' := by
  go_enter Try.func11, Try.ntmps11
  have ka : Kp No w (w.alloc (.cells #[.int .i64 x, .int .i64 y] 23)) := (Kp.refl _ _).alloc _
  by_cases hl : 1048576 < xs.length
  · go_wp2_with fail
    refine (szSpanS_big _ _ _ _ _ (by omega) hz (by omega)).mono ?_
    rintro e w' ⟨rfl, rfl⟩
    go_wp2_with fail
    go_ret
    exact ⟨rfl, ka⟩
  · go_wp2_with fail
    refine (szSpanS_ok _ _ _ _ _ (by omega) (by omega)).mono ?_
    rintro e w' ⟨rfl, rfl⟩
    have hrl := (show (trimWith xs (x, y) true).1.length ≤ 4000000 by have := trimWith_len xs (x, y) true; omega)
    have hbne : ((trimWith xs (x, y) true).2 != (trimWith xs (x, y) true).2) = false := by simp
    have d0 : (w.alloc (.cells #[.int .i64 x, .int .i64 y] 23)).cell? ⟨w.heap.size, 0, none⟩ = some (.int .i64 x) := by simp
    have d1 : (w.alloc (.cells #[.int .i64 x, .int .i64 y] 23)).cell? ⟨w.heap.size, 1, none⟩ = some (.int .i64 y) := by simp
    have hsz0 : w.heap.size < (w.alloc (.cells #[.int .i64 x, .int .i64 y] 23)).heap.size := by simp
    generalize w.alloc (.cells #[.int .i64 x, .int .i64 y] 23) = wa at *
    have ha := h.keepNo ka
    go_wp2_with fail
    go_region_held3 (fun w' => w'.cell? ⟨w.heap.size, 0, none⟩ = some (.int .i64 x) ∧ w'.cell? ⟨w.heap.size, 1, none⟩ = some (.int .i64 y) ∧ w.heap.size < w'.heap.size)
      (first | exact ⟨d0, d1, hsz0⟩ | exact ⟨(k1.cell (p := ⟨w.heap.size, 0, none⟩) hsz0 (fun e => e)).trans d0, (k1.cell (p := ⟨w.heap.size, 1, none⟩) hsz0 (fun e => e)).trans d1, Nat.lt_of_lt_of_le hsz0 k1.size⟩ | exact ⟨((k1.trans k2).cell (p := ⟨w.heap.size, 0, none⟩) hsz0 (fun e => e)).trans d0, ((k1.trans k2).cell (p := ⟨w.heap.size, 1, none⟩) hsz0 (fun e => e)).trans d1, Nat.lt_of_lt_of_le hsz0 (k1.trans k2).size⟩ | exact ⟨(((k1.trans k2).trans k3).cell (p := ⟨w.heap.size, 0, none⟩) hsz0 (fun e => e)).trans d0, (((k1.trans k2).trans k3).cell (p := ⟨w.heap.size, 1, none⟩) hsz0 (fun e => e)).trans d1, Nat.lt_of_lt_of_le hsz0 ((k1.trans k2).trans k3).size⟩)
      (first
        | (go_at_call 22; refine (toSpanS_any _ _ _ _ _ _ (ha.keepNo ((Kp.refl _ _).drew)) (by omega)).mono ?_; rintro e w1 ⟨A1, c1, rfl, o1, k1⟩)
        | (go_at_call 16; refine (toSpan_any _ _ _).mono ?_; rintro e w2 ⟨rfl, k2⟩)
        | (go_at_call 32; refine (trimAdd_spec _ _ _ _ _ _ _ _ (o1.keepNo k2).prs (by omega)).mono ?_; rintro e w3 ⟨A3, c3, rfl, o3, k3⟩))
    have kd3 := ((k1.trans k2).trans k3)
    have ka3 := (ka.drew).trans kd3
    have h3 := h.keepNo ka3
    have f0 := (kd3.cell (p := ⟨w.heap.size, 0, none⟩) hsz0 (fun e => e)).trans d0
    have f1 := (kd3.cell (p := ⟨w.heap.size, 1, none⟩) hsz0 (fun e => e)).trans d1
    have hsz3 : w.heap.size < w3.heap.size := Nat.lt_of_lt_of_le hsz0 kd3.size
    have t1 := k1.size; have t2 := k2.size; have t3 := k3.size
    clear d0 d1 ha o1
    go_wp2_with fail
    refine (toSpanS_any _ _ _ _ _ _ h3 (by omega)).mono ?_
    rintro e w4 ⟨A4, c4, rfl, o4, k4⟩
    have h4 := h3.keepNo k4
    have o34 := o3.keepNo k4
    have t4 := k4.size
    have f40 := (k4.cell (p := ⟨w.heap.size, 0, none⟩) hsz3 (fun e => e)).trans f0
    have f41 := (k4.cell (p := ⟨w.heap.size, 1, none⟩) hsz3 (fun e => e)).trans f1
    clear f0 f1
    go_wp2_with fail
    refine (toSpan_any _ _ _).mono ?_
    rintro e w5 ⟨rfl, k5⟩
    go_wp2_with fail
    refine (trimAdd_impl _ _ _ _ _ _ _ _ (o4.keepNo k5).prs (by omega)).mono ?_
    rintro e w6 ⟨A6, c6, rfl, o6, k6⟩
    go_wp2_with fail
    have k56 := k5.trans k6
    have h6 := h4.keepNo k56
    have o36 := o34.keepNo k56
    have o46 := o4.keepNo k56
    have t5 := k5.size; have t6 := k6.size
    have f60 := (k56.cell (p := ⟨w.heap.size, 0, none⟩) (Nat.lt_of_lt_of_le hsz3 t4) (fun e => e)).trans f40
    have f61 := (k56.cell (p := ⟨w.heap.size, 1, none⟩) (Nat.lt_of_lt_of_le hsz3 t4) (fun e => e)).trans f41
    clear f40 f41 h3 h4 o3 o34 o4
    refine (eqSpanS_same _ _ _ _ _ _ _ _ _ _ o6.prs o36.prs hrl).mono ?_
    rintro e w7 ⟨rfl, k7⟩
    go_wp2_with fail
    refine (toSpanS_any _ _ _ _ _ _ (h6.keepNo k7) (by omega)).mono ?_
    rintro e w8 ⟨A8, c8, rfl, o8, k8⟩
    go_wp2_with fail
    have k78 := k7.trans k8
    have h8 := h6.keepNo k78
    have o38 := o36.keepNo k78
    have o48 := o46.keepNo k78
    have o68 := o6.keepNo k78
    have t7 := k7.size; have t8 := k8.size
    refine (eqSpanS_same _ _ _ _ _ _ _ _ _ _ o48.prs o8.prs (by omega)).mono ?_
    rintro e w9 ⟨rfl, k9⟩
    go_wp2_with fail
    have h9 := h8.keepNo k9
    have o39 := o38.keepNo k9
    have o49 := o48.keepNo k9
    have o69 := o68.keepNo k9
    have t9 := k9.size
    have k69 := k78.trans k9
    refine (markSpanS_any _ _ _ _ _ 1 _ o49 (by omega) (by omega) (by omega)).mono ?_
    rintro e w10 ⟨rfl, o410, k10⟩
    go_wp2_with fail
    have h10 := h9.keep k10 (fun i _ hi e => by have := e.1; omega)
    have o310 := o39.keep k10 (fun i _ hi e => by have := e.1; omega)
    have o610 := o69.keep k10 (fun i hi _ e => by have := e.2; omega)
    have t10 := k10.size
    refine (eqSpanS_same _ _ _ _ _ _ _ _ _ _ o610.prs o310.prs hrl).mono ?_
    rintro e w11 ⟨rfl, k11⟩
    go_wp2_with fail
    have h11 := h10.keepNo k11
    have o311 := o310.keepNo k11
    have o611 := o610.keepNo k11
    have t11 := k11.size
    refine (markSpanS_any _ _ _ _ _ 1 _ o611 (by omega) (by omega) (by omega)).mono ?_
    rintro e w12 ⟨rfl, o612, k12⟩
    go_wp2_with fail
    have h12 := h11.keep k12 (fun i _ hi e => by have := e.1; omega)
    have o312 := o311.keep k12 (fun i _ hi e => by have := e.1; omega)
    have t12 := k12.size
    refine (heldSpanS_any _ (trimWith xs (x, y) true).1.length _ _ _ 1 _ o612.prs (by omega) (by omega) (by omega)).mono ?_
    rintro e w' ⟨rfl, rfl⟩
    go_wp2_with fail
    have kA : Kp (Ge w3.heap.size) w6 w12 := (((k69.no).also k10 (fun i hi e => by have := e.1; simp only [Ge]; omega)).alsoNo k11).also k12 (fun i hi e => by have := e.1; simp only [Ge]; omega)
    have g0 := (kA.cell (p := ⟨w.heap.size, 0, none⟩) (by show w.heap.size < _; omega) (fun e => by simp only [Ge] at e; omega)).trans f60
    have g1 := (kA.cell (p := ⟨w.heap.size, 1, none⟩) (by show w.heap.size < _; omega) (fun e => by simp only [Ge] at e; omega)).trans f61
    clear f60 f61
    have hsz12 : w.heap.size < w12.heap.size := by omega
    go_region_held3 (fun w' => w'.cell? ⟨w.heap.size, 0, none⟩ = some (.int .i64 x) ∧ w'.cell? ⟨w.heap.size, 1, none⟩ = some (.int .i64 y) ∧ w.heap.size < w'.heap.size)
      (first | exact ⟨g0, g1, hsz12⟩ | exact ⟨(k13.cell (p := ⟨w.heap.size, 0, none⟩) hsz12 (fun e => e)).trans g0, (k13.cell (p := ⟨w.heap.size, 1, none⟩) hsz12 (fun e => e)).trans g1, Nat.lt_of_lt_of_le hsz12 k13.size⟩ | exact ⟨((k13.trans k14).cell (p := ⟨w.heap.size, 0, none⟩) hsz12 (fun e => e)).trans g0, ((k13.trans k14).cell (p := ⟨w.heap.size, 1, none⟩) hsz12 (fun e => e)).trans g1, Nat.lt_of_lt_of_le hsz12 (k13.trans k14).size⟩ | exact ⟨(((k13.trans k14).trans k15).cell (p := ⟨w.heap.size, 0, none⟩) hsz12 (fun e => e)).trans g0, (((k13.trans k14).trans k15).cell (p := ⟨w.heap.size, 1, none⟩) hsz12 (fun e => e)).trans g1, Nat.lt_of_lt_of_le hsz12 ((k13.trans k14).trans k15).size⟩)
      (first
        | (go_at_call 22; refine (toSpanS_any _ _ _ _ _ _ (h12.keepNo ((Kp.refl _ _).drew)) (by omega)).mono ?_; rintro e w13 ⟨A13, c13, rfl, o13, k13⟩)
        | (go_at_call 16; refine (toSpan_any _ _ _).mono ?_; rintro e w14 ⟨rfl, k14⟩)
        | (go_at_call 33; refine (trimAdd_impl _ _ _ _ _ _ _ _ (o13.keepNo k14).prs (by omega)).mono ?_; rintro e w15 ⟨A15, c15, rfl, o15, k15⟩))
    have kd15 := ((k13.trans k14).trans k15)
    have o315 := (o312.keepNo ((Kp.refl _ _).drew)).keepNo kd15
    have o615 := (o612.keepNo ((Kp.refl _ _).drew)).keepNo kd15
    go_wp2_with fail
    refine (eqSpanS_same _ _ _ _ _ _ _ _ _ _ o15.prs o315.prs hrl).mono ?_
    rintro e w16 ⟨rfl, k16⟩
    go_wp2_with fail
    have o616 := o615.keepNo k16
    refine (heldSpanS_any _ (trimWith xs (x, y) true).1.length _ _ _ 1 _ o616.prs (by omega) (by omega) (by omega)).mono ?_
    rintro e w' ⟨rfl, rfl⟩
    go_wp2_with fail
    go_ret
    refine ⟨rfl, ?_⟩
    have kb := ((((ka3.trans k4).trans k56).trans k69).also k10 (fun i hi e => by have := e.1; have := ka3.size; omega)).trans k11
    exact (((kb.also k12 (fun i hi e => by have := e.1; have := ka3.size; omega)).drew).trans kd15).trans k16
end Go.Proofs.Ytjjglggfkbbhfaa
