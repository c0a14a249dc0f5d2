/- The walk of the law FnExactKeepValue. -/
import Derived.Test.YteabpdnlkncbpaaKeepI
import Derived.WalkKit
import Derived.WalkSpells
import Derived.WalkLawsBesides
import Derived.Outline
namespace Go.Proofs.Yteabpdnlkncbpaa
open Go.RowKit
set_option linter.unusedVariables false

set_option maxHeartbeats 4000000 in
theorem walk_FnExactKeepValue {w : World} (A : Option Addr) (xs : List (Int × Int)) (c : Nat) (h : Prs w 0 w.heap.size A xs) (hz : xs.length ≤ 9223372036854775807) (v : Int) (_ : (Lit.int .i64 v).wf = true) :
    Calls Try.prog 9 #[.slice A xs.length c, .int .i64 v] w fun e w' => e = .returned (.bool true) ∧ Kp No w w' := by
  go_enter Try.func9, Try.ntmps9
  by_cases hl : 1048576 < xs.length
  · go_wp2_with fail
    refine (szKeptS_big _ _ _ _ _ (by omega) hz (by omega)).mono ?_
    rintro e w' ⟨rfl, rfl⟩
    go_wp2_with fail
    go_ret
    exact ⟨rfl, Kp.refl _ _⟩
  · go_wp2_with fail
    refine (szKeptS_ok _ _ _ _ _ (by omega) (by omega)).mono ?_
    rintro e w' ⟨rfl, rfl⟩
    go_wp2_with fail
    have hrl := (show (keepValue xs v).1.length ≤ 4000000 by have := keepValue_len xs v; omega)
    refine (toKeptS_any _ _ _ _ _ _ h (by omega)).mono ?_
    rintro e w1 ⟨A1, c1, rfl, o1, k1⟩
    go_wp2_with fail
    refine (keepValue_spec _ _ _ _ _ _ _ o1 (by omega)).mono ?_
    rintro e w2 ⟨A2, c2, rfl, o2, k2⟩
    go_wp2_with fail
    have h2 := (h.keepNo k1).keepNo k2
    refine (toKeptS_any _ _ _ _ _ _ h2 (by omega)).mono ?_
    rintro e w3 ⟨A3, c3, rfl, o3, k3⟩
    go_wp2_with fail
    have h3 := h2.keepNo k3
    have o23 := o2.keepNo k3
    refine (keepValue_impl _ _ _ _ _ _ _ o3.prs (by omega)).mono ?_
    rintro e w4 ⟨A4, c4, rfl, o4, k4⟩
    go_wp2_with fail
    have h4 := h3.keepNo k4
    have o24 := o23.keepNo k4
    have o34 := o3.keepNo k4
    clear h h2 h3 o1 o2 o23 o3
    have hbne : ((keepValue xs v).2 != (keepValue xs v).2) = false := by simp
    refine (eqKeptS_same _ _ _ _ _ _ _ _ _ _ o4.prs o24.prs hrl).mono ?_
    rintro e w5 ⟨rfl, k5⟩
    go_wp2_with fail
    refine (toKeptS_any _ _ _ _ _ _ (h4.keepNo k5) (by omega)).mono ?_
    rintro e w6 ⟨A6, c6, rfl, o6, k6⟩
    go_wp2_with fail
    have k46 := k5.trans k6
    have h6 := h4.keepNo k46
    have o26 := o24.keepNo k46
    have o36 := o34.keepNo k46
    have o46 := o4.keepNo k46
    refine (eqKeptS_same _ _ _ _ _ _ _ _ _ _ o36.prs o6.prs (by omega)).mono ?_
    rintro e w7 ⟨rfl, k7⟩
    go_wp2_with fail
    have h7 := h6.keepNo k7
    have o27 := o26.keepNo k7
    have o37 := o36.keepNo k7
    have o47 := o46.keepNo k7
    have s1 := k1.size; have s2 := k2.size; have s3 := k3.size; have s4 := k4.size; have s5 := k5.size; have s6 := k6.size; have s7 := k7.size
    refine (markKeptS_any _ _ _ _ _ 1 _ o37 (by omega) (by omega) (by omega)).mono ?_
    rintro e w8 ⟨rfl, o38, k8⟩
    go_wp2_with fail
    have h8 := h7.keep k8 (fun i _ hi e => by have := e.1; omega)
    have o28 := o27.keep k8 (fun i _ hi e => by have := e.1; omega)
    have o48 := o47.keep k8 (fun i hi _ e => by have := e.2; omega)
    refine (eqKeptS_same _ _ _ _ _ _ _ _ _ _ o48.prs o28.prs hrl).mono ?_
    rintro e w9 ⟨rfl, k9⟩
    go_wp2_with fail
    have h9 := h8.keepNo k9
    have o29 := o28.keepNo k9
    have o49 := o48.keepNo k9
    have s8 := k8.size; have s9 := k9.size
    refine (markKeptS_any _ _ _ _ _ 1 _ o49 (by omega) (by omega) (by omega)).mono ?_
    rintro e w10 ⟨rfl, o410, k10⟩
    go_wp2_with fail
    have h10 := h9.keep k10 (fun i _ hi e => by have := e.1; omega)
    have o210 := o29.keep k10 (fun i _ hi e => by have := e.1; omega)
    refine (heldKeptS_any _ (keepValue xs v).1.length _ _ _ 1 _ o410.prs (by omega) (by omega) (by omega)).mono ?_
    rintro e w' ⟨rfl, rfl⟩
    go_wp2_with fail
    have s10 := k10.size
    refine (toKeptS_any _ _ _ _ _ _ h10 (by omega)).mono ?_
    rintro e w11 ⟨A11, c11, rfl, o11, k11⟩
    go_wp2_with fail
    have h11 := h10.keepNo k11
    have o211 := o210.keepNo k11
    have o411 := o410.keepNo k11
    refine (keepValue_impl _ _ _ _ _ _ _ o11.prs (by omega)).mono ?_
    rintro e w12 ⟨A12, c12, rfl, o12, k12⟩
    go_wp2_with fail
    have o212 := o211.keepNo k12
    have o412 := o411.keepNo k12
    refine (eqKeptS_same _ _ _ _ _ _ _ _ _ _ o12.prs o212.prs hrl).mono ?_
    rintro e w13 ⟨rfl, k13⟩
    go_wp2_with fail
    have o413 := o412.keepNo k13
    refine (heldKeptS_any _ (keepValue xs v).1.length _ _ _ 1 _ o413.prs (by omega) (by omega) (by omega)).mono ?_
    rintro e w' ⟨rfl, rfl⟩
    go_wp2_with fail
    go_ret
    refine ⟨rfl, ?_⟩
    have ka := ((((((k1.trans k2).trans k3).trans k4).trans k5).trans k6).trans k7).also k8 (fun i hi e => by have := e.1; omega)
    have kb := (ka.trans k9).also k10 (fun i hi e => by have := e.1; omega)
    exact ((kb.trans k11).trans k12).trans k13
end Go.Proofs.Yteabpdnlkncbpaa
