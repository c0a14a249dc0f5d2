/- NewParity, of the program and of the reference: one Lean function newParity for both; the law FnExactNewParity. -/
import Derived.Test.YtcnaehllegoefaaInts
import Derived.WalkKit
import Derived.ProofKit
import Derived.OpenShut
import Derived.WalkSpells
import Derived.WalkLawsBesides
import Derived.Outline
import Derived.Lib.Hide
namespace Go.Proofs.Ytcnaehllegoefaa
open Go.ChangeShapes Go.WideShapes Go.ChangeAt Go.RowKit
set_option linter.unusedVariables false

def byteB (n : Int) : Bool := inB n 0 255
def newParity (a b c : Int) : Int := if byteB a && byteB b && byteB c then bits .xor .i64 (bits .xor .i64 a b) c else -1

theorem newParity_impl (a b c : Int) (w : World) : Calls Try.prog 14 #[.int .i64 a, .int .i64 b, .int .i64 c] w
    fun e w' => e = .returned (.int .i64 (newParity a b c)) ∧ w = w' := by
  have i0 : ∀ w, (Instr.index 54 (.agg #[.int .i64 a, .int .i64 b, .int .i64 c]) (.int .i64 0)).run Try.prog w = .ok (.int .i64 a) w := fun _ => by kernel_rfl
  have i1 : ∀ w, (Instr.index 54 (.agg #[.int .i64 a, .int .i64 b, .int .i64 c]) (.int .i64 1)).run Try.prog w = .ok (.int .i64 b) w := fun _ => by kernel_rfl
  have i2 : ∀ w, (Instr.index 54 (.agg #[.int .i64 a, .int .i64 b, .int .i64 c]) (.int .i64 2)).run Try.prog w = .ok (.int .i64 c) w := fun _ => by kernel_rfl
  go_enter Try.func14, Try.ntmps14
  by_cases ha : byteB a = true
  · by_cases hb : byteB b = true
    · by_cases hc : byteB c = true
      · have E : newParity a b c = bits .xor .i64 (bits .xor .i64 a b) c := by simp [newParity, ha, hb, hc]
        have H := Lib.hid E; clear E
        simp [byteB, inB] at ha hb hc
        obtain ⟨a0, a1⟩ := ha; obtain ⟨b0, b1⟩ := hb; obtain ⟨c0, c1⟩ := hc
        go_wp2
        refine wp_loop_rounds 4 ?_
        rw [rounds_succ]
        go_wp2
        rw [rounds_succ]
        go_wp2
        rw [rounds_succ]
        go_wp2
        rw [rounds_succ]
        go_wp2
        go_ret
        exact ⟨ret_int H.out.symm, rfl⟩
      · have E : newParity a b c = -1 := by simp [newParity, hc]
        have H := Lib.hid E; clear E
        have hc : c < 0 ∨ 255 < c := by simp [byteB, inB] at hc; omega
        simp [byteB, inB] at ha hb
        obtain ⟨a0, a1⟩ := ha; obtain ⟨b0, b1⟩ := hb
        go_wp2
        refine wp_loop_rounds 4 ?_
        rw [rounds_succ]
        go_wp2
        rw [rounds_succ]
        go_wp2
        rw [rounds_succ]
        go_wp2
        all_goals go_ret
        all_goals exact ⟨ret_int H.out.symm, rfl⟩
    · have E : newParity a b c = -1 := by simp [newParity, hb]
      have H := Lib.hid E; clear E
      have hb : b < 0 ∨ 255 < b := by simp [byteB, inB] at hb; omega
      simp [byteB, inB] at ha
      obtain ⟨a0, a1⟩ := ha
      go_wp2
      refine wp_loop_rounds 4 ?_
      rw [rounds_succ]
      go_wp2
      rw [rounds_succ]
      go_wp2
      all_goals go_ret
      all_goals exact ⟨ret_int H.out.symm, rfl⟩
  · have E : newParity a b c = -1 := by simp [newParity, ha]
    have H := Lib.hid E; clear E
    have ha : a < 0 ∨ 255 < a := by simp [byteB, inB] at ha; omega
    go_wp2
    refine wp_loop_rounds 4 ?_
    rw [rounds_succ]
    go_wp2
    all_goals go_ret
    all_goals exact ⟨ret_int H.out.symm, rfl⟩

theorem newParity_spec (a b c : Int) (w : World) : Calls Try.prog 13 #[.int .i64 a, .int .i64 b, .int .i64 c] w
    fun e w' => e = .returned (.int .i64 (newParity a b c)) ∧ w = w' := by
  go_enter Try.func13, Try.ntmps13
  go_wp2_with (go_at_call 43; refine (l1In_any _ _ _ _).mono ?_; rintro e w' ⟨rfl, rfl⟩)
  all_goals go_ret
  all_goals exact ⟨ret_int (by simp_all [newParity, byteB]), rfl⟩

theorem walk_FnExactNewParity {w : World} (a : Int) (_ : (Lit.int .i64 a).wf = true) (b : Int) (_ : (Lit.int .i64 b).wf = true) (c : Int) (_ : (Lit.int .i64 c).wf = true) :
    Calls Try.prog 3 #[.int .i64 a, .int .i64 b, .int .i64 c] w fun e w' => e = .returned (.bool true) ∧ Kp No w w' := by
  go_enter Try.func3, Try.ntmps3
  have hne : (newParity a b c != newParity a b c) = false := by simp
  go_wp2_with fail
  refine (newParity_spec _ _ _ _).mono ?_
  rintro e w' ⟨rfl, rfl⟩
  go_wp2_with fail
  refine (newParity_impl _ _ _ _).mono ?_
  rintro e w' ⟨rfl, rfl⟩
  go_wp2_with fail
  go_ret
  exact ⟨rfl, Kp.refl _ _⟩
end Go.Proofs.Ytcnaehllegoefaa
