/- The laws' helpers on spares (szSpares, toSpares, eqSpares, markSpares, heldSpares) and the walk of FnExactMarkBad. -/
import Derived.Test.YtcnaehllegoefaaMarkBad
namespace Go.Proofs.Ytcnaehllegoefaa
open Go.RowKit
set_option linter.unusedVariables false

theorem szIntS_ (A : Option Addr) (n c : Nat) (left : Int) (w : World) (hn : n ≤ 9223372036854775807) (hl0 : 0 ≤ left) (hl : left ≤ 1048576) : Calls Try.prog 55 #[.slice A n c, .int .i64 left] w
    fun e w' => e = .returned (.int .i64 (if left < n then -1 else left - n)) ∧ w = w' := by
  have hsub : IntKind.i64.wrap (left - (n : Int)) = left - n := IntWalk.i64_in _ (by omega)
  go_enter Try.func55, Try.ntmps55
  by_cases h : left < n
  · have h' : left - (n : Int) < 0 := by omega
    rw [if_pos h]
    go_wp2
    go_ret
    exact ⟨rfl, rfl⟩
  · have h' : ¬ (left - (n : Int) < 0) := by omega
    rw [if_neg h]
    go_wp2
    go_ret
    exact ⟨rfl, rfl⟩

theorem szSpares_ (B X : Int) (A : Option Addr) (n c : Nat) (left : Int) (w : World) (hn : n ≤ 9223372036854775807) (hl0 : 0 ≤ left) (hl : left ≤ 1048576) : Calls Try.prog 38 #[.agg #[.int .i64 B, .int .i64 X, .slice A n c], .int .i64 left] w
    fun e w' => e = .returned (.int .i64 (if left < n then -1 else left - n)) ∧ Kp No w w' := by
  go_enter Try.func38, Try.ntmps38
  go_wp2_with fail
  refine (szIntS_ _ _ _ _ _ hn hl0 hl).mono ?_
  rintro e w' ⟨rfl, rfl⟩
  by_cases h : left < n
  · rw [if_pos h]
    go_wp2
    go_ret
    exact ⟨rfl, (Kp.refl _ _).alloc _⟩
  · rw [if_neg h]
    have h' : ¬ (left - (n : Int) < 0) := by omega
    go_wp2
    go_ret
    exact ⟨rfl, (Kp.refl _ _).alloc _⟩

/-- What a call leaves that hands back new spares. -/
def NewS (w : World) (B X : Int) (xs : List Int) (e : Ending) (w' : World) : Prop :=
  ∃ A c, e = .returned (.agg #[.int .i64 B, .int .i64 X, .slice A xs.length c]) ∧ OwnI w' w.heap.size w'.heap.size A c xs ∧ Kp No w w'

set_option maxHeartbeats 1000000 in
theorem toSpares_ (B X : Int) (A : Option Addr) (xs : List Int) (c lo hi : Nat) (w : World) (h : Ints w lo hi A xs) (hs : xs.length ≤ 4000000) : Calls Try.prog 39 #[.agg #[.int .i64 B, .int .i64 X, .slice A xs.length c]] w (NewS w B X xs) := by
  have ka := (((Kp.refl No w).alloc (.cells #[.int .i64 B, .int .i64 X, .slice A xs.length c] 50)).alloc (.cells #[.int .i64 0, .int .i64 0, .slice none 0 0] 42)).alloc (.cells #[.int .i64 B, .int .i64 X, .slice none 0 0] 42)
  have hr := (BoxS.new (w.alloc (.cells #[.int .i64 B, .int .i64 X, .slice A xs.length c] 50)) 42 0 0 none 0 0).keepNo ((Kp.refl No _).alloc (.cells #[.int .i64 B, .int .i64 X, .slice none 0 0] 42))
  have hb := BoxS.new ((w.alloc (.cells #[.int .i64 B, .int .i64 X, .slice A xs.length c] 50)).alloc (.cells #[.int .i64 0, .int .i64 0, .slice none 0 0] 42)) 42 B X none 0 0
  rw [show (w.alloc (.cells #[.int .i64 B, .int .i64 X, .slice A xs.length c] 50)).heap.size = w.heap.size + 1 by simp] at hr
  rw [show ((w.alloc (.cells #[.int .i64 B, .int .i64 X, .slice A xs.length c] 50)).alloc (.cells #[.int .i64 0, .int .i64 0, .slice none 0 0] 42)).heap.size = w.heap.size + 2 by simp] at hb
  go_enter Try.func39, Try.ntmps39
  go_wp2_with fail
  refine (toIntS_any _ _ _ _ _ _ (h.keepNo ka) hs).mono ?_
  rintro e w1 ⟨A1, c1, rfl, o1, k1⟩
  have o1' := o1
  rw [show (((w.alloc (.cells #[.int .i64 B, .int .i64 X, .slice A xs.length c] 50)).alloc (.cells #[.int .i64 0, .int .i64 0, .slice none 0 0] 42)).alloc (.cells #[.int .i64 B, .int .i64 X, .slice none 0 0] 42)).heap.size = w.heap.size + 3 by simp] at o1'
  have kp := ka.trans k1
  have hr1 := hr.keepNo k1
  have hb1 := hb.keepNo k1
  clear o1 hr hb ka k1
  have ds := hb1.set2 A1 xs.length c1
  have ks1 := Kp.set1 w1 (w.heap.size + 2) (.slice A1 xs.length c1)
  have Br8 := hr1.keep ks1 (by simp only [At]; omega)
  have d3 := Br8.set B X A1 xs.length c1
  have ks2 := Kp.set3 (w1.setCell ⟨w.heap.size + 2, 2, none⟩ (.slice A1 xs.length c1)) (w.heap.size + 1) (.int .i64 B) (.int .i64 X) (.slice A1 xs.length c1)
  have o8 := (o1'.keep ks1 (fun i hi _ e => by simp only [At] at e; omega)).keep ks2 (fun i hi _ e => by simp only [At] at e; omega)
  have s8 := ks1.size; have s9 := ks2.size
  obtain ⟨p0, p1, p2, p3, p4, p5, p6⟩ := hb1
  obtain ⟨q0, q1, q2, q3, q4, q5, q6⟩ := hr1
  obtain ⟨r0, r1, r2, r3, r4, r5, r6⟩ := ds
  obtain ⟨t0, t1, t2, t3, t4, t5, t6⟩ := Br8
  go_wp2_with fail
  refine bodyPost_ret (v := .agg #[.int .i64 B, .int .i64 X, .slice A1 xs.length c1]) (by simp [results, Try.results39, go_sem, d3.1, d3.2.1, d3.2.2.1]) rfl ?_
  exact ⟨A1, c1, rfl, o8.wide (by omega) (Nat.le_trans s8 s9) (Nat.le_refl _), (kp.also ks1 (fun i hi e => by simp only [At] at e; omega)).also ks2 (fun i hi e => by simp only [At] at e; omega)⟩

theorem eqSpares_ (B X : Int) (A A' : Option Addr) (xs : List Int) (c c' lo hi lo' hi' : Nat) (w : World) (h : Ints w lo hi A xs) (h' : Ints w lo' hi' A' xs) (hs : xs.length ≤ 4000000) : Calls Try.prog 40 #[.agg #[.int .i64 B, .int .i64 X, .slice A xs.length c], .agg #[.int .i64 B, .int .i64 X, .slice A' xs.length c']] w
    fun e w' => e = .returned (.bool true) ∧ Kp No w w' := by
  have hB : (B != B) = false := by simp
  have hX : (X != X) = false := by simp
  have ka := ((Kp.refl No w).alloc (.cells #[.int .i64 B, .int .i64 X, .slice A xs.length c] 42)).alloc (.cells #[.int .i64 B, .int .i64 X, .slice A' xs.length c'] 42)
  go_enter Try.func40, Try.ntmps40
  go_wp2_with fail
  refine (eqIntS_same _ _ _ _ _ _ _ _ _ _ (h.keepNo ka) (h'.keepNo ka) hs).mono ?_
  rintro e w1 ⟨rfl, k1⟩
  go_wp2_with fail
  go_ret
  exact ⟨rfl, ka.trans k1⟩

theorem markSpares_ (B X : Int) (A : Option Addr) (xs : List Int) (c lo hi : Nat) (m : Int) (w : World) (h : OwnI w lo hi A c xs) (hs : xs.length ≤ 4000000) (hm0 : 0 ≤ m) (hm1 : m ≤ 4000000) : Calls Try.prog 41 #[.agg #[.int .i64 B, .int .i64 X, .slice A xs.length c], .int .i64 m] w
    fun e w' => e = .returned (.int .i64 (m + xs.length)) ∧ OwnI w' lo hi A c (marks xs.length m) ∧ Kp (Rg lo hi) w w' := by
  have ka := (Kp.refl No w).alloc (.cells #[.int .i64 B, .int .i64 X, .slice A xs.length c] 42)
  go_enter Try.func41, Try.ntmps41
  go_wp2_with fail
  refine (markIntS_any _ _ _ _ _ _ _ (h.keepNo ka) hs hm0 hm1).mono ?_
  rintro e w1 ⟨rfl, o1, k1⟩
  go_wp2_with fail
  go_ret
  exact ⟨rfl, o1, ka.no.trans k1⟩

theorem heldSpares_ (B X : Int) (A : Option Addr) (n c lo hi : Nat) (m : Int) (w : World) (h : Ints w lo hi A (marks n m)) (hs : n ≤ 4000000) (hm0 : 0 ≤ m) (hm1 : m ≤ 4000000) : Calls Try.prog 42 #[.agg #[.int .i64 B, .int .i64 X, .slice A n c], .int .i64 m] w
    fun e w' => e = .returned (.int .i64 (m + n)) ∧ Kp No w w' := by
  have ka := (Kp.refl No w).alloc (.cells #[.int .i64 B, .int .i64 X, .slice A n c] 42)
  have hneg : ¬ (m + (n : Int) < 0) := by omega
  go_enter Try.func42, Try.ntmps42
  go_wp2_with fail
  refine (heldIntS_any _ _ _ _ _ _ _ (h.keepNo ka) hs hm0 hm1).mono ?_
  rintro e w1 ⟨rfl, rfl⟩
  go_wp2_with fail
  go_ret
  exact ⟨rfl, ka⟩
end Go.Proofs.Ytcnaehllegoefaa
