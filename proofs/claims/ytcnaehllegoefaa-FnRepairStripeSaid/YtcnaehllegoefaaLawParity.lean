/- DrawParityOf, and the walk of the law FnParityOf. -/
import Derived.Test.YtcnaehllegoefaaLawStripe
import Derived.Test.YtcnaehllegoefaaParity
import Derived.WalkKit
import Derived.WalkSpells
import Derived.WalkLawsBesides
import Derived.Outline
namespace Go.Proofs.Ytcnaehllegoefaa
open Go.RowKit
set_option linter.unusedVariables false

/-- A literal slice of ints in a new block. -/
theorem ownI_lit (w : World) (lo : Nat) (cs : Array Value) (xs : List Int) (h : cs.toList = xs.map (Value.int .i64)) (hlo : lo ≤ w.heap.size) (hl : xs.length ≤ 4000000) :
    OwnI (w.alloc (.cells cs 3)) lo (w.heap.size + 1) (some ⟨w.heap.size, 0, none⟩) xs.length xs := by
  have hs : cs.size = xs.length * 1 := by
    have := congrArg List.length h
    simpa using this
  refine ⟨?_, fun g hg => by simp [Value.ownBlock] at hg; omega, by simp⟩
  rw [← h]
  exact World.ownsRow_lit w cs xs.length hlo (by unfold maxLen; omega) hs

theorem drawParityOf (A : Option Addr) (zs : List Int) (c : Nat) (w : World) (h : Byts w A zs) (hcap : zs.length ≤ c) (hl : zs.length ≤ 4000000) :
    Calls Try.prog 24 #[.slice A zs.length c] w (SomeI 8 w) := by
  go_enter Try.func24, Try.ntmps24
  go_wp2_with fail
  refine (open_ _ _ _ _ h hcap hl).mono ?_
  rintro e w1 ⟨rfl, r1, k1, z1⟩
  go_wp2_with fail
  refine (l20Stripe_ _ _ _ _ r1 (by omega) (by omega) (by omega)).mono ?_
  rintro e w2 ⟨A2, c2, xs, rfl, o2, l2, r2, k2⟩
  have k2' : Kp No w w2 := k1.also k2 (fun i hi e => by simp only [At] at e; omega)
  have s2 := k2.size
  clear h hcap k1 k2 r1
  go_wp2_with fail
  refine (odd_ _ _ _ _ r2 (by omega) (by omega) (by omega)).mono ?_
  rintro e w3 ⟨b, rfl, r3, k3, z3⟩
  have o3 := o2.keep k3 (fun i hi _ e => by simp only [At] at e; omega)
  have k3' : Kp No w w3 := k2'.also k3 (fun i hi e => by simp only [At] at e; omega)
  clear o2 k3 r2 r3 k2'
  cases b
  · go_wp2_with fail
    go_ret
    exact ⟨A2, c2, xs, rfl, o3.wide (by omega) (by omega) (Nat.le_refl _), by omega, k3'⟩
  · have o4 := ownI_lit w3 w3.heap.size #[.int .i64 (-1)] [-1] rfl (Nat.le_refl _) (by simp)
    go_wp2_with (at_builtin; refine wpList_appI _ rfl _ _ rfl _ _ _ 1 [-1] rfl o4 _ _ A2 c2 xs rfl (o3.ints.keepNo ((Kp.refl _ _).alloc _)) (by simp; omega) (by simp) ?_; intro A5 c5 w5 o5 k5)
    go_ret
    exact ⟨A5, c5, [-1] ++ xs, by simp [Nat.add_comm], o5.wide (by omega) (Nat.le_refl _) (Nat.le_refl _), by simp; omega, (k3'.alloc _).also k5 (fun i hi e => by have := e.1; have := k3'.size; omega)⟩

set_option maxHeartbeats 1000000 in
theorem walk_FnParityOf {w : World} (A : Option Addr) (zs : List Int) (c : Nat) (h : Byts w A zs) (hcap : zs.length ≤ c) :
    Calls Try.prog 8 #[.slice A zs.length c] w fun e w' => e = .returned (.bool true) ∧ Kp No w w' := by
  go_enter Try.func8, Try.ntmps8
  by_cases hl : 1048576 < zs.length
  · go_wp2_with fail
    go_ret
    exact ⟨rfl, Kp.refl _ _⟩
  · go_wp2_with fail
    refine (drawParityOf _ _ _ _ h hcap (by omega)).mono ?_
    rintro e w1 ⟨A1, c1, xs, rfl, o1, l1, k1⟩
    clear h hcap
    have hne : (parityOf xs != parityOf xs) = false := by simp
    go_wp2_with fail
    refine (parityOf_impl _ _ _ _ _ _ o1.ints (by omega)).mono ?_
    rintro e w' ⟨rfl, rfl⟩
    go_wp2_with fail
    refine (parityOf_spec _ _ _ _ _ _ o1.ints (by omega)).mono ?_
    rintro e w' ⟨rfl, rfl⟩
    have hge := parity_ge xs
    by_cases hc : parityOf xs < 0 ∨ xs.length = 6
    · by_cases hneg : parityOf xs < 0
      · go_wp2_with (go_at_call 16; refine (alive_ _).mono ?_; rintro e w' ⟨rfl, rfl⟩)
        go_ret
        exact ⟨rfl, k1⟩
      · have h6 : ((xs.length : Int) == 6) = true := by simp; omega
        clear hc
        go_wp2_with (go_at_call 16; refine (alive_ _).mono ?_; rintro e w' ⟨rfl, rfl⟩)
        go_ret
        exact ⟨rfl, k1⟩
    · have hp0 : 0 ≤ parityOf xs := by omega
      have h6n : xs.length ≠ 6 := by omega
      have h6 : ((xs.length : Int) == 6) = false := beq_eq_false_iff_ne.2 (by omega)
      obtain ⟨hp1, hp2⟩ := parity_more hp0 h6n
      have Hp2 := Lib.hid hp2
      clear hc h6n hp2
      have o2 := ownI_lit w1 w1.heap.size #[] [] rfl (Nat.le_refl _) (by simp)
      go_wp2_with (first
        | (at_builtin; refine wpList_appI _ rfl (.tmp 31) (.tmp 32) rfl _ _ _ 0 [] rfl o2 _ _ A1 c1 xs rfl (o1.ints.keepNo ((Kp.refl _ _).alloc _)) (by simp; omega) (by simp) ?_; intro A3 c3 w3 o3 k3; rw [List.nil_append] at o3)
        | (at_builtin; refine wpList_appI _ rfl (.tmp 33) (.tmp 35) rfl _ _ A3 c3 xs rfl (o3.keepNo ((Kp.refl _ _).alloc _)) _ _ _ _ [parityOf xs] rfl (ints_lit _ _ _) (by simp; omega) (by have := k3.size; simp at this ⊢; omega) ?_; intro A4 c4 w4 o4 k4))
      rw [show xs.length + 1 = (xs ++ [parityOf xs]).length from by simp]
      refine (parityOf_impl _ _ _ _ _ _ o4.ints (by simp; omega)).mono ?_
      rintro e w' ⟨rfl, rfl⟩
      rw [Hp2.out]
      go_wp2_with fail
      go_ret
      have s1 := k1.size
      refine ⟨rfl, ((((k1.alloc _).also k3 (fun i hi e => by have := e.1; omega)).alloc _).also k4 (fun i hi e => by have := e.1; omega))⟩
end Go.Proofs.Ytcnaehllegoefaa
