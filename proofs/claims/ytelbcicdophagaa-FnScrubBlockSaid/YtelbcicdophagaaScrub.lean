/- CountRead and ScrubBlock, of the program and of the reference. -/
import Derived.Test.YtelbcicdophagaaScrubMath
import Derived.Test.YtelbcicdophagaaSlices
import Derived.WalkKit
import Derived.WalkSpells
import Derived.WalkLawsBesides
import Derived.Outline
namespace Go.Proofs.Ytelbcicdophagaa
open Go.RowKit
set_option linter.unusedVariables false

/-- What a call leaves that hands back a new slice of ints and a bool. -/
def NewIB (w : World) (r : List Int × Bool) (e : Ending) (w' : World) : Prop := ∃ A c, e = .returned (.tuple #[.slice A r.1.length c, .bool r.2]) ∧ OwnI w' w.heap.size w'.heap.size A c r.1 ∧ Kp No w w'

theorem ownI_lit (w : World) (lo : Nat) (cs : Array Value) (xs : List Int) (h : cs.toList = xs.map (Value.int .i64)) (hlo : lo ≤ w.heap.size) (hl : xs.length ≤ 4000000) :
    OwnI (w.alloc (.cells cs 3)) lo (w.heap.size + 1) (some ⟨w.heap.size, 0, none⟩) xs.length xs := by
  have hs : cs.size = xs.length * 1 := by
    have := congrArg List.length h
    simpa using this
  refine ⟨?_, fun g hg => by simp [Value.ownBlock] at hg; omega, by simp⟩
  rw [← h]
  exact World.ownsRow_lit w cs xs.length hlo (by unfold maxLen; omega) hs

set_option maxHeartbeats 1000000 in
theorem countRead_impl (A : Option Addr) (xs : List Int) (c lo hi : Nat) (n : Int) (w : World) (h : Ints w lo hi A xs) (hs : xs.length ≤ 4000000) : Calls Try.prog 18 #[.slice A xs.length c, .int .i64 n] w
    (NewIB w (countRead xs n)) := by
  go_enter Try.func18, Try.ntmps18
  go_wp2_with fail
  refine (readsValid_impl _ _ _ _ _ _ h hs).mono ?_
  rintro e w' ⟨rfl, rfl⟩
  cases hv : readsValid xs
  · have H := Lib.hid (countRead_bad (n := n) (show (readsValid xs && inB n 0 (xs.length - 1)) = false by simp [hv]))
    go_wp2_with fail
    go_ret2
    rw [H.out]
    exact ⟨none, 0, rfl, Own.nil (Nat.le_refl _), Kp.refl _ _⟩
  · have Hv := Lib.hid hv
    by_cases hq : 0 ≤ n ∧ n ≤ (xs.length : Int) - 1
    · obtain ⟨n0, n1⟩ := hq
      obtain ⟨m, rfl⟩ := Int.eq_ofNat_of_zero_le n0
      have hml : m < xs.length := by omega
      go_wp2_with fail
      refine (clone_any _ _ _ _ _ _ h hs).mono ?_
      rintro e w1 ⟨A1, c1, rfl, o1, k1⟩
      obtain ⟨g, x, rfl, hg1, hg2, hx, hc, hf⟩ := o1.at_ hml
      obtain ⟨x0, x1⟩ := reads_at Hv.out hx
      have Hx := Lib.hid hx; clear hx
      by_cases hx1 : x = 1000
      · have H := Lib.hid (countRead_full Hv.out (by rw [← hx1]; exact Hx.out))
        have he : (x == 1000) = true := by simp [hx1]
        clear hx1
        go_wp2_with fail
        go_ret2
        rw [H.out]
        exact ⟨_, c1, rfl, o1, k1⟩
      · have H := Lib.hid (countRead_ok Hv.out Hx.out hx1)
        have he : (x == 1000) = false := by simp [hx1]
        clear hx1
        have o2 := o1.set_ m (x + 1)
        have k2 : Kp No w (w1.setCell ⟨g, m, none⟩ (.int .i64 (x + 1))) := k1.setCell (fun hh => absurd hh (by simp; omega)) _
        go_wp2_with fail
        go_ret2
        rw [H.out]
        exact ⟨_, c1, by simp, o2.wide (Nat.le_refl _) (by simp [World.setCell]) (Nat.le_refl _), k2⟩
    · have H := Lib.hid (countRead_bad (xs := xs) (n := n) (show (readsValid xs && inB n 0 (xs.length - 1)) = false by rw [inB_false hq]; simp))
      have hq' : n < 0 ∨ (xs.length : Int) ≤ n := by omega
      go_wp2_with fail
      all_goals go_ret2
      all_goals rw [H.out]
      all_goals exact ⟨none, 0, rfl, Own.nil (Nat.le_refl _), Kp.refl _ _⟩

set_option maxHeartbeats 1000000 in
theorem scrubBlock_impl (A : Option Addr) (xs : List Int) (c lo hi : Nat) (n : Int) (w : World) (h : Ints w lo hi A xs) (hs : xs.length ≤ 4000000) : Calls Try.prog 24 #[.slice A xs.length c, .int .i64 n] w
    (NewI w (scrubBlock xs n)) := by
  go_enter Try.func24, Try.ntmps24
  go_wp2_with fail
  refine (readsValid_impl _ _ _ _ _ _ h hs).mono ?_
  rintro e w' ⟨rfl, rfl⟩
  cases hv : readsValid xs
  · have H := Lib.hid (scrubBlock_bad (n := n) (show (readsValid xs && inB n 0 (xs.length - 1)) = false by simp [hv]))
    go_wp2_with fail
    go_ret
    rw [H.out]
    exact ⟨none, 0, rfl, Own.nil (Nat.le_refl _), Kp.refl _ _⟩
  · have Hv := Lib.hid hv
    by_cases hq : 0 ≤ n ∧ n ≤ (xs.length : Int) - 1
    · obtain ⟨n0, n1⟩ := hq
      obtain ⟨m, rfl⟩ := Int.eq_ofNat_of_zero_le n0
      have hml : m < xs.length := by omega
      go_wp2_with fail
      refine (clone_any _ _ _ _ _ _ h hs).mono ?_
      rintro e w1 ⟨A1, c1, rfl, o1, k1⟩
      obtain ⟨g, x, rfl, hg1, hg2, hx, hc, hf⟩ := o1.at_ hml
      clear hx
      have H := Lib.hid (scrubBlock_ok Hv.out hml)
      have o2 := o1.set_ m 0
      have k2 : Kp No w (w1.setCell ⟨g, m, none⟩ (.int .i64 0)) := k1.setCell (fun hh => absurd hh (by simp; omega)) _
      go_wp2_with fail
      go_ret
      rw [H.out]
      exact ⟨_, c1, by simp, o2.wide (Nat.le_refl _) (by simp [World.setCell]) (Nat.le_refl _), k2⟩
    · have H := Lib.hid (scrubBlock_bad (xs := xs) (n := n) (show (readsValid xs && inB n 0 (xs.length - 1)) = false by rw [inB_false hq]; simp))
      have hq' : n < 0 ∨ (xs.length : Int) ≤ n := by omega
      go_wp2_with fail
      all_goals go_ret
      all_goals rw [H.out]
      all_goals exact ⟨none, 0, rfl, Own.nil (Nat.le_refl _), Kp.refl _ _⟩

set_option maxHeartbeats 1000000 in
theorem countRead_spec (A : Option Addr) (xs : List Int) (c lo hi : Nat) (n : Int) (w : World) (h : Ints w lo hi A xs) (hs : xs.length ≤ 4000000) : Calls Try.prog 17 #[.slice A xs.length c, .int .i64 n] w
    (NewIB w (countRead xs n)) := by
  have hnil := ownI_lit w w.heap.size #[] [] rfl (Nat.le_refl _) (by simp)
  have hknil : Kp No w (w.alloc (.cells #[] 3)) := (Kp.refl _ _).alloc _
  go_enter Try.func17, Try.ntmps17
  go_wp2_with fail
  refine (readsValid_spec _ _ _ _ _ _ h hs).mono ?_
  rintro e w' ⟨rfl, rfl⟩
  cases hv : readsValid xs
  · have H := Lib.hid (countRead_bad (n := n) (show (readsValid xs && inB n 0 (xs.length - 1)) = false by simp [hv]))
    go_wp2_with fail
    go_ret2
    rw [H.out]
    exact ⟨_, 0, rfl, hnil.wide (Nat.le_refl _) (by simp) (Nat.le_refl _), hknil⟩
  · have Hv := Lib.hid hv
    go_wp2_with fail
    refine (l1In_any _ _ _ _).mono ?_
    rintro e w' ⟨rfl, rfl⟩
    by_cases hq : 0 ≤ n ∧ n ≤ (xs.length : Int) - 1
    · rw [inB_true hq]
      obtain ⟨n0, n1⟩ := hq
      obtain ⟨m, rfl⟩ := Int.eq_ofNat_of_zero_le n0
      have hml : m < xs.length := by omega
      obtain ⟨x, hx⟩ : ∃ x, xs[m]? = some x := ⟨_, List.getElem?_eq_getElem hml⟩
      obtain ⟨x0, x1⟩ := reads_at Hv.out hx
      have Hx := Lib.hid hx; clear hx
      by_cases hx1 : x = 1000
      · have H := Lib.hid (countRead_full Hv.out (by rw [← hx1]; exact Hx.out))
        have he : (x == 1000) = true := by simp [hx1]
        clear hx1
        go_wp2_with (at_builtin; refine wpList_appI _ rfl _ _ rfl w.heap.size (w.heap.size + 1) _ 0 [] rfl hnil _ _ A c xs rfl (h.keepNo hknil) (by simp; omega) (by simp) ?_; intro A1 c1 w1 o1 k1; simp only [List.nil_append] at o1; obtain ⟨g, x', rfl, hg1, hg2, hx', hc, hf⟩ := o1.at_ hml; obtain rfl : x = x' := (by have := Hx.out; rw [this] at hx'; injection hx'); clear hx')
        have k1 : Kp No w w1 := hknil.also k1 (fun i hi e => by have := e.1; omega)
        go_ret2
        rw [H.out]
        exact ⟨_, c1, by simp, o1, k1⟩
      · have H := Lib.hid (countRead_ok Hv.out Hx.out hx1)
        have he : (x == 1000) = false := by simp [hx1]
        clear hx1
        go_wp2_with (at_builtin; refine wpList_appI _ rfl _ _ rfl w.heap.size (w.heap.size + 1) _ 0 [] rfl hnil _ _ A c xs rfl (h.keepNo hknil) (by simp; omega) (by simp) ?_; intro A1 c1 w1 o1 k1; simp only [List.nil_append] at o1; obtain ⟨g, x', rfl, hg1, hg2, hx', hc, hf⟩ := o1.at_ hml; obtain rfl : x = x' := (by have := Hx.out; rw [this] at hx'; injection hx'); clear hx')
        have k1 : Kp No w w1 := hknil.also k1 (fun i hi e => by have := e.1; omega)
        have o2 := o1.set_ m (x + 1)
        have k2 : Kp No w (w1.setCell ⟨g, m, none⟩ (.int .i64 (x + 1))) := k1.setCell (fun hh => absurd hh (by simp; omega)) _
        go_ret2
        rw [H.out]
        exact ⟨_, c1, by simp, o2.wide (Nat.le_refl _) (by simp [World.setCell]) (Nat.le_refl _), k2⟩
    · rw [inB_false hq]
      have H := Lib.hid (countRead_bad (xs := xs) (n := n) (show (readsValid xs && inB n 0 (xs.length - 1)) = false by rw [inB_false hq]; simp))
      go_wp2_with fail
      go_ret2
      rw [H.out]
      exact ⟨_, 0, rfl, hnil.wide (Nat.le_refl _) (by simp) (Nat.le_refl _), hknil⟩

set_option maxHeartbeats 1000000 in
theorem scrubBlock_spec (A : Option Addr) (xs : List Int) (c lo hi : Nat) (n : Int) (w : World) (h : Ints w lo hi A xs) (hs : xs.length ≤ 4000000) : Calls Try.prog 23 #[.slice A xs.length c, .int .i64 n] w
    (NewI w (scrubBlock xs n)) := by
  have hnil := ownI_lit w w.heap.size #[] [] rfl (Nat.le_refl _) (by simp)
  have hknil : Kp No w (w.alloc (.cells #[] 3)) := (Kp.refl _ _).alloc _
  go_enter Try.func23, Try.ntmps23
  go_wp2_with fail
  refine (readsValid_spec _ _ _ _ _ _ h hs).mono ?_
  rintro e w' ⟨rfl, rfl⟩
  cases hv : readsValid xs
  · have H := Lib.hid (scrubBlock_bad (n := n) (show (readsValid xs && inB n 0 (xs.length - 1)) = false by simp [hv]))
    go_wp2_with fail
    go_ret
    rw [H.out]
    exact ⟨_, 0, rfl, hnil.wide (Nat.le_refl _) (by simp) (Nat.le_refl _), hknil⟩
  · have Hv := Lib.hid hv
    go_wp2_with fail
    refine (l1In_any _ _ _ _).mono ?_
    rintro e w' ⟨rfl, rfl⟩
    by_cases hq : 0 ≤ n ∧ n ≤ (xs.length : Int) - 1
    · rw [inB_true hq]
      obtain ⟨n0, n1⟩ := hq
      obtain ⟨m, rfl⟩ := Int.eq_ofNat_of_zero_le n0
      have hml : m < xs.length := by omega
      have H := Lib.hid (scrubBlock_ok Hv.out hml)
      go_wp2_with (at_builtin; refine wpList_appI _ rfl _ _ rfl w.heap.size (w.heap.size + 1) _ 0 [] rfl hnil _ _ A c xs rfl (h.keepNo hknil) (by simp; omega) (by simp) ?_; intro A1 c1 w1 o1 k1; simp only [List.nil_append] at o1; obtain ⟨g, x', rfl, hg1, hg2, hx', hc, hf⟩ := o1.at_ hml; clear hx')
      have k1 : Kp No w w1 := hknil.also k1 (fun i hi e => by have := e.1; omega)
      have o2 := o1.set_ m 0
      have k2 : Kp No w (w1.setCell ⟨g, m, none⟩ (.int .i64 0)) := k1.setCell (fun hh => absurd hh (by simp; omega)) _
      go_ret
      rw [H.out]
      exact ⟨_, c1, by simp, o2.wide (Nat.le_refl _) (by simp [World.setCell]) (Nat.le_refl _), k2⟩
    · rw [inB_false hq]
      have H := Lib.hid (scrubBlock_bad (xs := xs) (n := n) (show (readsValid xs && inB n 0 (xs.length - 1)) = false by rw [inB_false hq]; simp))
      go_wp2_with fail
      go_ret
      rw [H.out]
      exact ⟨_, 0, rfl, hnil.wide (Nat.le_refl _) (by simp) (Nat.le_refl _), hknil⟩
end Go.Proofs.Ytelbcicdophagaa
