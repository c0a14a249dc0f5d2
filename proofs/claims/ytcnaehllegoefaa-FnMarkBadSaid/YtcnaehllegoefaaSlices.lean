/- slices.Index, Contains, Clone at []int. -/
import Derived.Test.YtcnaehllegoefaaInts
import Derived.Test.YtcnaehllegoefaaApp
import Derived.WalkKit
import Derived.WalkSpells
import Derived.WalkLawsBesides
import Derived.Outline
namespace Go.Proofs.Ytcnaehllegoefaa
open Go.RowKit
set_option linter.unusedVariables false

/-- The first place of v, or -1. -/
def idxI (xs : List Int) (v : Int) : Int := match xs.findIdx? (· == v) with | some k => (k : Int) | none => -1
def Before (xs : List Int) (v : Int) (k : Nat) : Prop := ∀ (j : Nat) (x : Int), j < k → xs[j]? = some x → x ≠ v
theorem Before.succ {xs : List Int} {v x : Int} {k : Nat} (h : Before xs v k) (hx : xs[k]? = some x) (hn : x ≠ v) : Before xs v (k + 1) := by
  intro j y hj hy
  by_cases e : j = k
  · subst e; rw [hx] at hy; injection hy with hy; rw [← hy]; exact hn
  · exact h j y (by omega) hy
theorem idxI_at {xs : List Int} {v : Int} {k : Nat} (h : Before xs v k) (hk : xs[k]? = some v) : idxI xs v = k := by
  have hl := (List.getElem?_eq_some_iff.1 hk)
  obtain ⟨hlt, hv⟩ := hl
  have : xs.findIdx? (· == v) = some k := by
    rw [List.findIdx?_eq_some_iff_getElem]
    refine ⟨hlt, by simp [hv], fun j hj => ?_⟩
    have := h j _ hj (List.getElem?_eq_getElem (by omega))
    simpa using this
  simp [idxI, this]
theorem idxI_no {xs : List Int} {v : Int} (h : Before xs v xs.length) : idxI xs v = -1 := by
  have : xs.findIdx? (· == v) = none := by
    rw [List.findIdx?_eq_none_iff]
    intro x hx
    obtain ⟨j, hj⟩ := List.mem_iff_getElem?.1 hx
    have := h j x (List.getElem?_eq_some_iff.1 hj).1 hj
    simpa using this
  simp [idxI, this]
/-- Either v is not in the list, or the index is its first place. -/
theorem idxI_cases (xs : List Int) (v : Int) : (idxI xs v = -1 ∧ xs.contains v = false) ∨ ∃ k : Nat, idxI xs v = k ∧ xs[k]? = some v ∧ xs.contains v = true := by
  unfold idxI
  cases h : xs.findIdx? (· == v) with
  | none =>
    left
    rw [List.findIdx?_eq_none_iff] at h
    refine ⟨rfl, ?_⟩
    simp only [List.contains_eq_mem, decide_eq_false_iff_not]
    intro hm
    have := h v hm
    simp at this
  | some k =>
    right
    rw [List.findIdx?_eq_some_iff_getElem] at h
    obtain ⟨hk, hv, _⟩ := h
    have hv : xs[k] = v := by simpa using hv
    refine ⟨k, rfl, by rw [List.getElem?_eq_getElem hk, hv], ?_⟩
    simp only [List.contains_eq_mem, decide_eq_true_eq]
    rw [← hv]; exact List.getElem_mem hk

theorem index_any (A : Option Addr) (xs : List Int) (c lo hi : Nat) (v : Int) (w : World) (h : Ints w lo hi A xs) (hs : xs.length ≤ 4000000) : Calls Try.prog 52 #[.slice A xs.length c, .int .i64 v] w
    fun e w' => e = .returned (.int .i64 (idxI xs v)) ∧ w = w' := by
  go_enter Try.func52, Try.ntmps52
  go_wp2
  go_loop [8] (fun i => ∃ k : Nat, k ≤ xs.length ∧ i = .int .i64 k ∧ Before xs v k) (fun i => xs.length - (intOf i).toNat)
  case atStart => exact ⟨0, Nat.zero_le _, rfl, fun j x hj => absurd hj (by omega)⟩
  case round =>
    obtain ⟨k, hk, rfl, hb⟩ := hrel
    by_cases hlt : k < xs.length
    · obtain ⟨b, off, x, rfl, hb1, hb2, hx, hc⟩ := h.at_ hlt
      have Hx := Lib.hid hx; clear hx
      by_cases he : x = v
      · subst he
        have H := Lib.hid (idxI_at hb Hx.out)
        have hbe : (x == x) = true := by simp
        go_wp2
        go_ret
        exact ⟨ret_int H.out.symm, rfl⟩
      · have hbe : (v == x) = false := beq_eq_false_iff_ne.2 (Ne.symm he)
        go_wp2
        go_round
        case rel => exact ⟨k + 1, by omega, by go_num, hb.succ Hx.out he⟩
        case measure => simp [intOf]; omega
    · obtain rfl : k = xs.length := by omega
      have H := Lib.hid (idxI_no hb)
      go_wp2
      go_ret
      exact ⟨ret_int H.out.symm, rfl⟩

theorem contains_any (A : Option Addr) (xs : List Int) (c lo hi : Nat) (v : Int) (w : World) (h : Ints w lo hi A xs) (hs : xs.length ≤ 4000000) : Calls Try.prog 47 #[.slice A xs.length c, .int .i64 v] w
    fun e w' => e = .returned (.bool (xs.contains v)) ∧ w = w' := by
  go_enter Try.func47, Try.ntmps47
  go_wp2_with fail
  refine (index_any _ _ _ _ _ _ _ h hs).mono ?_
  rintro e w' ⟨rfl, rfl⟩
  go_wp2_with fail
  go_ret
  refine ⟨ret_bool ?_, rfl⟩
  rcases idxI_cases xs v with ⟨h1, h2⟩ | ⟨k, h1, h2, h3⟩
  · rw [h1, h2]; rfl
  · rw [h1, h3]; simp

theorem clone_any (A : Option Addr) (xs : List Int) (c lo hi : Nat) (w : World) (h : Ints w lo hi A xs) (hs : xs.length ≤ 4000000) : Calls Try.prog 51 #[.slice A xs.length c] w (NewI w xs) := by
  rcases A with _ | ad
  · have hx : xs = [] := by
      rcases xs with _ | ⟨x, xs⟩
      · rfl
      · obtain ⟨_, _, _, hA, _⟩ := h.at_ (k := 0) (by simp)
        cases hA
    subst hx
    have e0 := fun W => Lib.run_eql_slice_nil (P := Try.prog) W 29 3 none 0 c 0 0 Try.underlying29
    go_enter Try.func51, Try.ntmps51
    go_wp2_with fail
    go_ret
    exact ⟨none, 0, rfl, Own.nil (Nat.le_refl _), Kp.refl _ _⟩
  · have e0 := fun W => Lib.run_eql_slice_nil (P := Try.prog) W 29 3 (some ad) xs.length c 0 0 Try.underlying29
    have o2 : OwnI (w.alloc (.cells #[] 3)) w.heap.size (w.heap.size + 1) (some ⟨w.heap.size, 0, none⟩) 0 [] :=
      ⟨World.ownsRow_lit w #[] 0 (Nat.le_refl _) (by decide) rfl, fun g hg => by simp [Value.ownBlock] at hg; omega, by simp⟩
    go_enter Try.func51, Try.ntmps51
    go_wp2_with (at_builtin; refine wpList_appI _ rfl _ _ rfl w.heap.size (w.heap.size + 1) _ 0 [] rfl o2 _ _ (some ad) c xs rfl (h.keepNo ((Kp.refl _ _).alloc _)) (by simp; omega) (by simp) ?_; intro A3 c3 w3 o3 k3)
    go_ret
    exact ⟨A3, c3, by simp, o3, ((Kp.refl No w).alloc _).also k3 (fun i hi e => by have := e.1; omega)⟩

end Go.Proofs.Ytcnaehllegoefaa
