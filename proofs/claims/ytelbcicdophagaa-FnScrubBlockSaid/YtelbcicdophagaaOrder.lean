/- ScrubOrder, of the program and of the reference: one Lean function scrubOrder for both. -/
import Derived.Test.YtelbcicdophagaaSort
import Derived.WalkKit
import Derived.WalkSpells
import Derived.WalkLawsBesides
import Derived.Outline
namespace Go.Proofs.Ytelbcicdophagaa
open Go.RowKit
set_option linter.unusedVariables false

theorem stable_any (B : Nat) (Ar : Option Addr) (xs : List Int) (cr lor hir : Nat) (A : Option Addr) (bs : List Int) (c lo hi : Nat) (w : World) (hB : w.cell? ⟨B, 0, none⟩ = some (.slice Ar xs.length cr)) (hBl : B < lo) (hr : Ints w lor hir Ar xs) (hrl : hir ≤ lo)
    (ho : OwnI w lo hi A c bs) (hmem : ∀ b ∈ bs, 0 ≤ b ∧ b < xs.length) (hasc : bs.Pairwise (· < ·)) (hlen : bs.length ≤ 12) :
    Calls Try.prog 40 #[.slice A bs.length c, .int .i64 bs.length, .func (.func 37) #[] #[.pointer (some ⟨B, 0, none⟩)]] w (Sorts xs bs A c lo hi w) := by
  have hI := insSort_any B Ar xs cr lor hir A bs c lo hi w hB hBl hr hrl ho hmem hasc hlen
  clear hmem hasc ho hB hr
  go_enter Try.func40, Try.ntmps40
  go_wp2_with fail
  refine wp_loop_rounds 1 ?_
  rw [rounds_succ]
  go_wp2_with fail
  refine hI.mono ?_
  rintro e w1 ⟨rfl, hS⟩
  go_wp2_with fail
  refine wp_loop_rounds 1 ?_
  rw [rounds_succ]
  go_wp2_with fail
  exact bodyPost_ret (v := .tuple #[]) (by simp [results, go_sem]) rfl ⟨rfl, hS⟩

theorem sortStable_any (B : Nat) (Ar : Option Addr) (xs : List Int) (cr lor hir : Nat) (A : Option Addr) (bs : List Int) (c lo hi : Nat) (w : World) (hB : w.cell? ⟨B, 0, none⟩ = some (.slice Ar xs.length cr)) (hBl : B < lo) (hr : Ints w lor hir Ar xs) (hrl : hir ≤ lo)
    (ho : OwnI w lo hi A c bs) (hmem : ∀ b ∈ bs, 0 ≤ b ∧ b < xs.length) (hasc : bs.Pairwise (· < ·)) (hlen : bs.length ≤ 12) :
    Calls Try.prog 36 #[.slice A bs.length c, .func (.func 37) #[] #[.pointer (some ⟨B, 0, none⟩)]] w (Sorts xs bs A c lo hi w) := by
  have hI := stable_any B Ar xs cr lor hir A bs c lo hi w hB hBl hr hrl ho hmem hasc hlen
  clear hmem hasc ho hB hr
  go_enter Try.func36, Try.ntmps36
  go_wp2_with fail
  refine hI.mono ?_
  rintro e w1 ⟨rfl, hS⟩
  go_wp2_with fail
  exact bodyPost_ret (v := .tuple #[]) (by simp [results, go_sem]) rfl ⟨rfl, hS⟩

set_option maxHeartbeats 2000000 in
theorem scrubOrder_impl (A : Option Addr) (xs : List Int) (c lo hi : Nat) (w : World) (h : Ints w lo hi A xs) (hs : xs.length ≤ 4000000) : Calls Try.prog 26 #[.slice A xs.length c] w
    (NewI w (scrubOrder xs)) := by
  have hk1 : Kp No w (w.alloc (.cells #[.slice A xs.length c] 22)) := (Kp.refl _ _).alloc _
  have hB1 : (w.alloc (.cells #[.slice A xs.length c] 22)).cell? ⟨w.heap.size, 0, none⟩ = some (.slice A xs.length c) := by simp
  have h1 := h.keepNo hk1
  have hhi : hi ≤ w.heap.size := h.2.1
  go_enter Try.func26, Try.ntmps26
  go_wp2_with fail
  refine (readsValid_impl _ _ _ _ _ _ h1 hs).mono ?_
  rintro e w' ⟨rfl, rfl⟩
  cases hv : readsValid xs
  · have H := Lib.hid (order_bad hv)
    go_wp2_with fail
    go_ret
    rw [H.out]
    exact ⟨none, 0, rfl, Own.nil (Nat.le_refl _), hk1⟩
  · have Hv := Lib.hid hv
    have hl12 := (reads_len hv).2
    clear hv
    generalize hW : w.alloc (.cells #[.slice A xs.length c] 22) = W at hk1 hB1 h1 ⊢
    have hWs : W.heap.size = w.heap.size + 1 := by rw [← hW]; simp
    clear hW
    go_wp2_with fail
    go_loopw [3, 11] (fun v i wr => ∃ (k : Nat) (A1 : Option Addr) (c1 : Nat), k ≤ xs.length ∧ i = .int .i64 k ∧ v = .slice A1 (geRow xs k).length c1 ∧ OwnI wr (w.heap.size + 1) wr.heap.size A1 c1 (geRow xs k) ∧ Kp No W wr) (fun _ i _ => xs.length - (intOf i).toNat)
    case atStart => exact ⟨0, none, 0, Nat.zero_le _, rfl, rfl, Own.nil (Nat.le_refl _), Kp.refl _ _⟩
    case round =>
      obtain ⟨k, A1, c1, hk, rfl, rfl, o1, kr⟩ := hrel
      have hgl := geRow_len xs k
      have hsz := kr.size
      by_cases hlt : k < xs.length
      · obtain ⟨b, off, x, rfl, hb1, hb2, hx, hc⟩ := (h1.keepNo kr).at_ hlt
        have Hx := Lib.hid (geRow_succ hx); clear hx
        by_cases h100 : 100 ≤ x
        · go_wp2_with (at_builtin; refine wpList_appI _ rfl _ _ rfl (w.heap.size + 1) wr.heap.size A1 c1 _ rfl (o1.keepNo ((Kp.refl _ _).alloc _)) _ _ _ _ [(k : Int)] rfl (ints_lit _ _ _) (by simp; omega) (by simp; omega) ?_; intro A4 c4 w4 o4 k4)
          go_roundw
          case rel =>
            rw [if_pos h100] at Hx
            exact ⟨k + 1, A4, c4, by omega, by go_num, by rw [Hx.out]; simp, by rw [Hx.out]; exact o4, (kr.alloc _).also k4 (fun i hi e => by have := e.1; omega)⟩
          case measure => simp [intOf]; omega
        · go_wp2_with fail
          go_roundw
          case rel =>
            rw [if_neg h100] at Hx
            exact ⟨k + 1, A1, c1, by omega, by go_num, by rw [Hx.out], by rw [Hx.out]; exact o1, kr⟩
          case measure => simp [intOf]; omega
      · obtain rfl : k = xs.length := by omega
        have hBr := (kr.cell (p := ⟨w.heap.size, 0, none⟩) (by simp; omega) (fun e => e)).trans hB1
        have hS := sortStable_any w.heap.size A xs c lo hi A1 (geRow xs xs.length) c1 (w.heap.size + 1) wr.heap.size wr hBr (by omega) (h1.keepNo kr) (by omega) o1
          (fun b hb => by obtain ⟨i, rfl, hi, _⟩ := mem_geRow.1 hb; omega) (geRow_asc _ _) (by omega)
        go_wp2_with fail
        refine hS.mono ?_
        rintro e w2 ⟨rfl, d, o2, hdl, hd1, hd2, k2⟩
        obtain rfl := order_of_sorted Hv.out hd1 hd2
        rw [← hdl]
        clear hdl hd1 hd2
        go_wp2_with fail
        go_ret
        have k12 : Kp No w w2 := (hk1.trans kr).also k2 (fun i hi e => by have := e.1; omega)
        exact ⟨A1, c1, rfl, o2.wide (by omega) (by have := k2.size; omega) (Nat.le_refl _), k12⟩

set_option maxHeartbeats 2000000 in
theorem scrubOrder_spec (A : Option Addr) (xs : List Int) (c lo hi : Nat) (w : World) (h : Ints w lo hi A xs) (hs : xs.length ≤ 4000000) : Calls Try.prog 28 #[.slice A xs.length c] w
    (NewI w (scrubOrder xs)) := by
  have hnil := ownI_lit w w.heap.size #[] [] rfl (Nat.le_refl _) (by simp)
  have hknil : Kp No w (w.alloc (.cells #[] 3)) := (Kp.refl _ _).alloc _
  cases hv : readsValid xs
  · have H := Lib.hid (order_bad hv)
    have Hv := Lib.hid hv
    clear hv
    go_enter Try.func28, Try.ntmps28
    go_wp2_with fail
    refine wp_loop_rounds 1 ?_
    rw [rounds_succ]
    go_wp2_with fail
    refine (readsValid_spec _ _ _ _ _ _ (h.keepNo hknil) hs).mono ?_
    rintro e w' ⟨rfl, rfl⟩
    rw [Hv.out]
    go_wp2_with fail
    go_ret
    rw [H.out]
    exact ⟨_, 0, rfl, hnil.wide (Nat.le_refl _) (by simp) (Nat.le_refl _), hknil⟩
  · have H := Lib.hid (show scrubOrder xs = rounds_ xs 901 by unfold scrubOrder; rw [hv, if_pos rfl])
    have Hv := Lib.hid hv
    have hl12 := (reads_len hv).2
    clear hv
    go_enter Try.func28, Try.ntmps28
    go_wp2_with fail
    go_loopw [3, 4] (fun v i wr => ∃ (j : Nat) (A1 : Option Addr) (c1 : Nat), j ≤ 901 ∧ i = .int .i64 (1000 - (j : Int)) ∧ v = .slice A1 (rounds_ xs j).length c1 ∧ OwnI wr w.heap.size wr.heap.size A1 c1 (rounds_ xs j) ∧ Kp No w wr) (fun _ i _ => (intOf i).toNat)
    case atStart => exact ⟨0, _, 0, Nat.zero_le _, rfl, rfl, hnil.wide (Nat.le_refl _) (by simp) (Nat.le_refl _), hknil⟩
    case round =>
      clear hnil hknil
      obtain ⟨j, A1, c1, hj, rfl, rfl, o1, kr⟩ := hrel
      have hrl := rounds_len xs j
      have hrl2 : j * xs.length ≤ 901 * 12 := Nat.mul_le_mul hj hl12
      by_cases hlt : j < 901
      · go_wp2_with fail
        refine (readsValid_spec _ _ _ _ _ _ (h.keepNo kr) hs).mono ?_
        rintro e w' ⟨rfl, rfl⟩
        rw [Hv.out]
        go_wp2_with fail
        go_loopw [3, 5] (fun v i wr => ∃ (k : Nat) (A1 : Option Addr) (c1 : Nat), k ≤ xs.length ∧ i = .int .i64 k ∧ v = .slice A1 (rounds_ xs j ++ eqRow xs (1000 - j) k).length c1 ∧ OwnI wr w.heap.size wr.heap.size A1 c1 (rounds_ xs j ++ eqRow xs (1000 - j) k) ∧ Kp No w wr) (fun _ i _ => xs.length - (intOf i).toNat)
        case atStart => exact ⟨0, A1, c1, Nat.zero_le _, rfl, by simp [eqRow], by simpa [eqRow] using o1, kr⟩
        case round =>
          clear o1 kr
          obtain ⟨k, A2, c2, hk, rfl, rfl, o2, kr⟩ := hrel
          have hsz := kr.size
          have hel := eqRow_len xs (1000 - j) k
          have hll : (rounds_ xs j ++ eqRow xs (1000 - j) k).length ≤ 4000000 := by simp; omega
          by_cases hlt2 : k < xs.length
          · obtain ⟨b, off, x, rfl, hb1, hb2, hx, hc⟩ := (h.keepNo kr).at_ hlt2
            have Hx := Lib.hid (eqRow_succ (v := 1000 - (j : Int)) hx); clear hx
            by_cases he : x = 1000 - (j : Int)
            · have hb : (x == 1000 - (j : Int)) = true := by simpa using he
              have He := Lib.hid he; clear he
              go_wp2_with (at_builtin; refine wpList_appI _ rfl _ _ rfl w.heap.size wr.heap.size A2 c2 _ rfl (o2.keepNo ((Kp.refl _ _).alloc _)) _ _ _ _ [(k : Int)] rfl (ints_lit _ _ _) (by simp at hll ⊢; omega) (by simp; omega) ?_; intro A4 c4 w4 o4 k4)
              go_roundw
              case rel =>
                rw [if_pos He.out] at Hx
                exact ⟨k + 1, A4, c4, by omega, by go_num, by rw [Hx.out]; simp [Nat.add_assoc], by rw [Hx.out, ← List.append_assoc]; exact o4, (kr.alloc _).also k4 (fun i hi e => by have := e.1; omega)⟩
              case measure => simp [intOf]; omega
            · have hb : (x == 1000 - (j : Int)) = false := by simpa using he
              have He := Lib.hid he; clear he
              go_wp2_with fail
              go_roundw
              case rel =>
                rw [if_neg He.out] at Hx
                exact ⟨k + 1, A2, c2, by omega, by go_num, by rw [Hx.out], by rw [Hx.out]; exact o2, kr⟩
              case measure => simp [intOf]; omega
          · obtain rfl : k = xs.length := by omega
            have Hr := Lib.hid (rounds_succ' xs j)
            go_wp2_with fail
            go_roundw
            case rel => exact ⟨j + 1, A2, c2, by omega, congrArg (Value.int .i64) (by omega), by rw [Hr.out], by rw [Hr.out]; exact o2, kr⟩
            case measure => simp [intOf]; omega
      · obtain rfl : j = 901 := by omega
        rw [← H.out] at o1 ⊢
        clear hrl hrl2
        go_wp2_with fail
        go_ret
        exact ⟨A1, c1, rfl, o1, kr⟩
end Go.Proofs.Ytelbcicdophagaa
