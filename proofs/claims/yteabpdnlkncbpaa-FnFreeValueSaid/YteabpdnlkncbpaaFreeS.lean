/- FreeValue and KeepValue of the reference. -/
import Derived.Test.YteabpdnlkncbpaaKeptMath
import Derived.Test.YteabpdnlkncbpaaPairsApp
import Derived.WalkKit
import Derived.WalkSpells
import Derived.WalkLawsBesides
import Derived.Outline
import Derived.Deep.RegionHeld3
import Derived.Deep.RegionWith
namespace Go.Proofs.Yteabpdnlkncbpaa
open Go.RowKit
set_option linter.unusedVariables false

/-- What a call leaves that hands back a new slice of pairs and a bool. -/
def NewPB (w : World) (r : List (Int × Int) × Bool) (e : Ending) (w' : World) : Prop := ∃ A c, e = .returned (.tuple #[.slice A r.1.length c, .bool r.2]) ∧ OwnP w' w.heap.size w'.heap.size A c r.1 ∧ Kp No w w'
theorem prs_lit (w : World) (a b : Int) (t : TypeId) : Prs (w.alloc (.cells #[.int .i64 a, .int .i64 b] t)) w.heap.size (w.heap.size + 1) (some ⟨w.heap.size, 0, none⟩) [(a, b)] := by
  refine ⟨rfl, by simp, fun _ => ⟨_, 0, rfl, Nat.le_refl _, by omega, fun j u hj => ?_⟩⟩
  match j, hj with
  | 0, hj => simp [flatP] at hj; subst hj; simp
  | 1, hj => simp [flatP] at hj; subst hj; simp

set_option maxHeartbeats 2000000 in
theorem freeValue_spec (A : Option Addr) (ps : List (Int × Int)) (c lo hi : Nat) (v : Int) (w : World) (h : Prs w lo hi A ps) (hs : ps.length ≤ 4000000) : Calls Try.prog 21 #[.slice A ps.length c, .int .i64 v] w (NewPB w (freeValue ps v)) := by
  have hnil := ownP_lit w w.heap.size #[] [] rfl (Nat.le_refl _) (by simp)
  go_enter Try.func21, Try.ntmps21
  go_wp2_with fail
  refine (keptValid_spec _ _ _ _ _ _ h hs).mono ?_
  rintro e w1 ⟨rfl, k1⟩
  have on := ownP_lit w1 w.heap.size #[] [] rfl k1.size (by simp)
  have kn : Kp No w (w1.alloc (.cells #[] 33)) := k1.alloc _
  cases hv : keptB ps
  · have H := Lib.hid (show freeValue ps v = ([], false) by unfold freeValue; rw [hv]; rfl)
    go_wp2_with fail
    go_ret2
    rw [H.out]
    exact ⟨_, 0, rfl, on.wide (Nat.le_refl _) (by simp) (Nat.le_refl _), kn⟩
  · have H := Lib.hid (show freeValue ps v = (freeRaw ps v, hasV ps v) by unfold freeValue; rw [hv]; rfl)
    have Hv := Lib.hid hv
    have hl10 := keptB_len hv
    clear hv
    go_wp2_with fail
    go_loopw [6, 7, 8] (fun o f i wr => ∃ (k : Nat) (A1 : Option Addr) (c1 : Nat), k ≤ ps.length ∧ i = .int .i64 k ∧ o = .slice A1 (freeRaw (ps.take k) v).length c1 ∧ f = .bool (hasV (ps.take k) v) ∧ OwnP wr w.heap.size wr.heap.size A1 c1 (freeRaw (ps.take k) v) ∧ Kp No w wr) (fun _ _ i _ => ps.length - (intOf i).toNat)
    case atStart => exact ⟨0, _, 0, Nat.zero_le _, rfl, rfl, rfl, on.wide (Nat.le_refl _) (by simp) (Nat.le_refl _), kn⟩
    case round =>
      clear on kn hnil k1
      obtain ⟨k, A1, c1, hk, rfl, rfl, rfl, o1, kr⟩ := hrel
      have hsz := kr.size
      have hfl := freeRaw_len (ps.take k) v
      have hfl2 : (ps.take k).length ≤ 10 := by simp; omega
      obtain ⟨E, hE⟩ : ∃ E, E = freeRaw (ps.take k) v := ⟨_, rfl⟩
      obtain ⟨f, hf⟩ : ∃ f, f = hasV (ps.take k) v := ⟨_, rfl⟩
      rw [← hE] at o1 hfl ⊢
      rw [← hf]
      have HE := Lib.hid hE; have Hf := Lib.hid hf
      clear hE hf
      by_cases hlt : k < ps.length
      · obtain ⟨b, off, x, y, rfl, hb1, hb2, hx, hc, hc2⟩ := (h.keepNo kr).at_ hlt
        obtain ⟨x0, x1, y0, y1⟩ := kept_at Hv.out hx
        have Hs := Lib.hid (freeRaw_succ hx v)
        have Ht := Lib.hid (hasV_succ hx v)
        clear hx
        by_cases hxv : x = v
        · subst hxv
          have hb : (x == x) = true := by simp
          have Ht2 := Lib.hid (show hasV (ps.take (k + 1)) x = true by rw [Ht.out]; simp)
          by_cases hy : 1 < y
          · have Hs2 := Lib.hid (show freeRaw (ps.take (k + 1)) x = E ++ [(x, y - 1)] by rw [Hs.out, HE.out]; unfold freeOne; rw [if_pos rfl, if_pos (by simp; omega)])
            have l2 := prs_lit (wr.alloc (.cells #[.int .i64 x, .int .i64 (y - 1)] 33)) x (y - 1) 33
            rw [show (wr.alloc (.cells #[.int .i64 x, .int .i64 (y - 1)] 33)).heap.size = wr.heap.size + 1 by simp] at l2
            have L2 := Lib.hid l2
            clear l2
            go_wp2_with (at_builtin; refine wpList_appP _ rfl _ _ rfl w.heap.size wr.heap.size A1 c1 E rfl (o1.keepNo (((Kp.refl _ _).alloc _).alloc _)) _ _ _ _ [(x, y - 1)] rfl L2.out (by simp <;> omega) (by simp <;> omega) ?_; intro A4 c4 w4 o4 k4)
            go_roundw
            case rel => exact ⟨k + 1, A4, c4, by omega, by go_num, by rw [Hs2.out]; simp, by rw [Ht2.out], by rw [Hs2.out]; exact o4, ((kr.alloc _).alloc _).also k4 (fun i hi e => by have := e.1; omega)⟩
            case measure => simp [intOf]; omega
          · obtain rfl : y = 1 := by omega
            have Hs2 := Lib.hid (show freeRaw (ps.take (k + 1)) x = E by rw [Hs.out, HE.out]; unfold freeOne; rw [if_pos rfl, if_neg (by simp)]; simp)
            go_wp2_with fail
            go_roundw
            case rel => exact ⟨k + 1, A1, c1, by omega, by go_num, by rw [Hs2.out], by rw [Ht2.out], by rw [Hs2.out]; exact (o1.keepNo ((Kp.refl _ _).alloc _)).wide (Nat.le_refl _) (by simp) (Nat.le_refl _), kr.alloc _⟩
            case measure => simp [intOf]; omega
        · have hb : (x == v) = false := by simpa using hxv
          have Hs2 := Lib.hid (show freeRaw (ps.take (k + 1)) v = E ++ [(x, y)] by rw [Hs.out, HE.out]; unfold freeOne; rw [if_neg hxv, if_pos (by simp; omega)])
          have Ht2 := Lib.hid (show hasV (ps.take (k + 1)) v = f by rw [Ht.out, Hf.out, hb]; simp)
          clear hxv
          have l2 := prs_lit (wr.alloc (.cells #[.int .i64 x, .int .i64 (y)] 33)) x (y) 33
          rw [show (wr.alloc (.cells #[.int .i64 x, .int .i64 (y)] 33)).heap.size = wr.heap.size + 1 by simp] at l2
          have L2 := Lib.hid l2
          clear l2
          go_wp2_with (at_builtin; refine wpList_appP _ rfl _ _ rfl w.heap.size wr.heap.size A1 c1 E rfl (o1.keepNo (((Kp.refl _ _).alloc _).alloc _)) _ _ _ _ [(x, y)] rfl L2.out (by simp <;> omega) (by simp <;> omega) ?_; intro A4 c4 w4 o4 k4)
          go_roundw
          case rel => exact ⟨k + 1, A4, c4, by omega, by go_num, by rw [Hs2.out]; simp, by rw [Ht2.out], by rw [Hs2.out]; exact o4, ((kr.alloc _).alloc _).also k4 (fun i hi e => by have := e.1; omega)⟩
          case measure => simp [intOf]; omega
      · obtain rfl : k = ps.length := by omega
        have He := Lib.hid (show E = freeRaw ps v by rw [HE.out, List.take_length])
        have Hf2 := Lib.hid (show f = hasV ps v by rw [Hf.out, List.take_length])
        go_wp2_with fail
        go_ret2
        rw [H.out, ← He.out, ← Hf2.out]
        exact ⟨A1, c1, rfl, o1, kr⟩
end Go.Proofs.Yteabpdnlkncbpaa
