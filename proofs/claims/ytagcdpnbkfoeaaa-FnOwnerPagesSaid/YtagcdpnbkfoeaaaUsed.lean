/- UsedPages of the program, at a table that names at most twelve pages or is not valid: how many numbers come out. -/
import Derived.Test.YtagcdpnbkfoeaaaPut
import Derived.Test.YtagcdpnbkfoeaaaSortI
namespace Go.Proofs.Ytagcdpnbkfoeaaa
open Go.RowKit
set_option linter.unusedVariables false

theorem np_ahead_succ {xss : List (List Int)} {f k : Nat} {xs : List Int} {x : Int} (hx : xs[k]? = some x) : np (ahead xss f xs (k + 1)) = np (ahead xss f xs k) + (if 0 ≤ x then 1 else 0) := by
  rw [ahead_succ hx, np_app]
  congr 1
  by_cases h : 0 ≤ x <;> simp [np, h]
theorem np_ahead_le {xss : List (List Int)} {f k : Nat} {xs : List Int} (h : xss[f]? = some xs) : np (ahead xss f xs k) ≤ np xss.flatten := by
  obtain ⟨Q, hQ⟩ := ahead_pre (k := k) h
  rw [hQ, np_app]; omega

def usedN (xss : List (List Int)) : Nat := if tableB xss = true then np xss.flatten else 0
/-- What UsedPages leaves: some slice of as many numbers as there are pages. -/
def UsedR (xss : List (List Int)) (w : World) (e : Ending) (w' : World) : Prop := ∃ A' n c', e = .returned (.slice A' n c') ∧ n = usedN xss ∧ Kp No w w'

set_option maxHeartbeats 4000000 in
theorem usedPages_ (A : Option Addr) (xss : List (List Int)) (c lo hi : Nat) (w : World) (h : Grid w lo hi A xss) (hs : xss.length ≤ 4000000) (hr : ∀ (k : Nat) (xs : List Int), xss[k]? = some xs → xs.length ≤ 4000000) (hnp : tableB xss = true → np xss.flatten ≤ 12) :
    Calls Try.prog 19 #[.agg #[.slice A xss.length c]] w (UsedR xss w) := by
  have hbx := BoxT.new w 32 A xss.length c
  have ka := (Kp.refl No w).alloc (.cells #[.slice A xss.length c] 32)
  go_enter Try.func19, Try.ntmps19
  go_wp2_with fail
  refine (tableValid_impl _ _ _ _ _ _ (h.keepNo ka) hs hr).mono ?_
  rintro e w1 ⟨rfl, k1⟩
  have kp1 := ka.trans k1
  have bx1 := hbx.keepNo k1
  clear ka k1 hbx
  cases hv : tableB xss
  · go_wp2_with fail
    go_ret
    exact ⟨none, 0, 0, rfl, by simp [usedN, hv], kp1⟩
  have hnp := hnp hv
  have Hnp := Lib.hid (show usedN xss = np xss.flatten by simp [usedN, hv])
  obtain ⟨bx0, bxf, bxl⟩ := bx1
  have hs1 := kp1.size
  go_wp2_with fail
  clear bx0 bxf bxl
  go_loopw [3, 14] (fun v i wr => ∃ (f : Nat) (A2 : Option Addr) (c2 : Nat) (ys : List Int), f ≤ xss.length ∧ i = .int .i64 f ∧ v = .slice A2 ys.length c2 ∧ Hid (ys.length = np (xss.take f).flatten) ∧ ys.length ≤ 12 ∧ OwnI wr w1.heap.size wr.heap.size A2 c2 ys ∧ Kp No w wr ∧ w1.heap.size ≤ wr.heap.size) (fun _ i _ => xss.length - (intOf i).toNat)
  case atStart => exact ⟨0, none, 0, [], by omega, rfl, rfl, (by show _ = _; simp [np]), by simp, Own.nil (Nat.le_refl _), kp1, Nat.le_refl _⟩
  case round =>
    obtain ⟨f, A2, c2, ys, hf, rfl, rfl, hyl, hy12, hown, hkp, hws⟩ := hrel
    by_cases hlt : f < xss.length
    · obtain ⟨b, off, A', c', xs, rfl, hb1, hb2, hx, hc0, hi0, hcap⟩ := h.at_ hlt
      have hbs : b < w.heap.size := Nat.lt_of_lt_of_le hb2 h.size
      have hc := (hkp.cell (p := ⟨b, off + f, none⟩) hbs (fun e => e)).trans hc0
      have hxl := hr f xs hx
      have Hx := Lib.hid hx; clear hx
      go_wp2_with fail
      go_loopw [3, 20] (fun v i wr => ∃ (k : Nat) (A2 : Option Addr) (c2 : Nat) (ys : List Int), k ≤ xs.length ∧ i = .int .i64 k ∧ v = .slice A2 ys.length c2 ∧ Hid (ys.length = np (ahead xss f xs k)) ∧ ys.length ≤ 12 ∧ OwnI wr w1.heap.size wr.heap.size A2 c2 ys ∧ Kp No w wr ∧ w1.heap.size ≤ wr.heap.size) (fun _ i _ => xs.length - (intOf i).toNat)
      case atStart => exact ⟨0, A2, c2, ys, by omega, rfl, rfl, (by show _ = _; rw [ahead_zero]; exact hyl.out), hy12, hown, hkp, hws⟩
      case round =>
        clear hyl hy12 hown hkp hc hws
        obtain ⟨k, A2, c2, ys, hk, rfl, rfl, hyl, hy12, hown, hkp, hws⟩ := hrel
        by_cases hkl : k < xs.length
        · obtain ⟨b1, off1, x, rfl, hb11, hb12, hxk, hc1⟩ := (hi0.keepNo hkp).at_ hkl
          have Hs := Lib.hid (np_ahead_succ (xss := xss) (f := f) hxk)
          have hle := np_ahead_le (k := k + 1) Hx.out
          clear hxk
          by_cases hx0 : 0 ≤ x
          · have Hs' := Lib.hid (show np (ahead xss f xs (k + 1)) = np (ahead xss f xs k) + 1 by rw [Hs.out, if_pos hx0])
            rw [Hs'.out, ← hyl.out] at hle
            have hsz := hkp.size
            go_wp2_with (at_builtin; refine wpList_appI _ rfl _ _ rfl w1.heap.size wr.heap.size A2 c2 ys rfl (hown.keepNo ((Kp.refl _ _).alloc _)) _ _ _ _ [x] rfl (ints_lit _ _ _) (by simp; omega) (by simp; omega) ?_; intro A4 c4 w4 ho4 hk4)
            have kB : Kp No wr (wr.alloc (.cells #[.int .i64 x] 3)) := (Kp.refl _ _).alloc _
            go_roundw
            case rel => exact ⟨k + 1, A4, c4, ys ++ [x], by omega, by go_num, by simp, (by show _ = _; rw [Hs'.out, ← hyl.out]; simp), by simp; omega, ho4, (hkp.trans kB).also hk4 (fun i hi e => by have := e.1; omega), Nat.le_trans hws (Nat.le_trans kB.size hk4.size)⟩
            case measure => simp [intOf]; omega
          · have Hs' := Lib.hid (show np (ahead xss f xs (k + 1)) = np (ahead xss f xs k) by rw [Hs.out, if_neg hx0]; rfl)
            clear hle
            go_wp2_with fail
            go_roundw
            case rel => exact ⟨k + 1, A2, c2, ys, by omega, by go_num, rfl, (by show _ = _; rw [Hs'.out]; exact hyl.out), hy12, hown, hkp, hws⟩
            case measure => simp [intOf]; omega
        · obtain rfl : k = xs.length := by omega
          go_wp2_with fail
          go_roundw
          case rel => exact ⟨f + 1, A2, c2, ys, by omega, by go_num, rfl, (by show _ = _; rw [ahead_row Hx.out]; exact hyl.out), hy12, hown, hkp, hws⟩
          case measure => simp [intOf]; omega
    · obtain rfl : f = xss.length := by omega
      rw [List.take_length] at hyl
      go_wp2_with fail
      refine (sort_ _ _ _ _ _ _ hown hy12).mono ?_
      rintro e w5 ⟨rfl, d, _, _, k5⟩
      go_wp2_with fail
      go_ret
      exact ⟨A2, ys.length, c2, rfl, by rw [Hnp.out]; exact hyl.out, hkp.also k5 (fun i hi e => by have := e.1; omega)⟩
end Go.Proofs.Ytagcdpnbkfoeaaa
