/- OverOwners of the reference. -/
import Derived.Test.YtagcdpnbkfoeaaaOver
namespace Go.Proofs.Ytagcdpnbkfoeaaa
open Go.RowKit
set_option linter.unusedVariables false

set_option maxHeartbeats 2000000 in
theorem overOwners_spec (A : Option Addr) (xss : List (List Int)) (c lo hi : Nat) (B : Option Addr) (os : List Int) (d lo' hi' : Nat) (D : Option Addr) (ms : List Int) (g lo2 hi2 : Nat) (w : World) (h : Grid w lo hi A xss) (hs : xss.length ≤ 4000000) (hr : ∀ (k : Nat) (xs : List Int), xss[k]? = some xs → xs.length ≤ 4000000) (ho_ : Ints w lo' hi' B os) (hos : os.length ≤ 4000000) (hm_ : Ints w lo2 hi2 D ms) (hms : ms.length ≤ 4000000) :
    Calls Try.prog 28 #[.agg #[.slice A xss.length c], .slice B os.length d, .slice D ms.length g] w (NewI w (overOwners xss os ms)) := by
  have hbx := (BoxT.new w 32 A xss.length c).keepNo ((Kp.refl No _).alloc (.cells #[] 3))
  have ka := ((Kp.refl No w).alloc (.cells #[.slice A xss.length c] 32)).alloc (.cells #[] 3)
  have e0 : (w.alloc (.cells #[.slice A xss.length c] 32)).heap.size = w.heap.size + 1 := by simp
  have e1 : ((w.alloc (.cells #[.slice A xss.length c] 32)).alloc (.cells #[] 3)).heap.size = w.heap.size + 2 := by simp
  have oa : OwnI ((w.alloc (.cells #[.slice A xss.length c] 32)).alloc (.cells #[] 3)) (w.heap.size + 1) (w.heap.size + 2) (some ⟨w.heap.size + 1, 0, none⟩) 0 [] := by
    have := own_empty (w.alloc (.cells #[.slice A xss.length c] 32)) (w.heap.size + 1) (Nat.le_of_eq e0.symm)
    rw [e1, e0] at this
    exact this
  go_enter Try.func28, Try.ntmps28
  obtain ⟨bx0, bxf, bxl⟩ := hbx
  go_wp2_with fail
  refine (ownerPages_spec _ _ _ _ _ _ _ _ _ _ _ (h.keepNo ka) hs hr (ho_.keepNo ka) hos).mono ?_
  rintro e w2 ⟨A2, c2, rfl, o2, k2⟩
  have kp2 := ka.trans k2
  have oa2 := oa.keepNo k2
  have s2 := k2.size
  rw [e1] at o2 s2
  clear oa k2 ka bx0 bxf bxl e0 e1
  by_cases h4 : ¬ ms.length = 4
  · have Hn := Lib.hid (over_len (xss := xss) (os := os) h4)
    have hne : ((ms.length : Int) != 4) = true := by simp; omega
    clear h4
    go_wp2_with fail
    go_ret
    rw [Hn.out]
    exact ⟨_, 0, rfl, oa2.wide (by omega) s2 (Nat.le_refl _), kp2⟩
  have h4 : ms.length = 4 := by omega
  have hne : ((ms.length : Int) != 4) = false := by rw [h4]; rfl
  have h4a : ms.length ≤ 4 := by omega
  have h4b : 4 ≤ ms.length := by omega
  have H4 := Lib.hid h4
  clear h4
  have hPl : (ownerPages xss os).length ≤ 4 := by
    unfold ownerPages
    split
    · exact Nat.le_of_eq (p4_len _)
    · simp
  have Hfin : Hid ((∀ (j : Nat) (x : Int), j < (ownerPages xss os).length → ms[j]? = some x → 0 ≤ x) → overOwners xss os ms = ovr (ownerPages xss os) ms (ownerPages xss os).length) := by
    refine Lib.hid fun hj => ?_
    by_cases hall : (tableB xss && ownersValid os) = true
    · obtain ⟨hv, hw⟩ := Bool.and_eq_true_iff.1 hall
      rw [pages_len hv hw]
      refine over_ok hv hw H4.out fun j x hx => hj j x ?_ hx
      have := (List.getElem?_eq_some_iff.1 hx).1
      rw [pages_len hv hw]; omega
    · have hall : (tableB xss && ownersValid os) = false := by simpa using hall
      rw [pages_none hall]
      rcases Bool.and_eq_false_iff.1 hall with h1 | h1
      · rw [over_table h1]; rfl
      · rw [over_own h1]; rfl
  have Hneg : Hid (∀ (j : Nat) (x : Int), ms[j]? = some x → x < 0 → overOwners xss os ms = []) := Lib.hid fun j x hx hn => over_neg hx hn
  generalize ownerPages xss os = P at *
  go_wp2_with fail
  go_loopw [7, 9] (fun v i wr => ∃ (n : Nat) (A3 : Option Addr) (c3 : Nat) (ys : List Int), n ≤ P.length ∧ i = .int .i64 n ∧ v = .slice A3 ys.length c3 ∧ Hid (ys = ovr P ms n) ∧ Hid (∀ (j : Nat) (x : Int), j < n → ms[j]? = some x → 0 ≤ x) ∧ ys.length ≤ n ∧ (∃ u, OwnI wr (w.heap.size + 1) u A3 c3 ys ∧ (∀ k, Blk A3 k → k < w.heap.size + 2 ∨ w2.heap.size ≤ k)) ∧ Kp No w wr ∧ w2.heap.size ≤ wr.heap.size ∧ Ints wr (w.heap.size + 2) w2.heap.size A2 P) (fun _ i _ => P.length - (intOf i).toNat)
  case atStart => exact ⟨0, _, 0, [], by omega, rfl, rfl, (by show _ = _; rfl), (by intro j x hj; exact absurd hj (by omega)), by simp, ⟨_, oa2, fun k hk => by left; exact (Own.blk oa2 hk).2⟩, kp2, Nat.le_refl _, o2.ints⟩
  case round =>
    clear oa2 o2 kp2
    obtain ⟨n, A3, c3, ys, hn, rfl, rfl, hys, hall, hyl, ⟨u, hown, hblk⟩, hkp, hsz, hPi⟩ := hrel
    have hsz1 := hkp.size
    have hu := hown.2.2
    by_cases hn4 : n < P.length
    · obtain ⟨b, off, p, rfl, hb1, hb2, hp, hc⟩ := hPi.at_ hn4
      obtain ⟨bm, offm, m, rfl, hbm1, hbm2, hm, hcm⟩ := (hm_.keepNo hkp).at_ (k := n) (by omega)
      by_cases hneg : m < 0
      · have Hn := Lib.hid (Hneg.out n m hm hneg)
        clear hp hm
        go_wp2_with fail
        go_ret
        rw [Hn.out]
        have kA : Kp No wr (wr.alloc (.cells #[] 3)) := (Kp.refl _ _).alloc _
        exact ⟨_, 0, rfl, own_empty wr _ hsz1, hkp.trans kA⟩
      have Hall := Lib.hid (show ∀ (j : Nat) (x : Int), j < n + 1 → ms[j]? = some x → 0 ≤ x from fun j y hj hy => by
        by_cases e : j = n
        · subst e; rw [hm] at hy; injection hy with hy; omega
        · exact hall.out j y (by omega) hy)
      by_cases hlt : m < p
      · have Hy := Lib.hid (ovr_yes hp hm hlt)
        clear hp hm hall
        go_wp2_with fail
        go_quiet (fail)
        have kQ : Kp No wr (wr.drewN nq) := (Kp.refl _ _).drewN _
        go_wp2_with (at_builtin; refine wpList_appI2 _ rfl _ _ rfl (w.heap.size + 1) u A3 c3 ys rfl (hown.keepNo (((Kp.refl No wr).drewN nq).alloc _)) _ _ _ _ [(n : Int)] rfl (ints_lit _ _ _) (by simp; omega) (by simp; omega) ?_; intro A4 c4 w4 ho4 hk4 hb4)
        have kA : Kp No wr ((wr.drewN nq).alloc (.cells #[.int .i64 n] 3)) := kQ.alloc _
        go_roundw
        case rel => exact ⟨n + 1, A4, c4, ys ++ [(n : Int)], by omega, by go_num, by simp, (by show _ = _; rw [Hy.out, ← hys.out]), Hall, by simp; omega, ⟨_, ho4, fun k hk => by
          rcases hb4 k hk with h1 | h1
          · exact hblk k h1
          · right; rw [h1]; exact Nat.le_trans hsz kA.size⟩, (hkp.trans kA).also hk4 (fun i hi e => by have := (Own.blk hown e).1; omega), Nat.le_trans hsz (Nat.le_trans kA.size hk4.size), (hPi.keepNo kA).keep hk4 (fun i h1 h2 e => by have := hblk i e; omega)⟩
        case measure => simp [intOf]; omega
      · have Hy := Lib.hid (ovr_no hp hm hlt)
        clear hp hm hall
        go_wp2_with fail
        go_quiet (fail)
        go_wp2_with fail
        go_roundw
        case rel => exact ⟨n + 1, A3, c3, ys, by omega, by go_num, rfl, (by show _ = _; rw [Hy.out, ← hys.out]), Hall, by omega, ⟨u, hown.keepNo ((Kp.refl _ _).drewN _), hblk⟩, hkp.drewN _, hsz, hPi.keepNo ((Kp.refl _ _).drewN _)⟩
        case measure => simp [intOf]; omega
    · obtain rfl : n = P.length := by omega
      have Hf := Lib.hid (Hfin.out hall.out)
      go_wp2_with fail
      go_ret
      rw [Hf.out, ← hys.out]
      exact ⟨A3, c3, rfl, hown.wide (by omega) hu (Nat.le_refl _), hkp⟩
end Go.Proofs.Ytagcdpnbkfoeaaa
