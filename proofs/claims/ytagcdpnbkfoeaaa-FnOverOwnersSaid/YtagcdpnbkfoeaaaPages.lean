/- OwnerPages, of the program and of the reference: one Lean function ownerPages for both. -/
import Derived.Test.YtagcdpnbkfoeaaaTableS
import Derived.Test.YtagcdpnbkfoeaaaApp
namespace Go.Proofs.Ytagcdpnbkfoeaaa
open Go.RowKit
set_option linter.unusedVariables false

/-- How many pages a list names. -/
def np (xs : List Int) : Nat := xs.countP fun x => decide (0 ≤ x)
theorem np_succ {xs : List Int} {k : Nat} {x : Int} (h : xs[k]? = some x) : np (xs.take (k + 1)) = np (xs.take k) + (if 0 ≤ x then 1 else 0) := by
  obtain ⟨hk, rfl⟩ := List.getElem?_eq_some_iff.1 h
  unfold np
  rw [List.take_succ_eq_append_getElem hk, List.countP_append]
  simp [List.countP_cons]
theorem np_le (xs : List Int) (k : Nat) : np (xs.take k) ≤ xs.length := Nat.le_trans List.countP_le_length (by simp; omega)
/-- The pages of owner n in the first f files. -/
def pg (os : List Int) (xss : List (List Int)) (n : Nat) : Nat → Nat
  | 0 => 0
  | f + 1 => pg os xss n f + (if os[f]? = some (n : Int) then np (xss.getD f []) else 0)
/-- Those, and those in the first k places of file f. -/
def pgk (os : List Int) (xss : List (List Int)) (f : Nat) (xs : List Int) (k : Nat) (n : Nat) : Nat := pg os xss n f + (if os[f]? = some (n : Int) then np (xs.take k) else 0)
theorem pgk_zero (os : List Int) (xss : List (List Int)) (f : Nat) (xs : List Int) (n : Nat) : pgk os xss f xs 0 n = pg os xss n f := by simp [pgk, np]
theorem pgk_row {os : List Int} {xss : List (List Int)} {f : Nat} {xs : List Int} (h : xss[f]? = some xs) (n : Nat) : pgk os xss f xs xs.length n = pg os xss n (f + 1) := by
  simp [pgk, pg, List.getD, h]
theorem pgk_succ {os : List Int} {xss : List (List Int)} {f k : Nat} {xs : List Int} {x : Int} (h : xs[k]? = some x) (n : Nat) : pgk os xss f xs (k + 1) n = pgk os xss f xs k n + (if os[f]? = some (n : Int) ∧ 0 ≤ x then 1 else 0) := by
  unfold pgk
  rw [np_succ h]
  by_cases h1 : os[f]? = some (n : Int) <;> by_cases h2 : 0 ≤ x <;> simp [h1, h2] <;> omega
theorem pg_skip {os : List Int} {xss : List (List Int)} {f : Nat} {o : Int} (h : os[f]? = some o) (ho : o < 0) (n : Nat) : pg os xss n (f + 1) = pg os xss n f := by
  have : ¬ o = (n : Int) := by omega
  simp [pg, h, this]
theorem pg_le {os : List Int} {xss : List (List Int)} (h : ∀ xs ∈ xss, xs.length = 6) (n f : Nat) : pg os xss n f ≤ f * 6 := by
  induction f with
  | zero => simp [pg]
  | succ f ih =>
    have : np (xss.getD f []) ≤ 6 := by
      unfold List.getD
      cases hx : xss[f]? with
      | none => simp [np]
      | some xs =>
        have := h xs (List.mem_of_getElem? hx)
        have := np_le xs xs.length
        simp only [List.take_length] at this
        simp; omega
    unfold pg
    split <;> omega
theorem pgk_le {os : List Int} {xss : List (List Int)} (h : ∀ xs ∈ xss, xs.length = 6) {f k : Nat} {xs : List Int} (hx : xss[f]? = some xs) (hf : f < 8) (n : Nat) : pgk os xss f xs k n ≤ 1000 := by
  have h1 := pg_le (os := os) h n f
  have h2 := np_le xs k
  have h3 := h xs (List.mem_of_getElem? hx)
  unfold pgk
  split <;> omega
def p4 (g : Nat → Nat) : List Int := [(g 0 : Int), g 1, g 2, g 3]
theorem p4_get (g : Nat → Nat) {n : Nat} (h : n < 4) : (p4 g)[n]? = some (g n : Int) := by
  match n, h with
  | 0, _ => rfl
  | 1, _ => rfl
  | 2, _ => rfl
  | 3, _ => rfl
theorem p4_set (g g' : Nat → Nat) {n : Nat} (h : n < 4) (h1 : g' n = g n + 1) (h2 : ∀ j, j ≠ n → g' j = g j) : (p4 g).set n ((g n : Int) + 1) = p4 g' := by
  match n, h with
  | 0, _ => simp [p4, h1, h2 1, h2 2, h2 3]
  | 1, _ => simp [p4, h1, h2 0, h2 2, h2 3]
  | 2, _ => simp [p4, h1, h2 0, h2 1, h2 3]
  | 3, _ => simp [p4, h1, h2 0, h2 1, h2 2]
theorem p4_congr {g g' : Nat → Nat} (h : ∀ n, g n = g' n) : p4 g = p4 g' := by simp [p4, h]
theorem p4_len (g : Nat → Nat) : (p4 g).length = 4 := rfl
def ownerPages (xss : List (List Int)) (os : List Int) : List Int := if tableB xss && ownersValid os then p4 (fun n => pg os xss n 8) else []
theorem ownersValid_dec {os : List Int} (h : ownersValid os = true) : os.length = 8 ∧ ∀ x ∈ os, -1 ≤ x ∧ x ≤ 3 := by
  simp only [ownersValid, ownOk, inB, Bool.and_eq_true, decide_eq_true_eq, List.all_eq_true] at h
  exact h

set_option maxHeartbeats 2000000 in
theorem ownerPages_impl (A : Option Addr) (xss : List (List Int)) (c lo hi : Nat) (B : Option Addr) (os : List Int) (d lo' hi' : Nat) (w : World) (h : Grid w lo hi A xss) (hs : xss.length ≤ 4000000) (hr : ∀ (k : Nat) (xs : List Int), xss[k]? = some xs → xs.length ≤ 4000000) (ho_ : Ints w lo' hi' B os) (hos : os.length ≤ 4000000) :
    Calls Try.prog 16 #[.agg #[.slice A xss.length c], .slice B os.length d] w (NewI w (ownerPages xss os)) := by
  obtain ⟨i0, hi0, hz0, hz1, hz2⟩ := info_parts int_info
  have hbx := BoxT.new w 32 A xss.length c
  have ka := (Kp.refl No w).alloc (.cells #[.slice A xss.length c] 32)
  go_enter Try.func16, Try.ntmps16
  go_wp2_with fail
  refine (tableValid_impl _ _ _ _ _ _ (h.keepNo ka) hs hr).mono ?_
  rintro e w1 ⟨rfl, k1⟩
  have kp1 := ka.trans k1
  have bx1 := hbx.keepNo k1
  clear ka k1 hbx
  cases hv : tableB xss
  · have Hn := Lib.hid (show ownerPages xss os = [] by simp [ownerPages, hv])
    go_wp2_with fail
    go_ret
    rw [Hn.out]
    exact ⟨none, 0, rfl, Own.nil (Nat.le_refl _), kp1⟩
  go_wp2_with fail
  refine (ownersValid_impl _ _ _ _ _ _ (ho_.keepNo kp1) hos).mono ?_
  rintro e w' ⟨rfl, rfl⟩
  cases hw : ownersValid os
  · have Hn := Lib.hid (show ownerPages xss os = [] by simp [ownerPages, hw])
    go_wp2_with fail
    go_ret
    rw [Hn.out]
    exact ⟨none, 0, rfl, Own.nil (Nat.le_refl _), kp1⟩
  have Hp := Lib.hid (show ownerPages xss os = p4 (fun n => pg os xss n 8) by simp [ownerPages, hv, hw])
  have Hv := Lib.hid (tableB_dec hv); have Hw := Lib.hid (ownersValid_dec hw)
  have hl1 : xss.length ≤ 8 := Nat.le_of_eq Hv.out.1
  have hl2 : 8 ≤ xss.length := Nat.le_of_eq Hv.out.1.symm
  have ho1 : os.length ≤ 8 := Nat.le_of_eq Hw.out.1
  have ho2 : 8 ≤ os.length := Nat.le_of_eq Hw.out.1.symm
  clear hv hw
  have bx1' := bx1
  obtain ⟨bx0, bxf, bxl⟩ := bx1'
  go_wp2_with (at_make; refine wpList_make_full _ rfl _ _ 22 rfl w1.heap.size 3 i0 (.int .i64 0) 1 Try.underlying22 hi0 hz0 hz1 .i64 .i64 _ _ 4 rfl rfl rfl rfl ?c1 ?c2 (Nat.le_refl _) ?_)
  case c1 => rw [hz2]; omega
  case c2 => unfold maxLen; omega
  intro w2 hown hg
  have hk2 : Kp No w1 w2 := (Kp.refl _ _).grown hg (by simp)
  have o2 : OwnI w2 w1.heap.size w2.heap.size (some ⟨w1.heap.size, 0, none⟩) 4 (p4 fun n => pg os xss n 0) := Own.of (n := 4) (by simpa [Value.cells, toList_madeCells_one, p4, pg] using hown)
  have bx2 := bx1.keepNo hk2
  have kp2 := kp1.trans hk2
  have hsz := kp1.size
  clear hown hg hk2 bx1 bx0 bxf bxl
  obtain ⟨bx0, bxf, bxl⟩ := bx2
  go_wp2_with fail
  go_loopw [22] (fun i wr => ∃ f : Nat, f ≤ xss.length ∧ i = .int .i64 f ∧ OwnI wr w1.heap.size w2.heap.size (some ⟨w1.heap.size, 0, none⟩) 4 (p4 fun n => pg os xss n f) ∧ Kp No w wr) (fun i _ => xss.length - (intOf i).toNat)
  case atStart => exact ⟨0, Nat.zero_le _, rfl, o2, kp2⟩
  case round =>
    clear o2 kp2 bx0 bxf bxl
    obtain ⟨f, hf, rfl, hown, hkp⟩ := hrel
    by_cases hlt : f < xss.length
    · obtain ⟨b, off, A', c', xs, rfl, hb1, hb2, hx, hc0, hi0, hcap⟩ := h.at_ hlt
      have hbs : b < w.heap.size := Nat.lt_of_lt_of_le hb2 h.size
      have hc := (hkp.cell (p := ⟨b, off + f, none⟩) hbs (fun e => e)).trans hc0
      have hxl := hr f xs hx
      have Hx := Lib.hid hx; clear hx hc0
      obtain ⟨bo, offo, o, rfl, hbo1, hbo2, ho, hco0⟩ := ho_.at_ (k := f) (by omega)
      have hbos : bo < w.heap.size := Nat.lt_of_lt_of_le hbo2 ho_.2.1
      have hco := (hkp.cell (p := ⟨bo, offo + f, none⟩) hbos (fun e => e)).trans hco0
      have hob := Hw.out.2 o (List.mem_of_getElem? ho)
      have Ho := Lib.hid ho
      clear ho
      by_cases hneg : o < 0
      · go_wp2_with fail
        go_roundw
        case rel => exact ⟨f + 1, by omega, by go_num, by rw [p4_congr (fun n => pg_skip Ho.out hneg n)]; exact hown, hkp⟩
        case measure => simp [intOf]; omega
      · obtain ⟨n, rfl⟩ := Int.eq_ofNat_of_zero_le (show 0 ≤ o by omega)
        have hn4 : n < 4 := by omega
        go_wp2_with fail
        go_loopw [34] (fun i wr => ∃ k : Nat, k ≤ xs.length ∧ i = .int .i64 k ∧ OwnI wr w1.heap.size w2.heap.size (some ⟨w1.heap.size, 0, none⟩) 4 (p4 (pgk os xss f xs k)) ∧ Kp No w wr) (fun i _ => xs.length - (intOf i).toNat)
        case atStart => exact ⟨0, Nat.zero_le _, rfl, by rw [p4_congr (fun n => pgk_zero os xss f xs n)]; exact hown, hkp⟩
        case round =>
          clear hown hkp hc hco
          obtain ⟨k, hk, rfl, hown, hkp⟩ := hrel
          have hco := (hkp.cell (p := ⟨bo, offo + f, none⟩) hbos (fun e => e)).trans hco0
          by_cases hkl : k < xs.length
          · obtain ⟨b1, off1, x, rfl, hb11, hb12, hxk, hc1⟩ := (hi0.keepNo hkp).at_ hkl
            have Hxk := Lib.hid hxk; clear hxk
            by_cases hx0 : 0 ≤ x
            · obtain ⟨g, y, hA, hg1, hg2, hy, hcy, hfy⟩ := hown.at_ (k := n) hn4
              obtain rfl : w1.heap.size = g := by injection hA with hA; injection hA
              obtain rfl : y = (pgk os xss f xs k n : Int) := by rw [p4_get _ hn4] at hy; injection hy with hy; exact hy.symm
              clear hA hy
              have hbd := pgk_le (os := os) (k := k) Hv.out.2.1 Hx.out (by omega) n
              have hadd : IntKind.i64.wrap ((pgk os xss f xs k n : Int) + 1) = (pgk os xss f xs k n : Int) + 1 := IntWalk.i64_in _ (by omega)
              have ho2 := hown.set_ n ((pgk os xss f xs k n : Int) + 1)
              rw [p4_set (pgk os xss f xs k) (pgk os xss f xs (k + 1)) hn4 (by rw [pgk_succ Hxk.out, if_pos ⟨Ho.out, hx0⟩]) (fun j hj => by rw [pgk_succ Hxk.out, if_neg (by rw [Ho.out]; intro hh; have := hh.1; injection this with this; omega)]; rfl)] at ho2
              go_wp2_with fail
              go_roundw
              case rel => exact ⟨k + 1, by omega, by go_num, ho2, hkp.setCell (fun hh => absurd hh (by simp; omega)) _⟩
              case measure => simp [intOf]; omega
            · go_wp2_with fail
              go_roundw
              case rel => exact ⟨k + 1, by omega, by go_num, by rw [p4_congr (g := pgk os xss f xs (k + 1)) (g' := pgk os xss f xs k) (fun n => by rw [pgk_succ Hxk.out, if_neg (fun hh => hx0 hh.2)]; rfl)]; exact hown, hkp⟩
              case measure => simp [intOf]; omega
          · obtain rfl : k = xs.length := by omega
            go_wp2_with fail
            go_roundw
            case rel => exact ⟨f + 1, by omega, by go_num, by rw [← p4_congr (fun n => pgk_row Hx.out n)]; exact hown, hkp⟩
            case measure => simp [intOf]; omega
    · obtain rfl : f = xss.length := by omega
      go_wp2_with fail
      go_ret
      rw [Hp.out]
      rw [Hv.out.1] at hown
      have := hown.2.2
      exact ⟨_, 4, rfl, hown.wide (by omega) this (Nat.le_refl _), hkp⟩
end Go.Proofs.Ytagcdpnbkfoeaaa
