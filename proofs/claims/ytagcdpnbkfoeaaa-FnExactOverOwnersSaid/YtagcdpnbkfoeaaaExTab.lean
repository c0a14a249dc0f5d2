/- The laws' helpers on tables: szIntS, szIntSS, szTable, toIntSS, toTable, eqIntSS, eqTable, markIntSS, markTable. -/
import Derived.Test.YtagcdpnbkfoeaaaTableS
import Derived.Test.YtagcdpnbkfoeaaaApp
import Derived.Deep.QuietTactic
import Derived.BigQuiet
import Derived.Deep.RegionHeld3
import Derived.Deep.RegionWith
namespace Go.Proofs.Ytagcdpnbkfoeaaa
open Go.RowKit
set_option linter.unusedVariables false

theorem szIntS_ (A : Option Addr) (n c : Nat) (left : Int) (w : World) (hn : n ≤ 9223372036854775807) (hl0 : 0 ≤ left) (hl : left ≤ 1048576) : Calls Try.prog 49 #[.slice A n c, .int .i64 left] w
    fun e w' => e = .returned (.int .i64 (if left < n then -1 else left - n)) ∧ w = w' := by
  have hsub : IntKind.i64.wrap (left - (n : Int)) = left - n := IntWalk.i64_in _ (by omega)
  go_enter Try.func49, Try.ntmps49
  by_cases h : left < n
  · have h' : left - (n : Int) < 0 := by omega
    rw [if_pos h]
    go_wp2
    go_ret
    exact ⟨rfl, rfl⟩
  · have h' : ¬ (left - (n : Int) < 0) := by omega
    rw [if_neg h]
    go_wp2
    go_ret
    exact ⟨rfl, rfl⟩

/-- A table of at most 1048576 rows and numbers. -/
def Small (xss : List (List Int)) : Prop := xss.length ≤ 1048576 ∧ tot xss ≤ 1048576
theorem Small.rows {xss : List (List Int)} (h : Small xss) : ∀ (k : Nat) (xs : List Int), xss[k]? = some xs → xs.length ≤ 4000000 := fun k xs hx => by have := tot_row hx; have := h.2; omega

/-- What the measure leaves: -1, or the table is small. -/
def Sized (xss : List (List Int)) (w : World) (e : Ending) (w' : World) : Prop := ∃ r : Int, e = .returned (.int .i64 r) ∧ (r < 0 ∨ 0 ≤ r ∧ Small xss) ∧ Kp No w w'

set_option maxHeartbeats 1000000 in
theorem szIntSS_ (A : Option Addr) (xss : List (List Int)) (c lo hi : Nat) (w : World) (h : Grid w lo hi A xss) (hs : xss.length ≤ 9223372036854775807) (hr : ∀ (k : Nat) (xs : List Int), xss[k]? = some xs → xs.length ≤ 9223372036854775807) :
    Calls Try.prog 38 #[.slice A xss.length c, .int .i64 1048576] w (Sized xss w) := by
  have hsub : IntKind.i64.wrap (1048576 - (xss.length : Int)) = 1048576 - xss.length := IntWalk.i64_in _ (by omega)
  go_enter Try.func38, Try.ntmps38
  by_cases hl : (1048576 : Int) < xss.length
  · have h' : 1048576 - (xss.length : Int) < 0 := by omega
    go_wp2_with fail
    go_ret
    exact ⟨-1, rfl, .inl (by omega), Kp.refl _ _⟩
  · have h' : ¬ (1048576 - (xss.length : Int) < 0) := by omega
    go_wp2_with fail
    go_loop [1, 5] (fun q i => ∃ (k : Nat) (r : Int), k ≤ xss.length ∧ i = .int .i64 k ∧ q = .int .i64 r ∧ 0 ≤ r ∧ r + tot (xss.take k) ≤ 1048576) (fun _ i => xss.length - (intOf i).toNat)
    case atStart => exact ⟨0, _, by omega, rfl, rfl, by omega, by simp [tot]; omega⟩
    case round =>
      obtain ⟨k, r, hk, rfl, rfl, hr0, hr1⟩ := hrel
      by_cases hlt : k < xss.length
      · obtain ⟨b, off, A', c', xs, rfl, hb1, hb2, hx, hc, hi, hcap⟩ := h.at_ hlt
        have hxl := hr k xs hx
        have Ht := Lib.hid (tot_succ hx)
        clear hx
        go_wp2_with fail
        refine (szIntS_ _ _ _ _ _ hxl hr0 (by omega)).mono ?_
        rintro e w' ⟨rfl, rfl⟩
        by_cases hlt2 : r < (xs.length : Int)
        · rw [if_pos hlt2]
          go_wp2_with fail
          go_ret
          exact ⟨-1, rfl, .inl (by omega), Kp.refl _ _⟩
        · rw [if_neg hlt2]
          have h2 : ¬ (r - (xs.length : Int) < 0) := by omega
          go_wp2_with fail
          go_round
          case rel => exact ⟨k + 1, r - xs.length, by omega, by go_num, rfl, by omega, by rw [Ht.out]; omega⟩
          case measure => simp [intOf]; omega
      · obtain rfl : k = xss.length := by omega
        go_wp2_with fail
        go_ret
        rw [List.take_length] at hr1
        exact ⟨r, rfl, .inr ⟨hr0, by omega, by omega⟩, Kp.refl _ _⟩

theorem szTable_ (A : Option Addr) (xss : List (List Int)) (c lo hi : Nat) (w : World) (h : Grid w lo hi A xss) (hs : xss.length ≤ 9223372036854775807) (hr : ∀ (k : Nat) (xs : List Int), xss[k]? = some xs → xs.length ≤ 9223372036854775807) :
    Calls Try.prog 20 #[.agg #[.slice A xss.length c], .int .i64 1048576] w (Sized xss w) := by
  have ka := (Kp.refl No w).alloc (.cells #[.slice A xss.length c] 37)
  go_enter Try.func20, Try.ntmps20
  go_wp2_with fail
  refine (szIntSS_ _ _ _ _ _ _ (h.keepNo ka) hs hr).mono ?_
  rintro e w1 ⟨r, rfl, hr1, k1⟩
  by_cases h0 : r < 0
  · go_wp2_with fail
    go_ret
    exact ⟨-1, rfl, .inl (by omega), ka.trans k1⟩
  · go_wp2_with fail
    go_ret
    exact ⟨r, rfl, hr1, ka.trans k1⟩

theorem ints2_info : (Try.prog.info? 22).map (fun i => (i.zero, i.size, i.bytes)) = some (some (.slice none 0 0), 1, 24) := by kernel_rfl

/-- What a call leaves that hands back a new slice of slices. -/
def NewG (w : World) (xss : List (List Int)) (e : Ending) (w' : World) : Prop := ∃ A c, e = .returned (.slice A xss.length c) ∧ OwnG w' w.heap.size w'.heap.size A c xss ∧ Kp No w w'

theorem OwnG.zero {w : World} {lo hi g n : Nat} (h : Own w lo hi 22 1 (some ⟨g, 0, none⟩) n n (List.replicate n (.slice none 0 0))) : OwnG w lo hi (some ⟨g, 0, none⟩) n (List.replicate n []) := by
  refine ⟨List.replicate n (.slice none 0 0), ?_, fun k xs hx => ?_, fun i j u v b hij hu hv hb => ?_⟩
  · rw [List.length_replicate]; exact h
  · have hk := (List.getElem?_eq_some_iff.1 hx).1
    rw [List.length_replicate] at hk
    rw [List.getElem?_replicate, if_pos hk] at hx
    injection hx with hx
    subst hx
    refine ⟨none, 0, by rw [List.getElem?_replicate, if_pos hk]; rfl, Own.nil h.2.2, fun b _ hb => ?_⟩
    obtain ⟨o, hb⟩ := hb
    cases hb
  · have hi' := (List.getElem?_eq_some_iff.1 hu).1
    rw [List.length_replicate] at hi'
    rw [List.getElem?_replicate, if_pos hi'] at hu
    injection hu with hu
    subst hu
    obtain ⟨o, hb⟩ := hb.of
    cases hb

theorem takeRep (xss : List (List Int)) (k : Nat) (xs : List Int) (hx : xss[k]? = some xs) :
    (xss.take k ++ List.replicate (xss.length - k) []).set k xs = xss.take (k + 1) ++ List.replicate (xss.length - (k + 1)) [] := by
  obtain ⟨hk, hx⟩ := List.getElem?_eq_some_iff.1 hx
  have e1 : xss.length - k = (xss.length - (k + 1)) + 1 := by omega
  rw [e1, List.replicate_succ, List.set_append_right _ _ (by simp; omega)]
  have e2 : k - (List.take k xss).length = 0 := by simp; omega
  rw [e2, List.take_succ_eq_append_getElem hk, hx]
  simp

set_option maxHeartbeats 1000000 in
theorem toIntSS_ (A : Option Addr) (xss : List (List Int)) (c lo hi : Nat) (w : World) (h : Grid w lo hi A xss) (hs : Small xss) :
    Calls Try.prog 39 #[.slice A xss.length c] w (NewG w xss) := by
  obtain ⟨i0, hi0, hz0, hz1, hz2⟩ := info_parts ints2_info
  have hs1 := hs.1
  have hrows := hs.rows
  go_enter Try.func39, Try.ntmps39
  go_wp2_with (at_make; refine wpList_make_full _ rfl _ _ 30 rfl w.heap.size 22 i0 (.slice none 0 0) 1 Try.underlying30 hi0 hz0 hz1 .i64 .i64 _ _ xss.length rfl rfl rfl rfl ?c1 ?c2 (Nat.le_refl _) ?_)
  case c1 => rw [hz2]; omega
  case c2 => unfold maxLen; omega
  intro w1 hown hg
  have hk0 : Kp No w w1 := (Kp.refl _ _).grown hg (by simp)
  have o0 : OwnG w1 w.heap.size w1.heap.size (some ⟨w.heap.size, 0, none⟩) xss.length (xss.take 0 ++ List.replicate (xss.length - 0) []) := OwnG.zero (Own.of (by simpa [Value.cells, toList_madeCells_one] using hown))
  clear hown hg
  go_wp2_with fail
  go_loopw [4] (fun i wr => ∃ k : Nat, k ≤ xss.length ∧ i = .int .i64 k ∧ OwnG wr w.heap.size wr.heap.size (some ⟨w.heap.size, 0, none⟩) xss.length (xss.take k ++ List.replicate (xss.length - k) []) ∧ Kp No w wr) (fun i _ => xss.length - (intOf i).toNat)
  case atStart => exact ⟨0, by omega, rfl, o0, hk0⟩
  case round =>
    clear o0 hk0
    obtain ⟨k, hk, rfl, hown, hkp⟩ := hrel
    by_cases hlt : k < xss.length
    · obtain ⟨b, off, A', c', xs, rfl, hb1, hb2, hx, hc, hi, hcap⟩ := (h.keepNo hkp).at_ hlt
      have Hx := Lib.hid hx
      have hxl := hrows k xs hx
      clear hx
      go_wp2_with fail
      refine (toIntS_any _ _ _ _ _ _ hi hxl).mono ?_
      rintro e w3 ⟨A3, c3, rfl, o3, k3⟩
      have own3 := hown.keepNo k3
      have hlk : k < (xss.take k ++ List.replicate (xss.length - k) []).length := by simp; omega
      obtain ⟨g, Ag, cg, xg, hA, hg1, hg2, _, hcg, hfg, _, _⟩ := own3.at_ hlk
      obtain rfl : w.heap.size = g := by injection hA with hA; injection hA
      have o4 := own3.row_ o3 k3.size hlk
      rw [takeRep xss k xs Hx.out] at o4
      clear hA
      go_wp2_with fail
      go_roundw
      case rel => exact ⟨k + 1, by omega, by go_num, o4.wide (Nat.le_refl _) (Kp.put1 w3 _ _ _).size (Nat.le_refl _), (hkp.trans k3).setCell (fun hh => absurd hh (by simp)) _⟩
      case measure => simp [intOf]; omega
    · obtain rfl : k = xss.length := by omega
      have hown' := hown
      rw [List.take_length, Nat.sub_self, List.replicate_zero, List.append_nil] at hown'
      go_wp2_with fail
      go_ret
      exact ⟨_, _, rfl, hown', hkp⟩

/-- What a call leaves that hands back a new table. -/
def NewT (w : World) (xss : List (List Int)) (e : Ending) (w' : World) : Prop := ∃ A c, e = .returned (.agg #[.slice A xss.length c]) ∧ OwnG w' w.heap.size w'.heap.size A c xss ∧ Kp No w w'

set_option maxHeartbeats 1000000 in
theorem toTable_ (A : Option Addr) (xss : List (List Int)) (c lo hi : Nat) (w : World) (h : Grid w lo hi A xss) (hs : Small xss) :
    Calls Try.prog 21 #[.agg #[.slice A xss.length c]] w (NewT w xss) := by
  have ka := (((Kp.refl No w).alloc (.cells #[.slice A xss.length c] 37)).alloc (.cells #[.slice none 0 0] 32)).alloc (.cells #[.slice none 0 0] 32)
  have hr := (BoxT.new (w.alloc (.cells #[.slice A xss.length c] 37)) 32 none 0 0).keepNo ((Kp.refl No _).alloc (.cells #[.slice none 0 0] 32))
  have hb := BoxT.new ((w.alloc (.cells #[.slice A xss.length c] 37)).alloc (.cells #[.slice none 0 0] 32)) 32 none 0 0
  rw [show (w.alloc (.cells #[.slice A xss.length c] 37)).heap.size = w.heap.size + 1 by simp] at hr
  rw [show ((w.alloc (.cells #[.slice A xss.length c] 37)).alloc (.cells #[.slice none 0 0] 32)).heap.size = w.heap.size + 2 by simp] at hb
  have e3 : (((w.alloc (.cells #[.slice A xss.length c] 37)).alloc (.cells #[.slice none 0 0] 32)).alloc (.cells #[.slice none 0 0] 32)).heap.size = w.heap.size + 3 := by simp
  go_enter Try.func21, Try.ntmps21
  go_wp2_with fail
  refine (toIntSS_ _ _ _ _ _ _ (h.keepNo ka) hs).mono ?_
  rintro e w1 ⟨A1, c1, rfl, o1, k1⟩
  rw [e3] at o1
  have kp := ka.trans k1
  have hr1 := hr.keepNo k1
  have hb1 := hb.keepNo k1
  clear hr hb ka k1 e3
  have ds := hb1.set A1 xss.length c1
  have ks1 := Kp.put1 w1 (w.heap.size + 2) 0 (.slice A1 xss.length c1)
  have br := hr1.keep ks1 (by simp only [At]; omega)
  have d3 := br.set A1 xss.length c1
  have ks2 := Kp.put1 (w1.setCell ⟨w.heap.size + 2, 0, none⟩ (.slice A1 xss.length c1)) (w.heap.size + 1) 0 (.slice A1 xss.length c1)
  have o8 := (o1.keep ks1 (fun i hi _ e => by simp only [At] at e; omega)).keep ks2 (fun i hi _ e => by simp only [At] at e; omega)
  have s8 := ks1.size; have s9 := ks2.size
  obtain ⟨p0, p1, p2⟩ := hb1
  obtain ⟨q0, q1, q2⟩ := hr1
  obtain ⟨r0, r1, r2⟩ := ds
  obtain ⟨t0, t1, t2⟩ := br
  go_wp2_with fail
  refine bodyPost_ret (v := .agg #[.slice A1 xss.length c1]) (by simp [results, Try.results21, go_sem, d3.1]) rfl ?_
  exact ⟨A1, c1, rfl, o8.wide (by omega) (Nat.le_trans s8 s9) (Nat.le_refl _), (kp.also ks1 (fun i hi e => by simp only [At] at e; omega)).also ks2 (fun i hi e => by simp only [At] at e; omega)⟩

theorem eqIntS_quiet (A B : Option Addr) (xs : List Int) (c d lo hi lo' hi' : Nat) (w : World) (h : Ints w lo hi A xs) (h' : Ints w lo' hi' B xs) (hs : xs.length ≤ 4000000) : Calls Try.prog 12 #[.slice A xs.length c, .slice B xs.length d] w
    fun e w' => e = .returned (.bool true) ∧ ∃ m, w' = w.drewN m := by
  go_enter Try.func12, Try.ntmps12
  have hne : ((xs.length : Int) != (xs.length : Int)) = false := by simp
  go_wp2
  go_loopw [5] (fun i wr => ∃ k n : Nat, k ≤ xs.length ∧ i = .int .i64 k ∧ wr = w.drewN n) (fun i _ => xs.length - (intOf i).toNat)
  case atStart => exact ⟨0, 0, Nat.zero_le _, rfl, rfl⟩
  case round =>
    obtain ⟨k, n, hk, rfl, rfl⟩ := hrel
    by_cases hlt : k < xs.length
    · obtain ⟨b, off, x, rfl, hb1, hb2, hx, hc⟩ := h.at_ hlt
      obtain ⟨b', off', x', rfl, hb1', hb2', hx', hc'⟩ := h'.at_ hlt
      obtain rfl : x = x' := by rw [hx] at hx'; injection hx'
      clear hx hx'
      have hnx : (x != x) = false := by simp
      go_wp2_with fail
      go_quiet (fail)
      go_wp2
      go_roundw
      case rel => exact ⟨k + 1, n + nq, by omega, by go_num, rfl⟩
      case measure => simp [intOf]; omega
    · go_wp2
      go_ret
      exact ⟨rfl, _, rfl⟩

set_option maxHeartbeats 1000000 in
theorem eqIntSS_ (A B : Option Addr) (xss : List (List Int)) (c d lo hi lo' hi' : Nat) (w : World) (h : Grid w lo hi A xss) (h' : Grid w lo' hi' B xss) (hs : Small xss) :
    Calls Try.prog 40 #[.slice A xss.length c, .slice B xss.length d] w
    fun e w' => e = .returned (.bool true) ∧ Kp No w w' := by
  have hs1 := hs.1
  have hrows := hs.rows
  go_enter Try.func40, Try.ntmps40
  have hne : ((xss.length : Int) != (xss.length : Int)) = false := by simp
  go_wp2_with fail
  go_loopw [5] (fun i wr => ∃ k : Nat, k ≤ xss.length ∧ i = .int .i64 k ∧ Kp No w wr) (fun i _ => xss.length - (intOf i).toNat)
  case atStart => exact ⟨0, Nat.zero_le _, rfl, Kp.refl _ _⟩
  case round =>
    obtain ⟨k, hk, rfl, hkp⟩ := hrel
    by_cases hlt : k < xss.length
    · obtain ⟨b, off, A', c', xs, rfl, hb1, hb2, hx, hc, hi, hcap⟩ := (h.keepNo hkp).at_ hlt
      obtain ⟨b2, off2, A2, c2, xs2, rfl, hb12, hb22, hx2, hc2, hi2, hcap2⟩ := (h'.keepNo hkp).at_ hlt
      obtain rfl : xs = xs2 := by rw [hx] at hx2; injection hx2
      have hxl := hrows k xs hx
      clear hx hx2
      go_wp2_with fail
      go_quiet ((go_at_call 12; refine Calls.quiet_of (eqIntS_quiet _ _ _ _ _ _ _ _ _ _ (hi.keepNo ((Kp.refl _ _).drewN _)) (hi2.keepNo ((Kp.refl _ _).drewN _)) hxl)))
      go_wp2_with fail
      go_roundw
      case rel => exact ⟨k + 1, by omega, by go_num, hkp.drewN _⟩
      case measure => simp [intOf]; omega
    · go_wp2_with fail
      go_ret
      exact ⟨rfl, hkp⟩

theorem eqTable_ (A B : Option Addr) (xss : List (List Int)) (c d lo hi lo' hi' : Nat) (w : World) (h : Grid w lo hi A xss) (h' : Grid w lo' hi' B xss) (hs : Small xss) :
    Calls Try.prog 22 #[.agg #[.slice A xss.length c], .agg #[.slice B xss.length d]] w
    fun e w' => e = .returned (.bool true) ∧ Kp No w w' := by
  have ka := ((Kp.refl No w).alloc (.cells #[.slice A xss.length c] 32)).alloc (.cells #[.slice B xss.length d] 32)
  go_enter Try.func22, Try.ntmps22
  go_wp2_with fail
  refine (eqIntSS_ _ _ _ _ _ _ _ _ _ _ (h.keepNo ka) (h'.keepNo ka) hs).mono ?_
  rintro e w1 ⟨rfl, k1⟩
  go_wp2_with fail
  go_ret
  exact ⟨rfl, ka.trans k1⟩

set_option maxHeartbeats 1000000 in
theorem markIntSS_ (A : Option Addr) (xss : List (List Int)) (c lo hi : Nat) (m : Int) (w : World) (h : OwnG w lo hi A c xss) (hs : Small xss) (hm0 : 0 ≤ m) (hm1 : m ≤ 1000000) :
    Calls Try.prog 41 #[.slice A xss.length c, .int .i64 m] w
    fun e w' => e = .returned (.int .i64 (m + tot xss)) ∧ Kp (Rg lo hi) w w' := by
  have hs1 := hs.1
  have hs2 := hs.2
  have hrows := hs.rows
  obtain ⟨vs, h⟩ := h
  have hvl := h.len
  have hsz := h.own.2.2
  have hin : ∀ b, (∃ (j : Nat) (v : Value), vs[j]? = some v ∧ VBlk v b) → Rg lo hi b := by
    rintro b ⟨j, v, hv, hb⟩
    have hj := (List.getElem?_eq_some_iff.1 hv).1
    obtain ⟨A', c', h1, h2, _⟩ := h.row j xss[j] (List.getElem?_eq_getElem (by omega))
    rw [hv] at h1
    injection h1 with h1
    subst h1
    exact Own.blk h2 hb.of
  go_enter Try.func41, Try.ntmps41
  go_wp2_with fail
  go_loopw [1, 5] (fun q i wr => ∃ k : Nat, k ≤ xss.length ∧ i = .int .i64 k ∧ q = .int .i64 (m + tot (xss.take k)) ∧ Kp (fun b => ∃ (j : Nat) (v : Value), j < k ∧ vs[j]? = some v ∧ VBlk v b) w wr) (fun _ i _ => xss.length - (intOf i).toNat)
  case atStart => exact ⟨0, by omega, rfl, by simp [tot], Kp.refl _ _⟩
  case round =>
    obtain ⟨k, hk, rfl, rfl, hkp⟩ := hrel
    by_cases hlt : k < xss.length
    · obtain ⟨g, hA, hg1, hg2⟩ := Own.form h.own (by omega)
      subst hA
      obtain ⟨A', c', hv, ho, hd⟩ := h.row k xss[k] (List.getElem?_eq_getElem hlt)
      have hxl := hrows k xss[k] (List.getElem?_eq_getElem hlt)
      have Ht := Lib.hid (tot_succ (List.getElem?_eq_getElem hlt))
      have hle := tot_take xss (k + 1)
      rw [Ht.out] at hle
      generalize xss[k] = xs at *
      have hc0 : w.cell? ⟨g, k, none⟩ = some (.slice A' xs.length c') := by
        rw [h.own.1.cellAt k (by omega)]; exact hv
      have hc := (hkp.cell (p := ⟨g, k, none⟩) (by show g < w.heap.size; omega) (by
        rintro ⟨j, v, hj, hvj, hb⟩
        have hjl := (List.getElem?_eq_some_iff.1 hvj).1
        obtain ⟨A2, c2, h1, h2, h3⟩ := h.row j xss[j] (List.getElem?_eq_getElem (by omega))
        rw [hvj] at h1
        injection h1 with h1
        subst h1
        exact h3 g ⟨0, rfl⟩ hb.of)).trans hc0
      have ho1 : OwnI wr lo hi A' c' xs := Own.keepB ho hkp (by
        rintro b hb ⟨j, v, hj, hvj, hb2⟩
        exact h.apart j k v _ b (by omega) hvj hv hb2 ⟨_, _, _, rfl, hb⟩)
      obtain ⟨l, u, ho2, hlu⟩ := Own.narrow ho1
      clear hc0
      go_wp2_with fail
      refine (markIntS_any A' xs c' l u (m + tot (xss.take k)) _ ho2 hxl (by omega) (by omega)).mono ?_
      rintro e w3 ⟨rfl, o3, k3⟩
      go_wp2_with fail
      go_roundw
      case rel => exact ⟨k + 1, by omega, by go_num, by rw [Ht.out]; go_num, (hkp.mono (fun i _ ⟨j, v, hj, hh⟩ => ⟨j, v, by omega, hh⟩)).also k3 (fun i _ hh => ⟨k, _, by omega, hv, _, _, _, rfl, hlu i hh⟩)⟩
      case measure => simp [intOf]; omega
    · obtain rfl : k = xss.length := by omega
      go_wp2_with fail
      go_ret
      rw [List.take_length]
      exact ⟨rfl, hkp.mono (fun i _ ⟨j, v, hj, hh⟩ => hin i ⟨j, v, hh⟩)⟩

theorem markTable_ (A : Option Addr) (xss : List (List Int)) (c lo hi : Nat) (m : Int) (w : World) (h : OwnG w lo hi A c xss) (hs : Small xss) (hm0 : 0 ≤ m) (hm1 : m ≤ 1000000) :
    Calls Try.prog 23 #[.agg #[.slice A xss.length c], .int .i64 m] w
    fun e w' => e = .returned (.int .i64 (m + tot xss)) ∧ Kp (Rg lo hi) w w' := by
  have ka := (Kp.refl No w).alloc (.cells #[.slice A xss.length c] 32)
  go_enter Try.func23, Try.ntmps23
  go_wp2_with fail
  refine (markIntSS_ _ _ _ _ _ _ _ (h.keepNo ka) hs hm0 hm1).mono ?_
  rintro e w1 ⟨rfl, k1⟩
  go_wp2_with fail
  go_ret
  exact ⟨rfl, ka.no.trans k1⟩
end Go.Proofs.Ytagcdpnbkfoeaaa
