/- TablePut of the reference, at a valid table and arguments in bounds. -/
import Derived.Test.YtagcdpnbkfoeaaaCopyTab
namespace Go.Proofs.Ytagcdpnbkfoeaaa
open Go.RowKit
set_option linter.unusedVariables false

theorem np_app (xs ys : List Int) : np (xs ++ ys) = np xs + np ys := List.countP_append
theorem flat_split {xss : List (List Int)} {f : Nat} {xs : List Int} (h : xss[f]? = some xs) : np xss.flatten = np (xss.take f).flatten + np xs + np (xss.drop (f + 1)).flatten := by
  obtain ⟨hf, rfl⟩ := List.getElem?_eq_some_iff.1 h
  conv => lhs; rw [← List.take_append_drop f xss]
  rw [List.drop_eq_getElem_cons hf, List.flatten_append, List.flatten_cons, np_app, np_app]
  omega
theorem np_set_le (xs : List Int) (k : Nat) (v : Int) : np (xs.set k v) ≤ np xs + 1 := by
  rcases Nat.lt_or_ge k xs.length with hk | hk
  · have e : xs.set k v = xs.take k ++ v :: xs.drop (k + 1) := List.set_eq_take_append_cons_drop.trans (if_pos hk)
    rw [e, np_app]
    have e2 : np xs = np (xs.take k) + np (xs.drop k) := by rw [← np_app, List.take_append_drop]
    rw [e2, List.drop_eq_getElem_cons hk]
    unfold np
    rw [List.countP_cons, List.countP_cons]
    split <;> split <;> omega
  · rw [List.set_eq_of_length_le hk]; omega
theorem np_flat_set {xss : List (List Int)} {f : Nat} {xs ys : List Int} (h : xss[f]? = some xs) (hy : np ys ≤ np xs + 1) : np (xss.set f ys).flatten ≤ np xss.flatten + 1 := by
  have hf := (List.getElem?_eq_some_iff.1 h).1
  have h2 : (xss.set f ys)[f]? = some ys := List.getElem?_set_self hf
  rw [flat_split h, flat_split h2, List.take_set_of_le (Nat.le_refl _), List.drop_set_of_lt (by omega)]
  omega

theorem len0 {P : Program} {f : FuncId} {A : Option Addr} {n m c : Nat} {w : World} {R : Ending → World → Prop} (h : Calls P f #[.agg #[.slice A m c]] w R) (e : m = n) : Calls P f #[.agg #[.slice A n c]] w R := e ▸ h
/-- What TablePut leaves: a valid table of the call's own, with at most one page more. -/
def PutR (xss : List (List Int)) (w : World) (e : Ending) (w' : World) : Prop := ∃ A c yss b, e = .returned (.tuple #[.agg #[.slice A (yss : List (List Int)).length c], .bool b]) ∧ OwnG w' w.heap.size w'.heap.size A c yss ∧ tableB yss = true ∧ np yss.flatten ≤ np xss.flatten + 1 ∧ Kp No w w'

set_option maxHeartbeats 4000000 in
theorem tablePut_ (A : Option Addr) (xss : List (List Int)) (c lo hi : Nat) (f k v : Int) (w : World) (h : Grid w lo hi A xss) (hv : tableB xss = true) (hf0 : 0 ≤ f) (hf1 : f ≤ 7) (hk0 : 0 ≤ k) (hk1 : k ≤ 5) (hv0 : -1 ≤ v) (hv1 : v ≤ 47) :
    Calls Try.prog 45 #[.agg #[.slice A xss.length c], .int .i64 f, .int .i64 k, .int .i64 v] w (PutR xss w) := by
  obtain ⟨f, rfl⟩ := Int.eq_ofNat_of_zero_le hf0
  obtain ⟨k, rfl⟩ := Int.eq_ofNat_of_zero_le hk0
  have Hd := Lib.hid (tableB_dec hv)
  have hl1 : xss.length ≤ 8 := Nat.le_of_eq Hd.out.1
  have hl2 : 8 ≤ xss.length := Nat.le_of_eq Hd.out.1.symm
  have hrows : ∀ (k : Nat) (xs : List Int), xss[k]? = some xs → xs.length ≤ 4000000 := fun k xs hx => by have := Hd.out.2.1 xs (List.mem_of_getElem? hx); omega
  have i1 : inB (f : Int) 0 7 = true := inB_true ⟨hf0, hf1⟩
  have i2 : inB (k : Int) 0 5 = true := inB_true ⟨hk0, hk1⟩
  have i3 : inB v (-1) 47 = true := inB_true ⟨hv0, hv1⟩
  have kp := ((Kp.refl No w).alloc (.cells #[.slice A xss.length c] 32)).alloc (.cells #[.slice none 0 0] 32)
  have bt := (BoxT.new w 32 A xss.length c).keepNo ((Kp.refl No _).alloc (.cells #[.slice none 0 0] 32))
  have br := BoxT.new (w.alloc (.cells #[.slice A xss.length c] 32)) 32 none 0 0
  rw [show (w.alloc (.cells #[.slice A xss.length c] 32)).heap.size = w.heap.size + 1 by simp] at br
  have sz : w.heap.size + 2 = ((w.alloc (.cells #[.slice A xss.length c] 32)).alloc (.cells #[.slice none 0 0] 32)).heap.size := by simp
  go_enter Try.func45, Try.ntmps45
  have y1 := bt
  obtain ⟨t0, t1, t2⟩ := y1
  go_wp2_with fail
  refine (tableValid_spec _ _ _ _ _ _ (h.keepNo kp) (by omega) hrows).mono ?_
  rintro e w1 ⟨rfl, k1⟩
  rw [hv]
  replace kp := kp.trans k1
  replace bt := bt.keepNo k1
  replace br := br.keepNo k1
  have s1 := k1.size
  rw [← sz] at s1
  clear k1 sz t0 t1 t2
  have y1 := bt
  obtain ⟨t0, t1, t2⟩ := y1
  go_wp2_with (go_at_call 30; refine (l1In_any _ _ _ _).mono ?_; rintro e w' ⟨rfl, rfl⟩)
  refine (l7Copy_ _ _ _ _ _ _ (h.keepNo kp) (by omega) hrows).mono ?_
  rintro e w2 ⟨A2, c2, rfl, o2, k2⟩
  clear t0 t1 t2
  replace kp := kp.trans k2
  replace bt := bt.keepNo k2
  replace br := br.keepNo k2
  have s2 := k2.size
  clear k2
  obtain ⟨g, A3, c3, xs, hA, hg1, hg2, hx, hcg, hfg, oi, hbg⟩ := o2.at_ (k := f) (by omega)
  subst hA
  have h6 := Hd.out.2.1 xs (List.mem_of_getElem? hx)
  have h6a : 6 ≤ xs.length := Nat.le_of_eq h6.symm
  obtain ⟨g3, x0, hA, hg31, hg32, _, hcx, hfx⟩ := oi.at_ (k := k) (by omega)
  subst hA
  have o4 := o2.put (j := k) hx hcg v
  have ks := Kp.put1 w2 g3 k (.int .i64 v)
  have e4 : (w2.setCell ⟨g3, k, none⟩ (.int .i64 v)).heap.size = w2.heap.size := by simp [World.setCell]
  replace bt := bt.keep ks (by simp only [At]; omega)
  replace br := br.keep ks (by simp only [At]; omega)
  replace kp := kp.also ks (fun i hi e => by simp only [At] at e; omega)
  have kA : Kp No (w2.setCell ⟨g3, k, none⟩ (.int .i64 v)) ((w2.setCell ⟨g3, k, none⟩ (.int .i64 v)).alloc (.cells #[.slice (some ⟨g, 0, none⟩) xss.length c2] 32)) := (Kp.refl _ _).alloc _
  have bo := BoxT.new (w2.setCell ⟨g3, k, none⟩ (.int .i64 v)) 32 (some ⟨g, 0, none⟩) xss.length c2
  rw [e4] at bo
  have eA : ((w2.setCell ⟨g3, k, none⟩ (.int .i64 v)).alloc (.cells #[.slice (some ⟨g, 0, none⟩) xss.length c2] 32)).heap.size = w2.heap.size + 1 := by simp [World.setCell]
  replace kp := kp.trans kA
  replace bt := bt.keepNo kA
  replace br := br.keepNo kA
  replace o4 := o4.keepNo kA
  have s4 := kA.size
  rw [eA] at s4
  have hg3 : g3 < w2.heap.size := by omega
  have Hx := Lib.hid hx; have H6 := Lib.hid h6
  have Hn := Lib.hid (np_flat_set hx (np_set_le xs k v))
  have hrow2 : ∀ (j : Nat) (ys : List Int), (xss.set f (xs.set k v))[j]? = some ys → ys.length ≤ 4000000 := fun j ys hy => by
    by_cases e : j = f
    · subst e
      rw [List.getElem?_set_self (by omega)] at hy
      injection hy with hy
      rw [← hy, List.length_set]; omega
    · rw [List.getElem?_set_ne (Ne.symm e)] at hy
      exact hrows j ys hy
  have Hr2 := Lib.hid hrow2
  clear hx h6 hrow2 kA ks e4
  have hl : (xss.set f (xs.set k v)).length = xss.length := List.length_set
  have Hl := Lib.hid hl
  clear hl
  go_wp2_with fail
  refine (len0 (tableValid_spec _ (xss.set f (xs.set k v)) _ _ _ _ o4.grid (by rw [Hl.out]; omega) Hr2.out) Hl.out).mono ?_
  rintro e w5 ⟨rfl, k5⟩
  replace kp := kp.trans k5
  replace bt := bt.keepNo k5
  replace br := br.keepNo k5
  replace bo := bo.keepNo k5
  replace o4 := o4.keepNo k5
  have s5 := k5.size
  rw [eA] at s5
  clear k5
  cases hv2 : tableB (xss.set f (xs.set k v))
  · have y1 := bt
    obtain ⟨t0, t1, t2⟩ := y1
    go_wp2_with fail
    refine (l7Copy_ _ _ _ _ _ _ (h.keepNo kp) (by omega) hrows).mono ?_
    rintro e w6 ⟨A6, c6, rfl, o6, k6⟩
    replace kp := kp.trans k6
    replace br := br.keepNo k6
    have s6 := k6.size
    have d3 := br.set A6 xss.length c6
    have ks := Kp.put1 w6 (w.heap.size + 1) 0 (.slice A6 xss.length c6)
    obtain ⟨r0, r1, r2⟩ := br
    go_wp2_with fail
    refine bodyPost_ret (v := .tuple #[.agg #[.slice A6 xss.length c6], .bool false]) (by simp [results, Try.results45, go_sem, d3.1]) rfl ?_
    exact ⟨A6, c6, xss, false, rfl, (o6.keep ks (fun i h1 _ e => by simp only [At] at e; omega)).wide (by omega) ks.size (Nat.le_refl _), hv, by omega, kp.also ks (fun i hi e => by simp only [At] at e; omega)⟩
  · have d3 := br.set (some ⟨g, 0, none⟩) xss.length c2
    have ks := Kp.put1 w5 (w.heap.size + 1) 0 (.slice (some ⟨g, 0, none⟩) xss.length c2)
    obtain ⟨r0, r1, r2⟩ := br
    obtain ⟨p0, p1, p2⟩ := bo
    go_wp2_with fail
    refine bodyPost_ret (v := .tuple #[.agg #[.slice (some ⟨g, 0, none⟩) xss.length c2], .bool true]) (by simp [results, Try.results45, go_sem, d3.1]) rfl ?_
    exact ⟨some ⟨g, 0, none⟩, c2, xss.set f (xs.set k v), true, by rw [Hl.out], (o4.keep ks (fun i h1 _ e => by simp only [At] at e; omega)).wide (by omega) (by have := ks.size; have := o4.grid.size; omega) (Nat.le_refl _), hv2, Hn.out, kp.also ks (fun i hi e => by simp only [At] at e; omega)⟩
end Go.Proofs.Ytagcdpnbkfoeaaa
