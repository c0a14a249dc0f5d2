/- l20Table: some table comes out; a valid one has at most twelve pages. -/
import Derived.Test.YtagcdpnbkfoeaaaPut
import Derived.Test.YtagcdpnbkfoeaaaTab
import Derived.Test.YtagcdpnbkfoeaaaDrawOwners
import Derived.Deep.RegionHeld3
import Derived.StillTailTactics
namespace Go.Proofs.Ytagcdpnbkfoeaaa
open Go.RowKit
set_option linter.unusedVariables false

theorem Row.keepB {w w' : World} {S : Nat → Prop} {lo hi sz n : Nat} {A : Option Addr} {cs : List Value} (h : Row w lo hi sz A n cs) (k : Kp S w w') (hs : ∀ b, Blk A b → ¬ S b) : Row w' lo hi sz A n cs :=
  ⟨h.1, Nat.le_trans h.2.1 k.size, fun hn => by
    obtain ⟨b, off, e, h1, h2, h3⟩ := h.2.2 hn
    exact ⟨b, off, e, h1, h2, fun j u hu => (k.cell (p := ⟨b, off + j, none⟩) (Nat.lt_of_lt_of_le h2 h.2.1) (hs b ⟨off, e⟩)).trans (h3 j u hu)⟩⟩
/-- A header is stored that reads as ys. -/
theorem OwnG.head {w : World} {lo hi g c f c2 : Nat} {A2 : Option Addr} {xss : List (List Int)} {ys : List Int} (h : OwnG w lo hi (some ⟨g, 0, none⟩) c xss) (hf : f < xss.length) (hi2 : Ints w lo hi A2 ys) (hn : ¬ Blk A2 g) (hc : ys.length ≤ c2) :
    Grid (w.setCell ⟨g, f, none⟩ (.slice A2 ys.length c2)) lo hi (some ⟨g, 0, none⟩) (xss.set f ys) := by
  obtain ⟨vs, h⟩ := h
  have hvl := h.len
  have k := Kp.put1 w g f (.slice A2 ys.length c2)
  refine ⟨vs.set f (.slice A2 ys.length c2), ?_, fun i zs hz => ?_⟩
  · rw [List.length_set]; exact (Own.set_ h.own f (.slice A2 ys.length c2)).row
  · by_cases hif : i = f
    · subst hif
      rw [List.getElem?_set_self hf] at hz
      injection hz with hz
      subst hz
      exact ⟨A2, c2, by rw [List.getElem?_set_self (by omega)], Row.keepB hi2 k (fun b hb e => by simp only [At] at e; subst e; exact hn hb), hc⟩
    · rw [List.getElem?_set_ne (Ne.symm hif)] at hz
      obtain ⟨A3, c3, g1, g2, g3⟩ := h.row i zs hz
      exact ⟨A3, c3, by rw [List.getElem?_set_ne (Ne.symm hif)]; exact g1, Row.keepB g2.ints k (fun b hb e => by simp only [At] at e; subst e; exact g3 b ⟨0, rfl⟩ hb), g2.cap⟩
theorem twice_five {xss : List (List Int)} {xs ys : List Int} (h0 : xss[0]? = some xs) (h1 : xss[1]? = some ys) (hx : 0 < xs.length) (hy : 1 < ys.length) : tableB ((xss.set 0 (xs.set 0 5)).set 1 (ys.set 1 5)) = false := by
  have l0 := (List.getElem?_eq_some_iff.1 h0).1
  have l1 := (List.getElem?_eq_some_iff.1 h1).1
  have r0 : ((xss.set 0 (xs.set 0 5)).set 1 (ys.set 1 5))[0]? = some (xs.set 0 5) := by
    rw [List.getElem?_set_ne (by omega), List.getElem?_set_self l0]
  have r1 : ((xss.set 0 (xs.set 0 5)).set 1 (ys.set 1 5))[1]? = some (ys.set 1 5) := by
    rw [List.getElem?_set_self (by rw [List.length_set]; exact l1)]
  refine tableB_at (k := 1) (x := 5) r1 (by rw [List.getElem?_set_self hy]) fun h => ?_
  have hc := h.2.2 (by omega)
  have hm : (5 : Int) ∈ ahead ((xss.set 0 (xs.set 0 5)).set 1 (ys.set 1 5)) 1 (ys.set 1 5) 1 := by
    unfold ahead
    refine List.mem_append_left _ (List.mem_flatten.2 ⟨xs.set 0 5, List.mem_of_getElem? (i := 0) ?_, List.mem_of_getElem? (i := 0) (List.getElem?_set_self hx)⟩)
    rw [List.getElem?_take, if_pos (by omega)]; exact r0
  simp only [List.contains_eq_mem, decide_eq_false_iff_not] at hc
  exact hc hm
/-- How far a round of the draw has come: l7: TablePut; l8: its pair moved; l9, l10: its parts; l11: a box; l12: the table in it. -/
structure TbG (wr : World) (a : Nat) (xss : List (List Int)) (l7 l8 l9 l10 l11 l12 : Bool) (s7 s16 s24 s25 s26 : Value) (wx : World) : Prop where
  kp : Kp (At a) wr wx
  e87 : l8 = true → l7 = true
  e98 : l9 = true → l8 = true
  e108 : l10 = true → l8 = true
  e12 : l12 = true → l9 = true ∧ l11 = true
  box : l11 = true → ∃ b, s7 = .pointer (some ⟨b, 0, none⟩) ∧ wr.heap.size ≤ b ∧ b < wx.heap.size ∧ (l12 = false → BoxT wx b none 0 0)
  put : l7 = true → ∃ A' c' yss bb lo' hi', s24 = .tuple #[.agg #[.slice A' (yss : List (List Int)).length c'], .bool bb] ∧ OwnG wx lo' hi' A' c' yss ∧ wr.heap.size ≤ lo' ∧ tableB yss = true ∧ np yss.flatten ≤ np xss.flatten + 1 ∧
    (l8 = true → s16 = .tuple #[.agg #[.slice A' yss.length c'], .bool bb]) ∧ (l9 = true → s25 = .agg #[.slice A' yss.length c']) ∧ (l10 = true → s26 = .bool bb) ∧
    (l11 = true → ∃ b, s7 = .pointer (some ⟨b, 0, none⟩) ∧ ¬ (lo' ≤ b ∧ b < hi') ∧ (l12 = true → BoxT wx b A' yss.length c'))
section
variable {wr wx wy : World} {a : Nat} {xss : List (List Int)} {l7 l8 l9 l10 l11 l12 : Bool} {s7 s16 s24 s25 s26 : Value}
theorem TbG.pick (h : TbG wr a xss l7 l8 l9 l10 l11 l12 s7 s16 s24 s25 s26 wx) (ha : a < wr.heap.size) (k : Kp (At a) wx wy) : TbG wr a xss l7 l8 l9 l10 l11 l12 s7 s16 s24 s25 s26 wy := by
  refine ⟨h.kp.trans k, h.e87, h.e98, h.e108, h.e12, fun h11 => ?_, fun h7 => ?_⟩
  · obtain ⟨b, e, hb, hl, hx⟩ := h.box h11
    exact ⟨b, e, hb, Nat.lt_of_lt_of_le hl k.size, fun h12 => (hx h12).keep k (by simp only [At]; omega)⟩
  · obtain ⟨A', c', yss, bb, lo', hi', e, ho, hl, h1, h2, h3, h4, h5, h6⟩ := h.put h7
    refine ⟨A', c', yss, bb, lo', hi', e, ho.keep k (fun i hi _ e => by simp only [At] at e; omega), hl, h1, h2, h3, h4, h5, fun h11 => ?_⟩
    obtain ⟨b, eb, hb, hx⟩ := h6 h11
    obtain ⟨b', eb', hb', _⟩ := h.box h11
    obtain rfl : b = b' := by rw [eb] at eb'; injection eb' with e; injection e with e; injection e
    exact ⟨b, eb, hb, fun h12 => (hx h12).keep k (by simp only [At]; omega)⟩
theorem TbG.no7 (h : TbG wr a xss l7 l8 l9 l10 l11 l12 s7 s16 s24 s25 s26 wx) (h7 : l7 = false) : l8 = false ∧ l9 = false ∧ l10 = false ∧ l12 = false := by
  have h8 : l8 = false := by cases h8 : l8 with | false => rfl | true => exact absurd (h.e87 h8) (by simp [h7])
  have h9 : l9 = false := by cases h9 : l9 with | false => rfl | true => exact absurd (h.e98 h9) (by simp [h8])
  have h10 : l10 = false := by cases h10 : l10 with | false => rfl | true => exact absurd (h.e108 h10) (by simp [h8])
  have h12 : l12 = false := by cases h12 : l12 with | false => rfl | true => exact absurd (h.e12 h12).1 (by simp [h9])
  exact ⟨h8, h9, h10, h12⟩
theorem TbG.putted (h : TbG wr a xss l7 l8 l9 l10 l11 l12 s7 s16 s24 s25 s26 wx) (h7 : l7 = false) {A' : Option Addr} {c' lo' hi' : Nat} {yss : List (List Int)} {bb : Bool} (k : Kp No wx wy) (ho : OwnG wy lo' hi' A' c' yss) (hlo : wx.heap.size ≤ lo') (hlo2 : wr.heap.size ≤ lo') (h1 : tableB yss = true) (h2 : np yss.flatten ≤ np xss.flatten + 1) :
    TbG wr a xss true l8 l9 l10 l11 l12 s7 s16 (.tuple #[.agg #[.slice A' yss.length c'], .bool bb]) s25 s26 wy := by
  obtain ⟨h8, h9, h10, h12⟩ := h.no7 h7
  refine ⟨h.kp.alsoNo k, fun _ => rfl, h.e98, h.e108, h.e12, fun h11 => ?_, fun _ => ⟨A', c', yss, bb, lo', hi', rfl, ho, hlo2, h1, h2, fun e => by rw [h8] at e; (cases e), fun e => by rw [h9] at e; (cases e), fun e => by rw [h10] at e; (cases e), fun h11 => ?_⟩⟩
  · obtain ⟨b, e, hb, hl, hx⟩ := h.box h11
    exact ⟨b, e, hb, Nat.lt_of_lt_of_le hl k.size, fun h12 => (hx h12).keepNo k⟩
  · obtain ⟨b, e, hb, hl, hx⟩ := h.box h11
    exact ⟨b, e, by omega, fun e => by rw [h12] at e; (cases e)⟩
theorem TbG.moved (h : TbG wr a xss l7 l8 l9 l10 l11 l12 s7 s16 s24 s25 s26 wx) (h7 : l7 = true) : TbG wr a xss l7 true l9 l10 l11 l12 s7 s24 s24 s25 s26 wx := by
  refine ⟨h.kp, fun _ => h7, fun _ => rfl, fun _ => rfl, h.e12, h.box, fun _ => ?_⟩
  obtain ⟨A', c', yss, bb, lo', hi', e, ho, hl, h1, h2, h3, h4, h5, h6⟩ := h.put h7
  exact ⟨A', c', yss, bb, lo', hi', e, ho, hl, h1, h2, fun _ => e, h4, h5, h6⟩
theorem TbG.pair (h : TbG wr a xss l7 l8 l9 l10 l11 l12 s7 s16 s24 s25 s26 wx) (h8 : l8 = true) : ∃ A' n c' bb, s16 = .tuple #[.agg #[.slice A' n c'], .bool bb] ∧ TbG wr a xss l7 l8 true l10 l11 l12 s7 s16 s24 (.agg #[.slice A' n c']) s26 wx ∧ TbG wr a xss l7 l8 l9 true l11 l12 s7 s16 s24 s25 (.bool bb) wx := by
  have h7 := h.e87 h8
  obtain ⟨A', c', yss, bb, lo', hi', e, ho, hl, h1, h2, h3, h4, h5, h6⟩ := h.put h7
  exact ⟨A', yss.length, c', bb, h3 h8, ⟨h.kp, h.e87, fun _ => h8, h.e108, fun e => ⟨rfl, (h.e12 e).2⟩, h.box, fun _ => ⟨A', c', yss, bb, lo', hi', e, ho, hl, h1, h2, h3, fun _ => rfl, h5, h6⟩⟩,
    ⟨h.kp, h.e87, h.e98, fun _ => h8, h.e12, h.box, fun _ => ⟨A', c', yss, bb, lo', hi', e, ho, hl, h1, h2, h3, h4, fun _ => rfl, h6⟩⟩⟩
theorem TbG.boxed (h : TbG wr a xss l7 l8 l9 l10 l11 l12 s7 s16 s24 s25 s26 wx) (h11 : l11 = false) (t : TypeId) : TbG wr a xss l7 l8 l9 l10 true l12 (.pointer (some ⟨wx.heap.size, 0, none⟩)) s16 s24 s25 s26 (wx.alloc (.cells #[.slice none 0 0] t)) := by
  have k : Kp No wx (wx.alloc (.cells #[.slice none 0 0] t)) := (Kp.refl _ _).alloc _
  have h12 : l12 = false := by cases h12 : l12 with | false => rfl | true => exact absurd (h.e12 h12).2 (by simp [h11])
  refine ⟨h.kp.alsoNo k, h.e87, h.e98, h.e108, fun e => ⟨(h.e12 e).1, rfl⟩, fun _ => ⟨wx.heap.size, rfl, h.kp.size, by simp, fun _ => BoxT.new _ _ _ _ _⟩, fun h7 => ?_⟩
  obtain ⟨A', c', yss, bb, lo', hi', e, ho, hl, h1, h2, h3, h4, h5, h6⟩ := h.put h7
  exact ⟨A', c', yss, bb, lo', hi', e, ho.keepNo k, hl, h1, h2, h3, h4, h5, fun _ => ⟨wx.heap.size, rfl, by have := ho.grid.size; omega, fun e => by rw [h12] at e; (cases e)⟩⟩
theorem TbG.store (h : TbG wr a xss l7 l8 l9 l10 l11 l12 s7 s16 s24 s25 s26 wx) (h9 : l9 = true) (h11 : l11 = true) (h12 : l12 = false) : ∃ b A' n c', s7 = .pointer (some ⟨b, 0, none⟩) ∧ s25 = .agg #[.slice A' n c'] ∧ BoxT wx b none 0 0 ∧ wr.heap.size ≤ b ∧
    TbG wr a xss l7 l8 l9 l10 l11 true s7 s16 s24 s25 s26 (wx.setCell ⟨b, 0, none⟩ (.slice A' n c')) := by
  have h7 := h.e87 (h.e98 h9)
  obtain ⟨b, e, hb, hl, hx⟩ := h.box h11
  obtain ⟨A', c', yss, bb, lo', hi', e2, ho, hl2, h1, h2, h3, h4, h5, h6⟩ := h.put h7
  obtain ⟨b', eb', hb', _⟩ := h6 h11
  obtain rfl : b = b' := by rw [e] at eb'; injection eb' with e; injection e with e; injection e
  have ks := Kp.put1 wx b 0 (.slice A' yss.length c')
  refine ⟨b, A', yss.length, c', e, h4 h9, hx h12, hb, ⟨h.kp.also ks (fun i hi e => by simp only [At] at e; omega), h.e87, h.e98, h.e108, fun _ => ⟨h9, h11⟩, fun _ => ⟨b, e, hb, Nat.lt_of_lt_of_le hl ks.size, fun e => by cases e⟩, fun _ => ?_⟩⟩
  exact ⟨A', c', yss, bb, lo', hi', e2, ho.keep ks (fun i h1 h2 e => by simp only [At] at e; subst e; exact hb' ⟨h1, h2⟩), hl2, h1, h2, h3, h4, h5, fun _ => ⟨b, e, hb', fun _ => (hx h12).set A' yss.length c'⟩⟩
end
/-- What the operations of a round leave. -/
def TbF (a : Nat) (A : Option Addr) (n c : Nat) (i : Nat) (v : Value) (wx : World) : Prop := match i with
  | 0 => v = .agg #[.slice A n c]
  | 1 => v = .pointer (some ⟨a, 0, none⟩)
  | 2 => IntV (fun x => 0 ≤ x ∧ x < 4) v
  | 3 => v = .pointer (some ⟨a, 0, none⟩)
  | 4 => IntV (fun x => 0 ≤ x ∧ x < 6) v
  | 5 => v = .pointer (some ⟨a, 0, none⟩)
  | 6 => IntV (fun x => 0 ≤ x ∧ x < 24) v
  | _ => True

theorem newTab_np : np newTab.flatten = 0 := by decide +kernel
/-- Blocks a and g. -/
def Two (a g : Nat) : Nat → Prop := fun k => k = a ∨ k = g
theorem TabI.keep2 {lo m a g : Nat} {V : Int → Prop} {v : Value} {wx wy : World} (h : TabI lo m V v wx) (ha : a < lo) (hg : g < lo) (k : Kp (Two a g) wx wy) : TabI lo m V v wy := by
  obtain ⟨b, e, h1, h2, h3⟩ := h
  refine ⟨b, e, h1, Nat.lt_of_lt_of_le h2 k.size, fun j hj => ?_⟩
  obtain ⟨x, hx, hV⟩ := h3 j hj
  exact ⟨x, (k.cell h2 (by simp only [Two]; omega)).trans hx, hV⟩
theorem PtrI.keep2 {lo a g : Nat} {V : Int → Prop} {v : Value} {wx wy : World} (h : PtrI lo V v wx) (ha : a < lo) (hg : g < lo) (k : Kp (Two a g) wx wy) : PtrI lo V v wy := by
  obtain ⟨b, j, x, e, h1, h2, h3, hV⟩ := h
  exact ⟨b, j, x, e, h1, Nat.lt_of_lt_of_le h2 k.size, (k.cell h2 (by simp only [Two]; omega)).trans h3, hV⟩
/-- What the operations of the third end leave. -/
def TcF (lo a q g g3 n c m c3 : Nat) (i : Nat) (v : Value) (wx : World) : Prop := match i with
  | 0 => v = .pointer (some ⟨q, 0, none⟩)
  | 1 => v = .slice (some ⟨g, 0, none⟩) n c
  | 2 => v = .pointer (some ⟨g, 0, none⟩)
  | 3 => v = .slice (some ⟨g3, 0, none⟩) m c3
  | 4 => TabI lo 2 (fun _ => True) v wx
  | 5 => v = .pointer (some ⟨a, 0, none⟩)
  | 6 => IntV (fun x => 0 ≤ x ∧ x < 2) v
  | 7 => PtrI lo (fun _ => True) v wx
  | 8 => IntV (fun _ => True) v
  | 9 => v = .pointer (some ⟨g3, 0, none⟩)
  | _ => True
theorem TcF.keep {lo a q g g3 n c m c3 : Nat} (ha : a < lo) (hg : g3 < lo) (j : Nat) (v : Value) (wx wy : World) (k : Kp (Two a g3) wx wy) (h : TcF lo a q g g3 n c m c3 j v wx) : TcF lo a q g g3 n c m c3 j v wy := by
  unfold TcF at h ⊢
  split at h
  all_goals first | exact h | exact TabI.keep2 h ha hg k | exact PtrI.keep2 h ha hg k | trivial
/-- What the draw leaves. -/
def TabR (w : World) (a B : Nat) (e : Ending) (w' : World) : Prop :=
  ∃ A xss c, e = .returned (.agg #[.slice A (xss : List (List Int)).length c]) ∧ Grid w' w.heap.size w'.heap.size A xss ∧ xss.length ≤ 8 ∧ (∀ (k : Nat) (xs : List Int), xss[k]? = some xs → xs.length ≤ 6) ∧ (tableB xss = true → np xss.flatten ≤ 12) ∧ Rdr w' a B ∧ Kp (At a) w w'

set_option maxHeartbeats 8000000 in
theorem l20Table_ (a Bd : Nat) (n : Int) (w : World) (h : Rdr w a Bd) (hB : Bd ≤ 10000) (h1 : 0 ≤ n) (hn : n ≤ 1000) :
    Calls Try.prog 34 #[.pointer (some ⟨a, 0, none⟩), .int .i64 n] w (TabR w a (Bd + 40)) := by
  have hal := h.lt
  have kp : Kp (At a) w (w.alloc (.cells #[.slice none 0 0] 32)) := (Kp.refl _ _).alloc _
  have br := BoxT.new w 32 none 0 0
  have rd := h.keepNo ((Kp.refl No w).alloc (.cells #[.slice none 0 0] 32))
  have e0 : (w.alloc (.cells #[.slice none 0 0] 32)).heap.size = w.heap.size + 1 := by simp
  go_enter Try.func34, Try.ntmps34
  go_wp2_with fail
  refine (l7New_ _).mono ?_
  rintro e w1 ⟨A1, c1, rfl, o1, k1⟩
  replace kp := kp.alsoNo k1
  replace br := br.keepNo k1
  replace rd := rd.keepNo k1
  have s1 := k1.size
  rw [e0] at o1 s1
  clear e0 k1
  have kA : Kp No w1 (w1.alloc (.cells #[.slice A1 8 c1] 32)) := (Kp.refl _ _).alloc _
  have b5 := BoxT.new w1 32 A1 8 c1
  have eA : w1.heap.size + 1 = (w1.alloc (.cells #[.slice A1 8 c1] 32)).heap.size := by simp
  replace kp := kp.alsoNo kA
  replace br := br.keepNo kA
  replace rd := rd.keepNo kA
  replace o1 := o1.keepNo kA
  have e8 : newTab.length = 8 := rfl
  rw [e8]
  go_wp2_with fail
  refine (pick_ _ _ _ _ rd (by omega) (by omega) (by omega)).mono ?_
  rintro e w2 ⟨v2, rfl, v2a, v2b, r2, k2, z2⟩
  replace kp := kp.trans k2
  replace br := br.keep k2 (by simp only [At]; omega)
  replace b5 := b5.keep k2 (by simp only [At]; omega)
  replace o1 := o1.keep k2 (fun i hi _ e => by simp only [At] at e; omega)
  rw [← eA] at z2
  clear kA eA k2 rd
  obtain ⟨k0, rfl⟩ := Int.eq_ofNat_of_zero_le v2a
  generalize hq : w1.heap.size = q at *
  clear hq
  go_wp2_with fail
  go_loopw [6] (fun i wr => ∃ (k : Nat) (A : Option Addr) (xss : List (List Int)) (c lo hi : Nat), i = .int .i64 k ∧ k ≤ 11 ∧ OwnG wr lo hi A c xss ∧ w.heap.size + 1 ≤ lo ∧ (hi ≤ q ∨ q < lo) ∧ tableB xss = true ∧ np xss.flatten + k ≤ 11 ∧ BoxT wr w.heap.size none 0 0 ∧ BoxT wr q A xss.length c ∧ Rdr wr a (Bd + 36 - 3 * k) ∧ Kp (At a) w wr) (fun i _ => (intOf i).toNat)
  case atStart => exact ⟨k0, A1, newTab, c1, w.heap.size + 1, q, rfl, by omega, o1, Nat.le_refl _, .inl (Nat.le_refl _), newTab_ok, by rw [newTab_np]; omega, br, b5, r2.le (by omega), kp⟩
  case round =>
    clear o1 br b5 r2 kp v2a v2b z2
    obtain ⟨k, A, xss, c, lo, hi, rfl, hk11, og, hlo, hq, hv, hnp, br, b5, rd, kp⟩ := hrel
    have sz := kp.size
    have b5l := b5.2.2
    by_cases hlt : 0 < k
    · have hgd : decide ((0 : Int) < (k : Int)) = true := decide_eq_true (by omega)
      go_wp2_with fail
      clear hgd
      refine wp_region_facts2 [7, 8, 16, 17, 18, 19, 20, 21, 22, 23, 24, 25, 26] (Kp fun _ => True) (fun L s wx => TbG wr a xss (L 7) (L 8) (L 9) (L 10) (L 11) (L 12) (s 7) (s 16) (s 24) (s 25) (s 26) wx ∧ Rdr wx a (Bd + 36 - 3 * k + cnt L [2, 4, 6])) (TbF a A xss.length c) (by kernel_rfl) (by kernel_rfl) (by kernel_rfl) (by simp) ?mono ?start ?steps ?fin
      case mono => exact fun _ _ _ _ _ h => h
      case start => exact ⟨⟨(Kp.refl _ _).drew, by simp, by simp, by simp, by simp, by simp, by simp⟩, rd.keepNo ((Kp.refl _ _).drew)⟩
      case steps =>
        refine ⟨?s0, ?s1, ?s2, ?s3, ?s4, ?s5, ?s6, ?s7, ?s8, ?s9, ?s10, ?s11, ?s12, ?s13, trivial⟩
        case s0 =>
          intro L s fr wx hin hout hL hG haft K hK hK0
          have hR := hG.2
          have o5 := hout 5 (by simp); simp at o5
          have c0 := (hG.1.kp.cell (p := ⟨q, 0, none⟩) b5.2.2 (by simp only [At]; omega)).trans b5.1
          clear haft hin hout hK0
          go_simp
          exact hK 17 rfl _ _ (Kp.refl _ _) ⟨by simpa [upd] using hG.1, hR.le (Nat.add_le_add_left (cnt_mono _ _ _) _)⟩ rfl
        case s1 =>
          intro L s fr wx hin hout hL hG haft K hK hK0
          have hR := hG.2
          have o0 := hout 0 (by simp); simp at o0
          clear haft hin hout hK0
          go_simp
          exact hK 18 rfl _ _ (Kp.refl _ _) ⟨by simpa [upd] using hG.1, hR.le (Nat.add_le_add_left (cnt_mono _ _ _) _)⟩ rfl
        case s2 =>
          intro L s fr wx hin hout hL hG haft K hK hK0
          have hR := hG.2
          have g18 : fr[18]? = some (.pointer (some ⟨a, 0, none⟩)) := (hin 18 (by simp)).trans (congrArg some ((haft ⟨1, .data⟩ (by simp) rfl).2 rfl))
          have hcl := cnt_le L [2, 4, 6]
          simp only [List.length_cons, List.length_nil] at hcl
          clear haft hin hout hK0
          go_simp
          refine (pick_ a _ 4 _ hR (by omega) (by omega) (by omega)).mono ?_
          rintro e w5 ⟨v5, rfl, v5a, v5b, r5, k5, z5⟩
          exact hK 19 rfl _ _ (k5.mono (fun _ _ _ => trivial)) ⟨by simpa [upd] using hG.1.pick (by omega) k5, r5.le (by have := cnt_step (is := [2, 4, 6]) (by simp) hL; omega)⟩ ⟨v5, rfl, v5a, v5b⟩
        case s3 =>
          intro L s fr wx hin hout hL hG haft K hK hK0
          have hR := hG.2
          have o0 := hout 0 (by simp); simp at o0
          clear haft hin hout hK0
          go_simp
          exact hK 20 rfl _ _ (Kp.refl _ _) ⟨by simpa [upd] using hG.1, hR.le (Nat.add_le_add_left (cnt_mono _ _ _) _)⟩ rfl
        case s4 =>
          intro L s fr wx hin hout hL hG haft K hK hK0
          have hR := hG.2
          have g20 : fr[20]? = some (.pointer (some ⟨a, 0, none⟩)) := (hin 20 (by simp)).trans (congrArg some ((haft ⟨3, .data⟩ (by simp) rfl).2 rfl))
          have hcl := cnt_le L [2, 4, 6]
          simp only [List.length_cons, List.length_nil] at hcl
          clear haft hin hout hK0
          go_simp
          refine (pick_ a _ 6 _ hR (by omega) (by omega) (by omega)).mono ?_
          rintro e w5 ⟨v5, rfl, v5a, v5b, r5, k5, z5⟩
          exact hK 21 rfl _ _ (k5.mono (fun _ _ _ => trivial)) ⟨by simpa [upd] using hG.1.pick (by omega) k5, r5.le (by have := cnt_step (is := [2, 4, 6]) (by simp) hL; omega)⟩ ⟨v5, rfl, v5a, v5b⟩
        case s5 =>
          intro L s fr wx hin hout hL hG haft K hK hK0
          have hR := hG.2
          have o0 := hout 0 (by simp); simp at o0
          clear haft hin hout hK0
          go_simp
          exact hK 22 rfl _ _ (Kp.refl _ _) ⟨by simpa [upd] using hG.1, hR.le (Nat.add_le_add_left (cnt_mono _ _ _) _)⟩ rfl
        case s6 =>
          intro L s fr wx hin hout hL hG haft K hK hK0
          have hR := hG.2
          have g22 : fr[22]? = some (.pointer (some ⟨a, 0, none⟩)) := (hin 22 (by simp)).trans (congrArg some ((haft ⟨5, .data⟩ (by simp) rfl).2 rfl))
          have hcl := cnt_le L [2, 4, 6]
          simp only [List.length_cons, List.length_nil] at hcl
          clear haft hin hout hK0
          go_simp
          refine (pick_ a _ 24 _ hR (by omega) (by omega) (by omega)).mono ?_
          rintro e w5 ⟨v5, rfl, v5a, v5b, r5, k5, z5⟩
          exact hK 23 rfl _ _ (k5.mono (fun _ _ _ => trivial)) ⟨by simpa [upd] using hG.1.pick (by omega) k5, r5.le (by have := cnt_step (is := [2, 4, 6]) (by simp) hL; omega)⟩ ⟨v5, rfl, v5a, v5b⟩
        case s7 =>
          intro L s fr wx hin hout hL hG haft K hK hK0
          have hR := hG.2
          have g17 : fr[17]? = some (.agg #[.slice A xss.length c]) := (hin 17 (by simp)).trans (congrArg some ((haft ⟨0, .data⟩ (by simp) rfl).2 rfl))
          obtain ⟨x2, ex2, hx2a, hx2b⟩ : IntV (fun x => 0 ≤ x ∧ x < 4) (s 19) := (haft ⟨2, .data⟩ (by simp) rfl).2 rfl
          have g19 : fr[19]? = some (.int .i64 x2) := (hin 19 (by simp)).trans (congrArg some ex2)
          obtain ⟨x4, ex4, hx4a, hx4b⟩ : IntV (fun x => 0 ≤ x ∧ x < 6) (s 21) := (haft ⟨4, .data⟩ (by simp) rfl).2 rfl
          have g21 : fr[21]? = some (.int .i64 x4) := (hin 21 (by simp)).trans (congrArg some ex4)
          obtain ⟨x6, ex6, hx6a, hx6b⟩ : IntV (fun x => 0 ≤ x ∧ x < 24) (s 23) := (haft ⟨6, .data⟩ (by simp) rfl).2 rfl
          have g23 : fr[23]? = some (.int .i64 x6) := (hin 23 (by simp)).trans (congrArg some ex6)
          have hgr : Grid wx lo hi A xss := og.grid.keep hG.1.kp (fun i hi _ e => by simp only [At] at e; omega)
          have hwx := hG.1.kp.size
          clear haft hin hout hK0 ex2 ex4 ex6
          go_simp
          refine (tablePut_ _ _ _ _ _ x2 x4 x6 _ hgr hv hx2a (by omega) hx4a (by omega) (by omega) (by omega)).mono ?_
          rintro e w5 ⟨A5, c5, yss, bb, rfl, o5, hv5, hn5, k5⟩
          have H := hG.1.putted (bb := bb) hL k5 o5 (Nat.le_refl _) hwx hv5 hn5
          have R5 := (hR.le (Nat.add_le_add_left (cnt_mono L 7 [2, 4, 6]) _) : Rdr wx a _).keepNo k5
          clear hG hR o5 hgr
          exact hK 24 rfl _ _ (k5.mono (fun _ _ _ => trivial)) ⟨by simpa [upd] using H, R5⟩ trivial
        case s8 =>
          intro L s fr wx hin hout hL hG haft K hK hK0
          have hR := hG.2
          have l7 : L 7 = true := (haft ⟨7, .data⟩ (by simp) rfl).1
          have g24 := hin 24 (by simp)
          clear haft hin hout hK0
          go_simp
          exact hK 16 rfl _ _ (Kp.refl _ _) ⟨by simpa [upd] using hG.1.moved l7, hR.le (Nat.add_le_add_left (cnt_mono _ _ _) _)⟩ trivial
        case s9 =>
          intro L s fr wx hin hout hL hG haft K hK hK0
          have hR := hG.2
          have l8 : L 8 = true := (haft ⟨8, .data⟩ (by simp) rfl).1
          obtain ⟨A', n', c', bb, e16, H1, H2⟩ := hG.1.pair l8
          have g16 : fr[16]? = some (.tuple #[.agg #[.slice A' n' c'], .bool bb]) := (hin 16 (by simp)).trans (congrArg some e16)
          clear haft hin hout hK0 e16
          go_simp
          exact hK 25 rfl _ _ (Kp.refl _ _) ⟨by simpa [upd] using H1, hR.le (Nat.add_le_add_left (cnt_mono _ _ _) _)⟩ trivial
        case s10 =>
          intro L s fr wx hin hout hL hG haft K hK hK0
          have hR := hG.2
          have l8 : L 8 = true := (haft ⟨8, .data⟩ (by simp) rfl).1
          obtain ⟨A', n', c', bb, e16, H1, H2⟩ := hG.1.pair l8
          have g16 : fr[16]? = some (.tuple #[.agg #[.slice A' n' c'], .bool bb]) := (hin 16 (by simp)).trans (congrArg some e16)
          clear haft hin hout hK0 e16
          go_simp
          exact hK 26 rfl _ _ (Kp.refl _ _) ⟨by simpa [upd] using H2, hR.le (Nat.add_le_add_left (cnt_mono _ _ _) _)⟩ trivial
        case s11 =>
          intro L s fr wx hin hout hL hG haft K hK hK0
          have hR := hG.2
          clear haft hin hout hK0
          go_simp
          exact hK 7 rfl _ _ ((Kp.refl _ _).alloc _) ⟨by simpa [upd] using hG.1.boxed hL _, (hR.le (Nat.add_le_add_left (cnt_mono _ _ _) _)).keepNo ((Kp.refl _ _).alloc _)⟩ trivial
        case s12 =>
          intro L s fr wx hin hout hL hG haft K hK hK0
          have hR := hG.2
          have l9 : L 9 = true := (haft ⟨9, .data⟩ (by simp) rfl).1
          have l11 : L 11 = true := (haft ⟨11, .data⟩ (by simp) rfl).1
          obtain ⟨b, A', n', c', e7, e25, bx, hb, H⟩ := hG.1.store l9 l11 hL
          have g7 : fr[7]? = some (.pointer (some ⟨b, 0, none⟩)) := (hin 7 (by simp)).trans (congrArg some e7)
          have g25 : fr[25]? = some (.agg #[.slice A' n' c']) := (hin 25 (by simp)).trans (congrArg some e25)
          obtain ⟨bx0, bx1, bx2⟩ := bx
          clear haft hin hout hK e7 e25
          go_simp
          exact hK0 rfl _ ((Kp.put1 _ _ _ _).mono (fun _ _ _ => trivial)) ⟨by simpa [upd] using H, (hR.le (Nat.add_le_add_left (cnt_mono _ _ _) _)).keep (Kp.put1 wx b 0 _) (fun i hi e => by simp only [At] at e; omega)⟩
        case s13 =>
          intro L s fr wx hin hout hL hG haft K hK hK0
          have hR := hG.2
          have g26 := hin 26 (by simp)
          clear haft hin hout hK0
          go_simp
          exact hK 8 rfl _ _ (Kp.refl _ _) ⟨by simpa [upd] using hG.1, hR.le (Nat.add_le_add_left (cnt_mono _ _ _) _)⟩ trivial
      case fin =>
        intro L s wx hL hG hF
        obtain ⟨hG, hR⟩ := hG
        rw [hL 7 (by decide), hL 8 (by decide), hL 9 (by decide), hL 10 (by decide), hL 11 (by decide), hL 12 (by decide)] at hG
        obtain ⟨A', c', yss, bb, lo', hi', e24, o', hlo', hv', hn', _, _, _, hbx⟩ := hG.put rfl
        obtain ⟨b, e7, hb, hbx⟩ := hbx rfl
        have bx := hbx rfl
        have bxl : wr.heap.size ≤ b := by
          obtain ⟨b', e', hb', _⟩ := hG.box rfl
          rw [e7] at e'; injection e' with e'; injection e' with e'; injection e' with e'; omega
        have R3 := hR.le (show Bd + 36 - 3 * k + cnt L [2, 4, 6] ≤ Bd + 36 - 3 * (k - 1) by have := cnt_le L [2, 4, 6]; simp at this; omega)
        have kpx := kp.trans hG.kp
        have br' := br.keep hG.kp (by simp only [At]; omega)
        have b5' := b5.keep hG.kp (by simp only [At]; omega)
        clear hG hR hF hL hbx e24
        have d5 := b5'.set A' yss.length c'
        have ks := Kp.put1 wx q 0 (.slice A' yss.length c')
        obtain ⟨x0, x1, x2⟩ := bx
        obtain ⟨y0, y1, y2⟩ := b5'
        simp only [frameOf, List.foldl, List.setIfInBounds_toArray, List.set_cons_succ, List.set_cons_zero]
        rw [e7]
        go_wp2_with fail
        go_roundw
        case rel => exact ⟨k - 1, A', yss, c', lo', hi', by go_num, by omega, o'.keep ks (fun i h1 h2 e => by simp only [At] at e; omega), by omega, .inr (by omega), hv', by omega, br'.keep ks (by simp only [At]; omega), d5, R3.keep ks (fun i hi e => by simp only [At] at e; omega), kpx.also ks (fun i hi e => by simp only [At] at e; omega)⟩
        case measure => simp [intOf]; omega
    · obtain rfl : k = 0 := by omega
      have hv8 := Lib.hid (tableB_dec hv)
      have hl8a : xss.length ≤ 8 := Nat.le_of_eq hv8.out.1
      have hl8b : 8 ≤ xss.length := Nat.le_of_eq hv8.out.1.symm
      have hrow6 : ∀ (k : Nat) (xs : List Int), xss[k]? = some xs → xs.length ≤ 6 := fun k xs hx => Nat.le_of_eq (hv8.out.2.1 xs (List.mem_of_getElem? hx))
      go_wp2_with fail
      refine (odd_ _ _ _ _ rd (by omega) (by omega) (by omega)).mono ?_
      rintro e w2 ⟨bb, rfl, r2, k2, z2⟩
      replace kp := kp.trans k2
      replace br := br.keep k2 (by simp only [At]; omega)
      replace b5 := b5.keep k2 (by simp only [At]; omega)
      replace og := og.keep k2 (fun i hi _ e => by simp only [At] at e; omega)
      clear k2 rd
      cases bb
      · have d3 := br.set A xss.length c
        have ks := Kp.put1 w2 w.heap.size 0 (.slice A xss.length c)
        obtain ⟨x0, x1, x2⟩ := br
        obtain ⟨y0, y1, y2⟩ := b5
        go_wp2_with fail
        refine bodyPost_ret (v := .agg #[.slice A xss.length c]) (by simp [results, Try.results34, go_sem, d3.1]) rfl ?_
        exact ⟨A, xss, c, rfl, (og.grid.keep ks (fun i h1 _ e => by simp only [At] at e; omega)).wide (by omega) (by have := ks.size; have := og.grid.size; omega) (Nat.le_refl _), hl8a, hrow6, fun _ => by omega, (r2.keep ks (fun i hi e => by simp only [At] at e; omega)).le (by omega), kp.also ks (fun i hi e => by simp only [At] at e; omega)⟩
      · go_wp2_with fail
        refine (pick_ _ _ _ _ r2 (by omega) (by omega) (by omega)).mono ?_
        rintro e w3 ⟨v3, rfl, v3a, v3b, r3, k3, z3⟩
        replace kp := kp.trans k3
        replace br := br.keep k3 (by simp only [At]; omega)
        replace b5 := b5.keep k3 (by simp only [At]; omega)
        replace og := og.keep k3 (fun i hi _ e => by simp only [At] at e; omega)
        clear k3 r2
        obtain ⟨v3, rfl⟩ := Int.eq_ofNat_of_zero_le v3a
        obtain rfl | rfl | rfl | rfl : v3 = 0 ∨ v3 = 1 ∨ v3 = 2 ∨ v3 = 3 := by omega
        · have d3 := br.set none 0 0
          have ks := Kp.put1 w3 w.heap.size 0 (.slice none 0 0)
          obtain ⟨x0, x1, x2⟩ := br
          go_wp2_with fail
          refine bodyPost_ret (v := .agg #[.slice none 0 0]) (by simp [results, Try.results34, go_sem, d3.1]) rfl ?_
          exact ⟨none, [], 0, rfl, ⟨[], Row.empty (Nat.le_refl _), fun k xs hk => by simp at hk⟩, by simp, fun k xs hk => by simp at hk, fun _ => by simp [np], (r3.keep ks (fun i hi e => by simp only [At] at e; omega)).le (by omega), kp.also ks (fun i hi e => by simp only [At] at e; omega)⟩
        · obtain ⟨g, A3, c3, xs, hA, hg1, hg2, hx, hcg, hfg, oi, hbg⟩ := og.at_ (k := 0) (by omega)
          subst hA
          have h6 := hv8.out.2.1 xs (List.mem_of_getElem? hx)
          obtain ⟨x, ys, rfl⟩ : ∃ x ys, xs = x :: ys := by
            rcases xs with _ | ⟨x, ys⟩
            · simp at h6
            · exact ⟨x, ys, rfl⟩
          have h5 : ys.length = 5 := by simpa using h6
          have hcp := oi.cap
          simp only [List.length_cons] at hcp hcg
          obtain ⟨g3, hA, hg31, hg32⟩ := Own.form oi (by simp)
          subst hA
          have hc1 : ¬ c3 = 1 := by omega
          have Hn := Lib.hid (np_flat_set hx (ys := ys) (by show np ys ≤ np (x :: ys) + 1; unfold np; rw [List.countP_cons]; omega))
          have H5 := Lib.hid h5
          have h5a : ys.length ≤ 5 := by omega
          have h5b : 5 ≤ ys.length := by omega
          have hb3 : ¬ Blk (some ⟨g3, 1, none⟩) g := fun e => hbg (by obtain ⟨o, e⟩ := e; injection e with e; injection e with e1 e2; exact ⟨0, by rw [e1]⟩)
          clear h5 h6 hx
          have y := b5
          obtain ⟨y0, y1, y2⟩ := y
          have hz1 : 0 < xss.length := by omega
          have hz3 : 1 ≤ c3 := by omega
          have hz4 : (1 : Int) ≤ (ys.length : Int) + 1 := by omega
          go_wp2_with fail
          go_still_tail 8, (by kernel_rfl)
          change wpList _ _ _ _ _ w3.drew
          generalize hwd : w3.drew = wd
          have kd : Kp No w3 wd := by rw [← hwd]; exact (Kp.refl _ _).drew
          clear hwd y0 y1 y2 hcg
          have hfg' := (kd.frozen (p := ⟨g, 0, none⟩) (by show g < w3.heap.size; have := og.grid.size; omega) (fun e => e)).trans hfg
          obtain ⟨g', A4, c4, xs4, hA, _, _, _, hcg', _, _, _⟩ := (og.keepNo kd).at_ (k := 0) (by omega)
          obtain rfl : g = g' := by injection hA with hA; injection hA
          have G := Lib.hid ((og.keepNo kd).head (f := 0) (c2 := c3 - 1) (by omega) (oi.keepNo kd).ints.tail hb3 (by omega))
          have ks := Kp.put1 wd g 0 (.slice (some ⟨g3, 0 + 1, none⟩) ys.length (c3 - 1))
          have br' := (br.keepNo kd).keep ks (by simp only [At]; omega)
          have b5' := (b5.keepNo kd).keep ks (by simp only [At]; omega)
          have kp' := (kp.alsoNo kd).also ks (fun i hi e => by simp only [At] at e; omega)
          have r3' := (r3.keepNo kd).keep ks (fun i hi e => by simp only [At] at e; omega)
          have l3 : (xss.set 0 ys).length = xss.length := List.length_set
          have HL := Lib.hid l3
          have gsz := G.out.size
          have d3 := br'.set (some ⟨g, 0, none⟩) xss.length c
          have ks3 := Kp.put1 (wd.setCell ⟨g, 0, none⟩ (.slice (some ⟨g3, 0 + 1, none⟩) ys.length (c3 - 1))) w.heap.size 0 (.slice (some ⟨g, 0, none⟩) xss.length c)
          clear br r3 hA l3
          obtain ⟨x0, x1, x2⟩ := br'
          obtain ⟨y0, y1, y2⟩ := b5'
          go_wp2_with fail
          refine bodyPost_ret (v := .agg #[.slice (some ⟨g, 0, none⟩) xss.length c]) (by simp [results, Try.results34, go_sem, d3.1]) rfl ?_
          exact ⟨some ⟨g, 0, none⟩, xss.set 0 ys, c, by rw [HL.out], (G.out.keep ks3 (fun i h1 _ e => by simp only [At] at e; omega)).wide (by omega) (Nat.le_trans gsz ks3.size) (Nat.le_refl _), by rw [HL.out]; exact hl8a, (fun j zs hz => by
            by_cases e : j = 0
            · subst e
              rw [List.getElem?_set_self (by omega)] at hz
              injection hz with hz
              rw [← hz]; omega
            · rw [List.getElem?_set_ne (Ne.symm e)] at hz
              exact hrow6 j zs hz), (fun _ => by have := Hn.out; omega), (r3'.keep ks3 (fun i hi e => by simp only [At] at e; omega)).le (by omega), kp'.also ks3 (fun i hi e => by simp only [At] at e; omega)⟩
        · obtain ⟨g, A3, c3, xs, hA, hg1, hg2, hx, hcg, hfg, oi, hbg⟩ := og.at_ (k := 0) (by omega)
          subst hA
          have h6 := hv8.out.2.1 xs (List.mem_of_getElem? hx)
          obtain ⟨g3, x0, hA, hg31, hg32, _, hcx, hfx⟩ := oi.at_ (k := 0) (by omega)
          subst hA
          have hn1 : ¬ g3 = g := fun e => hbg ⟨0, by rw [e]⟩
          have hxs0 : 0 < xs.length := by omega
          have hxl0 : 0 < xss.length := by omega
          have osz := og.grid.size
          have Hx := Lib.hid hx; have H6 := Lib.hid h6
          clear hx h6 hcx hfx oi
          have y := b5
          obtain ⟨y0, y1, y2⟩ := y
          go_wp2_with fail
          refine wp_region_facts2 [58, 59, 60, 61, 62, 63, 64, 65, 66, 67] (Kp (Two a g3)) (fun L s wx => Kp (Two a g3) w3 wx ∧ Rdr wx a (Bd + 38 + cnt L [6]) ∧ (L 10 = false → OwnG wx lo hi (some ⟨g, 0, none⟩) c xss) ∧ (L 10 = true → ∃ x, OwnG wx lo hi (some ⟨g, 0, none⟩) c (xss.set 0 (xs.set 0 x)))) (TcF w3.heap.size a q g g3 xss.length c xs.length c3) (by kernel_rfl) (by kernel_rfl) (by kernel_rfl) (by simp) ?mono ?start ?steps ?fin
          case mono => exact fun j v wx wy k h => TcF.keep (by omega) (by omega) j v wx wy k h
          case start => exact ⟨(Kp.refl _ _).drew, r3.keepNo ((Kp.refl _ _).drew) |>.le (by omega), fun _ => og.keepNo ((Kp.refl _ _).drew), fun e => by cases e⟩
          case steps =>
            refine ⟨?s0, ?s1, ?s2, ?s3, ?s4, ?s5, ?s6, ?s7, ?s8, ?s9, ?s10, trivial⟩
            case s0 =>
              intro L s fr wx hin hout hL hG haft K hK hK0
              obtain ⟨hk, hR, hO, hO2⟩ := hG
              have o5 := hout 5 (by simp); simp at o5
              clear haft hin hout hK0
              go_simp
              exact hK 58 rfl _ _ (Kp.refl _ _) ⟨hk, hR.le (Nat.add_le_add_left (cnt_mono _ _ _) _), by simpa [upd] using hO, by simpa [upd] using hO2⟩ rfl
            case s1 =>
              intro L s fr wx hin hout hL hG haft K hK hK0
              obtain ⟨hk, hR, hO, hO2⟩ := hG
              have g58 : fr[58]? = some (.pointer (some ⟨q, 0, none⟩)) := (hin 58 (by simp)).trans (congrArg some ((haft ⟨0, .data⟩ (by simp) rfl).2 rfl))
              have c0 := (hk.cell (p := ⟨q, 0, none⟩) b5.2.2 (by simp only [Two]; omega)).trans b5.1
              clear haft hin hout hK0
              go_simp
              exact hK 59 rfl _ _ (Kp.refl _ _) ⟨hk, hR.le (Nat.add_le_add_left (cnt_mono _ _ _) _), by simpa [upd] using hO, by simpa [upd] using hO2⟩ rfl
            case s2 =>
              intro L s fr wx hin hout hL hG haft K hK hK0
              obtain ⟨hk, hR, hO, hO2⟩ := hG
              have g59 : fr[59]? = some (.slice (some ⟨g, 0, none⟩) xss.length c) := (hin 59 (by simp)).trans (congrArg some ((haft ⟨1, .data⟩ (by simp) rfl).2 rfl))
              clear haft hin hout hK0
              go_simp
              exact hK 60 rfl _ _ (Kp.refl _ _) ⟨hk, hR.le (Nat.add_le_add_left (cnt_mono _ _ _) _), by simpa [upd] using hO, by simpa [upd] using hO2⟩ rfl
            case s3 =>
              intro L s fr wx hin hout hL hG haft K hK hK0
              obtain ⟨hk, hR, hO, hO2⟩ := hG
              have g60 : fr[60]? = some (.pointer (some ⟨g, 0, none⟩)) := (hin 60 (by simp)).trans (congrArg some ((haft ⟨2, .data⟩ (by simp) rfl).2 rfl))
              have c0 := (hk.cell (p := ⟨g, 0, none⟩) (by show g < w3.heap.size; omega) (by simp only [Two]; omega)).trans hcg
              clear haft hin hout hK0
              go_simp
              exact hK 61 rfl _ _ (Kp.refl _ _) ⟨hk, hR.le (Nat.add_le_add_left (cnt_mono _ _ _) _), by simpa [upd] using hO, by simpa [upd] using hO2⟩ rfl
            case s4 =>
              intro L s fr wx hin hout hL hG haft K hK hK0
              obtain ⟨hk, hR, hO, hO2⟩ := hG
              clear haft hin hout hK0
              go_simp
              exact hK 62 rfl _ _ ((Kp.refl _ _).alloc _) ⟨hk.alloc _, (hR.le (Nat.add_le_add_left (cnt_mono _ _ _) _)).keepNo ((Kp.refl _ _).alloc _), fun e => (hO (by simpa [upd] using e)).keepNo ((Kp.refl _ _).alloc _), fun e => by obtain ⟨x, o⟩ := hO2 (by simpa [upd] using e); exact ⟨x, o.keepNo ((Kp.refl _ _).alloc _)⟩⟩ (TabI.lit wx w3.heap.size _ [-2, 48] _ rfl _ (by simp) hk.size)
            case s5 =>
              intro L s fr wx hin hout hL hG haft K hK hK0
              obtain ⟨hk, hR, hO, hO2⟩ := hG
              have o0 := hout 0 (by simp); simp at o0
              clear haft hin hout hK0
              go_simp
              exact hK 63 rfl _ _ (Kp.refl _ _) ⟨hk, hR.le (Nat.add_le_add_left (cnt_mono _ _ _) _), by simpa [upd] using hO, by simpa [upd] using hO2⟩ rfl
            case s6 =>
              intro L s fr wx hin hout hL hG haft K hK hK0
              obtain ⟨hk, hR, hO, hO2⟩ := hG
              have g63 : fr[63]? = some (.pointer (some ⟨a, 0, none⟩)) := (hin 63 (by simp)).trans (congrArg some ((haft ⟨5, .data⟩ (by simp) rfl).2 rfl))
              have hcl := cnt_le L [6]
              simp only [List.length_cons, List.length_nil] at hcl
              clear haft hin hout hK0
              go_simp
              refine (pick_ a _ 2 _ hR (by omega) (by omega) (by omega)).mono ?_
              rintro e w5 ⟨v5, rfl, v5a, v5b, r5, k5, z5⟩
              have k5' : Kp (Two a g3) wx w5 := k5.mono (fun i _ e => .inl e)
              exact hK 64 rfl _ _ k5' ⟨hk.trans k5', r5.le (by have := cnt_step (is := [6]) (by simp) hL; omega), fun e => (hO (by simpa [upd] using e)).keep k5 (fun i hi _ e => by simp only [At] at e; omega), fun e => by obtain ⟨x, o⟩ := hO2 (by simpa [upd] using e); exact ⟨x, o.keep k5 (fun i hi _ e => by simp only [At] at e; omega)⟩⟩ ⟨v5, rfl, v5a, v5b⟩
            case s7 =>
              intro L s fr wx hin hout hL hG haft K hK hK0
              obtain ⟨hk, hR, hO, hO2⟩ := hG
              obtain ⟨gt, e62, ht1, ht2, hct⟩ : TabI w3.heap.size 2 (fun _ => True) (s 62) wx := (haft ⟨4, .data⟩ (by simp) rfl).2 rfl
              obtain ⟨v, e64, hv0, hv1⟩ : IntV (fun x => 0 ≤ x ∧ x < 2) (s 64) := (haft ⟨6, .data⟩ (by simp) rfl).2 rfl
              obtain ⟨j, rfl⟩ := Int.eq_ofNat_of_zero_le hv0
              have g62 := hin 62 (by simp); rw [e62] at g62
              have g64 := hin 64 (by simp); rw [e64] at g64
              obtain ⟨x, hx, _⟩ := hct j (by omega)
              clear haft hin hout hK0 e62 e64 hct
              go_simp
              exact hK 65 rfl _ _ (Kp.refl _ _) ⟨hk, hR.le (Nat.add_le_add_left (cnt_mono _ _ _) _), by simpa [upd] using hO, by simpa [upd] using hO2⟩ ⟨gt, j, x, rfl, ht1, ht2, hx, trivial⟩
            case s8 =>
              intro L s fr wx hin hout hL hG haft K hK hK0
              obtain ⟨hk, hR, hO, hO2⟩ := hG
              obtain ⟨gt, j, x, e65, ht1, ht2, hx, _⟩ : PtrI w3.heap.size (fun _ => True) (s 65) wx := (haft ⟨7, .data⟩ (by simp) rfl).2 rfl
              have g65 := hin 65 (by simp); rw [e65] at g65
              clear haft hin hout hK0 e65
              go_simp
              exact hK 66 rfl _ _ (Kp.refl _ _) ⟨hk, hR.le (Nat.add_le_add_left (cnt_mono _ _ _) _), by simpa [upd] using hO, by simpa [upd] using hO2⟩ ⟨x, rfl, trivial⟩
            case s9 =>
              intro L s fr wx hin hout hL hG haft K hK hK0
              obtain ⟨hk, hR, hO, hO2⟩ := hG
              have g61 : fr[61]? = some (.slice (some ⟨g3, 0, none⟩) xs.length c3) := (hin 61 (by simp)).trans (congrArg some ((haft ⟨3, .data⟩ (by simp) rfl).2 rfl))
              clear haft hin hout hK0
              go_simp
              exact hK 67 rfl _ _ (Kp.refl _ _) ⟨hk, hR.le (Nat.add_le_add_left (cnt_mono _ _ _) _), by simpa [upd] using hO, by simpa [upd] using hO2⟩ rfl
            case s10 =>
              intro L s fr wx hin hout hL hG haft K hK hK0
              obtain ⟨hk, hR, hO, hO2⟩ := hG
              have g67 : fr[67]? = some (.pointer (some ⟨g3, 0, none⟩)) := (hin 67 (by simp)).trans (congrArg some ((haft ⟨9, .data⟩ (by simp) rfl).2 rfl))
              obtain ⟨x, e66, _⟩ : IntV (fun _ => True) (s 66) := (haft ⟨8, .data⟩ (by simp) rfl).2 rfl
              have g66 := hin 66 (by simp); rw [e66] at g66
              have c0 := (hk.cell (p := ⟨g, 0, none⟩) (by show g < w3.heap.size; omega) (by simp only [Two]; omega)).trans hcg
              have O := hO hL
              obtain ⟨g', A4, c4, xs4, hA, _, _, hx4, hcg4, _, oi4, _⟩ := O.at_ (k := 0) hxl0
              obtain rfl : g = g' := by injection hA with hA; injection hA
              obtain rfl : xs = xs4 := by have := Hx.out; rw [hx4] at this; injection this with this; exact this.symm
              obtain rfl : some ⟨g3, 0, none⟩ = A4 := by rw [c0] at hcg4; injection hcg4 with e; injection e
              obtain ⟨g5, x5, hA5, _, _, _, hc5, hf5⟩ := oi4.at_ (k := 0) hxs0
              obtain rfl : g3 = g5 := by injection hA5 with hA5; injection hA5
              have O2 := O.put (j := 0) Hx.out hcg4 x
              have ks := Kp.put1 wx g3 0 (.int .i64 x)
              have ks' : Kp (Two a g3) wx (wx.setCell ⟨g3, 0, none⟩ (.int .i64 x)) := ks.mono (fun i _ e => .inr e)
              clear hA hA5 hcg4 hx4 c0
              clear haft hin hout hK e66
              go_simp
              exact hK0 rfl _ ks' ⟨hk.trans ks', (hR.le (Nat.add_le_add_left (cnt_mono _ _ _) _)).keep ks (fun i hi e => by simp only [At] at e; omega), fun e => by simp [upd] at e, fun _ => ⟨x, O2⟩⟩
          case fin =>
            intro L s w5 hL hG hF
            obtain ⟨hk, hR, _, hO2⟩ := hG
            obtain ⟨x, O⟩ := hO2 (hL 10 (by decide))
            have R3 := hR.le (show Bd + 38 + cnt L [6] ≤ Bd + 40 by have := cnt_le L [6]; simp at this; omega)
            have br' := br.keep hk (by simp only [Two]; omega)
            have b5' := b5.keep hk (by simp only [Two]; omega)
            have kp' := kp.also hk (fun i hi e => by simp only [At]; rcases e with e | e <;> omega)
            have hs5 := hk.size
            clear hF hL hO2 hR hk y0 y1 y2
            have Hn := Lib.hid (np_flat_set Hx.out (np_set_le xs 0 x))
            have hl2 : (xss.set 0 (xs.set 0 x)).length = xss.length := List.length_set
            have HL := Lib.hid hl2
            have d3 := br'.set (some ⟨g, 0, none⟩) xss.length c
            have ks3 := Kp.put1 w5 w.heap.size 0 (.slice (some ⟨g, 0, none⟩) xss.length c)
            have gsz := O.grid.size
            clear hl2
            obtain ⟨z0, z1, z2⟩ := b5'
            obtain ⟨x0, x1, x2⟩ := br'
            simp only [frameOf, List.foldl, List.setIfInBounds_toArray, List.set_cons_succ, List.set_cons_zero]
            go_wp2_with fail
            refine bodyPost_ret (v := .agg #[.slice (some ⟨g, 0, none⟩) xss.length c]) (by simp [results, Try.results34, go_sem, d3.1]) rfl ?_
            exact ⟨some ⟨g, 0, none⟩, _, c, by rw [HL.out], (O.grid.keep ks3 (fun i h1 _ e => by simp only [At] at e; omega)).wide (by omega) (Nat.le_trans gsz ks3.size) (Nat.le_refl _), by rw [HL.out]; exact hl8a, (fun j zs hz => by
              by_cases e : j = 0
              · subst e
                rw [List.getElem?_set_self hxl0] at hz
                injection hz with hz
                rw [← hz, List.length_set]; exact Nat.le_of_eq H6.out
              · rw [List.getElem?_set_ne (Ne.symm e)] at hz
                exact hrow6 j zs hz), (fun _ => by have := Hn.out; omega), (R3.keep ks3 (fun i hi e => by simp only [At] at e; omega)).le (by omega), kp'.also ks3 (fun i hi e => by simp only [At] at e; omega)⟩
        · obtain ⟨g, A3, c3, xs, hA, hg1, hg2, hx, hcg, hfg, oi, hbg⟩ := og.at_ (k := 0) (by omega)
          subst hA
          have h6 := hv8.out.2.1 xs (List.mem_of_getElem? hx)
          obtain ⟨g3, x0, hA, hg31, hg32, _, hcx, hfx⟩ := oi.at_ (k := 0) (by omega)
          subst hA
          obtain ⟨g', A4, c4, ys, hA, _, _, hy, hcg4, hfg4, oi4, hbg4⟩ := og.at_ (k := 1) (by omega)
          obtain rfl : g = g' := by injection hA with hA; injection hA
          have h64 := hv8.out.2.1 ys (List.mem_of_getElem? hy)
          obtain ⟨g4, y0, hA4, hg41, hg42, _, hcy, hfy⟩ := oi4.at_ (k := 1) (by omega)
          subst hA4
          have og1 := og.put (j := 0) hx hcg 5
          have og2 := og1.put (f := 1) (j := 1) (g2 := g4) (n2 := ys.length) (c2 := c4) (xs := ys) (by rw [List.getElem?_set_ne (by omega)]; exact hy) (((Kp.put1 w3 g3 0 (.int .i64 5)).cell (p := ⟨g, 1, none⟩) (by show g < w3.heap.size; have := og.grid.size; omega) (by simp only [At]; intro e; exact hbg ⟨0, by rw [e]⟩)).trans hcg4) 5
          have Hbad := Lib.hid (twice_five hx hy (by omega) (by omega))
          have ks1 := Kp.put1 w3 g3 0 (.int .i64 5)
          have ks2 := Kp.put1 (w3.setCell ⟨g3, 0, none⟩ (.int .i64 5)) g4 1 (.int .i64 5)
          have hl2 : ((xss.set 0 (xs.set 0 5)).set 1 (ys.set 1 5)).length = xss.length := by rw [List.length_set, List.length_set]
          have Hr : Hid (∀ (k : Nat) (zs : List Int), ((xss.set 0 (xs.set 0 5)).set 1 (ys.set 1 5))[k]? = some zs → zs.length ≤ 6) := Lib.hid fun k zs hz => by
            by_cases e1 : k = 1
            · subst e1
              rw [List.getElem?_set_self (by rw [List.length_set]; omega)] at hz
              injection hz with hz
              rw [← hz, List.length_set]; omega
            · rw [List.getElem?_set_ne (Ne.symm e1)] at hz
              by_cases e0 : k = 0
              · subst e0
                rw [List.getElem?_set_self (by omega)] at hz
                injection hz with hz
                rw [← hz, List.length_set]; omega
              · rw [List.getElem?_set_ne (Ne.symm e0)] at hz
                exact hrow6 k zs hz
          have HL := Lib.hid hl2
          have hxs0 : 0 < xs.length := by omega
          have hys1 : 1 < ys.length := by omega
          have hxl0 : 0 < xss.length := by omega
          have hxl1 : 1 < xss.length := by omega
          have br' := (br.keep ks1 (by simp only [At]; omega)).keep ks2 (by simp only [At]; omega)
          have b5' := (b5.keep ks1 (by simp only [At]; omega)).keep ks2 (by simp only [At]; omega)
          have kp' := (kp.also ks1 (fun i hi e => by simp only [At] at e; omega)).also ks2 (fun i hi e => by simp only [At] at e; omega)
          have r3' := (r3.keep ks1 (fun i hi e => by simp only [At] at e; omega)).keep ks2 (fun i hi e => by simp only [At] at e; omega)
          have hn1 : ¬ g3 = g := fun e => hbg ⟨0, by rw [e]⟩
          have hn2 : ¬ g4 = g := fun e => hbg4 ⟨0, by rw [e]⟩
          have hn3 : ¬ g3 = q := by omega
          have hn4 : ¬ g4 = q := by omega
          have d3 := br'.set (some ⟨g, 0, none⟩) xss.length c
          have ks3 := Kp.put1 ((w3.setCell ⟨g3, 0, none⟩ (.int .i64 5)).setCell ⟨g4, 1, none⟩ (.int .i64 5)) w.heap.size 0 (.slice (some ⟨g, 0, none⟩) xss.length c)
          have gsz := og2.grid.size
          clear h6 h64 hx hy hl2 hA
          obtain ⟨y0, y1, y2⟩ := b5
          obtain ⟨z0, z1, z2⟩ := b5'
          obtain ⟨x0, x1, x2⟩ := br'
          go_wp2_with fail
          refine bodyPost_ret (v := .agg #[.slice (some ⟨g, 0, none⟩) xss.length c]) (by simp [results, Try.results34, go_sem, d3.1]) rfl ?_
          exact ⟨some ⟨g, 0, none⟩, _, c, by rw [HL.out], (og2.grid.keep ks3 (fun i h1 _ e => by simp only [At] at e; omega)).wide (by omega) (Nat.le_trans gsz ks3.size) (Nat.le_refl _), by rw [HL.out]; exact hl8a, Hr.out, (fun e => by rw [Hbad.out] at e; cases e), (r3'.keep ks3 (fun i hi e => by simp only [At] at e; omega)).le (by omega), kp'.also ks3 (fun i hi e => by simp only [At] at e; omega)⟩
end Go.Proofs.Ytagcdpnbkfoeaaa
