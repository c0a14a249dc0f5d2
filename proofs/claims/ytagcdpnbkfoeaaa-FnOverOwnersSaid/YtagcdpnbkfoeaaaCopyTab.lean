/- l7Copy of the reference: a copy of a table. -/
import Derived.Test.YtagcdpnbkfoeaaaNewTab
namespace Go.Proofs.Ytagcdpnbkfoeaaa
open Go.RowKit
set_option linter.unusedVariables false

/-- How far the round of the copy has come: nothing made; an empty slice; the row; the row in a slice; the grown grid; the grid laid into its box. -/
def CpSt (wr : World) (out lo f : Nat) (A2 : Option Addr) (xss : List (List Int)) (xs : List Int) (s15 s21 s22 s23 : Value) (wx : World) : Nat → Prop
  | 0 => Kp No wr wx
  | 1 => Kp No wr wx ∧ ∃ g, s15 = .slice (some ⟨g, 0, none⟩) 0 0 ∧ OwnI wx wr.heap.size wx.heap.size (some ⟨g, 0, none⟩) 0 []
  | 2 => Kp No wr wx ∧ ∃ A4 c4, s21 = .slice A4 xs.length c4 ∧ OwnI wx wr.heap.size wx.heap.size A4 c4 xs
  | 3 => Kp No wr wx ∧ ∃ A4 c4 u lo' up' A6 c6, s22 = .slice A6 1 c6 ∧ OwnI wx wr.heap.size u A4 c4 xs ∧ Row wx lo' up' 1 A6 1 [.slice A4 xs.length c4] ∧ wr.heap.size ≤ u
  | 4 => Kp (Blk A2) wr wx ∧ ∃ A5 c5, s23 = .slice A5 (f + 1) c5 ∧ OwnG wx lo wx.heap.size A5 c5 (xss.take f ++ [xs])
  | _ => ∃ w4 A5 c5, Kp (Blk A2) wr w4 ∧ OwnG w4 lo w4.heap.size A5 c5 (xss.take f ++ [xs]) ∧ wx = w4.setCell ⟨out, 0, none⟩ (.slice A5 (f + 1) c5)
structure CpG (wr : World) (out lo f : Nat) (A2 : Option Addr) (xss : List (List Int)) (xs : List Int) (l1 l2 l4 l6 l7 l8 l9 l10 l12 : Bool) (s15 s21 s22 s23 : Value) (wx : World) : Prop where
  e64 : l6 = true → l4 = true
  e76 : l7 = true → l6 = true
  e87 : l8 = true → l7 = true
  e101 : l10 = true → l1 = true
  st : ∃ n, l2 = decide (1 ≤ n) ∧ l8 = decide (2 ≤ n) ∧ l9 = decide (3 ≤ n) ∧ l10 = decide (4 ≤ n) ∧ l12 = decide (5 ≤ n) ∧ CpSt wr out lo f A2 xss xs s15 s21 s22 s23 wx n
section
variable {wr wx : World} {out lo f : Nat} {A2 : Option Addr} {xss : List (List Int)} {xs : List Int} {l1 l2 l4 l6 l7 l8 l9 l10 l12 : Bool} {s15 s21 s22 s23 : Value}
theorem CpG.early (h : CpG wr out lo f A2 xss xs l1 l2 l4 l6 l7 l8 l9 l10 l12 s15 s21 s22 s23 wx) (h10 : l10 = false) : Kp No wr wx := by
  obtain ⟨n, e2, e8, e9, e10, e12, hs⟩ := h.st
  rw [h10] at e10
  have hn : n < 4 := by simpa using e10.symm
  match n, hn, hs with
  | 0, _, hs => exact hs
  | 1, _, hs => exact hs.1
  | 2, _, hs => exact hs.1
  | 3, _, hs => exact hs.1
theorem CpG.late (h : CpG wr out lo f A2 xss xs l1 l2 l4 l6 l7 l8 l9 l10 l12 s15 s21 s22 s23 wx) (h10 : l10 = true) : l8 = true := by
  obtain ⟨n, e2, e8, e9, e10, e12, hs⟩ := h.st
  rw [h10] at e10
  have h1 : 4 ≤ n := by simpa using e10.symm
  rw [e8]
  exact decide_eq_true (by omega)
theorem CpG.at0 (h : CpG wr out lo f A2 xss xs l1 l2 l4 l6 l7 l8 l9 l10 l12 s15 s21 s22 s23 wx) (h2 : l2 = false) : l8 = false ∧ l9 = false ∧ l10 = false ∧ l12 = false ∧ Kp No wr wx := by
  obtain ⟨n, e2, e8, e9, e10, e12, hs⟩ := h.st
  rw [h2] at e2
  have hn : n < 1 := by simpa using e2.symm
  obtain rfl : n = 0 := by omega
  exact ⟨e8, e9, e10, e12, hs⟩
theorem CpG.at1 (h : CpG wr out lo f A2 xss xs l1 l2 l4 l6 l7 l8 l9 l10 l12 s15 s21 s22 s23 wx) (h2 : l2 = true) (h8 : l8 = false) : l9 = false ∧ l10 = false ∧ l12 = false ∧ Kp No wr wx ∧ ∃ g, s15 = .slice (some ⟨g, 0, none⟩) 0 0 ∧ OwnI wx wr.heap.size wx.heap.size (some ⟨g, 0, none⟩) 0 [] := by
  obtain ⟨n, e2, e8, e9, e10, e12, hs⟩ := h.st
  rw [h2] at e2; rw [h8] at e8
  have h1 : 1 ≤ n := by simpa using e2.symm
  have hn : n < 2 := by simpa using e8.symm
  obtain rfl : n = 1 := by omega
  exact ⟨e9, e10, e12, hs⟩
theorem CpG.at2 (h : CpG wr out lo f A2 xss xs l1 l2 l4 l6 l7 l8 l9 l10 l12 s15 s21 s22 s23 wx) (h8 : l8 = true) (h9 : l9 = false) : l2 = true ∧ l10 = false ∧ l12 = false ∧ Kp No wr wx ∧ ∃ A4 c4, s21 = .slice A4 xs.length c4 ∧ OwnI wx wr.heap.size wx.heap.size A4 c4 xs := by
  obtain ⟨n, e2, e8, e9, e10, e12, hs⟩ := h.st
  rw [h8] at e8; rw [h9] at e9
  have h1 : 2 ≤ n := by simpa using e8.symm
  have hn : n < 3 := by simpa using e9.symm
  obtain rfl : n = 2 := by omega
  exact ⟨e2, e10, e12, hs⟩
theorem CpG.at3 (h : CpG wr out lo f A2 xss xs l1 l2 l4 l6 l7 l8 l9 l10 l12 s15 s21 s22 s23 wx) (h9 : l9 = true) (h10 : l10 = false) : l2 = true ∧ l8 = true ∧ l12 = false ∧ Kp No wr wx ∧ ∃ A4 c4 u lo' up' A6 c6, s22 = .slice A6 1 c6 ∧ OwnI wx wr.heap.size u A4 c4 xs ∧ Row wx lo' up' 1 A6 1 [.slice A4 xs.length c4] ∧ wr.heap.size ≤ u := by
  obtain ⟨n, e2, e8, e9, e10, e12, hs⟩ := h.st
  rw [h9] at e9; rw [h10] at e10
  have h1 : 3 ≤ n := by simpa using e9.symm
  have hn : n < 4 := by simpa using e10.symm
  obtain rfl : n = 3 := by omega
  exact ⟨e2, e8, e12, hs⟩
theorem CpG.at4 (h : CpG wr out lo f A2 xss xs l1 l2 l4 l6 l7 l8 l9 l10 l12 s15 s21 s22 s23 wx) (h10 : l10 = true) (h12 : l12 = false) : l2 = true ∧ l8 = true ∧ l9 = true ∧ Kp (Blk A2) wr wx ∧ ∃ A5 c5, s23 = .slice A5 (f + 1) c5 ∧ OwnG wx lo wx.heap.size A5 c5 (xss.take f ++ [xs]) := by
  obtain ⟨n, e2, e8, e9, e10, e12, hs⟩ := h.st
  rw [h10] at e10; rw [h12] at e12
  have h1 : 4 ≤ n := by simpa using e10.symm
  have hn : n < 5 := by simpa using e12.symm
  obtain rfl : n = 4 := by omega
  exact ⟨e2, e8, e9, hs⟩
theorem CpG.at5 (h : CpG wr out lo f A2 xss xs l1 l2 l4 l6 l7 l8 l9 l10 l12 s15 s21 s22 s23 wx) (h12 : l12 = true) : ∃ w4 A5 c5, Kp (Blk A2) wr w4 ∧ OwnG w4 lo w4.heap.size A5 c5 (xss.take f ++ [xs]) ∧ wx = w4.setCell ⟨out, 0, none⟩ (.slice A5 (f + 1) c5) := by
  obtain ⟨n, e2, e8, e9, e10, e12, hs⟩ := h.st
  rw [h12] at e12
  have h1 : 5 ≤ n := by simpa using e12.symm
  obtain ⟨m, rfl⟩ : ∃ m, n = m + 5 := ⟨n - 5, by omega⟩
  exact hs
end
/-- What the operations of the round leave. -/
def CpF (out t f n c b off : Nat) (A2 A' : Option Addr) (c2 c' m : Nat) (i : Nat) (v : Value) (wx : World) : Prop := match i with
  | 0 => v = .pointer (some ⟨out, 0, none⟩)
  | 1 => v = .slice A2 f c2
  | 3 => v = .pointer (some ⟨t, 0, none⟩)
  | 4 => v = .slice (some ⟨b, off, none⟩) n c
  | 5 => v = .int .i64 f
  | 6 => v = .pointer (some ⟨b, off + f, none⟩)
  | 7 => v = .slice A' m c'
  | 11 => v = .pointer (some ⟨out, 0, none⟩)
  | _ => True

set_option maxHeartbeats 4000000 in
theorem l7Copy_ (A : Option Addr) (xss : List (List Int)) (c lo hi : Nat) (w : World) (h : Grid w lo hi A xss) (hs : xss.length ≤ 4000000) (hrows : ∀ (k : Nat) (xs : List Int), xss[k]? = some xs → xs.length ≤ 4000000) :
    Calls Try.prog 50 #[.agg #[.slice A xss.length c]] w (NewT w xss) := by
  have ka := (((Kp.refl No w).alloc (.cells #[.slice A xss.length c] 32)).alloc (.cells #[.slice none 0 0] 32)).alloc (.cells #[.slice none 0 0] 32)
  have ht := ((BoxT.new w 32 A xss.length c).keepNo ((Kp.refl No _).alloc (.cells #[.slice none 0 0] 32))).keepNo ((Kp.refl No _).alloc (.cells #[.slice none 0 0] 32))
  have hr := (BoxT.new (w.alloc (.cells #[.slice A xss.length c] 32)) 32 none 0 0).keepNo ((Kp.refl No _).alloc (.cells #[.slice none 0 0] 32))
  have hb := BoxT.new ((w.alloc (.cells #[.slice A xss.length c] 32)).alloc (.cells #[.slice none 0 0] 32)) 32 none 0 0
  rw [show (w.alloc (.cells #[.slice A xss.length c] 32)).heap.size = w.heap.size + 1 by simp] at hr
  rw [show ((w.alloc (.cells #[.slice A xss.length c] 32)).alloc (.cells #[.slice none 0 0] 32)).heap.size = w.heap.size + 2 by simp] at hb
  have e3 : (((w.alloc (.cells #[.slice A xss.length c] 32)).alloc (.cells #[.slice none 0 0] 32)).alloc (.cells #[.slice none 0 0] 32)).heap.size = w.heap.size + 3 := by simp
  go_enter Try.func50, Try.ntmps50
  go_wp2_with fail
  go_loopw [4] (fun i wr => ∃ (f : Nat) (A2 : Option Addr) (c2 : Nat), f ≤ xss.length ∧ i = .int .i64 f ∧ OwnG wr (w.heap.size + 3) wr.heap.size A2 c2 (xss.take f) ∧ BoxT wr (w.heap.size + 2) A2 f c2 ∧ BoxT wr (w.heap.size + 1) none 0 0 ∧ BoxT wr w.heap.size A xss.length c ∧ Kp No w wr ∧ w.heap.size + 3 ≤ wr.heap.size) (fun i _ => xss.length - (intOf i).toNat)
  case atStart => exact ⟨0, none, 0, by omega, rfl, OwnG.nil (Nat.le_refl _), hb, hr, ht, ka, Nat.le_of_eq e3.symm⟩
  case round =>
    clear ka ht hr hb e3
    obtain ⟨f, A2, c2, hf, rfl, hg, hb, hr, ht, hkp, hsz⟩ := hrel
    have hb_ := hb; have ht_ := ht
    obtain ⟨t0, t1, t2⟩ := ht_
    by_cases hlt : f < xss.length
    · obtain ⟨b, off, A', c', xs, rfl, hb1, hb2, hx, hc, hi, hcap⟩ := (h.keepNo hkp).at_ hlt
      have Hx := Lib.hid hx
      have hxl := hrows f xs hx
      have hbs : b < wr.heap.size := Nat.lt_of_lt_of_le hb2 (h.keepNo hkp).size
      have hbs0 : b < w.heap.size := Nat.lt_of_lt_of_le hb2 h.size
      clear hx
      obtain ⟨b0, b1, b2⟩ := hb_
      have hgd : decide ((f : Int) < (xss.length : Int)) = true := decide_eq_true (by omega)
      go_wp2_with fail
      refine wp_region_facts2 [13, 14, 15, 16, 17, 18, 19, 20, 21, 22, 23, 24] (fun _ _ => True) (fun L s wx => CpG wr (w.heap.size + 2) (w.heap.size + 3) f A2 xss xs (L 1) (L 2) (L 4) (L 6) (L 7) (L 8) (L 9) (L 10) (L 12) (s 15) (s 21) (s 22) (s 23) wx) (CpF (w.heap.size + 2) w.heap.size f xss.length c b off A2 A' c2 c' xs.length) (by kernel_rfl) (by kernel_rfl) (by kernel_rfl) (by simp) ?mono ?start ?steps ?fin
      case mono => exact fun _ _ _ _ _ h => h
      case start => exact ⟨by simp, by simp, by simp, by simp, 0, rfl, rfl, rfl, rfl, rfl, (Kp.refl _ _).drew⟩
      case steps =>
        refine ⟨?s0, ?s1, ?s2, ?s3, ?s4, ?s5, ?s6, ?s7, ?s8, ?s9, ?s10, ?s11, ?s12, trivial⟩
        case s0 =>
          intro L s fr wx hin hout hL hG haft K hK hK0
          have o3 := hout 3 (by simp); simp at o3
          clear haft hin hout hK0
          go_simp
          exact hK 13 rfl _ _ trivial (by simpa [upd] using hG) rfl
        case s1 =>
          intro L s fr wx hin hout hL hG haft K hK hK0
          have g13 : fr[13]? = some (.pointer (some ⟨w.heap.size + 2, 0, none⟩)) := (hin 13 (by simp)).trans (congrArg some ((haft ⟨0, .data⟩ (by simp) rfl).2 rfl))
          have hk := hG.early (by cases h10 : L 10 with | false => rfl | true => exact absurd (hG.e101 h10) (by simp [hL]))
          have c0 := (hk.cell (p := ⟨w.heap.size + 2, 0, none⟩) b2 (fun e => e)).trans b0
          clear haft hin hout hK0
          go_simp
          exact hK 14 rfl _ _ trivial ⟨by simpa [upd] using hG.e64, by simpa [upd] using hG.e76, by simpa [upd] using hG.e87, by simp [upd], by simpa [upd] using hG.st⟩ rfl
        case s2 =>
          intro L s fr wx hin hout hL hG haft K hK hK0
          obtain ⟨l8, l9, l10, l12, hk⟩ := hG.at0 hL
          have hq := hk.size
          have oe := own_empty wx wr.heap.size hk.size
          clear haft hin hout hK0
          go_simp
          exact hK 15 rfl _ _ trivial ⟨by simpa [upd] using hG.e64, by simpa [upd] using hG.e76, by simpa [upd] using hG.e87, by simpa [upd] using hG.e101, ⟨1, by simp [upd], by simp [upd, l8], by simp [upd, l9], by simp [upd, l10], by simp [upd, l12], hk.alloc _, wx.heap.size, by simp [upd], oe⟩⟩ trivial
        case s3 =>
          intro L s fr wx hin hout hL hG haft K hK hK0
          have o1 := hout 1 (by simp); simp at o1
          clear haft hin hout hK0
          go_simp
          exact hK 16 rfl _ _ trivial (by simpa [upd] using hG) rfl
        case s4 =>
          intro L s fr wx hin hout hL hG haft K hK hK0
          have g16 : fr[16]? = some (.pointer (some ⟨w.heap.size, 0, none⟩)) := (hin 16 (by simp)).trans (congrArg some ((haft ⟨3, .data⟩ (by simp) rfl).2 rfl))
          have hk := hG.early (by cases h10 : L 10 with | false => rfl | true => exact absurd (hG.e64 (hG.e76 (hG.e87 (hG.late h10)))) (by simp [hL]))
          have c0 := (hk.cell (p := ⟨w.heap.size, 0, none⟩) t2 (fun e => e)).trans t0
          clear haft hin hout hK0
          go_simp
          exact hK 17 rfl _ _ trivial ⟨by simp [upd], by simpa [upd] using hG.e76, by simpa [upd] using hG.e87, by simpa [upd] using hG.e101, by simpa [upd] using hG.st⟩ rfl
        case s5 =>
          intro L s fr wx hin hout hL hG haft K hK hK0
          have o4 := hout 4 (by simp); simp at o4
          clear haft hin hout hK0
          go_simp
          exact hK 18 rfl _ _ trivial (by simpa [upd] using hG) rfl
        case s6 =>
          intro L s fr wx hin hout hL hG haft K hK hK0
          have g17 : fr[17]? = some (.slice (some ⟨b, off, none⟩) xss.length c) := (hin 17 (by simp)).trans (congrArg some ((haft ⟨4, .data⟩ (by simp) rfl).2 rfl))
          have g18 : fr[18]? = some (.int .i64 f) := (hin 18 (by simp)).trans (congrArg some ((haft ⟨5, .data⟩ (by simp) rfl).2 rfl))
          have l4 : L 4 = true := (haft ⟨4, .data⟩ (by simp) rfl).1
          clear haft hin hout hK0
          go_simp
          exact hK 19 rfl _ _ trivial ⟨by simp [upd, l4], by simp [upd], by simpa [upd] using hG.e87, by simpa [upd] using hG.e101, by simpa [upd] using hG.st⟩ rfl
        case s7 =>
          intro L s fr wx hin hout hL hG haft K hK hK0
          have g19 : fr[19]? = some (.pointer (some ⟨b, off + f, none⟩)) := (hin 19 (by simp)).trans (congrArg some ((haft ⟨6, .data⟩ (by simp) rfl).2 rfl))
          have l6 : L 6 = true := (haft ⟨6, .data⟩ (by simp) rfl).1
          have hk := hG.early (by cases h10 : L 10 with | false => rfl | true => exact absurd (hG.e87 (hG.late h10)) (by simp [hL]))
          have c0 := (hk.cell (p := ⟨b, off + f, none⟩) hbs (fun e => e)).trans hc
          clear haft hin hout hK0
          go_simp
          exact hK 20 rfl _ _ trivial ⟨by simpa [upd] using hG.e64, by simp [upd, l6], by simp [upd], by simpa [upd] using hG.e101, by simpa [upd] using hG.st⟩ rfl
        case s8 =>
          intro L s fr wx hin hout hL hG haft K hK hK0
          have g20 : fr[20]? = some (.slice A' xs.length c') := (hin 20 (by simp)).trans (congrArg some ((haft ⟨7, .data⟩ (by simp) rfl).2 rfl))
          have l2 : L 2 = true := (haft ⟨2, .data⟩ (by simp) rfl).1
          have l7 : L 7 = true := (haft ⟨7, .data⟩ (by simp) rfl).1
          obtain ⟨l9, l10, l12, hk, g, e15, oe⟩ := hG.at1 l2 hL
          have g15 : fr[15]? = some (.slice (some ⟨g, 0, none⟩) 0 0) := (hin 15 (by simp)).trans (congrArg some e15)
          have hq := hk.size
          clear haft hin hout hK0
          refine step_appI (a := ⟨fr, []⟩) wx (by rfl) (.tmp 15) (.tmp 20) (by rfl) wr.heap.size wx.heap.size (some ⟨g, 0, none⟩) 0 0 [] (by simp [Act.eval, g15]) rfl oe _ _ A' xs.length c' xs (by simp [Act.eval, g20]) rfl (hi.keepNo hk) (by simp; omega) hq ?_
          intro A4 c4 w4 o4 k4
          have e : (0 + xs.length) = xs.length := by omega
          rw [e]
          exact hK 21 rfl _ _ trivial ⟨by simpa [upd] using hG.e64, by simpa [upd] using hG.e76, by simp [upd, l7], by simpa [upd] using hG.e101, ⟨2, by simp [upd, l2], by simp [upd], by simp [upd, l9], by simp [upd, l10], by simp [upd, l12], hk.also k4 (fun i hi e => by have := e.1; omega), A4, c4, by simp [upd], o4⟩⟩ trivial
        case s9 =>
          intro L s fr wx hin hout hL hG haft K hK hK0
          have l8 : L 8 = true := (haft ⟨8, .data⟩ (by simp) rfl).1
          obtain ⟨l2, l10, l12, hk, A4, c4, e21, o4⟩ := hG.at2 l8 hL
          have g21 : fr[21]? = some (.slice A4 xs.length c4) := (hin 21 (by simp)).trans (congrArg some e21)
          have hq := hk.size
          have rl := row_lit wx (.slice A4 xs.length c4) 22
          clear haft hin hout hK0
          go_simp
          exact hK 22 rfl _ _ trivial ⟨by simpa [upd] using hG.e64, by simpa [upd] using hG.e76, by simpa [upd] using hG.e87, by simpa [upd] using hG.e101, ⟨3, by simp [upd, l2], by simp [upd, l8], by simp [upd], by simp [upd, l10], by simp [upd, l12], hk.alloc _, A4, c4, wx.heap.size, _, _, _, 1, by simp [upd], o4.keepNo ((Kp.refl _ _).alloc _), rl, hq⟩⟩ trivial
        case s10 =>
          intro L s fr wx hin hout hL hG haft K hK hK0
          have g14 : fr[14]? = some (.slice A2 f c2) := (hin 14 (by simp)).trans (congrArg some ((haft ⟨1, .data⟩ (by simp) rfl).2 rfl))
          have l9 : L 9 = true := (haft ⟨9, .data⟩ (by simp) rfl).1
          have l1 : L 1 = true := (haft ⟨1, .data⟩ (by simp) rfl).1
          obtain ⟨l2, l8, l12, hk, A4, c4, u, lo', up', A6, c6, e22, o4, rl, hu⟩ := hG.at3 l9 hL
          have g22 : fr[22]? = some (.slice A6 1 c6) := (hin 22 (by simp)).trans (congrArg some e22)
          have hq := hk.size
          clear haft hin hout hK0
          refine step_appG (a := ⟨fr, []⟩) wx (by rfl) (.tmp 14) (.tmp 22) (by rfl) (w.heap.size + 3) wr.heap.size u A2 f c2 (xss.take f) (by simp [Act.eval, g14]) (by simp; omega) (hg.keepNo hk) A4 c4 _ xs rfl o4 hu lo' up' A6 c6 (by simp [Act.eval, g22]) rl (by simp; omega) (by omega) hsz ?_
          intro A5 c5 w5 o5 k5 l5
          exact hK 23 rfl _ _ trivial ⟨by simpa [upd] using hG.e64, by simpa [upd] using hG.e76, by simpa [upd] using hG.e87, by simp [upd, l1], ⟨4, by simp [upd, l2], by simp [upd, l8], by simp [upd, l9], by simp [upd], by simp [upd, l12], (hk.no : Kp (Blk A2) wr wx).trans k5, A5, c5, by simp [upd], o5⟩⟩ trivial
        case s11 =>
          intro L s fr wx hin hout hL hG haft K hK hK0
          have o3 := hout 3 (by simp); simp at o3
          clear haft hin hout hK0
          go_simp
          exact hK 24 rfl _ _ trivial (by simpa [upd] using hG) rfl
        case s12 =>
          intro L s fr wx hin hout hL hG haft K hK hK0
          have g24 : fr[24]? = some (.pointer (some ⟨w.heap.size + 2, 0, none⟩)) := (hin 24 (by simp)).trans (congrArg some ((haft ⟨11, .data⟩ (by simp) rfl).2 rfl))
          have l10 : L 10 = true := (haft ⟨10, .data⟩ (by simp) rfl).1
          obtain ⟨l2, l8, l9, hk, A5, c5, e23, o5⟩ := hG.at4 l10 hL
          have g23 : fr[23]? = some (.slice A5 (f + 1) c5) := (hin 23 (by simp)).trans (congrArg some e23)
          have c0 := (hk.cell (p := ⟨w.heap.size + 2, 0, none⟩) b2 (fun e => by have := (hg.blk e).1; simp at this)).trans b0
          have f0 := (hk.frozen (p := ⟨w.heap.size + 2, 0, none⟩) b2 (fun e => by have := (hg.blk e).1; simp at this)).trans b1
          clear haft hin hout hK
          go_simp
          exact hK0 rfl _ trivial ⟨by simpa [upd] using hG.e64, by simpa [upd] using hG.e76, by simpa [upd] using hG.e87, by simpa [upd] using hG.e101, ⟨5, by simp [upd, l2], by simp [upd, l8], by simp [upd, l9], by simp [upd, l10], by simp [upd], wx, A5, c5, hk, o5, rfl⟩⟩
      case fin =>
          intro L s wx hL hG hF
          obtain ⟨w4, A5, c5, k4, o4, rfl⟩ := hG.at5 (hL 12 (by decide))
          clear hG hF hL
          have hr4 := hr.keep k4 (fun e => by have := (hg.blk e).1; omega)
          have hb4 := hb.keep k4 (fun e => by have := (hg.blk e).1; omega)
          have ht4 := ht.keep k4 (fun e => by have := (hg.blk e).1; omega)
          have hk4 := hkp.also k4 (fun i hi e => by have := (hg.blk e).1; omega)
          have hs4 := k4.size
          have ks := Kp.put1 w4 (w.heap.size + 2) 0 (.slice A5 (f + 1) c5)
          have et : xss.take f ++ [xs] = xss.take (f + 1) := by obtain ⟨hk, rfl⟩ := List.getElem?_eq_some_iff.1 Hx.out; exact (List.take_succ_eq_append_getElem hk).symm
          rw [et] at o4
          simp only [frameOf, List.foldl, List.setIfInBounds_toArray, List.set_cons_succ, List.set_cons_zero]
          go_wp2_with fail
          go_roundw
          case rel => exact ⟨f + 1, A5, c5, by omega, by go_num, (o4.keep ks (fun i h1 _ e => by simp only [At] at e; omega)).wide (Nat.le_refl _) ks.size (Nat.le_refl _), hb4.set A5 (f + 1) c5, hr4.keep ks (fun e => by simp only [At] at e; omega), ht4.keep ks (fun e => by simp only [At] at e; omega), hk4.also ks (fun i hi e => by simp only [At] at e; omega), Nat.le_trans (Nat.le_trans hsz hs4) ks.size⟩
          case measure => simp [intOf]; omega
    · obtain rfl : f = xss.length := by omega
      have d3 := hr.set A2 xss.length c2
      have ks := Kp.put1 wr (w.heap.size + 1) 0 (.slice A2 xss.length c2)
      obtain ⟨b0, b1, b2⟩ := hb
      obtain ⟨r0, r1, r2⟩ := hr
      rw [List.take_length] at hg
      go_wp2_with fail
      refine bodyPost_ret (v := .agg #[.slice A2 xss.length c2]) (by simp [results, Try.results50, go_sem, d3.1]) rfl ?_
      exact ⟨A2, c2, rfl, (hg.keep ks (fun i h1 _ e => by simp only [At] at e; omega)).wide (by omega) ks.size (Nat.le_refl _), hkp.also ks (fun i hi e => by simp only [At] at e; omega)⟩
end Go.Proofs.Ytagcdpnbkfoeaaa
