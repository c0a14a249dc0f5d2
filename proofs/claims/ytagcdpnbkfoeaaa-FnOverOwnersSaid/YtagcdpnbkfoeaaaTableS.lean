/- TableValid of the reference. -/
import Derived.Test.YtagcdpnbkfoeaaaTableB
import Derived.Laws.EntriesVeiled
namespace Go.Proofs.Ytagcdpnbkfoeaaa
open Go.RowKit
set_option linter.unusedVariables false

/-- A box that holds a table. -/
def BoxT (w : World) (b : Nat) (A : Option Addr) (n c : Nat) : Prop := w.cell? ⟨b, 0, none⟩ = some (.slice A n c) ∧ w.frozen? ⟨b, 0, none⟩ = false ∧ b < w.heap.size
theorem BoxT.new (w : World) (t : TypeId) (A : Option Addr) (n c : Nat) : BoxT (w.alloc (.cells #[.slice A n c] t)) w.heap.size A n c := by
  refine ⟨by simp, by simp, by simp⟩
theorem BoxT.keep {w w' : World} {S : Nat → Prop} {b : Nat} {A : Option Addr} {n c : Nat} (h : BoxT w b A n c) (k : Kp S w w') (hn : ¬ S b) : BoxT w' b A n c :=
  ⟨(k.cell (p := ⟨b, 0, none⟩) h.2.2 hn).trans h.1, (k.frozen (p := ⟨b, 0, none⟩) h.2.2 hn).trans h.2.1, Nat.lt_of_lt_of_le h.2.2 k.size⟩
theorem BoxT.keepNo {w w' : World} {b : Nat} {A : Option Addr} {n c : Nat} (h : BoxT w b A n c) (k : Kp No w w') : BoxT w' b A n c := h.keep k (fun e => e)
theorem BoxT.set {w : World} {b : Nat} {A : Option Addr} {n c : Nat} (h : BoxT w b A n c) (A' : Option Addr) (n' c' : Nat) : BoxT (w.setCell ⟨b, 0, none⟩ (.slice A' n' c')) b A' n' c' :=
  ⟨World.cell?_setCell_same w _ _ h.1, by rw [World.frozen?_setCell]; exact h.2.1, Nat.lt_of_lt_of_le h.2.2 (Kp.put1 w b 0 _).size⟩

theorem bool_info : (Try.prog.info? 4).map (fun i => (i.zero, i.size, i.bytes)) = some (some (.bool false), 1, 1) := by kernel_rfl
theorem Seen.made {w : World} {lo g : Nat} (h : w.ownsRow lo 4 1 (.slice (some ⟨g, 0, none⟩) 48 48) 48 (madeCells (Value.bool false).cells 48).toList) (hg : g < w.heap.size) : Seen w g [] := by
  refine ⟨hg, fun j hj => ⟨?_, h.frozenAt j⟩⟩
  rw [h.cellAt j (by omega)]
  have e : (madeCells (Value.bool false).cells 48).toList = List.replicate 48 (Value.bool false) := by simp only [Value.cells, toList_madeCells_one]
  rw [e, List.getElem?_replicate, if_pos hj]; rfl

set_option maxHeartbeats 2000000 in
theorem tableValid_spec (A : Option Addr) (xss : List (List Int)) (c lo hi : Nat) (w : World) (h : Grid w lo hi A xss) (hs : xss.length ≤ 4000000) (hr : ∀ (k : Nat) (xs : List Int), xss[k]? = some xs → xs.length ≤ 4000000) :
    Calls Try.prog 36 #[.agg #[.slice A xss.length c]] w
    fun e w' => e = .returned (.bool (tableB xss)) ∧ Kp No w w' := by
  obtain ⟨i0, hi0, hz0, hz1, hz2⟩ := info_parts bool_info
  have hbx := BoxT.new w 32 A xss.length c
  go_enter Try.func36, Try.ntmps36
  go_wp2_with (at_make; refine wpList_make_full _ rfl _ _ 67 rfl (w.heap.size + 1) 4 i0 (.bool false) 1 Try.underlying67 hi0 hz0 hz1 .i64 .i64 _ _ 48 rfl rfl rfl rfl ?c1 ?c2 (by simp) ?_)
  case c1 => rw [hz2]; omega
  case c2 => unfold maxLen; omega
  intro w1 hown hg
  have hg0 : (w.alloc (.cells #[.slice A xss.length c] 32)).heap.size = w.heap.size + 1 := by simp
  have hk0 : Kp No (w.alloc (.cells #[.slice A xss.length c] 32)) w1 := (Kp.refl _ _).grown hg (by simp)
  have hb1 := hbx.keepNo hk0
  have hk1 : Kp No w w1 := ((Kp.refl No w).alloc _).trans hk0
  have hs1 : Seen w1 (w.heap.size + 1) [] := Seen.made hown (by
    rcases hown.2 with ⟨hv, _⟩ | ⟨g, cap, cur, hv, _, hh, _⟩
    · cases hv
    · injection hv with hA; injection hA with hA; injection hA with hA
      rw [hA]; exact (Array.getElem?_eq_some_iff.1 hh).1)
  clear hown hg hk0 hbx
  go_wp2_with fail
  go_loopw [4] (fun i wr => ∃ f : Nat, f ≤ xss.length ∧ i = .int .i64 f ∧ okL (xss.take f).flatten = true ∧ (∀ (j : Nat) (xs : List Int), j < f → xss[j]? = some xs → xs.length = 6) ∧ Seen wr (w.heap.size + 1) (xss.take f).flatten ∧ Kp No w wr ∧ BoxT wr w.heap.size A xss.length c) (fun i _ => xss.length - (intOf i).toNat)
  case atStart => exact ⟨0, Nat.zero_le _, rfl, rfl, fun j xs hj => absurd hj (by omega), hs1, hk1, hb1⟩
  case round =>
    clear hs1 hk1 hb1
    obtain ⟨f, hf, rfl, hok, hrow, hseen, hkp, hbox⟩ := hrel
    have Hok := Lib.hid hok; have Hrow := Lib.hid hrow; have Hbox := Lib.hid hbox
    obtain ⟨bx0, bx1, bx2⟩ := hbox
    clear hok hrow
    by_cases hlt : f < xss.length
    · obtain ⟨b, off, A', c', xs, rfl, hb1, hb2, hx, hc0, hi0, hcap⟩ := h.at_ hlt
      have hbs : b < w.heap.size := Nat.lt_of_lt_of_le hb2 h.size
      have hxl := hr f xs hx
      have Hx := Lib.hid hx; clear hx
      go_wp2_with fail
      go_loopw [5] (fun i wr => ∃ k : Nat, k ≤ xs.length ∧ i = .int .i64 k ∧ okL (ahead xss f xs k) = true ∧ Seen wr (w.heap.size + 1) (ahead xss f xs k) ∧ Kp No w wr ∧ BoxT wr w.heap.size (some ⟨b, off, none⟩) xss.length c) (fun i _ => xs.length - (intOf i).toNat)
      case atStart => exact ⟨0, Nat.zero_le _, rfl, by rw [ahead_zero]; exact Hok.out, by rw [ahead_zero]; exact hseen, hkp, Hbox.out⟩
      case round =>
        clear hseen hkp bx0 bx1 bx2 Hbox
        obtain ⟨k, hk, rfl, hok2, hseen, hkp, hbox⟩ := hrel
        have Hok2 := Lib.hid hok2; have Hbox := Lib.hid hbox
        obtain ⟨bx0, bx1, bx2⟩ := hbox
        clear hok2
        have hc := (hkp.cell (p := ⟨b, off + f, none⟩) hbs (fun e => e)).trans hc0
        by_cases hkl : k < xs.length
        · obtain ⟨b1, off1, x, rfl, hb11, hb12, hxk, hc1⟩ := (hi0.keepNo hkp).at_ hkl
          have Hxk := Lib.hid hxk; clear hxk
          by_cases hin : -1 ≤ x ∧ x ≤ 47
          · have hinb := inB_true hin
            obtain ⟨hx1, hx2⟩ := hin
            by_cases hx0 : 0 ≤ x
            · obtain ⟨n, rfl⟩ := Int.eq_ofNat_of_zero_le hx0
              have hn48 : n < 48 := by omega
              obtain ⟨hsc, hsf⟩ := hseen.2 n hn48
              have hgd : decide ((0 : Int) ≤ (n : Int)) = true := decide_eq_true (by omega)
              cases hcon : (ahead xss f xs k).contains (n : Int)
              · rw [hcon] at hsc
                have Ho := Lib.hid (okL_snoc Hok2.out hx1 hx2 (fun _ => hcon))
                go_wp2_with (go_at_call 30; refine (l1In_any _ _ _ _).mono ?_; rintro e w' ⟨rfl, rfl⟩)
                go_roundw
                case rel => exact ⟨k + 1, by omega, by go_num, by rw [ahead_succ Hxk.out]; exact Ho.out, by rw [ahead_succ Hxk.out]; exact hseen.put hn48, hkp.setCell (fun hh => absurd hh (by simp)) _, Hbox.out.keep (Kp.put1 wr (w.heap.size + 1) n (.bool true)) (by simp only [At]; omega)⟩
                case measure => simp [intOf]; omega
              · rw [hcon] at hsc
                have Hbad := Lib.hid (tableB_at (k := k) Hx.out Hxk.out (fun hh => by have := hh.2.2 hx0; rw [hcon] at this; cases this))
                go_wp2_with (go_at_call 30; refine (l1In_any _ _ _ _).mono ?_; rintro e w' ⟨rfl, rfl⟩)
                go_ret
                exact ⟨ret_bool Hbad.out.symm, hkp⟩
            · have Ho := Lib.hid (okL_snoc Hok2.out hx1 hx2 (fun h0 => absurd h0 hx0))
              go_wp2_with (go_at_call 30; refine (l1In_any _ _ _ _).mono ?_; rintro e w' ⟨rfl, rfl⟩)
              go_roundw
              case rel => exact ⟨k + 1, by omega, by go_num, by rw [ahead_succ Hxk.out]; exact Ho.out, by rw [ahead_succ Hxk.out]; exact hseen.neg (by omega), hkp, Hbox.out⟩
              case measure => simp [intOf]; omega
          · have hinb := inB_false hin
            have Hbad := Lib.hid (tableB_at (k := k) Hx.out Hxk.out (fun hh => hin ⟨hh.1, hh.2.1⟩))
            clear hin
            go_wp2_with (go_at_call 30; refine (l1In_any _ _ _ _).mono ?_; rintro e w' ⟨rfl, rfl⟩)
            go_ret
            exact ⟨ret_bool Hbad.out.symm, hkp⟩
        · obtain rfl : k = xs.length := by omega
          by_cases h6 : xs.length = 6
          · have hne6 : ((xs.length : Int) != 6) = false := by rw [h6]; rfl
            have H6 := Lib.hid h6
            clear h6
            go_wp2_with fail
            go_roundw
            case rel => exact ⟨f + 1, by omega, by go_num, by rw [ahead_row Hx.out]; exact Hok2.out, (fun j ys hj hy => by
              by_cases e : j = f
              · subst e; rw [Hx.out] at hy; injection hy with hy; subst hy; exact H6.out
              · exact Hrow.out j ys (by omega) hy), by rw [ahead_row Hx.out]; exact hseen, hkp, Hbox.out⟩
            case measure => simp [intOf]; omega
          · have hne6 : ((xs.length : Int) != 6) = true := by simp; omega
            have Hbad := Lib.hid (tableB_row Hx.out h6)
            clear h6
            go_wp2_with fail
            go_ret
            exact ⟨ret_bool Hbad.out.symm, hkp⟩
    · obtain rfl : f = xss.length := by omega
      go_wp2_with fail
      go_ret
      refine ⟨ret_bool ?_, hkp⟩
      by_cases h8 : xss.length = 8
      · rw [tableB_all h8 (fun xs hx => by
          obtain ⟨j, hj⟩ := List.mem_iff_getElem?.1 hx
          exact Hrow.out j xs (List.getElem?_eq_some_iff.1 hj).1 hj) (by have := Hok.out; rwa [List.take_length] at this)]
        simp [h8]
      · rw [tableB_len h8]; simp; omega
end Go.Proofs.Ytagcdpnbkfoeaaa
