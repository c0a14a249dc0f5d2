/- TableValid, of the program and of the reference: one Lean function tableB for both. -/
import Derived.Test.YtagcdpnbkfoeaaaGrid
import Derived.Test.YtagcdpnbkfoeaaaOwners
import Derived.WalkKit
import Derived.WalkSpells
import Derived.WalkLawsBesides
import Derived.Outline
import Derived.Deep.QuietTactic
import Derived.BigQuiet
namespace Go.Proofs.Ytagcdpnbkfoeaaa
open Go.RowKit
set_option linter.unusedVariables false

def okL (P : List Int) : Bool := P.all (fun x => inB x (-1) 47) && decide (P.Pairwise fun x y => 0 ≤ x → x ≠ y)
def tableB (xss : List (List Int)) : Bool := decide (xss.length = 8) && (xss.all (fun xs => decide (xs.length = 6)) && okL xss.flatten)
theorem okL_nil : okL [] = true := rfl
theorem okL_dec {P : List Int} (h : okL P = true) : (∀ x ∈ P, -1 ≤ x ∧ x ≤ 47) ∧ P.Pairwise fun x y => 0 ≤ x → x ≠ y := by
  simp only [okL, Bool.and_eq_true, List.all_eq_true, decide_eq_true_eq, inB] at h
  exact ⟨fun x hx => h.1 x hx, h.2⟩
theorem okL_mk {P : List Int} (h1 : ∀ x ∈ P, -1 ≤ x ∧ x ≤ 47) (h2 : P.Pairwise fun x y => 0 ≤ x → x ≠ y) : okL P = true := by
  simp only [okL, Bool.and_eq_true, List.all_eq_true, decide_eq_true_eq, inB]
  exact ⟨fun x hx => h1 x hx, h2⟩
theorem okL_snoc {P : List Int} {x : Int} (h : okL P = true) (h1 : -1 ≤ x) (h2 : x ≤ 47) (h3 : 0 ≤ x → P.contains x = false) : okL (P ++ [x]) = true := by
  obtain ⟨g1, g2⟩ := okL_dec h
  refine okL_mk (fun y hy => ?_) ?_
  · rcases List.mem_append.1 hy with hy | hy
    · exact g1 y hy
    · simp at hy; omega
  · rw [List.pairwise_append]
    refine ⟨g2, by simp, fun a ha b hb h0 e => ?_⟩
    simp at hb; subst hb; subst e
    have := h3 h0
    simp at this
    exact this ha
theorem okL_left {P Q : List Int} (h : okL (P ++ Q) = true) : okL P = true := by
  obtain ⟨g1, g2⟩ := okL_dec h
  exact okL_mk (fun x hx => g1 x (List.mem_append_left _ hx)) (List.pairwise_append.1 g2).1
theorem okL_last {P : List Int} {x : Int} (h : okL (P ++ [x]) = true) : -1 ≤ x ∧ x ≤ 47 ∧ (0 ≤ x → P.contains x = false) := by
  obtain ⟨g1, g2⟩ := okL_dec h
  have := g1 x (by simp)
  refine ⟨this.1, this.2, fun h0 => ?_⟩
  simp only [List.contains_eq_mem, decide_eq_false_iff_not]
  intro hm
  exact (List.pairwise_append.1 g2).2.2 x hm x (by simp) h0 rfl
/-- The numbers ahead of place k of row f. -/
def ahead (xss : List (List Int)) (f : Nat) (xs : List Int) (k : Nat) : List Int := (xss.take f).flatten ++ xs.take k
theorem ahead_zero (xss : List (List Int)) (f : Nat) (xs : List Int) : ahead xss f xs 0 = (xss.take f).flatten := by simp [ahead]
theorem ahead_succ {xss : List (List Int)} {f : Nat} {xs : List Int} {k : Nat} {x : Int} (hx : xs[k]? = some x) : ahead xss f xs (k + 1) = ahead xss f xs k ++ [x] := by
  obtain ⟨hk, rfl⟩ := List.getElem?_eq_some_iff.1 hx
  unfold ahead
  rw [List.take_succ_eq_append_getElem hk, List.append_assoc]
theorem ahead_row {xss : List (List Int)} {f : Nat} {xs : List Int} (h : xss[f]? = some xs) : (xss.take (f + 1)).flatten = ahead xss f xs xs.length := by
  obtain ⟨hf, rfl⟩ := List.getElem?_eq_some_iff.1 h
  unfold ahead
  rw [List.take_succ_eq_append_getElem hf, List.flatten_append]
  simp
theorem ahead_pre {xss : List (List Int)} {f : Nat} {xs : List Int} {k : Nat} (h : xss[f]? = some xs) : ∃ Q, xss.flatten = ahead xss f xs k ++ Q := by
  obtain ⟨hf, rfl⟩ := List.getElem?_eq_some_iff.1 h
  refine ⟨xss[f].drop k ++ (xss.drop (f + 1)).flatten, ?_⟩
  unfold ahead
  conv => lhs; rw [← List.take_append_drop f xss]
  rw [List.drop_eq_getElem_cons hf, List.flatten_append, List.flatten_cons, List.append_assoc]
  congr 1
  rw [← List.append_assoc, List.take_append_drop]
theorem tableB_len {xss : List (List Int)} (h : ¬ xss.length = 8) : tableB xss = false := by simp [tableB, h]
theorem tableB_row {xss : List (List Int)} {f : Nat} {xs : List Int} (h : xss[f]? = some xs) (hl : ¬ xs.length = 6) : tableB xss = false := by
  have : xss.all (fun xs => decide (xs.length = 6)) = false := by
    rw [List.all_eq_false]; exact ⟨xs, List.mem_of_getElem? h, by simpa using hl⟩
  simp [tableB, this]
theorem tableB_at {xss : List (List Int)} {f : Nat} {xs : List Int} {k : Nat} {x : Int} (h : xss[f]? = some xs) (hx : xs[k]? = some x) (hb : ¬ (-1 ≤ x ∧ x ≤ 47 ∧ (0 ≤ x → (ahead xss f xs k).contains x = false))) : tableB xss = false := by
  have : okL xss.flatten = false := by
    cases ho : okL xss.flatten with
    | false => rfl
    | true =>
      obtain ⟨Q, hQ⟩ := ahead_pre (k := k + 1) h
      rw [hQ, ahead_succ hx] at ho
      exact absurd (okL_last (okL_left ho)) hb
  simp [tableB, this]
theorem tableB_all {xss : List (List Int)} (h1 : xss.length = 8) (h2 : ∀ xs ∈ xss, xs.length = 6) (h3 : okL xss.flatten = true) : tableB xss = true := by
  have : xss.all (fun xs => decide (xs.length = 6)) = true := by
    rw [List.all_eq_true]; intro xs hxs; simpa using h2 xs hxs
  simp [tableB, h1, h3, this]
theorem tableB_dec {xss : List (List Int)} (h : tableB xss = true) : xss.length = 8 ∧ (∀ xs ∈ xss, xs.length = 6) ∧ okL xss.flatten = true := by
  simp only [tableB, Bool.and_eq_true, decide_eq_true_eq, List.all_eq_true] at h
  exact h

/-- The array in block g marks the numbers of P. -/
def Seen (w : World) (g : Nat) (P : List Int) : Prop := g < w.heap.size ∧ ∀ j : Nat, j < 48 → w.cell? ⟨g, j, none⟩ = some (.bool (P.contains (j : Int))) ∧ w.frozen? ⟨g, j, none⟩ = false
theorem Seen.keep {w w' : World} {g : Nat} {P : List Int} {S : Nat → Prop} (h : Seen w g P) (k : Kp S w w') (hn : ¬ S g) : Seen w' g P :=
  ⟨Nat.lt_of_lt_of_le h.1 k.size, fun j hj => ⟨(k.cell (p := ⟨g, j, none⟩) h.1 hn).trans (h.2 j hj).1, (k.frozen (p := ⟨g, j, none⟩) h.1 hn).trans (h.2 j hj).2⟩⟩
theorem Seen.keepNo {w w' : World} {g : Nat} {P : List Int} (h : Seen w g P) (k : Kp No w w') : Seen w' g P := h.keep k (fun e => e)
theorem Seen.put {w : World} {g n : Nat} {P : List Int} (h : Seen w g P) (hn : n < 48) : Seen (w.setCell ⟨g, n, none⟩ (.bool true)) g (P ++ [(n : Int)]) := by
  refine ⟨Nat.lt_of_lt_of_le h.1 (Kp.put1 w g n (.bool true)).size, fun j hj => ⟨?_, by rw [World.frozen?_setCell]; exact (h.2 j hj).2⟩⟩
  by_cases e : j = n
  · subst e
    rw [World.cell?_setCell_same w _ _ (h.2 j hj).1]
    simp
  · rw [World.cell?_setCell_other w _ _ _ (by intro hh; injection hh with _ hh; exact e hh.symm), (h.2 j hj).1]
    have : (j : Int) ≠ n := by omega
    simp [this]
theorem Seen.neg {w : World} {g : Nat} {P : List Int} {x : Int} (h : Seen w g P) (hx : x < 0) : Seen w g (P ++ [x]) := by
  refine ⟨h.1, fun j hj => ⟨?_, (h.2 j hj).2⟩⟩
  rw [(h.2 j hj).1]
  have : (j : Int) ≠ x := by omega
  simp [this]

theorem Seen.new (w : World) (t : TypeId) (g : Nat) (hg : g = w.heap.size) : Seen (w.alloc (.cells #[Value.bool false, Value.bool false, Value.bool false, Value.bool false, Value.bool false, Value.bool false, Value.bool false, Value.bool false, Value.bool false, Value.bool false, Value.bool false, Value.bool false, Value.bool false, Value.bool false, Value.bool false, Value.bool false, Value.bool false, Value.bool false, Value.bool false, Value.bool false, Value.bool false, Value.bool false, Value.bool false, Value.bool false, Value.bool false, Value.bool false, Value.bool false, Value.bool false, Value.bool false, Value.bool false, Value.bool false, Value.bool false, Value.bool false, Value.bool false, Value.bool false, Value.bool false, Value.bool false, Value.bool false, Value.bool false, Value.bool false, Value.bool false, Value.bool false, Value.bool false, Value.bool false, Value.bool false, Value.bool false, Value.bool false, Value.bool false] t)) g [] := by
  subst hg
  refine ⟨by simp, fun j hj => ?_⟩
  have hb : (w.alloc (.cells (Array.replicate 48 (Value.bool false)) t)).heap[w.heap.size]? = some (.cells (Array.replicate 48 (Value.bool false)) t (0, 0)) := heap_alloc_new w _
  refine ⟨?_, frozen_of_row _ w.heap.size j _ _ hb⟩
  refine (cell_of_row _ w.heap.size j _ t (0, 0) hb).trans ?_
  rw [Array.getElem?_replicate, if_pos hj]; rfl

theorem pageNumber_any (n : Int) (w : World) : Calls Try.prog 46 #[.int .i64 n] w
    fun e w' => e = .returned (.bool (inB n (-1) 47)) ∧ w = w' := by
  go_enter Try.func46, Try.ntmps46
  go_wp2
  all_goals go_ret
  all_goals exact ⟨ret_bool (by simp [inB, *] <;> omega), rfl⟩

set_option maxHeartbeats 1000000 in
theorem tableValid_impl (A : Option Addr) (xss : List (List Int)) (c lo hi : Nat) (w : World) (h : Grid w lo hi A xss) (hs : xss.length ≤ 4000000) (hr : ∀ (k : Nat) (xs : List Int), xss[k]? = some xs → xs.length ≤ 4000000) :
    Calls Try.prog 35 #[.agg #[.slice A xss.length c]] w
    fun e w' => e = .returned (.bool (tableB xss)) ∧ Kp No w w' := by
  go_enter Try.func35, Try.ntmps35
  by_cases hl : xss.length = 8
  · have hne : ((xss.length : Int) != 8) = false := by rw [hl]; rfl
    have Hl := Lib.hid hl
    have h8 : xss.length ≤ 8 := by omega
    have h8' : 8 ≤ xss.length := by omega
    clear hl
    go_wp2_with fail
    go_loopw [15] (fun i wr => ∃ f : Nat, f ≤ xss.length ∧ i = .int .i64 f ∧ okL (xss.take f).flatten = true ∧ (∀ (j : Nat) (xs : List Int), j < f → xss[j]? = some xs → xs.length = 6) ∧ Seen wr (w.heap.size + 1) (xss.take f).flatten ∧ Kp No w wr) (fun i _ => xss.length - (intOf i).toNat)
    case atStart => exact ⟨0, Nat.zero_le _, rfl, rfl, fun j xs hj => absurd hj (by omega), by simpa using Seen.new _ _ _ (by simp), ((Kp.refl _ _).alloc _).alloc _⟩
    case round =>
      obtain ⟨f, hf, rfl, hok, hrow, hseen, hkp⟩ := hrel
      have Hok := Lib.hid hok; have Hrow := Lib.hid hrow
      clear hok hrow
      by_cases hlt : f < xss.length
      · obtain ⟨b, off, A', c', xs, rfl, hb1, hb2, hx, hc0, hi0, hcap⟩ := h.at_ hlt
        have hbs : b < w.heap.size := Nat.lt_of_lt_of_le hb2 h.size
        have hc := (hkp.cell (p := ⟨b, off + f, none⟩) hbs (fun e => e)).trans hc0
        have hxl := hr f xs hx
        have Hx := Lib.hid hx; clear hx hc0
        by_cases h6 : xs.length = 6
        · have hne6 : ((xs.length : Int) != 6) = false := by rw [h6]; rfl
          have H6 := Lib.hid h6
          have h6a : xs.length ≤ 6 := by omega
          have h6b : 6 ≤ xs.length := by omega
          clear h6
          go_wp2_with fail
          go_loopw [24] (fun i wr => ∃ k : Nat, k ≤ xs.length ∧ i = .int .i64 k ∧ okL (ahead xss f xs k) = true ∧ Seen wr (w.heap.size + 1) (ahead xss f xs k) ∧ Kp No w wr) (fun i _ => xs.length - (intOf i).toNat)
          case atStart => exact ⟨0, Nat.zero_le _, rfl, by rw [ahead_zero]; exact Hok.out, by rw [ahead_zero]; exact hseen, hkp⟩
          case round =>
            clear hseen hkp hc
            obtain ⟨k, hk, rfl, hok2, hseen, hkp⟩ := hrel
            have Hok2 := Lib.hid hok2; clear hok2
            by_cases hkl : k < xs.length
            · obtain ⟨b1, off1, x, rfl, hb11, hb12, hxk, hc1⟩ := (hi0.keepNo hkp).at_ hkl
              have Hxk := Lib.hid hxk; clear hxk
              by_cases hin : -1 ≤ x ∧ x ≤ 47
              · have hinb := inB_true hin
                obtain ⟨hx1, hx2⟩ := hin
                by_cases hx0 : 0 ≤ x
                · obtain ⟨n, rfl⟩ := Int.eq_ofNat_of_zero_le hx0
                  have hn48 : n < 48 := by omega
                  obtain ⟨hsc, hsf⟩ := hseen.2 n hn48
                  cases hcon : (ahead xss f xs k).contains (n : Int)
                  · rw [hcon] at hsc
                    have Ho := Lib.hid (okL_snoc Hok2.out hx1 hx2 (fun _ => hcon))
                    have hgd : decide ((0 : Int) ≤ (n : Int)) = true := decide_eq_true (by omega)
                    go_wp2_with (go_at_call 46; refine (pageNumber_any _ _).mono ?_; rintro e w' ⟨rfl, rfl⟩)
                    go_roundw
                    case rel => exact ⟨k + 1, by omega, by go_num, by rw [ahead_succ Hxk.out]; exact Ho.out, by rw [ahead_succ Hxk.out]; exact hseen.put hn48, hkp.setCell (fun hh => absurd hh (by simp)) _⟩
                    case measure => simp [intOf]; omega
                  · rw [hcon] at hsc
                    have Hbad := Lib.hid (tableB_at (k := k) Hx.out Hxk.out (fun hh => by have := hh.2.2 hx0; rw [hcon] at this; cases this))
                    have hgd : decide ((0 : Int) ≤ (n : Int)) = true := decide_eq_true (by omega)
                    go_wp2_with (go_at_call 46; refine (pageNumber_any _ _).mono ?_; rintro e w' ⟨rfl, rfl⟩)
                    go_ret
                    exact ⟨ret_bool Hbad.out.symm, hkp⟩
                · have Ho := Lib.hid (okL_snoc Hok2.out hx1 hx2 (fun h0 => absurd h0 hx0))
                  go_wp2_with (go_at_call 46; refine (pageNumber_any _ _).mono ?_; rintro e w' ⟨rfl, rfl⟩)
                  go_roundw
                  case rel => exact ⟨k + 1, by omega, by go_num, by rw [ahead_succ Hxk.out]; exact Ho.out, by rw [ahead_succ Hxk.out]; exact hseen.neg (by omega), hkp⟩
                  case measure => simp [intOf]; omega
              · have hinb := inB_false hin
                have Hbad := Lib.hid (tableB_at (k := k) Hx.out Hxk.out (fun hh => hin ⟨hh.1, hh.2.1⟩))
                clear hin
                go_wp2_with (go_at_call 46; refine (pageNumber_any _ _).mono ?_; rintro e w' ⟨rfl, rfl⟩)
                go_ret
                exact ⟨ret_bool Hbad.out.symm, hkp⟩
            · obtain rfl : k = xs.length := by omega
              go_wp2_with fail
              go_roundw
              case rel => exact ⟨f + 1, by omega, by go_num, by rw [ahead_row Hx.out]; exact Hok2.out, (fun j ys hj hy => by
                by_cases e : j = f
                · subst e; rw [Hx.out] at hy; injection hy with hy; subst hy; exact H6.out
                · exact Hrow.out j ys (by omega) hy), by rw [ahead_row Hx.out]; exact hseen, hkp⟩
              case measure => simp [intOf]; omega
        · have hne6 : ((xs.length : Int) != 6) = true := by simp; omega
          have Hbad := Lib.hid (tableB_row Hx.out h6)
          clear h6
          go_wp2_with fail
          go_ret
          exact ⟨ret_bool Hbad.out.symm, hkp⟩
      · obtain rfl : f = xss.length := by omega
        have Hgood := Lib.hid (tableB_all Hl.out (fun xs hx => by
          obtain ⟨j, hj⟩ := List.mem_iff_getElem?.1 hx
          exact Hrow.out j xs (List.getElem?_eq_some_iff.1 hj).1 hj) (by have := Hok.out; rwa [List.take_length] at this))
        go_wp2_with fail
        go_ret
        exact ⟨ret_bool Hgood.out.symm, hkp⟩
  · have Hbad := Lib.hid (tableB_len hl)
    have hne : ((xss.length : Int) != 8) = true := by simp; omega
    go_wp2
    go_ret
    exact ⟨ret_bool Hbad.out.symm, (Kp.refl _ _).alloc _⟩
end Go.Proofs.Ytagcdpnbkfoeaaa
