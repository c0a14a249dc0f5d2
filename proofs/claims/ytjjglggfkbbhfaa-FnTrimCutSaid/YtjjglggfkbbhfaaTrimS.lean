/- TrimCut and TrimAdd of the reference. -/
import Derived.Test.YtjjglggfkbbhfaaMarks
import Derived.WalkKit
import Derived.WalkSpells
import Derived.WalkLawsBesides
import Derived.Outline
import Derived.Deep.RegionHeld3
import Derived.Deep.RegionLaw
namespace Go.Proofs.Ytjjglggfkbbhfaa
open Go.RowKit
set_option linter.unusedVariables false

theorem spans_range {ps : List (Int × Int)} (h : spansB ps = true) : inRange ps := by
  intro p hp
  obtain ⟨j, hj⟩ := List.mem_iff_getElem?.1 hp
  have := spans_at h (x := p.1) (y := p.2) hj
  omega

set_option maxHeartbeats 4000000 in
theorem trimCut_spec (A : Option Addr) (ps : List (Int × Int)) (c lo hi : Nat) (x y : Int) (w : World) (h : Prs w lo hi A ps) (hs : ps.length ≤ 4000000) :
    Calls Try.prog 38 #[.slice A ps.length c, .agg #[.int .i64 x, .int .i64 y]] w (NewPB w (trimWith ps (x, y) false)) := by
  go_enter Try.func38, Try.ntmps38
  have ka : Kp No w (w.alloc (.cells #[.int .i64 x, .int .i64 y] 25)) := (Kp.refl _ _).alloc _
  go_wp2_with fail
  refine (spansValid_spec _ _ _ _ _ _ (h.keepNo ka) hs).mono ?_
  rintro e w1 ⟨rfl, k1⟩
  have s1 : w.heap.size < w1.heap.size := by have := k1.size; simp at this; omega
  have d0 : w1.cell? ⟨w.heap.size, 0, none⟩ = some (.int .i64 x) := (k1.cell (p := ⟨w.heap.size, 0, none⟩) (by simp) (fun e => e)).trans (by simp)
  have d1 : w1.cell? ⟨w.heap.size, 1, none⟩ = some (.int .i64 y) := (k1.cell (p := ⟨w.heap.size, 1, none⟩) (by simp) (fun e => e)).trans (by simp)
  have k1' := ka.trans k1
  cases hv : spansB ps
  · have H := Lib.hid (trimWith_bad (s := (x, y)) (b := false) (show (spansB ps && spanB (x, y).1 (x, y).2) = false by rw [hv]; rfl))
    have hn := ownP_lit w1 w.heap.size #[] [] rfl (by omega) (by simp)
    go_wp2_with fail
    go_ret2
    rw [H.out]
    exact ⟨_, 0, rfl, hn.wide (Nat.le_refl _) (by simp) (Nat.le_refl _), k1'.alloc _⟩
  · go_wp2_with fail
    refine (spanValid_spec _ _ _).mono ?_
    rintro e w2 ⟨rfl, k2⟩
    have s2 := k2.size
    have e0 := (k2.cell (p := ⟨w.heap.size, 0, none⟩) (by show w.heap.size < _; omega) (fun e => e)).trans d0
    have e1 := (k2.cell (p := ⟨w.heap.size, 1, none⟩) (by show w.heap.size < _; omega) (fun e => e)).trans d1
    have k2' := k1'.trans k2
    clear d0 d1 k1 k2 k1' ka
    cases hsp : spanB x y
    · have H := Lib.hid (trimWith_bad (ps := ps) (s := (x, y)) (b := false) (show (spansB ps && spanB (x, y).1 (x, y).2) = false by rw [hsp]; simp))
      have hn := ownP_lit w2 w.heap.size #[] [] rfl (by omega) (by simp)
      go_wp2_with fail
      go_ret2
      rw [H.out]
      exact ⟨_, 0, rfl, hn.wide (Nat.le_refl _) (by simp) (Nat.le_refl _), k2'.alloc _⟩
    · have Hv := Lib.hid hv
      have Hsp := Lib.hid hsp
      obtain ⟨hy1, hy2, hx0, hxy⟩ := spanB_iff.1 hsp
      have hrg := Lib.hid (spans_range hv)
      clear hv hsp
      obtain ⟨m0, rfl⟩ := Int.eq_ofNat_of_zero_le hx0
      go_wp2_with fail
      refine (l24Marks_any _ _ _ _ _ _ (h.keepNo k2') hs hrg.out).mono ?_
      rintro e w3 ⟨A3, rfl, o3, k3⟩
      have s3 := k3.size
      have f0 := (k3.cell (p := ⟨w.heap.size, 0, none⟩) (by show w.heap.size < _; omega) (fun e => e)).trans e0
      have f1 := (k3.cell (p := ⟨w.heap.size, 1, none⟩) (by show w.heap.size < _; omega) (fun e => e)).trans e1
      have k3' := k2'.trans k3
      clear e0 e1 k3 k2'
      go_wp2_with fail
      go_loopw [7] (fun i wr => ∃ m : Nat, m0 ≤ m ∧ (m : Int) ≤ y ∧ i = .int .i64 m ∧ OwnL wr w2.heap.size w3.heap.size A3 60 (markL fun n => if m0 ≤ n ∧ n < m then false else hasB ps n) ∧ wr.cell? ⟨w.heap.size, 1, none⟩ = some (.int .i64 y) ∧ Kp No w wr ∧ w3.heap.size ≤ wr.heap.size) (fun i _ => (y - intOf i).toNat)
      case atStart =>
        refine ⟨m0, Nat.le_refl _, by omega, rfl, ?_, f1, k3', Nat.le_refl _⟩
        rw [markL_congr (g := fun n => hasB ps n) (fun j _ => by rw [if_neg (by omega)])]
        exact o3
      case round =>
        obtain ⟨m, hm0, hm1, rfl, ho, hc1, hkp, hsz⟩ := hrel
        clear f0 f1 o3 k3'
        by_cases hlt : (m : Int) < y
        · obtain ⟨g, bb, rfl, hg1, hg2, hbb, hcb, hfb⟩ := ho.at_ (k := m) (by rw [markL_len]; omega)
          clear hbb
          go_wp2_with fail
          go_roundw
          case rel =>
            refine ⟨m + 1, by omega, by omega, by go_num, ?_, (World.cell?_setCell_other _ _ _ _ (by intro e; injection e with e; omega)).trans hc1, hkp.setCell (fun hh => absurd hh (by show ¬ g < _; omega)) _, by simp [World.setCell]; omega⟩
            have := ho.set_ m false
            rw [markL_set _ m false (by omega)] at this
            rw [markL_congr (g := fun k => if k = m then false else if m0 ≤ k ∧ k < m then false else hasB ps k) (fun j _ => by
              by_cases hj : j = m
              · subst hj; rw [if_pos ⟨hm0, by omega⟩, if_pos rfl]
              · rw [if_neg hj]
                by_cases h1 : m0 ≤ j ∧ j < m
                · rw [if_pos h1, if_pos ⟨h1.1, by omega⟩]
                · rw [if_neg h1, if_neg (by omega)])]
            exact this
          case measure => simp [intOf]; omega
        · obtain rfl : y = (m : Int) := by omega
          have ho' : OwnL wr w2.heap.size w3.heap.size A3 60 (markL (addF ps ((m0 : Int), (m : Int)) false)) := by
            rw [markL_congr (g := fun n => if m0 ≤ n ∧ n < m then false else hasB ps n) (fun j _ => by
              simp only [addF, trimHas, Hv.out, Bool.true_and]
              by_cases h1 : m0 ≤ j ∧ j < m
              · rw [if_pos h1, if_pos (by omega)]
              · rw [if_neg h1, if_neg (by omega)])]
            exact ho
          have hbl := build_len (addF ps ((m0 : Int), (m : Int)) false) 60
          go_wp2_with fail
          refine (l24Spans_any _ _ _ _ _ ho').mono ?_
          rintro e w4 ⟨A4, c4, rfl, o4, k4⟩
          have hkp4 := hkp.trans k4
          by_cases hl : (build (addF ps ((m0 : Int), (m : Int)) false) 60).length ≤ 10
          · have H := Lib.hid (trimWith_ok (s := ((m0 : Int), (m : Int))) (b := false) Hv.out Hsp.out hl)
            go_wp2_with fail
            go_ret2
            rw [H.out]
            exact ⟨A4, c4, rfl, o4.wide hkp.size (Nat.le_refl _) (Nat.le_refl _), hkp4⟩
          · have H := Lib.hid (trimWith_many (s := ((m0 : Int), (m : Int))) (b := false) Hv.out Hsp.out hl)
            have s4 := hkp4.size
            have o5 := ownP_lit w4 w4.heap.size #[] [] rfl (Nat.le_refl _) (by simp)
            go_wp2_with (at_builtin; refine wpList_appP _ rfl _ _ rfl _ _ _ 0 [] rfl o5 _ _ A c ps rfl ((h.keepNo hkp4).keepNo ((Kp.refl _ _).alloc _)) (by simp; omega) (by simp) ?_; intro A6 c6 w6 o6 k6)
            go_ret2
            rw [H.out]
            exact ⟨A6, c6, by simp, (by simpa using o6 : OwnP w6 w4.heap.size w6.heap.size A6 c6 ps).wide s4 (Nat.le_refl _) (Nat.le_refl _), (hkp4.alloc _).also k6 (fun i hi e => by have := e.1; omega)⟩
end Go.Proofs.Ytjjglggfkbbhfaa
