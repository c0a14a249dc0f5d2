/- TrimAdd of the reference. -/
import Derived.Test.YtjjglggfkbbhfaaTrimS
import Derived.WalkKit
import Derived.WalkSpells
import Derived.WalkLawsBesides
import Derived.Outline
import Derived.Deep.RegionHeld3
namespace Go.Proofs.Ytjjglggfkbbhfaa
open Go.RowKit
set_option linter.unusedVariables false

theorem range_snoc {ps : List (Int × Int)} {x y : Int} (h : spansB ps = true) (hs : spanB x y = true) : inRange (ps ++ [(x, y)]) := by
  intro p hp
  rcases List.mem_append.1 hp with hp | hp
  · exact spans_range h p hp
  · simp at hp; subst hp
    obtain ⟨h1, h2, h3, h4⟩ := spanB_iff.1 hs
    exact ⟨h3, h2⟩
theorem add_marks {ps : List (Int × Int)} {x y : Int} (h : spansB ps = true) : (fun n : Nat => hasB (ps ++ [(x, y)]) n) = addF ps (x, y) true := by
  funext n
  rw [has_app, has_one]
  simp only [addF, trimHas, h, Bool.true_and]
  by_cases h1 : x ≤ (n : Int) ∧ (n : Int) < y
  · rw [if_pos h1, inP_true h1, Bool.or_true]
  · rw [if_neg h1, inP_false h1, Bool.or_false]

theorem marks_app (A : Option Addr) (ps : List (Int × Int)) (x y : Int) (c lo hi : Nat) (w : World) (h : Prs w lo hi A (ps ++ [(x, y)])) (hs : ps.length ≤ 100) (hr : inRange (ps ++ [(x, y)]))
    (hm : (fun n : Nat => hasB (ps ++ [(x, y)]) n) = addF ps (x, y) true) :
    Calls Try.prog 49 #[.slice A (ps.length + 1) c] w (NewL w (addF ps (x, y) true)) := by
  have := l24Marks_any A (ps ++ [(x, y)]) c lo hi w h (by simp; omega) hr
  rw [show (ps ++ [(x, y)]).length = ps.length + 1 by simp, hm] at this
  exact this

set_option maxHeartbeats 8000000 in
theorem trimAdd_spec (A : Option Addr) (ps : List (Int × Int)) (c lo hi : Nat) (x y : Int) (w : World) (h : Prs w lo hi A ps) (hs : ps.length ≤ 4000000) :
    Calls Try.prog 32 #[.slice A ps.length c, .agg #[.int .i64 x, .int .i64 y]] w (NewPB w (trimWith ps (x, y) true)) := by
  go_enter Try.func32, Try.ntmps32
  have ka : Kp No w (w.alloc (.cells #[.int .i64 x, .int .i64 y] 25)) := (Kp.refl _ _).alloc _
  go_wp2_with fail
  refine (spansValid_spec _ _ _ _ _ _ (h.keepNo ka) hs).mono ?_
  rintro e w1 ⟨rfl, k1⟩
  have s1 : w.heap.size < w1.heap.size := by have := k1.size; simp at this; omega
  have d0 : w1.cell? ⟨w.heap.size, 0, none⟩ = some (.int .i64 x) := (k1.cell (p := ⟨w.heap.size, 0, none⟩) (by simp) (fun e => e)).trans (by simp)
  have d1 : w1.cell? ⟨w.heap.size, 1, none⟩ = some (.int .i64 y) := (k1.cell (p := ⟨w.heap.size, 1, none⟩) (by simp) (fun e => e)).trans (by simp)
  have k1' := ka.trans k1
  cases hv : spansB ps
  · have H := Lib.hid (trimWith_bad (s := (x, y)) (b := true) (show (spansB ps && spanB (x, y).1 (x, y).2) = false by rw [hv]; rfl))
    have hn := ownP_lit w1 w.heap.size #[] [] rfl (by omega) (by simp)
    go_wp2_with fail
    go_ret2
    rw [H.out]
    exact ⟨_, 0, rfl, hn.wide (Nat.le_refl _) (by simp) (Nat.le_refl _), k1'.alloc _⟩
  · go_wp2_with fail
    refine (spanValid_spec _ _ _).mono ?_
    rintro e w2 ⟨rfl, k2⟩
    have s2 := k2.size
    have e0 := (k2.cell (p := ⟨w.heap.size, 0, none⟩) (by show w.heap.size < _; omega) (fun e => e)).trans d0
    have e1 := (k2.cell (p := ⟨w.heap.size, 1, none⟩) (by show w.heap.size < _; omega) (fun e => e)).trans d1
    have k2' := k1'.trans k2
    have sz2 : w.heap.size < w2.heap.size := by omega
    clear d0 d1 k1 k2 k1' ka
    cases hsp : spanB x y
    · have H := Lib.hid (trimWith_bad (ps := ps) (s := (x, y)) (b := true) (show (spansB ps && spanB (x, y).1 (x, y).2) = false by rw [hsp]; simp))
      have hn := ownP_lit w2 w.heap.size #[] [] rfl (by omega) (by simp)
      go_wp2_with fail
      go_ret2
      rw [H.out]
      exact ⟨_, 0, rfl, hn.wide (Nat.le_refl _) (by simp) (Nat.le_refl _), k2'.alloc _⟩
    · have Hv := Lib.hid hv
      have Hsp := Lib.hid hsp
      have Hr := Lib.hid (range_snoc hv hsp)
      have Hm := Lib.hid (add_marks (x := x) (y := y) hv)
      have hl10 := spans_len hv
      clear hv hsp
      have h2 := h.keepNo k2'
      -- the three orders in which the two literals and the first append may come
      have a1 := (ownP_lit w2 w2.heap.size #[] [] rfl (Nat.le_refl _) (by simp))
      have a2 := a1.keepNo ((Kp.refl _ _).alloc (.cells #[.int .i64 x, .int .i64 y] 25))
      have a3 := ownP_lit (w2.alloc (.cells #[.int .i64 x, .int .i64 y] 25)) (w2.heap.size + 1) #[] [] rfl (by simp) (by simp)
      rw [show (w2.alloc (.cells #[.int .i64 x, .int .i64 y] 25)).heap.size = w2.heap.size + 1 by simp] at a3
      have l1 := prs_lit w2 x y 25
      have A1 := Lib.hid a1; have A2 := Lib.hid a2; have A3 := Lib.hid a3; have L1 := Lib.hid l1
      clear a1 a2 a3 l1
      have l2 := prs_lit (w2.alloc (.cells #[] 25)) x y 25
      rw [show (w2.alloc (.cells #[] 25)).heap.size = w2.heap.size + 1 by simp] at l2
      have L2 := Lib.hid l2
      clear l2
      go_wp2_with fail
      go_region_held3 (fun w' => w'.cell? ⟨w.heap.size, 0, none⟩ = some (.int .i64 x) ∧ w'.cell? ⟨w.heap.size, 1, none⟩ = some (.int .i64 y))
        (first | exact ⟨j0, j1⟩ | exact ⟨i0, i1⟩ | exact ⟨g0, g1⟩ | exact ⟨f0, f1⟩ | go_keep | exact ⟨e0, e1⟩)
        (first
          | (refine step_appP _ (by rfl) (.tmp 16) (.tmp 17) (by rfl) _ _ _ _ [] (by rfl) (by first | exact A1.out.keepNo ((Kp.refl _ _).drew) | exact A2.out.keepNo ((Kp.refl _ _).drew) | exact A3.out.keepNo ((Kp.refl _ _).drew)) _ _ A c ps (by rfl) (h2.keepNo (by repeat (first | exact Kp.refl _ _ | apply Kp.drew | apply Kp.alloc))) (by simp; omega) (by simp <;> omega) ?_; intro A4 c4 w4 o4 k4
             have s4 := k4.size
             try simp at s4
             have q4 : Kp No w w4 := (by repeat (first | exact k2' | apply Kp.drew | apply Kp.alloc) : Kp No w _).also k4 (fun i hi e => by have := e.1; omega)
             have f0 := (k4.cell (p := ⟨w.heap.size, 0, none⟩) (by show w.heap.size < _; first | omega | (simp; omega)) (fun e => by have : _ ≤ w.heap.size := e.1; omega)).trans (((by repeat (first | exact Kp.refl _ _ | apply Kp.drew | apply Kp.alloc) : Kp No w2 _).cell (p := ⟨w.heap.size, 0, none⟩) sz2 (fun e => e)).trans e0)
             have f1 := (k4.cell (p := ⟨w.heap.size, 1, none⟩) (by show w.heap.size < _; first | omega | (simp; omega)) (fun e => by have : _ ≤ w.heap.size := e.1; omega)).trans (((by repeat (first | exact Kp.refl _ _ | apply Kp.drew | apply Kp.alloc) : Kp No w2 _).cell (p := ⟨w.heap.size, 1, none⟩) sz2 (fun e => e)).trans e1))
          | (refine step_appP _ (by rfl) (.tmp 18) (.tmp 20) (by rfl) _ _ A4 c4 ps (by first | rfl | exact Eq.trans (b := .slice A4 (([] : List (Int × Int)).length + ps.length) c4) (by rfl) (by simp)) (by first | exact o4.keepNo (by repeat (first | exact Kp.refl _ _ | apply Kp.drew | apply Kp.alloc))) _ _ _ 1 [(x, y)] (by rfl) (by first | exact prs_lit w4 x y 25 | exact (L1.out.keepNo ((Kp.refl _ _).alloc _)).keep k4 (fun i h1 h2 h3 => by have := h3.1; (try simp at this h1); omega) | exact ((L1.out.keepNo ((Kp.refl _ _).alloc _)).keepNo ((Kp.refl _ _).drew)).keep k4 (fun i h1 h2 h3 => by have := h3.1; (try simp at this h1); omega) | exact L2.out.keep k4 (fun i h1 h2 h3 => by have := h3.2; (try simp at this h1); omega) | exact (L2.out.keepNo ((Kp.refl _ _).drew)).keep k4 (fun i h1 h2 h3 => by have := h3.2; (try simp at this h1); omega) | exact (prs_lit w4 x y 25).keepNo ((Kp.refl _ _).drew) | exact (L1.out.keep k4 (fun i h1 h2 h3 => by have := h3.1; (try simp at this h1); omega)).keepNo ((Kp.refl _ _).drew) | exact (L2.out.keep k4 (fun i h1 h2 h3 => by have := h3.2; (try simp at this h1); omega)).keepNo ((Kp.refl _ _).drew)) (by simp; omega) (by first | omega | (simp; omega) | simp) ?_; intro A5 c5 w5 o5 k5
             have s5 := k5.size
             try simp at s5
             have q5 : Kp No w w5 := (by repeat (first | exact q4 | apply Kp.drew | apply Kp.alloc) : Kp No w _).also k5 (fun i hi e => by have := e.1; omega)
             have g0 := (k5.cell (p := ⟨w.heap.size, 0, none⟩) (by show w.heap.size < _; first | omega | (simp; omega)) (fun e => by have : _ ≤ w.heap.size := e.1; omega)).trans (((by repeat (first | exact Kp.refl _ _ | apply Kp.drew | apply Kp.alloc) : Kp No w4 _).cell (p := ⟨w.heap.size, 0, none⟩) (by show w.heap.size < _; omega) (fun e => e)).trans f0)
             have g1 := (k5.cell (p := ⟨w.heap.size, 1, none⟩) (by show w.heap.size < _; first | omega | (simp; omega)) (fun e => by have : _ ≤ w.heap.size := e.1; omega)).trans (((by repeat (first | exact Kp.refl _ _ | apply Kp.drew | apply Kp.alloc) : Kp No w4 _).cell (p := ⟨w.heap.size, 1, none⟩) (by show w.heap.size < _; omega) (fun e => e)).trans f1))
          | (go_simp; go_at_call 49; refine (marks_app _ ps x y _ _ _ _ (o5.prs) (by omega) Hr.out Hm.out).mono ?_; rintro e w6 ⟨A6, rfl, o6, k6⟩
             have s6 := k6.size
             have q6 := q5.trans k6
             have i0 := (k6.cell (p := ⟨w.heap.size, 0, none⟩) (by show w.heap.size < _; omega) (fun e => e)).trans g0
             have i1 := (k6.cell (p := ⟨w.heap.size, 1, none⟩) (by show w.heap.size < _; omega) (fun e => e)).trans g1)
          | (go_simp; go_at_call 48; refine (l24Spans_any _ _ _ _ _ o6).mono ?_; rintro e w7 ⟨A7, c7, rfl, o7, k7⟩
             have s7 := k7.size
             have q7 := q6.trans k7
             have j0 := (k7.cell (p := ⟨w.heap.size, 0, none⟩) (by show w.heap.size < _; omega) (fun e => e)).trans i0
             have j1 := (k7.cell (p := ⟨w.heap.size, 1, none⟩) (by show w.heap.size < _; omega) (fun e => e)).trans i1))
      all_goals have hbl := build_len (addF ps (x, y) true) 60
      all_goals by_cases hl : (build (addF ps (x, y) true) 60).length ≤ 10
      all_goals first
        | (have H := Lib.hid (trimWith_ok (s := (x, y)) (b := true) Hv.out Hsp.out hl)
           go_wp2_with fail
           go_ret2
           rw [H.out]
           exact ⟨A7, c7, rfl, o7.wide q6.size (Nat.le_refl _) (Nat.le_refl _), q7⟩)
        | (have H := Lib.hid (trimWith_many (s := (x, y)) (b := true) Hv.out Hsp.out hl)
           have s8 := q7.size
           have o8 := ownP_lit w7 w7.heap.size #[] [] rfl (Nat.le_refl _) (by simp)
           go_wp2_with (at_builtin; refine wpList_appP _ rfl _ _ rfl _ _ _ 0 [] rfl o8 _ _ A c ps rfl ((h.keepNo q7).keepNo ((Kp.refl _ _).alloc _)) (by simp; omega) (by simp) ?_; intro A9 c9 w9 o9 k9)
           go_ret2
           rw [H.out]
           exact ⟨A9, c9, by simp, (by simpa using o9 : OwnP w9 w7.heap.size w9.heap.size A9 c9 ps).wide s8 (Nat.le_refl _) (Nat.le_refl _), (q7.alloc _).also k9 (fun i hi e => by have := e.1; omega)⟩)
end Go.Proofs.Ytjjglggfkbbhfaa
