/- trimWith, TrimAdd and TrimCut of the program. -/
import Derived.Test.YtjjglggfkbbhfaaTrimMath
import Derived.Test.YtjjglggfkbbhfaaPairsApp
import Derived.WalkKit
import Derived.WalkSpells
import Derived.WalkLawsBesides
import Derived.Outline
namespace Go.Proofs.Ytjjglggfkbbhfaa
open Go.RowKit
set_option linter.unusedVariables false

/-- What a call leaves that hands back a new slice of pairs and a bool. -/
def NewPB (w : World) (r : List (Int × Int) × Bool) (e : Ending) (w' : World) : Prop := ∃ A c, e = .returned (.tuple #[.slice A r.1.length c, .bool r.2]) ∧ OwnP w' w.heap.size w'.heap.size A c r.1 ∧ Kp No w w'

theorem trimWith_bad {ps : List (Int × Int)} {s : Int × Int} {b : Bool} (h : (spansB ps && spanB s.1 s.2) = false) : trimWith ps s b = ([], false) := by unfold trimWith; rw [h]; rfl
theorem trimWith_ok {ps : List (Int × Int)} {s : Int × Int} {b : Bool} (h : spansB ps = true) (h' : spanB s.1 s.2 = true) (hl : (build (addF ps s b) 60).length ≤ 10) : trimWith ps s b = (build (addF ps s b) 60, true) := by
  unfold trimWith; rw [h, h']; simp [hl]
theorem trimWith_many {ps : List (Int × Int)} {s : Int × Int} {b : Bool} (h : spansB ps = true) (h' : spanB s.1 s.2 = true) (hl : ¬ (build (addF ps s b) 60).length ≤ 10) : trimWith ps s b = (ps, false) := by
  unfold trimWith; rw [h, h']; simp [hl]
theorem prs_lit (w : World) (a b : Int) (t : TypeId) : Prs (w.alloc (.cells #[.int .i64 a, .int .i64 b] t)) w.heap.size (w.heap.size + 1) (some ⟨w.heap.size, 0, none⟩) [(a, b)] := by
  refine ⟨rfl, by simp, fun _ => ⟨_, 0, rfl, Nat.le_refl _, by omega, fun j u hj => ?_⟩⟩
  match j, hj with
  | 0, hj => simp [flatP] at hj; subst hj; simp
  | 1, hj => simp [flatP] at hj; subst hj; simp
  | j + 2, hj => simp [flatP] at hj

set_option maxHeartbeats 8000000 in
theorem trimWith_impl (A : Option Addr) (ps : List (Int × Int)) (c lo hi : Nat) (x y : Int) (hb : Bool) (w : World) (h : Prs w lo hi A ps) (hs : ps.length ≤ 4000000) :
    Calls Try.prog 50 #[.slice A ps.length c, .agg #[.int .i64 x, .int .i64 y], .bool hb] w (NewPB w (trimWith ps (x, y) hb)) := by
  go_enter Try.func50, Try.ntmps50
  have ka : Kp No w (w.alloc (.cells #[.int .i64 x, .int .i64 y] 25)) := (Kp.refl _ _).alloc _
  go_wp2_with fail
  refine (spansValid_impl _ _ _ _ _ _ (h.keepNo ka) hs).mono ?_
  rintro e w1 ⟨rfl, k1⟩
  have s1 : w.heap.size < w1.heap.size := by have := k1.size; simp at this; omega
  have d0 : w1.cell? ⟨w.heap.size, 0, none⟩ = some (.int .i64 x) := (k1.cell (p := ⟨w.heap.size, 0, none⟩) (by simp) (fun e => e)).trans (by simp)
  have d1 : w1.cell? ⟨w.heap.size, 1, none⟩ = some (.int .i64 y) := (k1.cell (p := ⟨w.heap.size, 1, none⟩) (by simp) (fun e => e)).trans (by simp)
  have k1' := ka.trans k1
  cases hv : spansB ps
  · have H := Lib.hid (trimWith_bad (s := (x, y)) (b := hb) (show (spansB ps && spanB (x, y).1 (x, y).2) = false by rw [hv]; rfl))
    go_wp2_with fail
    go_ret2
    rw [H.out]
    exact ⟨none, 0, rfl, Own.nil (Nat.le_refl _), k1'⟩
  · go_wp2_with fail
    refine (spanValid_impl _ _ _).mono ?_
    rintro e w2 ⟨rfl, k2⟩
    have s2 := k2.size
    have e0 := (k2.cell (p := ⟨w.heap.size, 0, none⟩) (by show w.heap.size < _; omega) (fun e => e)).trans d0
    have e1 := (k2.cell (p := ⟨w.heap.size, 1, none⟩) (by show w.heap.size < _; omega) (fun e => e)).trans d1
    have k2' := k1'.trans k2
    clear d0 d1 k1 k2 k1' ka
    cases hsp : spanB x y
    · have H := Lib.hid (trimWith_bad (ps := ps) (s := (x, y)) (b := hb) (show (spansB ps && spanB (x, y).1 (x, y).2) = false by rw [hsp]; simp))
      go_wp2_with fail
      go_ret2
      rw [H.out]
      exact ⟨none, 0, rfl, Own.nil (Nat.le_refl _), k2'⟩
    · have Hv := Lib.hid hv
      have Hsp := Lib.hid hsp
      go_wp2_with fail
      go_loopw [8, 20] (fun v i wr => ∃ (n : Nat) (A1 : Option Addr) (c1 : Nat), n ≤ 60 ∧ i = .int .i64 n ∧ v = .slice A1 (build (addF ps (x, y) hb) n).length c1 ∧ OwnP wr (w.heap.size + 1) wr.heap.size A1 c1 (build (addF ps (x, y) hb) n) ∧
          wr.cell? ⟨w.heap.size, 0, none⟩ = some (.int .i64 x) ∧ wr.cell? ⟨w.heap.size, 1, none⟩ = some (.int .i64 y) ∧ Kp No w wr) (fun _ i _ => 60 - (intOf i).toNat)
      case atStart => exact ⟨0, none, 0, by omega, rfl, rfl, Own.nil (Nat.le_refl _), e0, e1, k2'⟩
      case round =>
        obtain ⟨n, A1, c1, hn, rfl, rfl, ho, c0, c1', hkp⟩ := hrel
        clear e0 e1 k2' hv hsp
        have hBl := build_len (addF ps (x, y) hb) n
        by_cases hlt : n < 60
        · go_wp2_with fail
          refine (trimHas_impl _ _ _ _ _ _ _ (h.keepNo hkp) hs).mono ?_
          rintro e w2' ⟨rfl, k2⟩
          have sr : w.heap.size < wr.heap.size := World.block_lt_of_cell? wr _ c0
          have s2' := k2.size
          have c0' := (k2.cell (p := ⟨w.heap.size, 0, none⟩) sr (fun e => e)).trans c0
          have c1' := (k2.cell (p := ⟨w.heap.size, 1, none⟩) sr (fun e => e)).trans c1'
          have o2 := ho.keepNo k2
          clear ho c0
          generalize hout : build (addF ps (x, y) hb) n = out at *
          have HO := Lib.hid hout
          clear hout
          have hcase : out = [] ∨ ∃ m, out.length = m + 1 := by
            rcases out with _ | ⟨q, out⟩
            · exact .inl rfl
            · exact .inr ⟨out.length, rfl⟩
          by_cases hin : x ≤ (n : Int) ∧ (n : Int) < y
          · have hfn : addF ps (x, y) hb n = hb := by simp only [addF]; rw [if_pos hin]
            obtain ⟨hi1, hi2⟩ := hin
            cases hb
            · have HB := Lib.hid (show build (addF ps (x, y) false) (n + 1) = stepB out n false by rw [build, HO.out, hfn])
              clear hfn hcase
              go_wp2_with fail
              go_roundw
              case rel => exact ⟨n + 1, A1, c1, by omega, by go_num, by rw [HB.out, stepB_false], by rw [HB.out, stepB_false]; exact o2.wide (Nat.le_refl _) k2.size (Nat.le_refl _), c0', c1', hkp.trans k2⟩
              case measure => simp [intOf]; omega
            · have hb := true
              have HB := Lib.hid (show build (addF ps (x, y) true) (n + 1) = stepB out n true by rw [build, HO.out, hfn])
              clear hfn
              rcases hcase with rfl | ⟨m, hm⟩
              · have hA1 : True := trivial
                go_wp2_with (at_builtin; refine wpList_appP _ rfl _ _ rfl (w.heap.size + 1) wr.heap.size A1 c1 [] rfl (o2.keepNo ((Kp.refl _ _).alloc _)) _ _ _ _ [((n : Int), (n : Int) + 1)] rfl (prs_lit _ _ _ _) (by simp) (by simp; omega) ?_; intro A4 c4 w4 o4 k4)
                go_roundw
                case rel =>
                  refine ⟨n + 1, A4, c4, by omega, by go_num, by rw [HB.out, stepB_nil]; simp, by rw [HB.out, stepB_nil]; exact o4, ?_, ?_, ((hkp.trans k2).alloc _).also k4 (fun i hi e => by have := e.1; omega)⟩
                  · exact (k4.cell (p := ⟨w.heap.size, 0, none⟩) (by show w.heap.size < _; simp; omega) (fun e => by have h1 : w.heap.size + 1 ≤ w.heap.size := e.1; omega)).trans ((World.cell?_alloc_lt _ _ _ (by show w.heap.size < _; omega)).trans c0')
                  · exact (k4.cell (p := ⟨w.heap.size, 1, none⟩) (by show w.heap.size < _; simp; omega) (fun e => by have h1 : w.heap.size + 1 ≤ w.heap.size := e.1; omega)).trans ((World.cell?_alloc_lt _ _ _ (by show w.heap.size < _; omega)).trans c1')
                case measure => simp [intOf]; omega
              · obtain ⟨g, x', y', rfl, hg1, hg2, hx', hd1, hd2, hfz1, hfz2⟩ := o2.at_ (k := m) (by omega)
                have hxy := Lib.hid hx'
                have Hl := Lib.hid (show out[out.length - 1]? = some (x', y') by rw [hm]; exact hx')
                clear hx'
                rw [hm]
                by_cases hy : y' = (n : Int)
                · subst hy
                  have hne : ((n : Int) == (n : Int)) = true := by simp
                  go_wp2_with fail
                  go_roundw
                  case rel =>
                    have e : build (addF ps (x, y) true) (n + 1) = out.set m (x', (n : Int) + 1) := by rw [HB.out, stepB_more Hl.out rfl, hm]; rfl
                    refine ⟨n + 1, some ⟨g, 0, none⟩, c1, by omega, by go_num, by rw [e]; simp [hm], by rw [e]; exact (o2.set2 m _ hxy.out).wide (Nat.le_refl _) (by simp [World.setCell]; exact k2.size) (Nat.le_refl _), ?_, ?_, (hkp.trans k2).setCell (fun hh => absurd hh (by show ¬ g < _; omega)) _⟩
                    · exact (World.cell?_setCell_other _ _ _ _ (by intro e; injection e with e; omega)).trans c0'
                    · exact (World.cell?_setCell_other _ _ _ _ (by intro e; injection e with e; omega)).trans c1'
                  case measure => simp [intOf]; omega
                · have hne : (y' == (n : Int)) = false := beq_eq_false_iff_ne.2 hy
                  go_wp2_with (at_builtin; refine wpList_appP _ rfl _ _ rfl (w.heap.size + 1) wr.heap.size (some ⟨g, 0, none⟩) c1 out (by rw [hm]; rfl) (o2.keepNo ((Kp.refl _ _).alloc _)) _ _ _ _ [((n : Int), (n : Int) + 1)] rfl (prs_lit _ _ _ _) (by simp; omega) (by simp; omega) ?_; intro A4 c4 w4 o4 k4)
                  go_roundw
                  case rel =>
                    refine ⟨n + 1, A4, c4, by omega, by go_num, by rw [HB.out, stepB_new Hl.out hy]; simp [hm], by rw [HB.out, stepB_new Hl.out hy]; exact o4, ?_, ?_, ((hkp.trans k2).alloc _).also k4 (fun i hi e => by have := e.1; omega)⟩
                    · exact (k4.cell (p := ⟨w.heap.size, 0, none⟩) (by show w.heap.size < _; simp; omega) (fun e => by have h1 : w.heap.size + 1 ≤ w.heap.size := e.1; omega)).trans ((World.cell?_alloc_lt _ _ _ (by show w.heap.size < _; omega)).trans c0')
                    · exact (k4.cell (p := ⟨w.heap.size, 1, none⟩) (by show w.heap.size < _; simp; omega) (fun e => by have h1 : w.heap.size + 1 ≤ w.heap.size := e.1; omega)).trans ((World.cell?_alloc_lt _ _ _ (by show w.heap.size < _; omega)).trans c1')
                  case measure => simp [intOf]; omega
          · have hfn : addF ps (x, y) hb n = trimHas ps n := by simp only [addF]; rw [if_neg hin]
            have hin' : (n : Int) < x ∨ (x ≤ (n : Int) ∧ y ≤ (n : Int)) := by omega
            cases hth : trimHas ps (n : Int)
            · rw [hth] at hfn
              have HB := Lib.hid (show build (addF ps (x, y) hb) (n + 1) = stepB out n false by rw [build, HO.out, hfn])
              clear hfn hcase hin
              rcases hin' with hin' | ⟨hin0, hin'⟩
              all_goals
                go_wp2_with fail
                go_roundw
                case rel => exact ⟨n + 1, A1, c1, by omega, by go_num, by rw [HB.out, stepB_false], by rw [HB.out, stepB_false]; exact o2.wide (Nat.le_refl _) k2.size (Nat.le_refl _), c0', c1', hkp.trans k2⟩
                case measure => simp [intOf]; omega
            · rw [hth] at hfn
              clear hin
              rcases hin' with hin' | ⟨hin0, hin'⟩
              all_goals
                have HB := Lib.hid (show build (addF ps (x, y) hb) (n + 1) = stepB out n true by rw [build, HO.out, hfn])
                clear hfn
                rcases hcase with rfl | ⟨m, hm⟩
                · have hA1 : True := trivial
                  go_wp2_with (at_builtin; refine wpList_appP _ rfl _ _ rfl (w.heap.size + 1) wr.heap.size A1 c1 [] rfl (o2.keepNo ((Kp.refl _ _).alloc _)) _ _ _ _ [((n : Int), (n : Int) + 1)] rfl (prs_lit _ _ _ _) (by simp) (by simp; omega) ?_; intro A4 c4 w4 o4 k4)
                  go_roundw
                  case rel =>
                    refine ⟨n + 1, A4, c4, by omega, by go_num, by rw [HB.out, stepB_nil]; simp, by rw [HB.out, stepB_nil]; exact o4, ?_, ?_, ((hkp.trans k2).alloc _).also k4 (fun i hi e => by have := e.1; omega)⟩
                    · exact (k4.cell (p := ⟨w.heap.size, 0, none⟩) (by show w.heap.size < _; simp; omega) (fun e => by have h1 : w.heap.size + 1 ≤ w.heap.size := e.1; omega)).trans ((World.cell?_alloc_lt _ _ _ (by show w.heap.size < _; omega)).trans c0')
                    · exact (k4.cell (p := ⟨w.heap.size, 1, none⟩) (by show w.heap.size < _; simp; omega) (fun e => by have h1 : w.heap.size + 1 ≤ w.heap.size := e.1; omega)).trans ((World.cell?_alloc_lt _ _ _ (by show w.heap.size < _; omega)).trans c1')
                  case measure => simp [intOf]; omega
                · obtain ⟨g, x', y', rfl, hg1, hg2, hx', hd1, hd2, hfz1, hfz2⟩ := o2.at_ (k := m) (by omega)
                  have hxy := Lib.hid hx'
                  have Hl := Lib.hid (show out[out.length - 1]? = some (x', y') by rw [hm]; exact hx')
                  clear hx'
                  rw [hm]
                  by_cases hy : y' = (n : Int)
                  · subst hy
                    have hne : ((n : Int) == (n : Int)) = true := by simp
                    go_wp2_with fail
                    go_roundw
                    case rel =>
                      have e : build (addF ps (x, y) hb) (n + 1) = out.set m (x', (n : Int) + 1) := by rw [HB.out, stepB_more Hl.out rfl, hm]; rfl
                      refine ⟨n + 1, some ⟨g, 0, none⟩, c1, by omega, by go_num, by rw [e]; simp [hm], by rw [e]; exact (o2.set2 m _ hxy.out).wide (Nat.le_refl _) (by simp [World.setCell]; exact k2.size) (Nat.le_refl _), ?_, ?_, (hkp.trans k2).setCell (fun hh => absurd hh (by show ¬ g < _; omega)) _⟩
                      · exact (World.cell?_setCell_other _ _ _ _ (by intro e; injection e with e; omega)).trans c0'
                      · exact (World.cell?_setCell_other _ _ _ _ (by intro e; injection e with e; omega)).trans c1'
                    case measure => simp [intOf]; omega
                  · have hne : (y' == (n : Int)) = false := beq_eq_false_iff_ne.2 hy
                    go_wp2_with (at_builtin; refine wpList_appP _ rfl _ _ rfl (w.heap.size + 1) wr.heap.size (some ⟨g, 0, none⟩) c1 out (by rw [hm]; rfl) (o2.keepNo ((Kp.refl _ _).alloc _)) _ _ _ _ [((n : Int), (n : Int) + 1)] rfl (prs_lit _ _ _ _) (by simp; omega) (by simp; omega) ?_; intro A4 c4 w4 o4 k4)
                    go_roundw
                    case rel =>
                      refine ⟨n + 1, A4, c4, by omega, by go_num, by rw [HB.out, stepB_new Hl.out hy]; simp [hm], by rw [HB.out, stepB_new Hl.out hy]; exact o4, ?_, ?_, ((hkp.trans k2).alloc _).also k4 (fun i hi e => by have := e.1; omega)⟩
                      · exact (k4.cell (p := ⟨w.heap.size, 0, none⟩) (by show w.heap.size < _; simp; omega) (fun e => by have h1 : w.heap.size + 1 ≤ w.heap.size := e.1; omega)).trans ((World.cell?_alloc_lt _ _ _ (by show w.heap.size < _; omega)).trans c0')
                      · exact (k4.cell (p := ⟨w.heap.size, 1, none⟩) (by show w.heap.size < _; simp; omega) (fun e => by have h1 : w.heap.size + 1 ≤ w.heap.size := e.1; omega)).trans ((World.cell?_alloc_lt _ _ _ (by show w.heap.size < _; omega)).trans c1')
                    case measure => simp [intOf]; omega
        · obtain rfl : n = 60 := by omega
          by_cases hl : (build (addF ps (x, y) hb) 60).length ≤ 10
          · have H := Lib.hid (trimWith_ok (s := (x, y)) (b := hb) Hv.out Hsp.out hl)
            go_wp2_with fail
            go_ret2
            rw [H.out]
            exact ⟨A1, c1, rfl, ho.wide (by omega) (Nat.le_refl _) (Nat.le_refl _), hkp⟩
          · have H := Lib.hid (trimWith_many (s := (x, y)) (b := hb) Hv.out Hsp.out hl)
            go_wp2_with fail
            refine (cloneP_any _ _ _ _ _ _ (h.keepNo hkp) hs).mono ?_
            rintro e w5 ⟨A5, c5, rfl, o5, k5⟩
            go_wp2_with fail
            go_ret2
            rw [H.out]
            exact ⟨A5, c5, rfl, o5.wide hkp.size (Nat.le_refl _) (Nat.le_refl _), hkp.trans k5⟩

theorem trimAdd_impl (A : Option Addr) (ps : List (Int × Int)) (c lo hi : Nat) (x y : Int) (w : World) (h : Prs w lo hi A ps) (hs : ps.length ≤ 4000000) :
    Calls Try.prog 33 #[.slice A ps.length c, .agg #[.int .i64 x, .int .i64 y]] w (NewPB w (trimWith ps (x, y) true)) := by
  go_enter Try.func33, Try.ntmps33
  have ka : Kp No w (w.alloc (.cells #[.int .i64 x, .int .i64 y] 25)) := (Kp.refl _ _).alloc _
  go_wp2_with fail
  refine (trimWith_impl _ _ _ _ _ _ _ _ _ (h.keepNo ka) hs).mono ?_
  rintro e w1 ⟨A1, c1, rfl, o1, k1⟩
  go_wp2_with fail
  go_ret2
  exact ⟨A1, c1, rfl, o1.wide (by simp) (Nat.le_refl _) (Nat.le_refl _), ka.trans k1⟩
theorem trimCut_impl (A : Option Addr) (ps : List (Int × Int)) (c lo hi : Nat) (x y : Int) (w : World) (h : Prs w lo hi A ps) (hs : ps.length ≤ 4000000) :
    Calls Try.prog 39 #[.slice A ps.length c, .agg #[.int .i64 x, .int .i64 y]] w (NewPB w (trimWith ps (x, y) false)) := by
  go_enter Try.func39, Try.ntmps39
  have ka : Kp No w (w.alloc (.cells #[.int .i64 x, .int .i64 y] 25)) := (Kp.refl _ _).alloc _
  go_wp2_with fail
  refine (trimWith_impl _ _ _ _ _ _ _ _ _ (h.keepNo ka) hs).mono ?_
  rintro e w1 ⟨A1, c1, rfl, o1, k1⟩
  go_wp2_with fail
  go_ret2
  exact ⟨A1, c1, rfl, o1.wide (by simp) (Nat.le_refl _) (Nat.le_refl _), ka.trans k1⟩
end Go.Proofs.Ytjjglggfkbbhfaa
