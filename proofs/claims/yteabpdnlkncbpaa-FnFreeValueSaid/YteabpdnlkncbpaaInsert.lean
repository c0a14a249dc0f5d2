/- slices.Insert of one element, at kept values. -/
import Derived.Test.YteabpdnlkncbpaaDelete
import Derived.Lib.AppendZerosOnto
import Derived.Lib.Overlaps
import Derived.Laws.Externs
import Derived.Laws.NewBlocks
import Derived.WalkKit
import Derived.WalkSpells
import Derived.WalkLawsBesides
import Derived.Outline
import Derived.Deep.RegionHeld3
import Derived.Deep.RegionWith
namespace Go.Proofs.Yteabpdnlkncbpaa
open Go.RowKit
set_option linter.unusedVariables false

theorem flat_one (x y : Int) : flatP [(x, y)] = [.int .i64 x, .int .i64 y] := by simp [flatP]
theorem shift_all {all : List Value} {L R : List (Int × Int)} {c : Nat} {x y : Int} (hc : L.length + R.length + 1 ≤ c) (hl : all.length = c * 2) (ht : all.take ((L.length + R.length) * 2) = flatP (L ++ R)) :
    let a1 := all.take ((L.length + 1) * 2) ++ flatP R ++ all.drop ((L.length + 1) * 2 + (flatP R).length)
    let a2 := a1.take (L.length * 2) ++ flatP [(x, y)] ++ a1.drop (L.length * 2 + (flatP [(x, y)]).length)
    a1.length = c * 2 ∧ a2.length = c * 2 ∧ a2.take ((L.length + R.length + 1) * 2) = flatP (L ++ (x, y) :: R) := by
  intro a1 a2
  have hR : (flatP R).length = R.length * 2 := flatP_len R
  have hL : (flatP L).length = L.length * 2 := flatP_len L
  have h1 : a1.length = c * 2 := by
    simp only [a1, List.length_append, List.length_take, List.length_drop, hR, hl]; omega
  have hx : (flatP [(x, y)]).length = 2 := by rw [flatP_len]; rfl
  have h2 : a2.length = c * 2 := by
    simp only [a2, List.length_append, List.length_take, List.length_drop, h1, hx]; omega
  refine ⟨h1, h2, ?_⟩
  have e1 : all.take (L.length * 2) = flatP L := by
    have : all.take (L.length * 2) = (all.take ((L.length + R.length) * 2)).take (L.length * 2) := by rw [List.take_take, Nat.min_eq_left (by omega)]
    rw [this, ht, flatP_app, List.take_append_of_le_length (by omega), List.take_of_length_le (by omega)]
  have e2 : a1.take (L.length * 2) = flatP L := by
    simp only [a1, List.append_assoc]
    rw [List.take_append_of_le_length (by simp only [List.length_take, hl]; omega), List.take_take, Nat.min_eq_left (by omega), e1]
  have e3 : a1.drop (L.length * 2 + 2) = flatP R ++ all.drop ((L.length + 1) * 2 + (flatP R).length) := by
    simp only [a1, List.append_assoc]
    rw [List.drop_append_of_le_length (by simp only [List.length_take, hl]; omega), List.drop_of_length_le (by simp only [List.length_take, hl]; omega), List.nil_append]
  simp only [a2]
  rw [e2, hx, e3]
  have e4 : flatP L ++ flatP [(x, y)] ++ (flatP R ++ all.drop ((L.length + 1) * 2 + (flatP R).length)) = flatP (L ++ (x, y) :: R) ++ all.drop ((L.length + 1) * 2 + (flatP R).length) := by
    rw [show L ++ (x, y) :: R = L ++ ([(x, y)] ++ R) by simp, flatP_app, flatP_app]; simp
  have hF : (flatP (L ++ (x, y) :: R)).length = (L.length + R.length + 1) * 2 := by rw [flatP_len]; simp; omega
  rw [e4, List.take_append_of_le_length (by omega), List.take_of_length_le (by omega)]
theorem grow_all {Z : List Value} {L R : List (Int × Int)} {G : Nat} {x y : Int} (hG : L.length + R.length + 1 ≤ G) (hZ : (flatP L ++ Z).length = G * 2) :
    let a1 := (flatP L ++ Z).take (L.length * 2) ++ flatP [(x, y)] ++ (flatP L ++ Z).drop (L.length * 2 + (flatP [(x, y)]).length)
    let a2 := a1.take ((L.length + 1) * 2) ++ flatP R ++ a1.drop ((L.length + 1) * 2 + (flatP R).length)
    a1.length = G * 2 ∧ a2.length = G * 2 ∧ a2.take ((L.length + R.length + 1) * 2) = flatP (L ++ (x, y) :: R) := by
  intro a1 a2
  have hR : (flatP R).length = R.length * 2 := flatP_len R
  have hL : (flatP L).length = L.length * 2 := flatP_len L
  have hx : (flatP [(x, y)]).length = 2 := by rw [flatP_len]; rfl
  have h1 : a1.length = G * 2 := by
    have hZ' : (flatP L).length + Z.length = G * 2 := by rw [← List.length_append]; exact hZ
    simp only [a1, List.length_append, List.length_take, List.length_drop, hx, hL]
    rw [hL] at hZ'
    omega
  have h2 : a2.length = G * 2 := by
    simp only [a2, List.length_append, List.length_take, List.length_drop, h1, hR]; omega
  refine ⟨h1, h2, ?_⟩
  have e1 : (flatP L ++ Z).take (L.length * 2) = flatP L := by rw [List.take_append_of_le_length (by omega), List.take_of_length_le (by omega)]
  have e2 : a1.take ((L.length + 1) * 2) = flatP L ++ flatP [(x, y)] := by
    simp only [a1]
    rw [e1, List.take_append_of_le_length (by simp only [List.length_append, hL, hx]; omega), List.take_of_length_le (by simp only [List.length_append, hL, hx]; omega)]
  simp only [a2]
  rw [e2]
  have e4 : flatP L ++ flatP [(x, y)] ++ flatP R = flatP (L ++ (x, y) :: R) := by
    rw [show L ++ (x, y) :: R = L ++ ([(x, y)] ++ R) by simp, flatP_app, flatP_app]; simp
  have hF : (flatP (L ++ (x, y) :: R)).length = (L.length + R.length + 1) * 2 := by rw [flatP_len]; simp; omega
  rw [e4, List.take_append_of_le_length (by omega), List.take_of_length_le (by omega)]

/-- What Insert leaves. -/
def Insd (w : World) (lo hi : Nat) (ps : List (Int × Int)) (e : Ending) (w' : World) : Prop :=
  ∃ A c, e = .returned (.slice A ps.length c) ∧ OwnP w' lo w'.heap.size A c ps ∧ Kp (Rg lo hi) w w'
theorem insert_end (A : Option Addr) (L : List (Int × Int)) (c lo hi b : Nat) (x y : Int) (w : World) (h : OwnP w lo hi A c L) (hv : Prs w b (b + 1) (some ⟨b, 0, none⟩) [(x, y)]) (hs : L.length ≤ 4000000) (hlo : lo ≤ w.heap.size) :
    Calls Try.prog 38 #[.slice A L.length c, .int .i64 L.length, .slice (some ⟨b, 0, none⟩) 1 1] w (Insd w lo hi (L ++ [(x, y)])) := by
  have hcap := h.cap
  have hne : ((L.length : Int) == (L.length : Int)) = true := by simp
  rcases ownP_form h with ⟨rfl, rfl, rfl⟩ | ⟨g, rfl⟩
  · go_enter Try.func38, Try.ntmps38
    go_wp2_with (at_builtin; refine wpList_appP _ rfl _ _ rfl lo hi none 0 [] rfl h _ _ _ 1 [(x, y)] rfl hv (by simp) hlo ?_; intro A4 c4 w4 o4 k4)
    go_ret
    exact ⟨A4, c4, by simp, o4, k4⟩
  · have hI1 : (L.length : Int) ≤ (c : Int) := by omega
    by_cases hc : c = L.length
    · subst hc
      go_enter Try.func38, Try.ntmps38
      go_wp2_with (at_builtin; refine wpList_appP _ rfl _ _ rfl lo hi (some ⟨g, 0, none⟩) L.length L rfl h _ _ _ 1 [(x, y)] rfl hv (by simp; omega) hlo ?_; intro A4 c4 w4 o4 k4)
      go_ret
      exact ⟨A4, c4, by simp, o4, k4⟩
    · go_enter Try.func38, Try.ntmps38
      go_wp2_with (at_builtin; refine wpList_appP _ rfl _ _ rfl lo hi (some ⟨g, 0, none⟩) c L rfl h _ _ _ 1 [(x, y)] rfl hv (by simp; omega) hlo ?_; intro A4 c4 w4 o4 k4)
      go_ret
      exact ⟨A4, c4, by simp, o4, k4⟩

set_option maxHeartbeats 4000000 in
theorem insert_shift (g : Nat) (L R : List (Int × Int)) (c lo hi b : Nat) (x y : Int) (w : World) (h : OwnP w lo hi (some ⟨g, 0, none⟩) c (L ++ R)) (hbF : Full w b 33 [.int .i64 x, .int .i64 y]) (hbg : b ≠ g) (hR : 0 < R.length) (hroom : L.length + R.length + 1 ≤ c) (hs : L.length + R.length ≤ 4000000) :
    Calls Try.prog 38 #[.slice (some ⟨g, 0, none⟩) (L.length + R.length) c, .int .i64 L.length, .slice (some ⟨b, 0, none⟩) 1 1] w (Insd w lo hi (L ++ (x, y) :: R)) := by
  obtain ⟨i0, hi0, hz0, hz1, hz2⟩ := info_parts pair_info
  obtain ⟨all, hF, hl, ht, hnc, hcm, hg1, hg2, hg3⟩ := Full.of_own h
  rw [List.length_append] at ht hnc
  have hA := shift_all (x := x) (y := y) hroom hl ht
  have hsrc : ∀ j u, (flatP R)[j]? = some u → w.cell? ((⟨g, L.length * 2, none⟩ : Addr).add j) = some u := by
    intro j u hu
    rw [add_at]
    refine hF.cell ?_
    have hj : j < (flatP R).length := (List.getElem?_eq_some_iff.1 hu).1
    rw [flatP_len] at hj
    have e : all[L.length * 2 + j]? = (all.take ((L.length + R.length) * 2))[L.length * 2 + j]? := by rw [List.getElem?_take, if_pos (by omega)]
    rw [e, ht, flatP_app, List.getElem?_append_right (by rw [flatP_len]; omega), flatP_len]
    simpa using hu
  obtain ⟨a1, ha1⟩ : ∃ a1, a1 = all.take ((L.length + 1) * 2) ++ flatP R ++ all.drop ((L.length + 1) * 2 + (flatP R).length) := ⟨_, rfl⟩
  simp only [← ha1] at hA
  obtain ⟨hA1, hA2, hA3⟩ := hA
  have hc1 : ∀ ty dc sc, (Builtin.copy_ #[25, 25] ty #[.slice (some ⟨g, (L.length + 1) * 2, none⟩) R.length dc, .slice (some ⟨g, L.length * 2, none⟩) (R.length + 1) sc]).run Try.prog w.drew = .ok (goInt R.length) (w.drew.setRow g a1.toArray) := by
    intro ty dc sc
    have hmin : Nat.min (R.length + 1) R.length = R.length := Nat.min_eq_right (by omega)
    have := run_copy_in (P := Try.prog) w.drew 25 ty 33 i0 2 Try.underlying25 hi0 hz1 g ((L.length + 1) * 2) R.length dc (R.length + 1) sc ⟨g, L.length * 2, none⟩ all (flatP R) hF (by rw [hmin, flatP_len]) hsrc (flatP_one _) (by rw [flatP_len, hl]; omega)
    rw [hmin, ← ha1] at this
    exact this
  have hF1 : Full (w.drew.setRow g a1.toArray) g 33 a1 := Full.set hF.drew a1
  have hb1 : Full (w.drew.setRow g a1.toArray) b 33 [.int .i64 x, .int .i64 y] := hbF.drew.keep (Kp.setRow _ g _) (fun e => hbg e)
  obtain ⟨a2, ha2⟩ : ∃ a2, a2 = a1.take (L.length * 2) ++ flatP [(x, y)] ++ a1.drop (L.length * 2 + (flatP [(x, y)]).length) := ⟨_, rfl⟩
  rw [← ha2] at hA2 hA3
  have hc2 : ∀ ty dc, (Builtin.copy_ #[25, 25] ty #[.slice (some ⟨g, L.length * 2, none⟩) (R.length + 1) dc, .slice (some ⟨b, 0, none⟩) 1 1]).run Try.prog (w.drew.setRow g a1.toArray) = .ok (goInt 1) ((w.drew.setRow g a1.toArray).setRow g a2.toArray) := by
    intro ty dc
    have hmin : Nat.min 1 (R.length + 1) = 1 := Nat.min_eq_left (by omega)
    have := run_copy_in (P := Try.prog) (w.drew.setRow g a1.toArray) 25 ty 33 i0 2 Try.underlying25 hi0 hz1 g (L.length * 2) (R.length + 1) dc 1 1 ⟨b, 0, none⟩ a1 (flatP [(x, y)]) hF1 (by rw [hmin, flatP_len]; rfl) (fun j u hu => by rw [add_at, Nat.zero_add]; rw [flat_one] at hu; exact hb1.cell hu) (flatP_one _) (by rw [flatP_len, hA1]; simp; omega)
    rw [hmin, ← ha2] at this
    exact this
  have hF2 : Full ((w.drew.setRow g a1.toArray).setRow g a2.toArray) g 33 a2 := Full.set hF1 a2
  have kE : Kp (Rg lo hi) w ((w.drew.setRow g a1.toArray).setRow g a2.toArray) := ((((Kp.refl (At g) w).drew).trans (Kp.setRow _ g _)).trans (Kp.setRow _ g _)).mono (fun i _ e => by simp only [At] at e; subst e; exact ⟨hg1, hg2⟩)
  have hlen : (L ++ (x, y) :: R).length = L.length + R.length + 1 := by simp; omega
  have hO : OwnP ((w.drew.setRow g a1.toArray).setRow g a2.toArray) lo ((w.drew.setRow g a1.toArray).setRow g a2.toArray).heap.size (some ⟨g, 0, none⟩) c (L ++ (x, y) :: R) := by
    have := Own.of_full (sz := 2) (n := L.length + R.length + 1) (lo := lo) (hi := ((w.drew.setRow g a1.toArray).setRow g a2.toArray).heap.size) hF2 hA2 hroom hcm hg1 (by rw [size_setRow, size_setRow]; exact Nat.lt_of_lt_of_le hg2 hg3) (Nat.le_refl _)
    rw [hA3] at this
    unfold OwnP
    rw [hlen]; exact this
  have hsa : w.shape? b = some (33, 2) := by simp [World.shape?, show w.heap[b]? = _ from hbF]
  have hsb : w.shape? g = some (33, c * 2) := by simp [World.shape?, show w.heap[g]? = _ from hF, hl]
  have hfb : ∀ j, w.frozen? ⟨b, j, none⟩ = false := fun j => by simp [World.frozen?, show w.heap[b]? = _ from hbF]
  have hov : ∀ lb cb, (callFunc 41 #[.slice (some ⟨b, 0, none⟩) 1 1, .slice (some ⟨g, (L.length + 1) * 2, none⟩) lb cb]).run Try.prog w = .ok (.value (.bool false)) w := fun lb cb => by
    rw [run_callFunc_extern Try.func41 (by kernel_rfl) (by kernel_rfl) (by kernel_rfl) (e := Extern.SlicesOverlaps.overlaps #[25, 25] #[4]) (by kernel_rfl),
      Lib.run_overlaps_apart w 25 4 33 Try.underlying25 2 (fun _ => by kernel_rfl) ⟨b, 0, none⟩ ⟨g, (L.length + 1) * 2, none⟩ 1 1 lb cb hbg 33 33 2 (c * 2) hsa hsb (by omega) (hfb 0) (hfb 2)]
    rfl
  have HC1 := Lib.hid hc1; have HC2 := Lib.hid hc2; have HO := Lib.hid hO; have HLEN := Lib.hid hlen; have HOV := Lib.hid hov
  unfold maxLen at hcm
  clear hF hz0 hz1 hz2 ht hsrc hl hi0 hF1 hF2 hA1 hA2 hA3 ha1 ha2 hO hc1 hc2 hlen hsa hsb hfb hov hb1
  generalize hr : R.length = r at *
  clear hr
  have h1 : (L.length : Int) ≤ (L.length : Int) + (r : Int) := by omega
  have h2 : (L.length : Int) + (r : Int) ≤ (c : Int) := by omega
  have h3 : (L.length : Int) + (r : Int) + 1 ≤ (c : Int) := by omega
  have h4 : (0 : Int) ≤ (L.length : Int) + (r : Int) + 1 := by omega
  have h5 : (0 : Int) ≤ (L.length : Int) + 1 := by omega
  have h6 : (L.length : Int) + 1 ≤ (L.length : Int) + (r : Int) + 1 := by omega
  have h7 : (L.length : Int) ≤ (L.length : Int) + (r : Int) + 1 := by omega
  have h8 : ¬ c = L.length := by omega
  have h9 : ¬ c = L.length + 1 := by omega
  have h10 : L.length + r + 1 - (L.length + 1) = r := by omega
  have h11 : L.length + r + 1 - L.length = r + 1 := by omega
  have h12 : ((L.length : Int) + 1).toNat = L.length + 1 := by omega
  have h13 : ((L.length : Int) + (r : Int) + 1).toNat = L.length + r + 1 := by omega
  have h14 : L.length + r - L.length = r := by omega
  have hw1 : IntKind.i64.wrap ((L.length : Int) + 1) = (L.length : Int) + 1 := IntWalk.i64_in _ (by omega)
  have hne : ((L.length : Int) == (L.length : Int) + (r : Int)) = false := beq_eq_false_iff_ne.2 (by omega)
  go_enter Try.func38, Try.ntmps38
  have hov := HOV.out
  go_wp2_with (simp only [hov])
  clear hov
  go_region_held3 (fun _ => True) (exact trivial) ((refine step_copy_run _ (by rfl) (.tmp 73) (.tmp 76) _ (by rfl) _ _ (by rfl) (by rfl) (HC1.out _ _ _) ?_))
  go_wp2_with (with_reducible refine wpList_copy_run _ rfl (.tmp 80) (.tmp 81) _ rfl _ _ rfl rfl (HC2.out _ _) ?_)
  go_ret
  exact ⟨some ⟨g, 0, none⟩, c, by rw [HLEN.out]; rfl, HO.out, kE⟩

theorem zeros_len (z : Value) (n : Nat) : (Builtin.zeroCells z.cells n).toList.length = n * z.cells.size := by simp [Builtin.zeroCells]
set_option maxHeartbeats 4000000 in
theorem insert_grow (g : Nat) (L R : List (Int × Int)) (c lo hi b : Nat) (x y : Int) (w : World) (h : OwnP w lo hi (some ⟨g, 0, none⟩) c (L ++ R)) (hbF : Full w b 33 [.int .i64 x, .int .i64 y]) (hR : 0 < R.length) (hroom : c < L.length + R.length + 1) (hs : L.length + R.length ≤ 4000000) (hlo : lo ≤ w.heap.size) :
    Calls Try.prog 38 #[.slice (some ⟨g, 0, none⟩) (L.length + R.length) c, .int .i64 L.length, .slice (some ⟨b, 0, none⟩) 1 1] w (Insd w lo hi (L ++ (x, y) :: R)) := by
  obtain ⟨i0, hi0, hz0, hz1, hz2⟩ := info_parts pair_info
  obtain ⟨all, hF, hl, ht, hnc, hcm, hg1, hg2, hg3⟩ := Full.of_own h
  rw [List.length_append] at ht hnc
  have hgw : g < w.heap.size := Nat.lt_of_lt_of_le hg2 hg3
  have hbw : b < w.heap.size := (Array.getElem?_eq_some_iff.1 hbF).1
  have eL : all.take (L.length * 2) = flatP L := by
    have : all.take (L.length * 2) = (all.take ((L.length + R.length) * 2)).take (L.length * 2) := by rw [List.take_take, Nat.min_eq_left (by omega)]
    rw [this, ht, flatP_app, List.take_append_of_le_length (by rw [flatP_len]; omega), List.take_of_length_le (by rw [flatP_len]; omega)]
  have hold : (Builtin.firstCells i0.size L.length (.slice (some ⟨g, 0, none⟩) L.length c)).run Try.prog w.drew = .ok (flatP L).toArray w.drew := by
    rw [hz1]
    exact run_firstCells_some w.drew 2 L.length ⟨g, 0, none⟩ L.length c (flatP L) (by rw [flatP_len]) (fun j v hj => by
      rw [add_at, Nat.zero_add]
      refine hF.drew.cell ?_
      rw [← eL, List.getElem?_take] at hj
      split at hj
      · exact hj
      · cases hj)
  have hik : L.length + (R.length + 1) = L.length + R.length + 1 := by omega
  obtain ⟨G, hG⟩ : ∃ G, G = grownCap w (L.length + R.length + 1) c 33 := ⟨_, rfl⟩
  have hGn : L.length + R.length + 1 ≤ G := by rw [hG]; exact grownCap_ge w _ _ _
  have hGm : G ≤ maxLen := by rw [hG]; exact grownCap_le_maxLen w _ _ _ (by unfold maxLen; omega)
  obtain ⟨Z, hZ⟩ : ∃ Z : List Value, Z = (Builtin.zeroCells (Value.agg #[.int .i64 0, .int .i64 0]).cells (R.length + 1)).toList ++ (Builtin.zeroCells (Value.agg #[.int .i64 0, .int .i64 0]).cells (G - (L.length + R.length + 1))).toList := ⟨_, rfl⟩
  have hZl : (flatP L ++ Z).length = G * 2 := by
    rw [List.length_append, flatP_len, hZ, List.length_append, zeros_len, zeros_len]
    show L.length * 2 + ((R.length + 1) * 2 + (G - (L.length + R.length + 1)) * 2) = G * 2
    omega
  have hrz : ∀ ty, (Builtin.append_ #[25, 3] ty #[.slice (some ⟨g, 0, none⟩) L.length c, .int .i64 ((R.length : Int) + 1)]).run Try.prog w = .ok (.slice (some ⟨w.heap.size, 0, none⟩) (L.length + R.length + 1) G) (w.drew.alloc (.cells (flatP L ++ Z).toArray 33)) := fun ty => by
    have hh := Lib.run_append_grow_zeros w 25 3 ty 33 i0 (.agg #[.int .i64 0, .int .i64 0]) .i64 .i64 Try.underlying25 Try.underlying3 hi0 hz0 (some ⟨g, 0, none⟩) L.length c (flatP L) hold (R.length + 1) (by omega) (by omega) (by omega) (by omega) (by rw [hz2]; omega) (by rw [hz2, hik]; exact growslice_fits hroom (by omega))
    rw [hik, ← hG] at hh
    have e : (flatP L).toArray ++ Builtin.zeroCells (Value.agg #[.int .i64 0, .int .i64 0]).cells (R.length + 1) ++ Builtin.zeroCells (Value.agg #[.int .i64 0, .int .i64 0]).cells (G - (L.length + R.length + 1)) = (flatP L ++ Z).toArray := by
      rw [hZ]
      apply Array.toList_inj.1
      simp
    rw [show (R.length : Int) + 1 = ((R.length + 1 : Nat) : Int) by omega, hh, e]
  obtain ⟨w1, hw1⟩ : ∃ w1, w1 = w.drew.alloc (.cells (flatP L ++ Z).toArray 33) := ⟨_, rfl⟩
  have hF0 : Full w1 w.heap.size 33 (flatP L ++ Z) := by rw [hw1]; exact heap_alloc_new w.drew _
  have k1 : Kp No w w1 := by rw [hw1]; exact ((Kp.refl No w).drew).alloc _
  have hs1 : w1.heap.size = w.heap.size + 1 := by rw [hw1]; simp
  rw [← hw1] at hrz
  have hA := grow_all (R := R) (x := x) (y := y) hGn hZl
  obtain ⟨a1, ha1⟩ : ∃ a1, a1 = (flatP L ++ Z).take (L.length * 2) ++ flatP [(x, y)] ++ (flatP L ++ Z).drop (L.length * 2 + (flatP [(x, y)]).length) := ⟨_, rfl⟩
  simp only [← ha1] at hA
  obtain ⟨hA1, hA2, hA3⟩ := hA
  have hb1 : Full w1 b 33 [.int .i64 x, .int .i64 y] := hbF.keep k1 (fun e => e)
  have hc1 : ∀ ty dc, (Builtin.copy_ #[25, 25] ty #[.slice (some ⟨w.heap.size, L.length * 2, none⟩) (R.length + 1) dc, .slice (some ⟨b, 0, none⟩) 1 1]).run Try.prog w1 = .ok (goInt 1) (w1.setRow w.heap.size a1.toArray) := by
    intro ty dc
    have hmin : Nat.min 1 (R.length + 1) = 1 := Nat.min_eq_left (by omega)
    have := run_copy_in (P := Try.prog) w1 25 ty 33 i0 2 Try.underlying25 hi0 hz1 w.heap.size (L.length * 2) (R.length + 1) dc 1 1 ⟨b, 0, none⟩ (flatP L ++ Z) (flatP [(x, y)]) hF0 (by rw [hmin, flatP_len]; rfl) (fun j u hu => by rw [add_at, Nat.zero_add]; rw [flat_one] at hu; exact hb1.cell hu) (flatP_one _) (by rw [flatP_len, hZl]; simp; omega)
    rw [hmin, ← ha1] at this
    exact this
  have hF1 : Full (w1.setRow w.heap.size a1.toArray) w.heap.size 33 a1 := Full.set hF0 a1
  have hFg : Full (w1.setRow w.heap.size a1.toArray) g 33 all := (hF.keep k1 (fun e => e)).keep (Kp.setRow _ w.heap.size _) (fun e => by simp only [At] at e; omega)
  obtain ⟨a2, ha2⟩ : ∃ a2, a2 = a1.take ((L.length + 1) * 2) ++ flatP R ++ a1.drop ((L.length + 1) * 2 + (flatP R).length) := ⟨_, rfl⟩
  rw [← ha2] at hA2 hA3
  have hc2 : ∀ ty dc sc, (Builtin.copy_ #[25, 25] ty #[.slice (some ⟨w.heap.size, (L.length + 1) * 2, none⟩) R.length dc, .slice (some ⟨g, L.length * 2, none⟩) R.length sc]).run Try.prog (w1.setRow w.heap.size a1.toArray).drew = .ok (goInt R.length) ((w1.setRow w.heap.size a1.toArray).drew.setRow w.heap.size a2.toArray) := by
    intro ty dc sc
    have hmin : Nat.min R.length R.length = R.length := Nat.min_self _
    have := run_copy_in (P := Try.prog) (w1.setRow w.heap.size a1.toArray).drew 25 ty 33 i0 2 Try.underlying25 hi0 hz1 w.heap.size ((L.length + 1) * 2) R.length dc R.length sc ⟨g, L.length * 2, none⟩ a1 (flatP R) hF1.drew (by rw [hmin, flatP_len]) (fun j u hu => by
        rw [add_at]
        refine hFg.drew.cell ?_
        have hj : j < (flatP R).length := (List.getElem?_eq_some_iff.1 hu).1
        rw [flatP_len] at hj
        have e : all[L.length * 2 + j]? = (all.take ((L.length + R.length) * 2))[L.length * 2 + j]? := by rw [List.getElem?_take, if_pos (by omega)]
        rw [e, ht, flatP_app, List.getElem?_append_right (by rw [flatP_len]; omega), flatP_len]
        simpa using hu) (flatP_one _) (by rw [flatP_len, hA1]; omega)
    rw [hmin, ← ha2] at this
    exact this
  obtain ⟨w2, hw2⟩ : ∃ w2, w2 = (w1.setRow w.heap.size a1.toArray).drew.setRow w.heap.size a2.toArray := ⟨_, rfl⟩
  have hF2 : Full w2 w.heap.size 33 a2 := by rw [hw2]; exact Full.set hF1.drew a2
  have hs2 : w2.heap.size = w.heap.size + 1 := by rw [hw2, size_setRow]; show (w1.setRow w.heap.size a1.toArray).heap.size = _; rw [size_setRow, hs1]
  have kE : Kp (Rg lo hi) w w2 := by
    rw [hw2]
    exact (((k1.also (Kp.setRow w1 w.heap.size a1.toArray) (fun i hi e => by simp only [At] at e; omega)).drew).also (Kp.setRow _ w.heap.size a2.toArray) (fun i hi e => by simp only [At] at e; omega)).no
  have hlen : (L ++ (x, y) :: R).length = L.length + R.length + 1 := by simp; omega
  have hO : OwnP w2 lo w2.heap.size (some ⟨w.heap.size, 0, none⟩) G (L ++ (x, y) :: R) := by
    have := Own.of_full (sz := 2) (n := L.length + R.length + 1) (lo := lo) (hi := w2.heap.size) hF2 hA2 hGn hGm hlo (by omega) (Nat.le_refl _)
    rw [hA3] at this
    unfold OwnP
    rw [hlen]; exact this
  rw [← hw2] at hc2
  have HRZ := Lib.hid hrz; have HC1 := Lib.hid hc1; have HC2 := Lib.hid hc2; have HO := Lib.hid hO; have HLEN := Lib.hid hlen
  unfold maxLen at hcm hGm
  clear hF hz0 hz1 hz2 ht hl hi0 hF1 hF2 hA1 hA2 hA3 ha1 ha2 hO hc1 hc2 hlen hb1 hFg hF0 hZ hZl hrz hw1 hw2 hG hold eL hik hs1 hs2
  generalize hr : R.length = r at *
  clear hr
  have h1 : (L.length : Int) ≤ (L.length : Int) + (r : Int) := by omega
  have h2 : (L.length : Int) + (r : Int) ≤ (c : Int) := by omega
  have h4 : (0 : Int) ≤ (L.length : Int) + (r : Int) + 1 := by omega
  have h5 : (0 : Int) ≤ (L.length : Int) + 1 := by omega
  have h6 : (L.length : Int) + 1 ≤ (L.length : Int) + (r : Int) + 1 := by omega
  have h7 : (L.length : Int) ≤ (L.length : Int) + (r : Int) + 1 := by omega
  have h8 : ¬ c = L.length := by omega
  have h9 : ¬ G = L.length + 1 := by omega
  have h9' : ¬ G = L.length := by omega
  have h10 : L.length + r + 1 - (L.length + 1) = r := by omega
  have h11 : L.length + r + 1 - L.length = r + 1 := by omega
  have h12 : ((L.length : Int) + 1).toNat = L.length + 1 := by omega
  have h14 : L.length + r - L.length = r := by omega
  have h15 : (L.length : Int) + (r : Int) + 1 ≤ (G : Int) := by omega
  have h16 : (L.length : Int) + (r : Int) + 1 - (L.length : Int) = (r : Int) + 1 := by omega
  have hw1' : IntKind.i64.wrap ((L.length : Int) + 1) = (L.length : Int) + 1 := IntWalk.i64_in _ (by omega)
  have hne : ((L.length : Int) == (L.length : Int) + (r : Int)) = false := beq_eq_false_iff_ne.2 (by omega)
  have hgt : decide ((c : Int) < (L.length : Int) + (r : Int) + 1) = true := decide_eq_true (by omega)
  go_enter Try.func38, Try.ntmps38
  go_wp2_with (first
    | (at_builtin; refine Lib.wpList_append_run _ rfl (.tmp 34) (.tmp 39) _ _ rfl _ _ rfl rfl _ _ (HRZ.out _) ?_)
    | (with_reducible refine wpList_copy_run _ rfl (.tmp 43) (.tmp 44) _ rfl _ _ rfl rfl (HC1.out _ _) ?_))
  go_region_held3 (fun _ => True) (exact trivial) ((refine step_copy_run _ (by rfl) (.tmp 50) (.tmp 53) _ (by rfl) _ _ (by rfl) (by rfl) (HC2.out _ _ _) ?_))
  go_wp2_with fail
  go_ret
  exact ⟨some ⟨w.heap.size, 0, none⟩, G, by rw [HLEN.out]; rfl, HO.out, kE⟩
end Go.Proofs.Yteabpdnlkncbpaa
