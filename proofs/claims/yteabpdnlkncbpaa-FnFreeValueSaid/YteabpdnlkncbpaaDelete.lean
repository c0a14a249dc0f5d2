/- slices.Delete of one element, at kept values. -/
import Derived.Test.YteabpdnlkncbpaaRow2
import Derived.Test.YteabpdnlkncbpaaKeepS
import Derived.WalkKit
import Derived.WalkSpells
import Derived.WalkLawsBesides
import Derived.Outline
import Derived.Deep.RegionHeld3
import Derived.Deep.RegionWith
namespace Go.Proofs.Yteabpdnlkncbpaa
open Go.RowKit
set_option linter.unusedVariables false

theorem zero_pair : ∀ w, (zeroValue 33).run Try.prog w = .ok (.agg #[.int .i64 0, .int .i64 0]) w := fun _ => by kernel_rfl
theorem flat_take (ps : List (Int × Int)) (k : Nat) : (flatP ps).take (k * 2) = flatP (ps.take k) := by
  have e : flatP ps = flatP (ps.take k) ++ flatP (ps.drop k) := by rw [← flatP_app, List.take_append_drop]
  by_cases hk : k ≤ ps.length
  · rw [e, List.take_append_of_le_length (by rw [flatP_len]; simp; omega), List.take_of_length_le (by rw [flatP_len]; simp; omega)]
  · rw [List.take_of_length_le (by rw [flatP_len]; omega), List.take_of_length_le (by omega)]
theorem flat_drop (ps : List (Int × Int)) (k : Nat) : (flatP ps).drop (k * 2) = flatP (ps.drop k) := by
  have e : flatP ps = (flatP ps).take (k * 2) ++ (flatP ps).drop (k * 2) := (List.take_append_drop _ _).symm
  have e2 : flatP ps = flatP (ps.take k) ++ flatP (ps.drop k) := by rw [← flatP_app, List.take_append_drop]
  rw [flat_take] at e
  exact List.append_cancel_left (e.symm.trans e2)

/-- What the whole block holds after one element was taken out. -/
theorem erase_all {all : List Value} {ps : List (Int × Int)} {i c : Nat} (hi : i < ps.length) (hc : ps.length ≤ c) (hl : all.length = c * 2) (ht : all.take (ps.length * 2) = flatP ps) (zs : List Value) (hz : zs.length = 2) :
    let a1 := all.take (i * 2) ++ flatP (ps.drop (i + 1)) ++ all.drop (i * 2 + (flatP (ps.drop (i + 1))).length)
    let a2 := a1.take ((ps.length - 1) * 2) ++ zs ++ a1.drop ((ps.length - 1) * 2 + zs.length)
    a1.length = c * 2 ∧ a2.length = c * 2 ∧ a2.take ((ps.length - 1) * 2) = flatP (ps.eraseIdx i) := by
  intro a1 a2
  have hfl : (flatP (ps.drop (i + 1))).length = (ps.length - (i + 1)) * 2 := by rw [flatP_len]; simp
  have h1 : a1.length = c * 2 := by
    simp only [a1, List.length_append, List.length_take, List.length_drop, hfl, hl]; omega
  have h2 : a2.length = c * 2 := by
    simp only [a2, List.length_append, List.length_take, List.length_drop, h1, hz]; omega
  refine ⟨h1, h2, ?_⟩
  have e1 : a2.take ((ps.length - 1) * 2) = a1.take ((ps.length - 1) * 2) := by
    simp only [a2, List.append_assoc]
    rw [List.take_append_of_le_length (by simp only [List.length_take, h1]; omega), List.take_take, Nat.min_self]
  have e2 : all.take (i * 2) = flatP (ps.take i) := by
    have : all.take (i * 2) = (all.take (ps.length * 2)).take (i * 2) := by rw [List.take_take, Nat.min_eq_left (by omega)]
    rw [this, ht, flat_take]
  rw [e1]
  simp only [a1]
  rw [e2, ← flatP_app]
  have hle : (flatP (ps.take i ++ ps.drop (i + 1))).length = (ps.length - 1) * 2 := by rw [flatP_len]; simp; omega
  rw [List.take_append_of_le_length (by omega), List.take_of_length_le (by omega), List.eraseIdx_eq_take_drop_succ]

/-- What Delete leaves. -/
def Dels (w : World) (lo hi g c : Nat) (ps : List (Int × Int)) (e : Ending) (w' : World) : Prop :=
  e = .returned (.slice (some ⟨g, 0, none⟩) ps.length c) ∧ OwnP w' lo hi (some ⟨g, 0, none⟩) c ps ∧ Kp (At g) w w'
set_option maxHeartbeats 4000000 in
theorem delete_any (g c lo hi i : Nat) (ps : List (Int × Int)) (w : World) (h : OwnP w lo hi (some ⟨g, 0, none⟩) c ps) (hi' : i < ps.length) (hs : ps.length ≤ 4000000) :
    Calls Try.prog 37 #[.slice (some ⟨g, 0, none⟩) ps.length c, .int .i64 i, .int .i64 ((i : Int) + 1)] w (Dels w lo hi g c (ps.eraseIdx i)) := by
  obtain ⟨i0, hi0, hz0, hz1, hz2⟩ := info_parts pair_info
  obtain ⟨all, hF, hl, ht, hnc, hcm, hg1, hg2, hg3⟩ := Full.of_own h
  obtain ⟨m, hm⟩ : ∃ m, ps.length = i + 1 + m := ⟨ps.length - (i + 1), by omega⟩
  have hA := erase_all (zs := [.int .i64 0, .int .i64 0]) hi' hnc hl ht rfl
  have hsrc : ∀ j u, (flatP (ps.drop (i + 1)))[j]? = some u → w.cell? ((⟨g, (i + 1) * 2, none⟩ : Addr).add j) = some u := by
    intro j u hu
    rw [add_at]
    refine hF.cell ?_
    have e : all[(i + 1) * 2 + j]? = (all.take (ps.length * 2))[(i + 1) * 2 + j]? := by
      have : j < (flatP (ps.drop (i + 1))).length := (List.getElem?_eq_some_iff.1 hu).1
      rw [flatP_len] at this
      simp at this
      rw [List.getElem?_take, if_pos (by omega)]
    rw [e, ht, ← List.getElem?_drop, flat_drop]; exact hu
  have hr1 := fun ty => run_append_in (P := Try.prog) w.drew 25 ty 33 i0 2 Try.underlying25 hi0 hz1 g i c m (c - (i + 1)) ⟨g, (i + 1) * 2, none⟩ all (flatP (ps.drop (i + 1))) hF hl (by rw [flatP_len]; simp; omega) hsrc (flatP_one _) (by omega)
  have hr0 : ∀ ty, c = i + 1 → (Builtin.append_ #[25, 25] ty #[.slice (some ⟨g, 0, none⟩) i c, .slice (some ⟨g, 0, none⟩) 0 0]).run Try.prog w.drew = .ok (.slice (some ⟨g, 0, none⟩) (i + 0) c) (w.drew.setRow g (all.take (i * 2) ++ flatP (ps.drop (i + 1)) ++ all.drop (i * 2 + (flatP (ps.drop (i + 1))).length)).toArray) := by
    intro ty hc
    have hnil : ps.drop (i + 1) = [] := List.drop_of_length_le (by omega)
    rw [hnil]
    exact run_append_in (P := Try.prog) w.drew 25 ty 33 i0 2 Try.underlying25 hi0 hz1 g i c 0 0 ⟨g, 0, none⟩ all (flatP []) hF hl rfl (fun j u hu => by simp [flatP] at hu) (by simp [flatP]) (by omega)
  obtain ⟨a1, ha1⟩ : ∃ a1, a1 = all.take (i * 2) ++ flatP (ps.drop (i + 1)) ++ all.drop (i * 2 + (flatP (ps.drop (i + 1))).length) := ⟨_, rfl⟩
  rw [← ha1] at hr1
  rw [← ha1] at hr0
  have hF1 : Full (w.drew.setRow g a1.toArray) g 33 a1 := Full.set hF.drew a1
  simp only [← ha1] at hA
  obtain ⟨hA1, hA2, hA3⟩ := hA
  have hr2 := fun ty => run_clear_in (P := Try.prog) (w.drew.setRow g a1.toArray) 25 ty 33 (.agg #[.int .i64 0, .int .i64 0]) [.int .i64 0, .int .i64 0] Try.underlying25 zero_pair g ((i + m) * 2) 1 (c - (i + m)) (by omega) a1 hF1 (by kernel_rfl) (by intro u hu; simp at hu; subst hu; rfl) (by simp only [List.length_cons, List.length_nil, hA1]; omega)
  have e2 : (ps.length - 1) * 2 = (i + m) * 2 := by omega
  rw [e2] at hA2 hA3
  obtain ⟨a2, ha2⟩ : ∃ a2, a2 = a1.take ((i + m) * 2) ++ [Value.int .i64 0, Value.int .i64 0] ++ a1.drop ((i + m) * 2 + [Value.int .i64 0, Value.int .i64 0].length) := ⟨_, rfl⟩
  rw [← ha2] at hr2
  rw [← ha2] at hA2 hA3
  have hF2 : Full ((w.drew.setRow g a1.toArray).setRow g a2.toArray) g 33 a2 := Full.set hF1 a2
  have kE : Kp (At g) w ((w.drew.setRow g a1.toArray).setRow g a2.toArray) := (((Kp.refl (At g) w).drew).trans (Kp.setRow _ g _)).trans (Kp.setRow _ g _)
  have hO : OwnP ((w.drew.setRow g a1.toArray).setRow g a2.toArray) lo hi (some ⟨g, 0, none⟩) c (ps.eraseIdx i) := by
    have hel : (ps.eraseIdx i).length = i + m := by rw [List.length_eraseIdx, if_pos hi']; omega
    have := Own.of_full (sz := 2) (n := i + m) (lo := lo) (hi := hi) hF2 hA2 (by omega) hcm hg1 hg2 (by rw [size_setRow, size_setRow]; exact hg3)
    rw [hA3] at this
    unfold OwnP
    rw [hel]; exact this
  have hel : (ps.eraseIdx i).length = i + m := by rw [List.length_eraseIdx, if_pos hi']; omega
  have HR1 := Lib.hid hr1; have HR0 := Lib.hid hr0; have HR2 := Lib.hid hr2; have HO := Lib.hid hO; have HM := Lib.hid hm; have HEL := Lib.hid hel
  unfold maxLen at hcm
  clear hF hz0 hz1 hz2 ht hsrc hl hi0 hr1 hr0 hr2 hF1 hF2 hA1 hA2 hA3 e2 ha1 ha2 hO hel
  have hcap : i + 1 + m ≤ c := by omega
  have hml : i + 1 + m ≤ 4000000 := by omega
  rw [HM.out]
  clear hm
  have h1 : (0 : Int) ≤ (i : Int) := by omega
  have h2 : (i : Int) ≤ (i : Int) + 1 + (m : Int) := by omega
  have h3 : (i : Int) + 1 ≤ (i : Int) + 1 + (m : Int) := by omega
  have h4 : (i : Int) + 1 + (m : Int) ≤ (c : Int) := by omega
  have h5 : (i : Int) + 1 ≤ (c : Int) := by omega
  have h6 : (i : Int) ≤ (c : Int) := by omega
  have hne : ((i : Int) == (i : Int) + 1) = false := beq_eq_false_iff_ne.2 (by omega)
  go_enter Try.func37, Try.ntmps37
  go_wp2_with fail
  by_cases hce : c = i + 1
  · obtain rfl : m = 0 := by omega
    have HR := Lib.hid (fun ty => HR0.out ty hce)
    clear HR0 HR1
    subst hce
    simp only [Nat.add_zero] at *
    have h11 : (0 : Int) ≤ (i : Int) + 1 := by omega
    have h12 : ((i : Int) + 1).toNat = i + 1 := by omega
    have h14 : ((i : Int) + 1) ≤ ((i : Int) + 1) := by omega
    have h15 : (i : Int) ≤ (i : Int) + 1 := by omega
    have h16 : i ≤ i + 1 := by omega
    go_region_held3 (fun _ => True) (exact trivial) ((refine step_app_run _ (by rfl) (.tmp 22) (.tmp 25) _ (by rfl) _ _ (by rfl) (by rfl) (HR.out _) ?_))
    have h9 : ¬ i + 1 = i := by omega
    have h10 : i + 1 - i = 1 := by omega
    have hclr := HR2.out
    simp only [h10] at hclr
    go_wp2_with fail
    go_ret
    exact ⟨by rw [HEL.out]; rfl, HO.out, kE⟩
  · have hce2 : ¬ i + 1 = c := fun e => hce e.symm
    have h11 : (0 : Int) ≤ (i : Int) + 1 := by omega
    have h12 : ((i : Int) + 1).toNat = i + 1 := by omega
    have h13 : i + 1 + m - (i + 1) = m := by omega
    go_region_held3 (fun _ => True) (exact trivial) ((refine step_app_run _ (by rfl) (.tmp 22) (.tmp 25) _ (by rfl) _ _ (by rfl) (by rfl) (HR1.out _) ?_))
    have h7 : (i : Int) + (m : Int) ≤ (i : Int) + 1 + (m : Int) := by omega
    have h8 : (0 : Int) ≤ (i : Int) + (m : Int) := by omega
    have h9 : ¬ c = i + m := by omega
    have h10 : i + 1 + m - (i + m) = 1 := by omega
    have hclr := HR2.out
    go_wp2_with fail
    go_ret
    exact ⟨by rw [HEL.out]; rfl, HO.out, kE⟩
end Go.Proofs.Yteabpdnlkncbpaa
