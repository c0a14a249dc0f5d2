/- slices.SortStableFunc with ScrubOrder's comparison, on at most twelve numbers. -/
import Derived.Test.YtelbcicdophagaaSortMath
import Derived.Test.YtelbcicdophagaaScrub
import Derived.WalkKit
import Derived.WalkSpells
import Derived.WalkLawsBesides
import Derived.Outline
import Derived.Deep.QuietTactic
import Derived.BigQuiet
import Derived.Deep.RegionHeld3
import Derived.Deep.RegionWith
namespace Go.Proofs.Ytelbcicdophagaa
open Go.RowKit
set_option linter.unusedVariables false

def cmpI (x y : Int) : Int := if x < y then -1 else if y < x then 1 else 0
theorem cmpI_lt {x y : Int} : decide (cmpI x y < 0) = decide (x < y) := by
  unfold cmpI
  rw [Bool.eq_iff_iff]
  simp only [decide_eq_true_eq]
  split
  · omega
  · split <;> omega

theorem isNaN_any (x : Int) (w : World) : Calls Try.prog 41 #[.int .i64 x] w fun e w' => e = .returned (.bool false) ∧ w' = w := by
  have hx : (x != x) = false := by simp
  go_enter Try.func41, Try.ntmps41
  go_wp2
  go_ret
  exact ⟨rfl, rfl⟩
theorem compare_any (x y : Int) (w : World) : Calls Try.prog 38 #[.int .i64 x, .int .i64 y] w fun e w' => e = .returned (.int .i64 (cmpI x y)) ∧ w' = w := by
  go_enter Try.func38, Try.ntmps38
  go_wp2_with fail
  refine (isNaN_any _ _).mono ?_
  rintro e w' ⟨rfl, rfl⟩
  go_wp2_with fail
  refine (isNaN_any _ _).mono ?_
  rintro e w' ⟨rfl, rfl⟩
  by_cases h1 : x < y
  · go_wp2_with fail
    go_ret
    exact ⟨ret_int (by simp [cmpI, h1]), rfl⟩
  · by_cases h2 : y < x
    · go_wp2_with fail
      go_ret
      exact ⟨ret_int (by simp [cmpI, h1, h2]), rfl⟩
    · go_wp2_with fail
      go_ret
      exact ⟨ret_int (by simp only [cmpI]; rw [if_neg (by omega), if_neg (by omega)]), rfl⟩

theorem cmpFn_any (B : Nat) (A : Option Addr) (xs : List Int) (c lo hi : Nat) (a b : Int) (w : World) (hB : w.cell? ⟨B, 0, none⟩ = some (.slice A xs.length c)) (h : Ints w lo hi A xs) (ha0 : 0 ≤ a) (ha1 : a < xs.length) (hb0 : 0 ≤ b) (hb1 : b < xs.length) :
    Calls Try.prog 37 #[.int .i64 a, .int .i64 b, .pointer (some ⟨B, 0, none⟩)] w fun e w' => e = .returned (.int .i64 (cmpI (rdOf xs b) (rdOf xs a))) ∧ ∃ m, w' = w.drewN m := by
  obtain ⟨a, rfl⟩ := Int.eq_ofNat_of_zero_le ha0
  obtain ⟨b, rfl⟩ := Int.eq_ofNat_of_zero_le hb0
  have ha : a < xs.length := by omega
  have hb : b < xs.length := by omega
  obtain ⟨g, off, x, rfl, _, _, hx, hc⟩ := h.at_ ha
  obtain ⟨g', off', y, hA, _, _, hy, hc'⟩ := h.at_ hb
  obtain ⟨rfl, rfl⟩ : g = g' ∧ off = off' := by injection hA with hA; injection hA with h1 h2; exact ⟨h1, h2⟩
  clear hA
  have Hx := Lib.hid (show rdOf xs (a : Int) = x by simp [rdOf, hx])
  have Hy := Lib.hid (show rdOf xs (b : Int) = y by simp [rdOf, hy])
  clear hx hy
  rw [Hx.out, Hy.out]
  go_enter Try.func37, Try.ntmps37
  go_wp2_with fail
  go_quiet ((go_at_call 38; exact Calls.quiet_of_same (compare_any _ _ _)))
  go_wp2_with fail
  go_ret
  exact ⟨rfl, _, rfl⟩

def OuterR (xs bs : List Int) (i : Nat) (d : List Int) : Prop := 1 ≤ i ∧ (i ≤ bs.length ∧ Outer xs bs i d ∨ bs.length = 0 ∧ d = [])
theorem OuterR.start (xs bs : List Int) : OuterR xs bs 1 bs := by
  refine ⟨Nat.le_refl _, ?_⟩
  rcases Nat.eq_zero_or_pos bs.length with h | h
  · exact .inr ⟨h, List.eq_nil_of_length_eq_zero h⟩
  · exact .inl ⟨h, Outer.one h⟩
theorem OuterR.full {xs bs d : List Int} {i : Nat} (h : OuterR xs bs i d) (hi : ¬ i < bs.length) : d.length = bs.length ∧ d.Pairwise (ltS xs) ∧ ∀ x, x ∈ d ↔ x ∈ bs := by
  rcases h.2 with ⟨h1, h2⟩ | ⟨h1, rfl⟩
  · exact ⟨h2.len h1, h2.full (by omega)⟩
  · have : bs = [] := List.eq_nil_of_length_eq_zero h1
    subst this; simp
theorem OuterR.inner {xs bs d : List Int} {i : Nat} (h : OuterR xs bs i d) (hi : i < bs.length) : Inner xs bs i i d := by
  rcases h.2 with ⟨h1, h2⟩ | ⟨h1, rfl⟩
  · exact h2.inner hi
  · omega
theorem Inner.outerR {xs bs d : List Int} {i j : Nat} (h : Inner xs bs i j d) (hasc : bs.Pairwise (· < ·)) (hi : i < bs.length) (hs : j = 0 ∨ ∃ j' e p, j = j' + 1 ∧ d[j' + 1]? = some e ∧ d[j']? = some p ∧ rdOf xs e ≤ rdOf xs p) : OuterR xs bs (i + 1) d :=
  ⟨by omega, .inl ⟨by omega, h.done hasc hs⟩⟩
theorem Inner.mem {xs bs d : List Int} {i j : Nat} (h : Inner xs bs i j d) {x : Int} (hx : x ∈ d) : x ∈ bs := by
  obtain ⟨e, P, Q, he, rfl, h1, h2, h3, h4, h5⟩ := h
  simp only [List.mem_append, List.mem_cons] at hx h4
  rcases hx with hx | rfl | hx | hx
  · exact List.mem_of_mem_take ((h4 x).1 (.inl hx))
  · exact List.mem_of_getElem? he
  · exact List.mem_of_mem_take ((h4 x).1 (.inr hx))
  · exact List.mem_of_mem_drop hx

/-- What the sort leaves. -/
def Sorts (xs bs : List Int) (A : Option Addr) (c lo hi : Nat) (w : World) (e : Ending) (w' : World) : Prop :=
  e = .returned (.tuple #[]) ∧ ∃ d, OwnI w' lo hi A c d ∧ d.length = bs.length ∧ d.Pairwise (ltS xs) ∧ (∀ x, x ∈ d ↔ x ∈ bs) ∧ Kp (Rg lo hi) w w'

set_option maxHeartbeats 4000000 in
theorem insSort_any (B : Nat) (Ar : Option Addr) (xs : List Int) (cr lor hir : Nat) (A : Option Addr) (bs : List Int) (c lo hi : Nat) (w : World) (hB : w.cell? ⟨B, 0, none⟩ = some (.slice Ar xs.length cr)) (hBl : B < lo) (hr : Ints w lor hir Ar xs) (hrl : hir ≤ lo)
    (ho : OwnI w lo hi A c bs) (hmem : ∀ b ∈ bs, 0 ≤ b ∧ b < xs.length) (hasc : bs.Pairwise (· < ·)) (hlen : bs.length ≤ 12) :
    Calls Try.prog 42 #[.slice A bs.length c, .int .i64 0, .int .i64 bs.length, .func (.func 37) #[] #[.pointer (some ⟨B, 0, none⟩)]] w (Sorts xs bs A c lo hi w) := by
  have hBw : B < w.heap.size := World.block_lt_of_cell? w _ hB
  have Hmem := Lib.hid hmem; clear hmem
  have Hasc := Lib.hid hasc; clear hasc
  go_enter Try.func42, Try.ntmps42
  go_wp2_with fail
  go_loopw [8] (fun v wr => ∃ (i : Nat) (d : List Int), v = .int .i64 i ∧ i ≤ 13 ∧ OuterR xs bs i d ∧ OwnI wr lo hi A c d ∧ d.length = bs.length ∧ Kp (Rg lo hi) w wr) (fun v _ => 13 - (intOf v).toNat)
  case atStart => exact ⟨1, bs, rfl, by omega, OuterR.start _ _, ho, rfl, Kp.refl _ _⟩
  case round =>
    obtain ⟨i, d, rfl, hi13, hO, ho1, hdl, hk⟩ := hrel
    have HO := Lib.hid hO; clear hO
    by_cases hil : i < bs.length
    · have hI := HO.out.inner hil
      go_wp2_with fail
      go_loopw [9] (fun v wr => ∃ (j : Nat) (d : List Int), v = .int .i64 j ∧ j ≤ i ∧ Inner xs bs i j d ∧ OwnI wr lo hi A c d ∧ d.length = bs.length ∧ Kp (Rg lo hi) w wr) (fun v _ => (intOf v).toNat)
      case atStart => exact ⟨i, d, rfl, Nat.le_refl _, hI, ho1, hdl, hk⟩
      case round =>
        clear hI HO ho1 hdl hk
        obtain ⟨j, d2, rfl, hji, hI, ho2, hdl2, hk2⟩ := hrel
        have HI := Lib.hid hI; clear hI
        have Hdl := Lib.hid hdl2; clear hdl2
        by_cases hj : 0 < j
        · obtain ⟨jp, rfl⟩ : ∃ jp, j = jp + 1 := ⟨j - 1, by omega⟩
          have hj1 : jp + 1 < d2.length := by rw [Hdl.out]; omega
          have hj0 : jp < d2.length := by omega
          obtain ⟨g, p, rfl, hg1, hg2, hp, hcp, hfp⟩ := ho2.at_ hj0
          obtain ⟨g', e, hA, _, _, he, hce, hfe⟩ := ho2.at_ hj1
          obtain rfl : g = g' := by injection hA with hA; injection hA
          obtain ⟨p0, p1⟩ := Hmem.out p (HI.out.mem (List.mem_of_getElem? hp))
          obtain ⟨e0, e1⟩ := Hmem.out e (HI.out.mem (List.mem_of_getElem? he))
          have Hp := Lib.hid hp; have He := Lib.hid he
          clear hp he hA
          have hBr : wr.cell? ⟨B, 0, none⟩ = some (.slice Ar xs.length cr) := (hk2.cell (p := ⟨B, 0, none⟩) hBw (fun e => by have := e.1; simp at this; omega)).trans hB
          have hrr := hr.keep hk2 (fun i _ hi e => by have := e.1; omega)
          have hcm := fun W (k : Kp No wr W) => cmpFn_any B Ar xs cr lor hir e p W ((k.cell (p := ⟨B, 0, none⟩) (Nat.lt_of_lt_of_le hBw hk2.size) (fun e => e)).trans hBr) (hrr.keepNo k) e0 e1 p0 p1
          have hw : IntKind.i64.wrap (jp : Int) = (jp : Int) := IntWalk.i64_in _ (by omega)
          have hgd : decide ((0 : Int) < (jp : Int) + 1) = true := decide_eq_true (by omega)
          have hjl : jp < bs.length := by omega
          have hjl1 : jp + 1 < bs.length := by omega
          clear hBr hrr
          by_cases hlt : rdOf xs p < rdOf xs e
          · have hd : decide (cmpI (rdOf xs p) (rdOf xs e) < 0) = true := by rw [cmpI_lt]; simpa using hlt
            have hI' := Lib.hid (HI.out.step He.out Hp.out hlt)
            clear hlt
            go_wp2_with fail
            go_quiet ((go_at_call 37; refine Calls.quiet_of (hcm _ ((Kp.refl _ _).drewN _))))
            go_wp2_with fail
            go_region
            go_wp2_with fail
            go_roundw
            case rel =>
              have o3 := ((ho2.keepNo ((Kp.refl No wr).drewN (nq + 1))).set_ (jp + 1) p).set_ jp e
              exact ⟨jp, _, rfl, by omega, hI'.out, o3, by simpa using Hdl.out, ((hk2.drewN _).setCell (fun _ => ⟨hg1, hg2⟩) _).setCell (fun _ => ⟨hg1, hg2⟩) _⟩
            case measure => simp [intOf]
          · have hd : decide (cmpI (rdOf xs p) (rdOf xs e) < 0) = false := by rw [cmpI_lt]; simpa using hlt
            have hO' := Lib.hid (HI.out.outerR Hasc.out hil (.inr ⟨jp, e, p, rfl, He.out, Hp.out, by omega⟩))
            clear hlt
            go_wp2_with fail
            go_quiet ((go_at_call 37; refine Calls.quiet_of (hcm _ ((Kp.refl _ _).drewN _))))
            go_wp2_with fail
            go_roundw
            case rel => exact ⟨i + 1, d2, by go_num, by omega, hO'.out, ho2.keepNo ((Kp.refl _ _).drewN _), Hdl.out, hk2.drewN _⟩
            case measure => simp [intOf]; omega
        · obtain rfl : j = 0 := by omega
          have hO' := Lib.hid (HI.out.outerR Hasc.out hil (.inl rfl))
          go_wp2_with fail
          go_quiet (fail)
          go_wp2_with fail
          go_roundw
          case rel => exact ⟨i + 1, d2, by go_num, by omega, hO'.out, ho2.keepNo ((Kp.refl _ _).drewN _), Hdl.out, hk2.drewN _⟩
          case measure => simp [intOf]; omega
    · have hF := Lib.hid (HO.out.full hil)
      go_wp2_with fail
      refine bodyPost_ret (v := .tuple #[]) (by simp [results, go_sem]) rfl ⟨rfl, d, ho1, hdl, hF.out.2.1, hF.out.2.2, hk⟩
end Go.Proofs.Ytelbcicdophagaa
