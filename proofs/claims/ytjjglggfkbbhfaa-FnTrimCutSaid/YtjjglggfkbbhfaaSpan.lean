/- SpanValid and SpansValid, of the program and of the reference: one Lean function for both; the exact laws' walks. -/
import Derived.Test.YtjjglggfkbbhfaaPairs
import Derived.WalkKit
import Derived.WalkSpells
import Derived.WalkLawsBesides
import Derived.Outline
import Derived.Deep.QuietTactic
import Derived.BigQuiet
import Derived.Test.YtjjglggfkbbhfaaRegion
namespace Go.Proofs.Ytjjglggfkbbhfaa
open Go.RowKit
set_option linter.unusedVariables false

def spanB (x y : Int) : Bool := inB y 1 60 && (decide (0 ≤ x) && decide (x < y))
theorem spanB_true {x y : Int} (h : 1 ≤ y ∧ y ≤ 60 ∧ 0 ≤ x ∧ x < y) : spanB x y = true := by simp [spanB, inB]; omega
theorem spanB_false {x y : Int} (h : ¬ (1 ≤ y ∧ y ≤ 60 ∧ 0 ≤ x ∧ x < y)) : spanB x y = false := by
  cases hb : spanB x y with
  | false => rfl
  | true => simp [spanB, inB] at hb; omega
theorem spanB_iff {x y : Int} : spanB x y = true ↔ 1 ≤ y ∧ y ≤ 60 ∧ 0 ≤ x ∧ x < y := by simp [spanB, inB]; omega

theorem spanValid_impl (x y : Int) (w : World) : Calls Try.prog 17 #[.agg #[.int .i64 x, .int .i64 y]] w
    fun e w' => e = .returned (.bool (spanB x y)) ∧ Kp No w w' := by
  go_enter Try.func17, Try.ntmps17
  by_cases h : 1 ≤ y ∧ y ≤ 60 ∧ 0 ≤ x ∧ x < y
  · have H := Lib.hid (spanB_true h)
    obtain ⟨h1, h2, h3, h4⟩ := h
    go_wp2
    go_ret
    exact ⟨ret_bool (by rw [H.out]), (Kp.refl _ _).alloc _⟩
  · have H := Lib.hid (spanB_false h)
    have h' : y < 1 ∨ 60 < y ∨ x < 0 ∨ y ≤ x := by omega
    clear h
    go_wp2
    all_goals go_ret
    all_goals exact ⟨ret_bool (by rw [H.out]; try (simp; omega)), (Kp.refl _ _).alloc _⟩

theorem spanValid_spec (x y : Int) (w : World) : Calls Try.prog 15 #[.agg #[.int .i64 x, .int .i64 y]] w
    fun e w' => e = .returned (.bool (spanB x y)) ∧ Kp No w w' := by
  go_enter Try.func15, Try.ntmps15
  go_wp2_with fail
  refine (l1In_any _ _ _ _).mono ?_
  rintro e w' ⟨rfl, rfl⟩
  cases hb : inB y 1 60
  · go_wp2_with fail
    go_ret
    exact ⟨ret_bool (by simp [spanB, hb]), (Kp.refl _ _).alloc _⟩
  · have hy : 1 ≤ y ∧ y ≤ 60 := by simpa [inB] using hb
    obtain ⟨hy1, hy2⟩ := hy
    go_wp2_with fail
    refine (l1In_any _ _ _ _).mono ?_
    rintro e w' ⟨rfl, rfl⟩
    go_wp2_with fail
    go_ret
    refine ⟨ret_bool ?_, (Kp.refl _ _).alloc _⟩
    rw [spanB, hb, Bool.true_and, inB]
    rw [Bool.eq_iff_iff]; simp; omega

/-- The span at k is valid, and behind the one before it. -/
def okAt (ps : List (Int × Int)) (k : Nat) : Bool := match ps[k]? with
  | some q => spanB q.1 q.2 && (match k with | 0 => true | j + 1 => match ps[j]? with | some p => decide (p.2 < q.1) | none => true)
  | none => true
def spansB (ps : List (Int × Int)) : Bool := decide (ps.length ≤ 10) && (List.range ps.length).all (okAt ps)
theorem okAt_zero {ps : List (Int × Int)} {x y : Int} (h : ps[0]? = some (x, y)) : okAt ps 0 = spanB x y := by simp [okAt, h]
theorem okAt_succ {ps : List (Int × Int)} {k : Nat} {x y x' y' : Int} (h : ps[k + 1]? = some (x, y)) (h' : ps[k]? = some (x', y')) : okAt ps (k + 1) = (spanB x y && decide (y' < x)) := by simp [okAt, h, h']
theorem okAt_bad {ps : List (Int × Int)} {k : Nat} {x y : Int} (h : ps[k]? = some (x, y)) (hb : spanB x y = false) : okAt ps k = false := by simp [okAt, h, hb]
def UptoN (f : Nat → Bool) (k : Nat) : Prop := ∀ j, j < k → f j = true
theorem UptoN.zero (f : Nat → Bool) : UptoN f 0 := fun j hj => absurd hj (by omega)
theorem UptoN.succ {f : Nat → Bool} {k : Nat} (h : UptoN f k) (hk : f k = true) : UptoN f (k + 1) := fun j hj => by
  by_cases e : j = k
  · rw [e]; exact hk
  · exact h j (by omega)
theorem UptoN.all {f : Nat → Bool} {k : Nat} (h : UptoN f k) : (List.range k).all f = true := by
  rw [List.all_eq_true]; intro j hj; exact h j (by simpa using hj)
theorem all_range_not {f : Nat → Bool} {n k : Nat} (hk : k < n) (h : f k = false) : (List.range n).all f = false := by
  rw [List.all_eq_false]; exact ⟨k, by simpa using hk, by simp [h]⟩
theorem spansB_not {ps : List (Int × Int)} {k : Nat} (hk : k < ps.length) (h : okAt ps k = false) : spansB ps = false := by simp [spansB, all_range_not hk h]
theorem spansB_long {ps : List (Int × Int)} (h : ¬ ps.length ≤ 10) : spansB ps = false := by simp [spansB, h]

set_option maxHeartbeats 2000000 in
theorem spansValid_impl (A : Option Addr) (ps : List (Int × Int)) (c lo hi : Nat) (w : World) (h : Prs w lo hi A ps) (hs : ps.length ≤ 4000000) : Calls Try.prog 23 #[.slice A ps.length c] w
    fun e w' => e = .returned (.bool (spansB ps)) ∧ Kp No w w' := by
  go_enter Try.func23, Try.ntmps23
  by_cases hl : ps.length ≤ 10
  · go_wp2_with fail
    go_loopw [10] (fun i wr => ∃ k : Nat, k ≤ ps.length ∧ i = .int .i64 k ∧ UptoN (okAt ps) k ∧ Kp No w wr) (fun i _ => ps.length - (intOf i).toNat)
    case atStart => exact ⟨0, Nat.zero_le _, rfl, UptoN.zero _, Kp.refl _ _⟩
    case round =>
      obtain ⟨k, hk, rfl, hall, hkp⟩ := hrel
      by_cases hlt : k < ps.length
      · obtain ⟨b, off, x, y, rfl, hb1, hb2, hx, hc, hc2⟩ := (h.keepNo hkp).at_ hlt
        have Hx := Lib.hid hx; clear hx
        go_wp2_with fail
        refine (spanValid_impl _ _ _).mono ?_
        rintro e w2 ⟨rfl, k2⟩
        have hsz : wr.heap.size < w2.heap.size := by have := k2.size; simp at this; omega
        have c0 : w2.cell? ⟨wr.heap.size, 0, none⟩ = some (.int .i64 x) := (k2.cell (p := ⟨wr.heap.size, 0, none⟩) (by simp) (fun e => e)).trans (by simp)
        have k2' : Kp No w w2 := (hkp.alloc _).trans k2
        cases hsp : spanB x y
        · have Hbad := Lib.hid (spansB_not hlt (okAt_bad Hx.out hsp))
          go_wp2_with fail
          go_ret
          exact ⟨ret_bool Hbad.out.symm, k2'⟩
        · rcases k with _ | j
          · have hok := okAt_zero Hx.out
            rw [hsp] at hok
            have Hok := Lib.hid hok
            have hd : decide ((0 : Int) < ((0 : Nat) : Int)) = false := by simp
            clear hok
            go_wp2_with fail
            go_quiet (fail)
            go_wp2_with fail
            go_roundw
            case rel => exact ⟨1, by omega, by go_num, hall.succ Hok.out, k2'.drewN _⟩
            case measure => simp [intOf]; omega
          · obtain ⟨b', off', x', y', hA, _, _, hx', _, hc2'⟩ := (h.keepNo k2').at_ (k := j) (by omega)
            obtain ⟨rfl, rfl⟩ : b = b' ∧ off = off' := by injection hA with hA; injection hA with h1 h2; exact ⟨h1, h2⟩
            have hok := okAt_succ Hx.out hx'
            rw [hsp, Bool.true_and] at hok
            have Hok := Lib.hid hok
            clear hok hx' hA
            have hj : decide ((0 : Int) < ((j + 1 : Nat) : Int)) = true := by simp
            by_cases hlt2 : y' < x
            · go_wp2_with fail
              go_quiet (fail)
              go_wp2_with fail
              go_roundw
              case rel => exact ⟨j + 1 + 1, by omega, by go_num, hall.succ (by rw [Hok.out]; simpa using hlt2), k2'.drewN _⟩
              case measure => simp [intOf]; omega
            · have Hbad := Lib.hid (spansB_not hlt (by rw [Hok.out]; simpa using hlt2))
              go_wp2_with fail
              go_quiet (fail)
              go_wp2_with fail
              go_ret
              exact ⟨ret_bool Hbad.out.symm, k2'.drewN _⟩
      · go_wp2_with fail
        go_ret
        obtain rfl : k = ps.length := by omega
        exact ⟨ret_bool (by simp [spansB, hall.all, hl]), hkp⟩
  · have Hbad := Lib.hid (spansB_long hl)
    go_wp2_with fail
    go_ret
    exact ⟨ret_bool Hbad.out.symm, Kp.refl _ _⟩

set_option maxHeartbeats 2000000 in
theorem spansValid_spec (A : Option Addr) (ps : List (Int × Int)) (c lo hi : Nat) (w : World) (h : Prs w lo hi A ps) (hs : ps.length ≤ 4000000) : Calls Try.prog 21 #[.slice A ps.length c] w
    fun e w' => e = .returned (.bool (spansB ps)) ∧ Kp No w w' := by
  go_enter Try.func21, Try.ntmps21
  go_wp2_with fail
  go_loopw [3] (fun i wr => ∃ k : Nat, k ≤ ps.length ∧ i = .int .i64 k ∧ UptoN (okAt ps) k ∧ Kp No w wr) (fun i _ => ps.length - (intOf i).toNat)
  case atStart => exact ⟨0, Nat.zero_le _, rfl, UptoN.zero _, Kp.refl _ _⟩
  case round =>
    obtain ⟨k, hk, rfl, hall, hkp⟩ := hrel
    by_cases hlt : k < ps.length
    · obtain ⟨b, off, x, y, rfl, hb1, hb2, hx, hc, hc2⟩ := (h.keepNo hkp).at_ hlt
      have Hx := Lib.hid hx; clear hx
      have hbs : b < wr.heap.size := Nat.lt_of_lt_of_le hb2 (h.keepNo hkp).2.1
            --BEGIN
      cases hsp : spanB x y
      · have Hbad := Lib.hid (spansB_not hlt (okAt_bad Hx.out hsp))
        go_wp2_with fail
        refine wp_region_facts [10, 11, 12, 13, 14, 15, 16, 17, 18, 19, 20, 21, 22, 23, 24, 25, 26, 27, 28, 29, 30, 31, 32, 33] (Kp No) (fun _ wx => Kp No wr wx) (fun i v _ => v = ([.slice (some ⟨b, off, none⟩) ps.length c, .int .i64 (k : Int), .pointer (some ⟨b, off + k * 2, none⟩), .agg #[.int .i64 x, .int .i64 y], .bool false, .bool true, .bool true, undef, undef, undef, undef, undef, undef, undef, undef, undef, undef, undef, undef, undef, undef, undef, undef, .bool true] : List Value).getD i undef) (by kernel_rfl) (by kernel_rfl) (by kernel_rfl) (by simp) (fun _ _ _ _ _ hF => hF) (Kp.refl _ _).drew ?steps ?fin
        case steps =>
          refine ⟨?s0, ?s1, ?s2, ?s3, ?s4, ?s5, ?s6, ?s7, ?s8, ?s9, ?s10, ?s11, ?s12, ?s13, ?s14, ?s15, ?s16, ?s17, ?s18, ?s19, ?s20, ?s21, ?s22, ?s23, trivial⟩
          case s0 =>
            intro L s fr wx hin hout hL hG haft K hK
            have o0 := hout 0 (by simp)
            simp at o0
            clear haft hin hout
            go_simp
            exact hK 10 rfl _ _ (Kp.refl _ _) hG rfl
          case s1 =>
            intro L s fr wx hin hout hL hG haft K hK
            have o3 := hout 3 (by simp)
            simp at o3
            clear haft hin hout
            go_simp
            exact hK 11 rfl _ _ (Kp.refl _ _) hG rfl
          case s2 =>
            intro L s fr wx hin hout hL hG haft K hK
            have g10 : fr[10]? = some (.slice (some ⟨b, off, none⟩) ps.length c) := (hin 10 (by simp)).trans (congrArg some (haft ⟨0, .data⟩ (by simp) rfl).2)
            have g11 : fr[11]? = some (.int .i64 (k : Int)) := (hin 11 (by simp)).trans (congrArg some (haft ⟨1, .data⟩ (by simp) rfl).2)
            clear haft hin hout
            go_simp
            exact hK 12 rfl _ _ (Kp.refl _ _) hG rfl
          case s3 =>
            intro L s fr wx hin hout hL hG haft K hK
            have g12 : fr[12]? = some (.pointer (some ⟨b, off + k * 2, none⟩)) := (hin 12 (by simp)).trans (congrArg some (haft ⟨2, .data⟩ (by simp) rfl).2)
            have c3_0 := (hG.cell (p := ⟨b, off + k * 2, none⟩) hbs (fun e => e)).trans hc
            have c3_1 := (hG.cell (p := ⟨b, off + k * 2 + 1, none⟩) hbs (fun e => e)).trans hc2
            clear haft hin hout
            go_simp
            exact hK 13 rfl _ _ (Kp.refl _ _) hG rfl
          case s4 =>
            intro L s fr wx hin hout hL hG haft K hK
            have g13 : fr[13]? = some (.agg #[.int .i64 x, .int .i64 y]) := (hin 13 (by simp)).trans (congrArg some (haft ⟨3, .data⟩ (by simp) rfl).2)
            clear haft hin hout
            go_simp
            refine (spanValid_spec _ _ _).mono ?_
            rintro e w2 ⟨rfl, k2⟩
            exact hK 14 rfl _ _ k2 (hG.trans k2) (show Value.bool (spanB x y) = _ by rw [hsp]; rfl)
          case s5 =>
            intro L s fr wx hin hout hL hG haft K hK
            have g14 : fr[14]? = some (.bool false) := (hin 14 (by simp)).trans (congrArg some (haft ⟨4, .data⟩ (by simp) rfl).2)
            clear haft hin hout
            go_simp
            exact hK 15 rfl _ _ (Kp.refl _ _) hG rfl
          case s6 =>
            intro L s fr wx hin hout hL hG haft K hK
            have g15 : fr[15]? = some (.bool true) := (hin 15 (by simp)).trans (congrArg some (haft ⟨5, .data⟩ (by simp) rfl).2)
            clear haft hin hout
            go_simp
            exact hK 16 rfl _ _ (Kp.refl _ _) hG rfl
          case s7 =>
            intro L s fr wx hin hout hL hG haft K hK
            have g16 : fr[16]? = some (.bool true) := (hin 16 (by simp)).trans (congrArg some (haft ⟨6, .guard⟩ (by simp) rfl).2)
            clear haft hin hout
            go_simp
            exact hK 17 rfl _ _ (Kp.refl _ _) hG rfl
          case s8 =>
            intro L s fr wx hin hout hL hG haft K hK
            have g16 : fr[16]? = some (.bool true) := (hin 16 (by simp)).trans (congrArg some (haft ⟨6, .guard⟩ (by simp) rfl).2)
            clear haft hin hout
            go_simp
            exact hK 18 rfl _ _ (Kp.refl _ _) hG rfl
          case s9 =>
            intro L s fr wx hin hout hL hG haft K hK
            have g16 : fr[16]? = some (.bool true) := (hin 16 (by simp)).trans (congrArg some (haft ⟨6, .guard⟩ (by simp) rfl).2)
            clear haft hin hout
            go_simp
            exact hK 19 rfl _ _ (Kp.refl _ _) hG rfl
          case s10 =>
            intro L s fr wx hin hout hL hG haft K hK
            have g19 : fr[19]? = some (undef) := (hin 19 (by simp)).trans (congrArg some (haft ⟨9, .guard⟩ (by simp) rfl).2)
            clear haft hin hout
            go_simp
            exact hK 20 rfl _ _ (Kp.refl _ _) hG rfl
          case s11 =>
            intro L s fr wx hin hout hL hG haft K hK
            have g19 : fr[19]? = some (undef) := (hin 19 (by simp)).trans (congrArg some (haft ⟨9, .guard⟩ (by simp) rfl).2)
            clear haft hin hout
            go_simp
            exact hK 21 rfl _ _ (Kp.refl _ _) hG rfl
          case s12 =>
            intro L s fr wx hin hout hL hG haft K hK
            have g19 : fr[19]? = some (undef) := (hin 19 (by simp)).trans (congrArg some (haft ⟨9, .guard⟩ (by simp) rfl).2)
            clear haft hin hout
            go_simp
            exact hK 22 rfl _ _ (Kp.refl _ _) hG rfl
          case s13 =>
            intro L s fr wx hin hout hL hG haft K hK
            have g19 : fr[19]? = some (undef) := (hin 19 (by simp)).trans (congrArg some (haft ⟨9, .guard⟩ (by simp) rfl).2)
            clear haft hin hout
            go_simp
            exact hK 23 rfl _ _ (Kp.refl _ _) hG rfl
          case s14 =>
            intro L s fr wx hin hout hL hG haft K hK
            have g19 : fr[19]? = some (undef) := (hin 19 (by simp)).trans (congrArg some (haft ⟨9, .guard⟩ (by simp) rfl).2)
            clear haft hin hout
            go_simp
            exact hK 24 rfl _ _ (Kp.refl _ _) hG rfl
          case s15 =>
            intro L s fr wx hin hout hL hG haft K hK
            have g19 : fr[19]? = some (undef) := (hin 19 (by simp)).trans (congrArg some (haft ⟨9, .guard⟩ (by simp) rfl).2)
            clear haft hin hout
            go_simp
            exact hK 25 rfl _ _ (Kp.refl _ _) hG rfl
          case s16 =>
            intro L s fr wx hin hout hL hG haft K hK
            have g19 : fr[19]? = some (undef) := (hin 19 (by simp)).trans (congrArg some (haft ⟨9, .guard⟩ (by simp) rfl).2)
            clear haft hin hout
            go_simp
            exact hK 26 rfl _ _ (Kp.refl _ _) hG rfl
          case s17 =>
            intro L s fr wx hin hout hL hG haft K hK
            have g19 : fr[19]? = some (undef) := (hin 19 (by simp)).trans (congrArg some (haft ⟨9, .guard⟩ (by simp) rfl).2)
            clear haft hin hout
            go_simp
            exact hK 27 rfl _ _ (Kp.refl _ _) hG rfl
          case s18 =>
            intro L s fr wx hin hout hL hG haft K hK
            have g19 : fr[19]? = some (undef) := (hin 19 (by simp)).trans (congrArg some (haft ⟨9, .guard⟩ (by simp) rfl).2)
            clear haft hin hout
            go_simp
            exact hK 28 rfl _ _ (Kp.refl _ _) hG rfl
          case s19 =>
            intro L s fr wx hin hout hL hG haft K hK
            have g19 : fr[19]? = some (undef) := (hin 19 (by simp)).trans (congrArg some (haft ⟨9, .guard⟩ (by simp) rfl).2)
            clear haft hin hout
            go_simp
            exact hK 29 rfl _ _ (Kp.refl _ _) hG rfl
          case s20 =>
            intro L s fr wx hin hout hL hG haft K hK
            have g19 : fr[19]? = some (undef) := (hin 19 (by simp)).trans (congrArg some (haft ⟨9, .guard⟩ (by simp) rfl).2)
            clear haft hin hout
            go_simp
            exact hK 30 rfl _ _ (Kp.refl _ _) hG rfl
          case s21 =>
            intro L s fr wx hin hout hL hG haft K hK
            have g19 : fr[19]? = some (undef) := (hin 19 (by simp)).trans (congrArg some (haft ⟨9, .guard⟩ (by simp) rfl).2)
            clear haft hin hout
            go_simp
            exact hK 31 rfl _ _ (Kp.refl _ _) hG rfl
          case s22 =>
            intro L s fr wx hin hout hL hG haft K hK
            have g16 : fr[16]? = some (.bool true) := (hin 16 (by simp)).trans (congrArg some (haft ⟨6, .guard⟩ (by simp) rfl).2)
            clear haft hin hout
            go_simp
            exact hK 32 rfl _ _ (Kp.refl _ _) hG rfl
          case s23 =>
            intro L s fr wx hin hout hL hG haft K hK
            have g16 : fr[16]? = some (.bool true) := (hin 16 (by simp)).trans (congrArg some (haft ⟨6, .data⟩ (by simp) rfl).2)
            have g32 : fr[32]? = some (undef) := (hin 32 (by simp)).trans (congrArg some (haft ⟨22, .data⟩ (by simp) rfl).2)
            clear haft hin hout
            go_simp
            exact hK 33 rfl _ _ (Kp.refl _ _) hG rfl
        case fin =>
          intro L s wx hL hG hF
          have e0 : s 10 = .slice (some ⟨b, off, none⟩) ps.length c := hF 0 (by decide)
          have e1 : s 11 = .int .i64 (k : Int) := hF 1 (by decide)
          have e2 : s 12 = .pointer (some ⟨b, off + k * 2, none⟩) := hF 2 (by decide)
          have e3 : s 13 = .agg #[.int .i64 x, .int .i64 y] := hF 3 (by decide)
          have e4 : s 14 = .bool false := hF 4 (by decide)
          have e5 : s 15 = .bool true := hF 5 (by decide)
          have e6 : s 16 = .bool true := hF 6 (by decide)
          have e7 : s 17 = undef := hF 7 (by decide)
          have e8 : s 18 = undef := hF 8 (by decide)
          have e9 : s 19 = undef := hF 9 (by decide)
          have e10 : s 20 = undef := hF 10 (by decide)
          have e11 : s 21 = undef := hF 11 (by decide)
          have e12 : s 22 = undef := hF 12 (by decide)
          have e13 : s 23 = undef := hF 13 (by decide)
          have e14 : s 24 = undef := hF 14 (by decide)
          have e15 : s 25 = undef := hF 15 (by decide)
          have e16 : s 26 = undef := hF 16 (by decide)
          have e17 : s 27 = undef := hF 17 (by decide)
          have e18 : s 28 = undef := hF 18 (by decide)
          have e19 : s 29 = undef := hF 19 (by decide)
          have e20 : s 30 = undef := hF 20 (by decide)
          have e21 : s 31 = undef := hF 21 (by decide)
          have e22 : s 32 = undef := hF 22 (by decide)
          have e23 : s 33 = .bool true := hF 23 (by decide)
          simp only [frameOf, List.foldl, List.setIfInBounds_toArray, List.set_cons_succ, List.set_cons_zero]
          rw [e0, e1, e2, e3, e4, e5, e6, e7, e8, e9, e10, e11, e12, e13, e14, e15, e16, e17, e18, e19, e20, e21, e22, e23]
          clear e0 e1 e2 e3 e4 e5 e6 e7 e8 e9 e10 e11 e12 e13 e14 e15 e16 e17 e18 e19 e20 e21 e22 e23 hF hL
          go_wp2_with fail
          go_ret
          exact ⟨ret_bool Hbad.out.symm, hkp.trans hG⟩
      · rcases k with _ | j
        · have Hok := Lib.hid (show okAt ps 0 = true by rw [okAt_zero Hx.out, hsp])
          simp only [Nat.zero_mul, Nat.add_zero] at hc hc2
          go_wp2_with fail
          refine wp_region_facts [10, 11, 12, 13, 14, 15, 16, 17, 18, 19, 20, 21, 22, 23, 24, 25, 26, 27, 28, 29, 30, 31, 32, 33] (Kp No) (fun _ wx => Kp No wr wx) (fun i v _ => v = ([.slice (some ⟨b, off, none⟩) ps.length c, .int .i64 0, .pointer (some ⟨b, off, none⟩), .agg #[.int .i64 x, .int .i64 y], .bool true, .bool false, .bool false, .int .i64 0, .bool false, .bool false, undef, undef, undef, undef, undef, undef, undef, undef, undef, undef, undef, undef, .bool false, .bool false] : List Value).getD i undef) (by kernel_rfl) (by kernel_rfl) (by kernel_rfl) (by simp) (fun _ _ _ _ _ hF => hF) (Kp.refl _ _).drew ?steps ?fin
          case steps =>
            refine ⟨?s0, ?s1, ?s2, ?s3, ?s4, ?s5, ?s6, ?s7, ?s8, ?s9, ?s10, ?s11, ?s12, ?s13, ?s14, ?s15, ?s16, ?s17, ?s18, ?s19, ?s20, ?s21, ?s22, ?s23, trivial⟩
            case s0 =>
              intro L s fr wx hin hout hL hG haft K hK
              have o0 := hout 0 (by simp)
              simp at o0
              clear haft hin hout
              go_simp
              exact hK 10 rfl _ _ (Kp.refl _ _) hG rfl
            case s1 =>
              intro L s fr wx hin hout hL hG haft K hK
              have o3 := hout 3 (by simp)
              simp at o3
              clear haft hin hout
              go_simp
              exact hK 11 rfl _ _ (Kp.refl _ _) hG rfl
            case s2 =>
              intro L s fr wx hin hout hL hG haft K hK
              have g10 : fr[10]? = some (.slice (some ⟨b, off, none⟩) ps.length c) := (hin 10 (by simp)).trans (congrArg some (haft ⟨0, .data⟩ (by simp) rfl).2)
              have g11 : fr[11]? = some (.int .i64 0) := (hin 11 (by simp)).trans (congrArg some (haft ⟨1, .data⟩ (by simp) rfl).2)
              clear haft hin hout
              go_simp
              exact hK 12 rfl _ _ (Kp.refl _ _) hG rfl
            case s3 =>
              intro L s fr wx hin hout hL hG haft K hK
              have g12 : fr[12]? = some (.pointer (some ⟨b, off, none⟩)) := (hin 12 (by simp)).trans (congrArg some (haft ⟨2, .data⟩ (by simp) rfl).2)
              have c3_0 := (hG.cell (p := ⟨b, off, none⟩) hbs (fun e => e)).trans hc
              have c3_1 := (hG.cell (p := ⟨b, off + 1, none⟩) hbs (fun e => e)).trans hc2
              clear haft hin hout
              go_simp
              exact hK 13 rfl _ _ (Kp.refl _ _) hG rfl
            case s4 =>
              intro L s fr wx hin hout hL hG haft K hK
              have g13 : fr[13]? = some (.agg #[.int .i64 x, .int .i64 y]) := (hin 13 (by simp)).trans (congrArg some (haft ⟨3, .data⟩ (by simp) rfl).2)
              clear haft hin hout
              go_simp
              refine (spanValid_spec _ _ _).mono ?_
              rintro e w2 ⟨rfl, k2⟩
              exact hK 14 rfl _ _ k2 (hG.trans k2) (show Value.bool (spanB x y) = _ by rw [hsp]; rfl)
            case s5 =>
              intro L s fr wx hin hout hL hG haft K hK
              have g14 : fr[14]? = some (.bool true) := (hin 14 (by simp)).trans (congrArg some (haft ⟨4, .data⟩ (by simp) rfl).2)
              clear haft hin hout
              go_simp
              exact hK 15 rfl _ _ (Kp.refl _ _) hG rfl
            case s6 =>
              intro L s fr wx hin hout hL hG haft K hK
              have g15 : fr[15]? = some (.bool false) := (hin 15 (by simp)).trans (congrArg some (haft ⟨5, .data⟩ (by simp) rfl).2)
              clear haft hin hout
              go_simp
              exact hK 16 rfl _ _ (Kp.refl _ _) hG rfl
            case s7 =>
              intro L s fr wx hin hout hL hG haft K hK
              have g16 : fr[16]? = some (.bool false) := (hin 16 (by simp)).trans (congrArg some (haft ⟨6, .guard⟩ (by simp) rfl).2)
              have o3 := hout 3 (by simp)
              simp at o3
              clear haft hin hout
              go_simp
              exact hK 17 rfl _ _ (Kp.refl _ _) hG rfl
            case s8 =>
              intro L s fr wx hin hout hL hG haft K hK
              have g17 : fr[17]? = some (.int .i64 0) := (hin 17 (by simp)).trans (congrArg some (haft ⟨7, .data⟩ (by simp) rfl).2)
              have g16 : fr[16]? = some (.bool false) := (hin 16 (by simp)).trans (congrArg some (haft ⟨6, .guard⟩ (by simp) rfl).2)
              clear haft hin hout
              go_simp
              exact hK 18 rfl _ _ (Kp.refl _ _) hG rfl
            case s9 =>
              intro L s fr wx hin hout hL hG haft K hK
              have g18 : fr[18]? = some (.bool false) := (hin 18 (by simp)).trans (congrArg some (haft ⟨8, .data⟩ (by simp) rfl).2)
              have g16 : fr[16]? = some (.bool false) := (hin 16 (by simp)).trans (congrArg some (haft ⟨6, .guard⟩ (by simp) rfl).2)
              clear haft hin hout
              go_simp
              exact hK 19 rfl _ _ (Kp.refl _ _) hG rfl
            case s10 =>
              intro L s fr wx hin hout hL hG haft K hK
              have g19 : fr[19]? = some (.bool false) := (hin 19 (by simp)).trans (congrArg some (haft ⟨9, .guard⟩ (by simp) rfl).2)
              clear haft hin hout
              go_simp
              exact hK 20 rfl _ _ (Kp.refl _ _) hG rfl
            case s11 =>
              intro L s fr wx hin hout hL hG haft K hK
              have g19 : fr[19]? = some (.bool false) := (hin 19 (by simp)).trans (congrArg some (haft ⟨9, .guard⟩ (by simp) rfl).2)
              clear haft hin hout
              go_simp
              exact hK 21 rfl _ _ (Kp.refl _ _) hG rfl
            case s12 =>
              intro L s fr wx hin hout hL hG haft K hK
              have g19 : fr[19]? = some (.bool false) := (hin 19 (by simp)).trans (congrArg some (haft ⟨9, .guard⟩ (by simp) rfl).2)
              clear haft hin hout
              go_simp
              exact hK 22 rfl _ _ (Kp.refl _ _) hG rfl
            case s13 =>
              intro L s fr wx hin hout hL hG haft K hK
              have g19 : fr[19]? = some (.bool false) := (hin 19 (by simp)).trans (congrArg some (haft ⟨9, .guard⟩ (by simp) rfl).2)
              clear haft hin hout
              go_simp
              exact hK 23 rfl _ _ (Kp.refl _ _) hG rfl
            case s14 =>
              intro L s fr wx hin hout hL hG haft K hK
              have g19 : fr[19]? = some (.bool false) := (hin 19 (by simp)).trans (congrArg some (haft ⟨9, .guard⟩ (by simp) rfl).2)
              clear haft hin hout
              go_simp
              exact hK 24 rfl _ _ (Kp.refl _ _) hG rfl
            case s15 =>
              intro L s fr wx hin hout hL hG haft K hK
              have g19 : fr[19]? = some (.bool false) := (hin 19 (by simp)).trans (congrArg some (haft ⟨9, .guard⟩ (by simp) rfl).2)
              clear haft hin hout
              go_simp
              exact hK 25 rfl _ _ (Kp.refl _ _) hG rfl
            case s16 =>
              intro L s fr wx hin hout hL hG haft K hK
              have g19 : fr[19]? = some (.bool false) := (hin 19 (by simp)).trans (congrArg some (haft ⟨9, .guard⟩ (by simp) rfl).2)
              clear haft hin hout
              go_simp
              exact hK 26 rfl _ _ (Kp.refl _ _) hG rfl
            case s17 =>
              intro L s fr wx hin hout hL hG haft K hK
              have g19 : fr[19]? = some (.bool false) := (hin 19 (by simp)).trans (congrArg some (haft ⟨9, .guard⟩ (by simp) rfl).2)
              clear haft hin hout
              go_simp
              exact hK 27 rfl _ _ (Kp.refl _ _) hG rfl
            case s18 =>
              intro L s fr wx hin hout hL hG haft K hK
              have g19 : fr[19]? = some (.bool false) := (hin 19 (by simp)).trans (congrArg some (haft ⟨9, .guard⟩ (by simp) rfl).2)
              clear haft hin hout
              go_simp
              exact hK 28 rfl _ _ (Kp.refl _ _) hG rfl
            case s19 =>
              intro L s fr wx hin hout hL hG haft K hK
              have g19 : fr[19]? = some (.bool false) := (hin 19 (by simp)).trans (congrArg some (haft ⟨9, .guard⟩ (by simp) rfl).2)
              clear haft hin hout
              go_simp
              exact hK 29 rfl _ _ (Kp.refl _ _) hG rfl
            case s20 =>
              intro L s fr wx hin hout hL hG haft K hK
              have g19 : fr[19]? = some (.bool false) := (hin 19 (by simp)).trans (congrArg some (haft ⟨9, .guard⟩ (by simp) rfl).2)
              clear haft hin hout
              go_simp
              exact hK 30 rfl _ _ (Kp.refl _ _) hG rfl
            case s21 =>
              intro L s fr wx hin hout hL hG haft K hK
              have g19 : fr[19]? = some (.bool false) := (hin 19 (by simp)).trans (congrArg some (haft ⟨9, .guard⟩ (by simp) rfl).2)
              clear haft hin hout
              go_simp
              exact hK 31 rfl _ _ (Kp.refl _ _) hG rfl
            case s22 =>
              intro L s fr wx hin hout hL hG haft K hK
              have g19 : fr[19]? = some (.bool false) := (hin 19 (by simp)).trans (congrArg some (haft ⟨9, .data⟩ (by simp) rfl).2)
              have g31 : fr[31]? = some (undef) := (hin 31 (by simp)).trans (congrArg some (haft ⟨21, .data⟩ (by simp) rfl).2)
              have g16 : fr[16]? = some (.bool false) := (hin 16 (by simp)).trans (congrArg some (haft ⟨6, .guard⟩ (by simp) rfl).2)
              clear haft hin hout
              go_simp
              exact hK 32 rfl _ _ (Kp.refl _ _) hG rfl
            case s23 =>
              intro L s fr wx hin hout hL hG haft K hK
              have g16 : fr[16]? = some (.bool false) := (hin 16 (by simp)).trans (congrArg some (haft ⟨6, .data⟩ (by simp) rfl).2)
              have g32 : fr[32]? = some (.bool false) := (hin 32 (by simp)).trans (congrArg some (haft ⟨22, .data⟩ (by simp) rfl).2)
              clear haft hin hout
              go_simp
              exact hK 33 rfl _ _ (Kp.refl _ _) hG rfl
          case fin =>
            intro L s wx hL hG hF
            have e0 : s 10 = .slice (some ⟨b, off, none⟩) ps.length c := hF 0 (by decide)
            have e1 : s 11 = .int .i64 0 := hF 1 (by decide)
            have e2 : s 12 = .pointer (some ⟨b, off, none⟩) := hF 2 (by decide)
            have e3 : s 13 = .agg #[.int .i64 x, .int .i64 y] := hF 3 (by decide)
            have e4 : s 14 = .bool true := hF 4 (by decide)
            have e5 : s 15 = .bool false := hF 5 (by decide)
            have e6 : s 16 = .bool false := hF 6 (by decide)
            have e7 : s 17 = .int .i64 0 := hF 7 (by decide)
            have e8 : s 18 = .bool false := hF 8 (by decide)
            have e9 : s 19 = .bool false := hF 9 (by decide)
            have e10 : s 20 = undef := hF 10 (by decide)
            have e11 : s 21 = undef := hF 11 (by decide)
            have e12 : s 22 = undef := hF 12 (by decide)
            have e13 : s 23 = undef := hF 13 (by decide)
            have e14 : s 24 = undef := hF 14 (by decide)
            have e15 : s 25 = undef := hF 15 (by decide)
            have e16 : s 26 = undef := hF 16 (by decide)
            have e17 : s 27 = undef := hF 17 (by decide)
            have e18 : s 28 = undef := hF 18 (by decide)
            have e19 : s 29 = undef := hF 19 (by decide)
            have e20 : s 30 = undef := hF 20 (by decide)
            have e21 : s 31 = undef := hF 21 (by decide)
            have e22 : s 32 = .bool false := hF 22 (by decide)
            have e23 : s 33 = .bool false := hF 23 (by decide)
            simp only [frameOf, List.foldl, List.setIfInBounds_toArray, List.set_cons_succ, List.set_cons_zero]
            rw [e0, e1, e2, e3, e4, e5, e6, e7, e8, e9, e10, e11, e12, e13, e14, e15, e16, e17, e18, e19, e20, e21, e22, e23]
            clear e0 e1 e2 e3 e4 e5 e6 e7 e8 e9 e10 e11 e12 e13 e14 e15 e16 e17 e18 e19 e20 e21 e22 e23 hF hL
            go_wp2_with fail
            go_roundw
            case rel => exact ⟨1, by omega, by go_num, hall.succ Hok.out, hkp.trans hG⟩
            case measure => simp [intOf]; omega
        · obtain ⟨b', off', x', y', hA, _, _, hx', _, hc2'⟩ := (h.keepNo hkp).at_ (k := j) (by omega)
          obtain ⟨rfl, rfl⟩ : b = b' ∧ off = off' := by injection hA with hA; injection hA with h1 h2; exact ⟨h1, h2⟩
          have Hok := Lib.hid (show okAt ps (j + 1) = decide (y' < x) by rw [okAt_succ Hx.out hx', hsp, Bool.true_and])
          clear hx' hA
          go_wp2_with fail
          refine wp_region_facts [10, 11, 12, 13, 14, 15, 16, 17, 18, 19, 20, 21, 22, 23, 24, 25, 26, 27, 28, 29, 30, 31, 32, 33] (Kp No) (fun _ wx => Kp No wr wx) (fun i v _ => v = ([.slice (some ⟨b, off, none⟩) ps.length c, .int .i64 ((j : Int) + 1), .pointer (some ⟨b, off + (j + 1) * 2, none⟩), .agg #[.int .i64 x, .int .i64 y], .bool true, .bool false, .bool false, .int .i64 ((j : Int) + 1), .bool true, .bool true, .slice (some ⟨b, off, none⟩) ps.length c, .int .i64 ((j : Int) + 1), .pointer (some ⟨b, off + (j + 1) * 2, none⟩), .pointer (some ⟨b, off + (j + 1) * 2, none⟩), .int .i64 x, .slice (some ⟨b, off, none⟩) ps.length c, .int .i64 ((j : Int) + 1), .int .i64 (j : Int), .pointer (some ⟨b, off + j * 2, none⟩), .pointer (some ⟨b, off + j * 2 + 1, none⟩), .int .i64 y', .bool (decide (x ≤ y')), .bool (decide (x ≤ y')), .bool (decide (x ≤ y'))] : List Value).getD i undef) (by kernel_rfl) (by kernel_rfl) (by kernel_rfl) (by simp) (fun _ _ _ _ _ hF => hF) (Kp.refl _ _).drew ?steps ?fin
          case steps =>
            refine ⟨?s0, ?s1, ?s2, ?s3, ?s4, ?s5, ?s6, ?s7, ?s8, ?s9, ?s10, ?s11, ?s12, ?s13, ?s14, ?s15, ?s16, ?s17, ?s18, ?s19, ?s20, ?s21, ?s22, ?s23, trivial⟩
            case s0 =>
              intro L s fr wx hin hout hL hG haft K hK
              have o0 := hout 0 (by simp)
              simp at o0
              clear haft hin hout
              go_simp
              exact hK 10 rfl _ _ (Kp.refl _ _) hG rfl
            case s1 =>
              intro L s fr wx hin hout hL hG haft K hK
              have o3 := hout 3 (by simp)
              simp at o3
              clear haft hin hout
              go_simp
              exact hK 11 rfl _ _ (Kp.refl _ _) hG rfl
            case s2 =>
              intro L s fr wx hin hout hL hG haft K hK
              have g10 : fr[10]? = some (.slice (some ⟨b, off, none⟩) ps.length c) := (hin 10 (by simp)).trans (congrArg some (haft ⟨0, .data⟩ (by simp) rfl).2)
              have g11 : fr[11]? = some (.int .i64 ((j : Int) + 1)) := (hin 11 (by simp)).trans (congrArg some (haft ⟨1, .data⟩ (by simp) rfl).2)
              clear haft hin hout
              go_simp
              exact hK 12 rfl _ _ (Kp.refl _ _) hG rfl
            case s3 =>
              intro L s fr wx hin hout hL hG haft K hK
              have g12 : fr[12]? = some (.pointer (some ⟨b, off + (j + 1) * 2, none⟩)) := (hin 12 (by simp)).trans (congrArg some (haft ⟨2, .data⟩ (by simp) rfl).2)
              have c3_0 := (hG.cell (p := ⟨b, off + (j + 1) * 2, none⟩) hbs (fun e => e)).trans hc
              have c3_1 := (hG.cell (p := ⟨b, off + (j + 1) * 2 + 1, none⟩) hbs (fun e => e)).trans hc2
              clear haft hin hout
              go_simp
              exact hK 13 rfl _ _ (Kp.refl _ _) hG rfl
            case s4 =>
              intro L s fr wx hin hout hL hG haft K hK
              have g13 : fr[13]? = some (.agg #[.int .i64 x, .int .i64 y]) := (hin 13 (by simp)).trans (congrArg some (haft ⟨3, .data⟩ (by simp) rfl).2)
              clear haft hin hout
              go_simp
              refine (spanValid_spec _ _ _).mono ?_
              rintro e w2 ⟨rfl, k2⟩
              exact hK 14 rfl _ _ k2 (hG.trans k2) (show Value.bool (spanB x y) = _ by rw [hsp]; rfl)
            case s5 =>
              intro L s fr wx hin hout hL hG haft K hK
              have g14 : fr[14]? = some (.bool true) := (hin 14 (by simp)).trans (congrArg some (haft ⟨4, .data⟩ (by simp) rfl).2)
              clear haft hin hout
              go_simp
              exact hK 15 rfl _ _ (Kp.refl _ _) hG rfl
            case s6 =>
              intro L s fr wx hin hout hL hG haft K hK
              have g15 : fr[15]? = some (.bool false) := (hin 15 (by simp)).trans (congrArg some (haft ⟨5, .data⟩ (by simp) rfl).2)
              clear haft hin hout
              go_simp
              exact hK 16 rfl _ _ (Kp.refl _ _) hG rfl
            case s7 =>
              intro L s fr wx hin hout hL hG haft K hK
              have g16 : fr[16]? = some (.bool false) := (hin 16 (by simp)).trans (congrArg some (haft ⟨6, .guard⟩ (by simp) rfl).2)
              have o3 := hout 3 (by simp)
              simp at o3
              clear haft hin hout
              go_simp
              exact hK 17 rfl _ _ (Kp.refl _ _) hG rfl
            case s8 =>
              intro L s fr wx hin hout hL hG haft K hK
              have g17 : fr[17]? = some (.int .i64 ((j : Int) + 1)) := (hin 17 (by simp)).trans (congrArg some (haft ⟨7, .data⟩ (by simp) rfl).2)
              have g16 : fr[16]? = some (.bool false) := (hin 16 (by simp)).trans (congrArg some (haft ⟨6, .guard⟩ (by simp) rfl).2)
              clear haft hin hout
              go_simp
              exact hK 18 rfl _ _ (Kp.refl _ _) hG rfl
            case s9 =>
              intro L s fr wx hin hout hL hG haft K hK
              have g18 : fr[18]? = some (.bool true) := (hin 18 (by simp)).trans (congrArg some (haft ⟨8, .data⟩ (by simp) rfl).2)
              have g16 : fr[16]? = some (.bool false) := (hin 16 (by simp)).trans (congrArg some (haft ⟨6, .guard⟩ (by simp) rfl).2)
              clear haft hin hout
              go_simp
              exact hK 19 rfl _ _ (Kp.refl _ _) hG rfl
            case s10 =>
              intro L s fr wx hin hout hL hG haft K hK
              have g19 : fr[19]? = some (.bool true) := (hin 19 (by simp)).trans (congrArg some (haft ⟨9, .guard⟩ (by simp) rfl).2)
              have o0 := hout 0 (by simp)
              simp at o0
              clear haft hin hout
              go_simp
              exact hK 20 rfl _ _ (Kp.refl _ _) hG rfl
            case s11 =>
              intro L s fr wx hin hout hL hG haft K hK
              have g19 : fr[19]? = some (.bool true) := (hin 19 (by simp)).trans (congrArg some (haft ⟨9, .guard⟩ (by simp) rfl).2)
              have o3 := hout 3 (by simp)
              simp at o3
              clear haft hin hout
              go_simp
              exact hK 21 rfl _ _ (Kp.refl _ _) hG rfl
            case s12 =>
              intro L s fr wx hin hout hL hG haft K hK
              have g20 : fr[20]? = some (.slice (some ⟨b, off, none⟩) ps.length c) := (hin 20 (by simp)).trans (congrArg some (haft ⟨10, .data⟩ (by simp) rfl).2)
              have g21 : fr[21]? = some (.int .i64 ((j : Int) + 1)) := (hin 21 (by simp)).trans (congrArg some (haft ⟨11, .data⟩ (by simp) rfl).2)
              have g19 : fr[19]? = some (.bool true) := (hin 19 (by simp)).trans (congrArg some (haft ⟨9, .guard⟩ (by simp) rfl).2)
              clear haft hin hout
              go_simp
              exact hK 22 rfl _ _ (Kp.refl _ _) hG rfl
            case s13 =>
              intro L s fr wx hin hout hL hG haft K hK
              have g22 : fr[22]? = some (.pointer (some ⟨b, off + (j + 1) * 2, none⟩)) := (hin 22 (by simp)).trans (congrArg some (haft ⟨12, .data⟩ (by simp) rfl).2)
              have g19 : fr[19]? = some (.bool true) := (hin 19 (by simp)).trans (congrArg some (haft ⟨9, .guard⟩ (by simp) rfl).2)
              clear haft hin hout
              go_simp
              exact hK 23 rfl _ _ (Kp.refl _ _) hG rfl
            case s14 =>
              intro L s fr wx hin hout hL hG haft K hK
              have g23 : fr[23]? = some (.pointer (some ⟨b, off + (j + 1) * 2, none⟩)) := (hin 23 (by simp)).trans (congrArg some (haft ⟨13, .data⟩ (by simp) rfl).2)
              have g19 : fr[19]? = some (.bool true) := (hin 19 (by simp)).trans (congrArg some (haft ⟨9, .guard⟩ (by simp) rfl).2)
              have c14_0 := (hG.cell (p := ⟨b, off + (j + 1) * 2, none⟩) hbs (fun e => e)).trans hc
              clear haft hin hout
              go_simp
              exact hK 24 rfl _ _ (Kp.refl _ _) hG rfl
            case s15 =>
              intro L s fr wx hin hout hL hG haft K hK
              have g19 : fr[19]? = some (.bool true) := (hin 19 (by simp)).trans (congrArg some (haft ⟨9, .guard⟩ (by simp) rfl).2)
              have o0 := hout 0 (by simp)
              simp at o0
              clear haft hin hout
              go_simp
              exact hK 25 rfl _ _ (Kp.refl _ _) hG rfl
            case s16 =>
              intro L s fr wx hin hout hL hG haft K hK
              have g19 : fr[19]? = some (.bool true) := (hin 19 (by simp)).trans (congrArg some (haft ⟨9, .guard⟩ (by simp) rfl).2)
              have o3 := hout 3 (by simp)
              simp at o3
              clear haft hin hout
              go_simp
              exact hK 26 rfl _ _ (Kp.refl _ _) hG rfl
            case s17 =>
              intro L s fr wx hin hout hL hG haft K hK
              have g26 : fr[26]? = some (.int .i64 ((j : Int) + 1)) := (hin 26 (by simp)).trans (congrArg some (haft ⟨16, .data⟩ (by simp) rfl).2)
              have g19 : fr[19]? = some (.bool true) := (hin 19 (by simp)).trans (congrArg some (haft ⟨9, .guard⟩ (by simp) rfl).2)
              clear haft hin hout
              have hw : IntKind.i64.wrap (j : Int) = j := IntWalk.i64_in _ (by omega)
              go_simp
              exact hK 27 rfl _ _ (Kp.refl _ _) hG rfl
            case s18 =>
              intro L s fr wx hin hout hL hG haft K hK
              have g25 : fr[25]? = some (.slice (some ⟨b, off, none⟩) ps.length c) := (hin 25 (by simp)).trans (congrArg some (haft ⟨15, .data⟩ (by simp) rfl).2)
              have g27 : fr[27]? = some (.int .i64 (j : Int)) := (hin 27 (by simp)).trans (congrArg some (haft ⟨17, .data⟩ (by simp) rfl).2)
              have g19 : fr[19]? = some (.bool true) := (hin 19 (by simp)).trans (congrArg some (haft ⟨9, .guard⟩ (by simp) rfl).2)
              clear haft hin hout
              have hj1 : j < ps.length := by omega
              go_simp
              exact hK 28 rfl _ _ (Kp.refl _ _) hG rfl
            case s19 =>
              intro L s fr wx hin hout hL hG haft K hK
              have g28 : fr[28]? = some (.pointer (some ⟨b, off + j * 2, none⟩)) := (hin 28 (by simp)).trans (congrArg some (haft ⟨18, .data⟩ (by simp) rfl).2)
              have g19 : fr[19]? = some (.bool true) := (hin 19 (by simp)).trans (congrArg some (haft ⟨9, .guard⟩ (by simp) rfl).2)
              clear haft hin hout
              go_simp
              exact hK 29 rfl _ _ (Kp.refl _ _) hG rfl
            case s20 =>
              intro L s fr wx hin hout hL hG haft K hK
              have g29 : fr[29]? = some (.pointer (some ⟨b, off + j * 2 + 1, none⟩)) := (hin 29 (by simp)).trans (congrArg some (haft ⟨19, .data⟩ (by simp) rfl).2)
              have g19 : fr[19]? = some (.bool true) := (hin 19 (by simp)).trans (congrArg some (haft ⟨9, .guard⟩ (by simp) rfl).2)
              have c20_0 := (hG.cell (p := ⟨b, off + j * 2 + 1, none⟩) hbs (fun e => e)).trans hc2'
              clear haft hin hout
              go_simp
              exact hK 30 rfl _ _ (Kp.refl _ _) hG rfl
            case s21 =>
              intro L s fr wx hin hout hL hG haft K hK
              have g24 : fr[24]? = some (.int .i64 x) := (hin 24 (by simp)).trans (congrArg some (haft ⟨14, .data⟩ (by simp) rfl).2)
              have g30 : fr[30]? = some (.int .i64 y') := (hin 30 (by simp)).trans (congrArg some (haft ⟨20, .data⟩ (by simp) rfl).2)
              have g19 : fr[19]? = some (.bool true) := (hin 19 (by simp)).trans (congrArg some (haft ⟨9, .guard⟩ (by simp) rfl).2)
              clear haft hin hout
              go_simp
              exact hK 31 rfl _ _ (Kp.refl _ _) hG rfl
            case s22 =>
              intro L s fr wx hin hout hL hG haft K hK
              have g19 : fr[19]? = some (.bool true) := (hin 19 (by simp)).trans (congrArg some (haft ⟨9, .data⟩ (by simp) rfl).2)
              have g31 : fr[31]? = some (.bool (decide (x ≤ y'))) := (hin 31 (by simp)).trans (congrArg some (haft ⟨21, .data⟩ (by simp) rfl).2)
              have g16 : fr[16]? = some (.bool false) := (hin 16 (by simp)).trans (congrArg some (haft ⟨6, .guard⟩ (by simp) rfl).2)
              clear haft hin hout
              go_simp
              exact hK 32 rfl _ _ (Kp.refl _ _) hG rfl
            case s23 =>
              intro L s fr wx hin hout hL hG haft K hK
              have g16 : fr[16]? = some (.bool false) := (hin 16 (by simp)).trans (congrArg some (haft ⟨6, .data⟩ (by simp) rfl).2)
              have g32 : fr[32]? = some (.bool (decide (x ≤ y'))) := (hin 32 (by simp)).trans (congrArg some (haft ⟨22, .data⟩ (by simp) rfl).2)
              clear haft hin hout
              go_simp
              exact hK 33 rfl _ _ (Kp.refl _ _) hG rfl
          case fin =>
            intro L s wx hL hG hF
            have e0 : s 10 = .slice (some ⟨b, off, none⟩) ps.length c := hF 0 (by decide)
            have e1 : s 11 = .int .i64 ((j : Int) + 1) := hF 1 (by decide)
            have e2 : s 12 = .pointer (some ⟨b, off + (j + 1) * 2, none⟩) := hF 2 (by decide)
            have e3 : s 13 = .agg #[.int .i64 x, .int .i64 y] := hF 3 (by decide)
            have e4 : s 14 = .bool true := hF 4 (by decide)
            have e5 : s 15 = .bool false := hF 5 (by decide)
            have e6 : s 16 = .bool false := hF 6 (by decide)
            have e7 : s 17 = .int .i64 ((j : Int) + 1) := hF 7 (by decide)
            have e8 : s 18 = .bool true := hF 8 (by decide)
            have e9 : s 19 = .bool true := hF 9 (by decide)
            have e10 : s 20 = .slice (some ⟨b, off, none⟩) ps.length c := hF 10 (by decide)
            have e11 : s 21 = .int .i64 ((j : Int) + 1) := hF 11 (by decide)
            have e12 : s 22 = .pointer (some ⟨b, off + (j + 1) * 2, none⟩) := hF 12 (by decide)
            have e13 : s 23 = .pointer (some ⟨b, off + (j + 1) * 2, none⟩) := hF 13 (by decide)
            have e14 : s 24 = .int .i64 x := hF 14 (by decide)
            have e15 : s 25 = .slice (some ⟨b, off, none⟩) ps.length c := hF 15 (by decide)
            have e16 : s 26 = .int .i64 ((j : Int) + 1) := hF 16 (by decide)
            have e17 : s 27 = .int .i64 (j : Int) := hF 17 (by decide)
            have e18 : s 28 = .pointer (some ⟨b, off + j * 2, none⟩) := hF 18 (by decide)
            have e19 : s 29 = .pointer (some ⟨b, off + j * 2 + 1, none⟩) := hF 19 (by decide)
            have e20 : s 30 = .int .i64 y' := hF 20 (by decide)
            have e21 : s 31 = .bool (decide (x ≤ y')) := hF 21 (by decide)
            have e22 : s 32 = .bool (decide (x ≤ y')) := hF 22 (by decide)
            have e23 : s 33 = .bool (decide (x ≤ y')) := hF 23 (by decide)
            simp only [frameOf, List.foldl, List.setIfInBounds_toArray, List.set_cons_succ, List.set_cons_zero]
            rw [e0, e1, e2, e3, e4, e5, e6, e7, e8, e9, e10, e11, e12, e13, e14, e15, e16, e17, e18, e19, e20, e21, e22, e23]
            clear e0 e1 e2 e3 e4 e5 e6 e7 e8 e9 e10 e11 e12 e13 e14 e15 e16 e17 e18 e19 e20 e21 e22 e23 hF hL
            by_cases hlt2 : y' < x
            · go_wp2_with fail
              go_roundw
              case rel => exact ⟨j + 1 + 1, by omega, by go_num, hall.succ (by rw [Hok.out]; simpa using hlt2), hkp.trans hG⟩
              case measure => simp [intOf]; omega
            · have Hbad := Lib.hid (spansB_not hlt (by rw [Hok.out]; simpa using hlt2))
              go_wp2_with fail
              go_ret
              exact ⟨ret_bool Hbad.out.symm, hkp.trans hG⟩
    · go_wp2_with fail
      go_ret
      obtain rfl : k = ps.length := by omega
      refine ⟨ret_bool ?_, hkp⟩
      rw [spansB, hall.all, Bool.and_true]
      rw [Bool.eq_iff_iff]; simp; omega
end Go.Proofs.Ytjjglggfkbbhfaa
