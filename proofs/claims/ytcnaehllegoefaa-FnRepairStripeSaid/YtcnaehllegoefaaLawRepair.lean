/- DrawRepairStripe, and the walk of the law FnRepairStripe. -/
import Derived.Test.YtcnaehllegoefaaTab
import Derived.Test.YtcnaehllegoefaaRepair
import Derived.WalkKit
import Derived.WalkSpells
import Derived.WalkLawsBesides
import Derived.Outline
import Derived.Deep.QuietTactic
import Derived.BigQuiet
namespace Go.Proofs.Ytcnaehllegoefaa
open Go.RowKit
set_option linter.unusedVariables false

def FRS (lo a : Nat) (A2 : Option Addr) (n2 c2 : Nat) (i : Nat) (v : Value) (wx : World) : Prop := match i with
  | 0 => v = .slice A2 n2 c2
  | 1 => IntV (fun _ => True) v
  | 2 => v = .pointer (some ⟨a, 0, none⟩)
  | 3 => IntV (fun x => 0 ≤ x ∧ x < 256) v
  | 4 => TabI lo 3 (fun _ => True) v wx
  | 5 => TabI lo 7 (fun x => 0 ≤ x ∧ x < 3) v wx
  | 6 => v = .pointer (some ⟨a, 0, none⟩)
  | 7 => IntV (fun x => 0 ≤ x ∧ x < 7) v
  | 8 => PtrI lo (fun x => 0 ≤ x ∧ x < 3) v wx
  | 9 => IntV (fun x => 0 ≤ x ∧ x < 3) v
  | 10 => PtrI lo (fun _ => True) v wx
  | 11 => IntV (fun _ => True) v
  | 12 => v = .slice A2 n2 c2
  | 13 => IntV (fun _ => True) v
  | _ => True
theorem FRS.keep {lo a : Nat} {A2 : Option Addr} {n2 c2 : Nat} (ha : a < lo) (j : Nat) (v : Value) (wx wy : World) (k : Kp (At a) wx wy) (h : FRS lo a A2 n2 c2 j v wx) : FRS lo a A2 n2 c2 j v wy := by
  unfold FRS at h ⊢
  split at h
  all_goals first | exact h | exact TabI.keep h ha k | exact PtrI.keep h ha k | trivial

/-- A slice of ints and a number come out. -/
def SomeIN (L : Nat) (w : World) (e : Ending) (w' : World) : Prop := ∃ A c xs, ∃ q : Int, e = .returned (.tuple #[.slice A xs.length c, .int .i64 q]) ∧ OwnI w' w.heap.size w'.heap.size A c xs ∧ xs.length ≤ L ∧ Kp No w w'

set_option maxHeartbeats 4000000 in
theorem drawRepairStripe (A : Option Addr) (zs : List Int) (c : Nat) (w : World) (h : Byts w A zs) (hcap : zs.length ≤ c) (hl : zs.length ≤ 4000000) :
    Calls Try.prog 29 #[.slice A zs.length c] w (SomeIN 7 w) := by
  go_enter Try.func29, Try.ntmps29
  go_wp2_with fail
  refine (open_ _ _ _ _ h hcap hl).mono ?_
  rintro e w1 ⟨rfl, r1, k1, z1⟩
  go_wp2_with fail
  refine (l20Stripe_ _ _ _ _ r1 (by omega) (by omega) (by omega)).mono ?_
  rintro e w2 ⟨A2, c2, xs0, rfl, o2, l2, r2, k2⟩
  have k2' : Kp No w w2 := k1.also k2 (fun i hi e => by simp only [At] at e; omega)
  have s2 := k2.size
  clear h hcap k1 k2 r1
  go_wp2_with fail
  refine (parityOf_spec _ _ _ _ _ _ o2.ints (by omega)).mono ?_
  rintro e w' ⟨rfl, rfl⟩
  generalize parityOf xs0 = pv
  go_wp2_with fail
  refine (pick_ _ _ _ _ r2 (by omega) (by omega) (by omega)).mono ?_
  rintro e w3 ⟨v3, rfl, v3a, v3b, r3, k3, z3⟩
  have o3 := o2.keep k3 (fun i hi _ e => by simp only [At] at e; omega)
  have k3' : Kp No w w3 := k2'.also k3 (fun i hi e => by simp only [At] at e; omega)
  clear o2 k3 r2 k2'
  obtain ⟨m3, rfl⟩ := Int.eq_ofNat_of_zero_le v3a
  generalize hn0 : xs0.length = n0 at *
  go_wp2_with fail
  go_loopw [7] (fun i wr => ∃ (m : Nat) (xs : List Int), xs.length = n0 ∧ i = .int .i64 m ∧ m ≤ 2 ∧ OwnI wr w1.heap.size w2.heap.size A2 c2 xs ∧ Rdr wr w.heap.size (20 - m) ∧ Kp No w wr ∧ w2.heap.size ≤ wr.heap.size) (fun i _ => (intOf i).toNat)
  case atStart => exact ⟨m3, xs0, hn0, rfl, by omega, o3, r3.le (by omega), k3', by omega⟩
  case round =>
    obtain ⟨m, xs, hn, rfl, hm2, ho, hr, hk, hsz⟩ := hrel
    clear o3 r3 k3' hn0
    subst hn
    by_cases hm : 0 < m
    · by_cases hxl : 0 < xs.length
      · have hxi : (0 : Int) < (xs.length : Int) := by omega
        go_wp2_with fail
        refine (pick_ _ _ _ _ hr (by omega) (by omega) (by omega)).mono ?_
        rintro e w4 ⟨v4, rfl, v4a, v4b, r4, k4, z4⟩
        obtain ⟨p, rfl⟩ := Int.eq_ofNat_of_zero_le v4a
        have ho4 := ho.keep k4 (fun i hi _ e => by simp only [At] at e; omega)
        obtain ⟨g, x, rfl, hg1, hg2, hx, hc, hf⟩ := ho4.at_ (k := p) (by omega)
        clear hx
        go_wp2_with fail
        go_roundw
        case rel =>
          refine ⟨m - 1, xs.set p (-1), by simp, by go_num, by omega, ho4.set_ p (-1), ?_, ?_, by simp [World.setCell]; omega⟩
          · exact (r4.keep ((Kp.refl (Ge w1.heap.size) w4).setCell (p := ⟨g, p, none⟩) (fun _ => hg1) _) (fun i hi e => by simp only [Ge] at e; omega)).le (by omega)
          · exact (hk.also k4 (fun i hi e => by simp only [At] at e; omega)).setCell (fun hh => absurd hh (by simp; omega)) _
        case measure => simp [intOf]; omega
      · have hxi : ¬ (0 : Int) < (xs.length : Int) := by omega
        have ha : w.heap.size < wr.heap.size := by omega
        go_wp2_with fail
        refine wp_region_facts [2, 3, 31, 32, 33, 34, 35, 36, 37, 38, 39, 40, 41, 42] (Kp (At w.heap.size)) (fun L wx => Kp (At w.heap.size) wr wx ∧ Rdr wx w.heap.size (20 + cnt L [3, 7])) (FRS wr.heap.size w.heap.size A2 xs.length c2) (by kernel_rfl) (by kernel_rfl) (by kernel_rfl) (by simp) ?mono ?start ?steps ?fin
        case mono => exact fun j v wx wy hR hF => FRS.keep ha j v wx wy hR hF
        case start => exact ⟨(Kp.refl _ _).drew, by rw [cnt_none]; exact (hr.keepNo ((Kp.refl _ _).drew)).le (by omega)⟩
        case steps =>
          refine ⟨?s0, ?s1, ?s2, ?s3, ?s4, ?s5, ?s6, ?s7, ?s8, ?s9, ?s10, ?s11, ?s12, ?s13, trivial⟩
          case s0 =>
            intro L s fr wx hin hout hL hG haft K hK
            have g0 := hout 5 (by simp)
            simp at g0
            clear haft hin hout
            go_simp
            exact hK 31 rfl _ _ (Kp.refl _ _) ⟨hG.1, hG.2.le (Nat.add_le_add_left (cnt_mono _ _ _) _)⟩ rfl
          case s1 =>
            intro L s fr wx hin hout hL hG haft K hK
            have g0 := hout 6 (by simp)
            simp at g0
            clear haft hin hout
            go_simp
            exact hK 32 rfl _ _ (Kp.refl _ _) ⟨hG.1, hG.2.le (Nat.add_le_add_left (cnt_mono _ _ _) _)⟩ ⟨_, rfl, trivial⟩
          case s2 =>
            intro L s fr wx hin hout hL hG haft K hK
            have g0 := hout 4 (by simp)
            simp at g0
            clear haft hin hout
            go_simp
            exact hK 33 rfl _ _ (Kp.refl _ _) ⟨hG.1, hG.2.le (Nat.add_le_add_left (cnt_mono _ _ _) _)⟩ rfl
          case s3 =>
            intro L s fr wx hin hout hL hG haft K hK
            have e0 : s 33 = .pointer (some ⟨w.heap.size, 0, none⟩) := (haft ⟨2, .data⟩ (by simp) rfl).2
            have g0 := hin 33 (by simp)
            rw [e0] at g0
            clear haft hin hout e0
            have hcl := cnt_le L [3, 7]
            simp only [List.length_cons, List.length_nil] at hcl
            go_simp
            refine (pick_ w.heap.size _ 256 _ hG.2 (by omega) (by omega) (by omega)).mono ?_
            rintro e w5 ⟨v5, rfl, v5a, v5b, r5, k5, z5⟩
            exact hK 34 rfl _ _ k5 ⟨hG.1.trans k5, r5.le (by have := cnt_step (is := [3, 7]) (by simp) hL; omega)⟩ ⟨v5, rfl, ⟨v5a, v5b⟩⟩
          case s4 =>
            intro L s fr wx hin hout hL hG haft K hK
            obtain ⟨x1, ex1, hx1⟩ : IntV (fun _ => True) (s 32) := (haft ⟨1, .data⟩ (by simp) rfl).2
            have gx1 := hin 32 (by simp)
            rw [ex1] at gx1
            obtain ⟨x2, ex2, hx2⟩ : IntV (fun x => 0 ≤ x ∧ x < 256) (s 34) := (haft ⟨3, .data⟩ (by simp) rfl).2
            have gx2 := hin 34 (by simp)
            rw [ex2] at gx2
            clear haft hin hout ex1 ex2
            go_simp
            exact hK 35 rfl _ _ ((Kp.refl _ _).alloc _) ⟨hG.1.alloc _, (hG.2.keepNo ((Kp.refl _ _).alloc _)).le (Nat.add_le_add_left (cnt_mono _ _ _) _)⟩ (TabI.lit wx wr.heap.size _ [x1, x2, 256] _ rfl _ (by simp) hG.1.size)
          case s5 =>
            intro L s fr wx hin hout hL hG haft K hK
            clear haft hin hout
            go_simp
            exact hK 36 rfl _ _ ((Kp.refl _ _).alloc _) ⟨hG.1.alloc _, (hG.2.keepNo ((Kp.refl _ _).alloc _)).le (Nat.add_le_add_left (cnt_mono _ _ _) _)⟩ (TabI.lit wx wr.heap.size _ [0, 0, 0, 0, 0, 1, 2] _ rfl _ (by simp) hG.1.size)
          case s6 =>
            intro L s fr wx hin hout hL hG haft K hK
            have g0 := hout 4 (by simp)
            simp at g0
            clear haft hin hout
            go_simp
            exact hK 37 rfl _ _ (Kp.refl _ _) ⟨hG.1, hG.2.le (Nat.add_le_add_left (cnt_mono _ _ _) _)⟩ rfl
          case s7 =>
            intro L s fr wx hin hout hL hG haft K hK
            have e0 : s 37 = .pointer (some ⟨w.heap.size, 0, none⟩) := (haft ⟨6, .data⟩ (by simp) rfl).2
            have g0 := hin 37 (by simp)
            rw [e0] at g0
            clear haft hin hout e0
            have hcl := cnt_le L [3, 7]
            simp only [List.length_cons, List.length_nil] at hcl
            go_simp
            refine (pick_ w.heap.size _ 7 _ hG.2 (by omega) (by omega) (by omega)).mono ?_
            rintro e w5 ⟨v5, rfl, v5a, v5b, r5, k5, z5⟩
            exact hK 38 rfl _ _ k5 ⟨hG.1.trans k5, r5.le (by have := cnt_step (is := [3, 7]) (by simp) hL; omega)⟩ ⟨v5, rfl, ⟨v5a, v5b⟩⟩
          case s8 =>
            intro L s fr wx hin hout hL hG haft K hK
            obtain ⟨g, e4, hg1, hg2, hc4⟩ : TabI wr.heap.size 7 (fun x => 0 ≤ x ∧ x < 3) (s 36) wx := (haft ⟨5, .data⟩ (by simp) rfl).2
            obtain ⟨v, e6, hv0, hv1⟩ : IntV (fun x => 0 ≤ x ∧ x < 7) (s 38) := (haft ⟨7, .data⟩ (by simp) rfl).2
            obtain ⟨j, rfl⟩ := Int.eq_ofNat_of_zero_le hv0
            have g4 := hin 36 (by simp)
            have g6 := hin 38 (by simp)
            rw [e4] at g4
            rw [e6] at g6
            obtain ⟨x, hx, hV⟩ := hc4 j (by omega)
            have hV := Lib.hid hV
            clear haft hin hout e4 e6 hc4
            go_simp
            exact hK 39 rfl _ _ (Kp.refl _ _) ⟨hG.1, hG.2.le (Nat.add_le_add_left (cnt_mono _ _ _) _)⟩ ⟨g, j, x, rfl, hg1, hg2, hx, hV.out⟩
          case s9 =>
            intro L s fr wx hin hout hL hG haft K hK
            obtain ⟨g, j, x, e7, hg1, hg2, hx, hV⟩ : PtrI wr.heap.size (fun x => 0 ≤ x ∧ x < 3) (s 39) wx := (haft ⟨8, .data⟩ (by simp) rfl).2
            have g7 := hin 39 (by simp)
            rw [e7] at g7
            have hV := Lib.hid hV
            clear haft hin hout e7
            go_simp
            exact hK 40 rfl _ _ (Kp.refl _ _) ⟨hG.1, hG.2.le (Nat.add_le_add_left (cnt_mono _ _ _) _)⟩ ⟨x, rfl, hV.out⟩
          case s10 =>
            intro L s fr wx hin hout hL hG haft K hK
            obtain ⟨g, e4, hg1, hg2, hc4⟩ : TabI wr.heap.size 3 (fun _ => True) (s 35) wx := (haft ⟨4, .data⟩ (by simp) rfl).2
            obtain ⟨v, e6, hv0, hv1⟩ : IntV (fun x => 0 ≤ x ∧ x < 3) (s 40) := (haft ⟨9, .data⟩ (by simp) rfl).2
            obtain ⟨j, rfl⟩ := Int.eq_ofNat_of_zero_le hv0
            have g4 := hin 35 (by simp)
            have g6 := hin 40 (by simp)
            rw [e4] at g4
            rw [e6] at g6
            obtain ⟨x, hx, hV⟩ := hc4 j (by omega)
            have hV := Lib.hid hV
            clear haft hin hout e4 e6 hc4
            go_simp
            exact hK 41 rfl _ _ (Kp.refl _ _) ⟨hG.1, hG.2.le (Nat.add_le_add_left (cnt_mono _ _ _) _)⟩ ⟨g, j, x, rfl, hg1, hg2, hx, hV.out⟩
          case s11 =>
            intro L s fr wx hin hout hL hG haft K hK
            obtain ⟨g, j, x, e7, hg1, hg2, hx, hV⟩ : PtrI wr.heap.size (fun _ => True) (s 41) wx := (haft ⟨10, .data⟩ (by simp) rfl).2
            have g7 := hin 41 (by simp)
            rw [e7] at g7
            have hV := Lib.hid hV
            clear haft hin hout e7
            go_simp
            exact hK 42 rfl _ _ (Kp.refl _ _) ⟨hG.1, hG.2.le (Nat.add_le_add_left (cnt_mono _ _ _) _)⟩ ⟨x, rfl, hV.out⟩
          case s12 =>
            intro L s fr wx hin hout hL hG haft K hK
            have e0 : s 31 = .slice A2 xs.length c2 := (haft ⟨0, .data⟩ (by simp) rfl).2
            have g0 := hin 31 (by simp)
            rw [e0] at g0
            clear haft hin hout e0
            go_simp
            exact hK 2 rfl _ _ (Kp.refl _ _) ⟨hG.1, hG.2.le (Nat.add_le_add_left (cnt_mono _ _ _) _)⟩ rfl
          case s13 =>
            intro L s fr wx hin hout hL hG haft K hK
            obtain ⟨x0, e0, hx0⟩ : IntV (fun _ => True) (s 42) := (haft ⟨11, .data⟩ (by simp) rfl).2
            have g0 := hin 42 (by simp)
            rw [e0] at g0
            clear haft hin hout e0
            go_simp
            exact hK 3 rfl _ _ (Kp.refl _ _) ⟨hG.1, hG.2.le (Nat.add_le_add_left (cnt_mono _ _ _) _)⟩ ⟨x0, rfl, hx0⟩
        case fin =>
          intro L s wx hL hG hF
          have e2 : s 2 = .slice A2 xs.length c2 := hF 12 (by decide)
          obtain ⟨z, e3, _⟩ : IntV (fun _ => True) (s 3) := hF 13 (by decide)
          simp only [frameOf, List.foldl, List.setIfInBounds_toArray, List.set_cons_succ, List.set_cons_zero]
          rw [e2, e3]
          have ho4 := ho.keep hG.1 (fun i hi _ e => by simp only [At] at e; omega)
          have s4 := hG.1.size
          go_wp2_with fail
          go_ret2
          exact ⟨A2, c2, xs, z, rfl, ho4.wide (by omega) (by omega) (Nat.le_refl _), by omega, hk.also hG.1 (fun i hi e => by simp only [At] at e; omega)⟩
    · have ha : w.heap.size < wr.heap.size := by omega
      go_wp2_with fail
      refine wp_region_facts [2, 3, 31, 32, 33, 34, 35, 36, 37, 38, 39, 40, 41, 42] (Kp (At w.heap.size)) (fun L wx => Kp (At w.heap.size) wr wx ∧ Rdr wx w.heap.size (20 + cnt L [3, 7])) (FRS wr.heap.size w.heap.size A2 xs.length c2) (by kernel_rfl) (by kernel_rfl) (by kernel_rfl) (by simp) ?mono ?start ?steps ?fin
      case mono => exact fun j v wx wy hR hF => FRS.keep ha j v wx wy hR hF
      case start => exact ⟨(Kp.refl _ _).drew, by rw [cnt_none]; exact (hr.keepNo ((Kp.refl _ _).drew)).le (by omega)⟩
      case steps =>
        refine ⟨?s0, ?s1, ?s2, ?s3, ?s4, ?s5, ?s6, ?s7, ?s8, ?s9, ?s10, ?s11, ?s12, ?s13, trivial⟩
        case s0 =>
          intro L s fr wx hin hout hL hG haft K hK
          have g0 := hout 5 (by simp)
          simp at g0
          clear haft hin hout
          go_simp
          exact hK 31 rfl _ _ (Kp.refl _ _) ⟨hG.1, hG.2.le (Nat.add_le_add_left (cnt_mono _ _ _) _)⟩ rfl
        case s1 =>
          intro L s fr wx hin hout hL hG haft K hK
          have g0 := hout 6 (by simp)
          simp at g0
          clear haft hin hout
          go_simp
          exact hK 32 rfl _ _ (Kp.refl _ _) ⟨hG.1, hG.2.le (Nat.add_le_add_left (cnt_mono _ _ _) _)⟩ ⟨_, rfl, trivial⟩
        case s2 =>
          intro L s fr wx hin hout hL hG haft K hK
          have g0 := hout 4 (by simp)
          simp at g0
          clear haft hin hout
          go_simp
          exact hK 33 rfl _ _ (Kp.refl _ _) ⟨hG.1, hG.2.le (Nat.add_le_add_left (cnt_mono _ _ _) _)⟩ rfl
        case s3 =>
          intro L s fr wx hin hout hL hG haft K hK
          have e0 : s 33 = .pointer (some ⟨w.heap.size, 0, none⟩) := (haft ⟨2, .data⟩ (by simp) rfl).2
          have g0 := hin 33 (by simp)
          rw [e0] at g0
          clear haft hin hout e0
          have hcl := cnt_le L [3, 7]
          simp only [List.length_cons, List.length_nil] at hcl
          go_simp
          refine (pick_ w.heap.size _ 256 _ hG.2 (by omega) (by omega) (by omega)).mono ?_
          rintro e w5 ⟨v5, rfl, v5a, v5b, r5, k5, z5⟩
          exact hK 34 rfl _ _ k5 ⟨hG.1.trans k5, r5.le (by have := cnt_step (is := [3, 7]) (by simp) hL; omega)⟩ ⟨v5, rfl, ⟨v5a, v5b⟩⟩
        case s4 =>
          intro L s fr wx hin hout hL hG haft K hK
          obtain ⟨x1, ex1, hx1⟩ : IntV (fun _ => True) (s 32) := (haft ⟨1, .data⟩ (by simp) rfl).2
          have gx1 := hin 32 (by simp)
          rw [ex1] at gx1
          obtain ⟨x2, ex2, hx2⟩ : IntV (fun x => 0 ≤ x ∧ x < 256) (s 34) := (haft ⟨3, .data⟩ (by simp) rfl).2
          have gx2 := hin 34 (by simp)
          rw [ex2] at gx2
          clear haft hin hout ex1 ex2
          go_simp
          exact hK 35 rfl _ _ ((Kp.refl _ _).alloc _) ⟨hG.1.alloc _, (hG.2.keepNo ((Kp.refl _ _).alloc _)).le (Nat.add_le_add_left (cnt_mono _ _ _) _)⟩ (TabI.lit wx wr.heap.size _ [x1, x2, 256] _ rfl _ (by simp) hG.1.size)
        case s5 =>
          intro L s fr wx hin hout hL hG haft K hK
          clear haft hin hout
          go_simp
          exact hK 36 rfl _ _ ((Kp.refl _ _).alloc _) ⟨hG.1.alloc _, (hG.2.keepNo ((Kp.refl _ _).alloc _)).le (Nat.add_le_add_left (cnt_mono _ _ _) _)⟩ (TabI.lit wx wr.heap.size _ [0, 0, 0, 0, 0, 1, 2] _ rfl _ (by simp) hG.1.size)
        case s6 =>
          intro L s fr wx hin hout hL hG haft K hK
          have g0 := hout 4 (by simp)
          simp at g0
          clear haft hin hout
          go_simp
          exact hK 37 rfl _ _ (Kp.refl _ _) ⟨hG.1, hG.2.le (Nat.add_le_add_left (cnt_mono _ _ _) _)⟩ rfl
        case s7 =>
          intro L s fr wx hin hout hL hG haft K hK
          have e0 : s 37 = .pointer (some ⟨w.heap.size, 0, none⟩) := (haft ⟨6, .data⟩ (by simp) rfl).2
          have g0 := hin 37 (by simp)
          rw [e0] at g0
          clear haft hin hout e0
          have hcl := cnt_le L [3, 7]
          simp only [List.length_cons, List.length_nil] at hcl
          go_simp
          refine (pick_ w.heap.size _ 7 _ hG.2 (by omega) (by omega) (by omega)).mono ?_
          rintro e w5 ⟨v5, rfl, v5a, v5b, r5, k5, z5⟩
          exact hK 38 rfl _ _ k5 ⟨hG.1.trans k5, r5.le (by have := cnt_step (is := [3, 7]) (by simp) hL; omega)⟩ ⟨v5, rfl, ⟨v5a, v5b⟩⟩
        case s8 =>
          intro L s fr wx hin hout hL hG haft K hK
          obtain ⟨g, e4, hg1, hg2, hc4⟩ : TabI wr.heap.size 7 (fun x => 0 ≤ x ∧ x < 3) (s 36) wx := (haft ⟨5, .data⟩ (by simp) rfl).2
          obtain ⟨v, e6, hv0, hv1⟩ : IntV (fun x => 0 ≤ x ∧ x < 7) (s 38) := (haft ⟨7, .data⟩ (by simp) rfl).2
          obtain ⟨j, rfl⟩ := Int.eq_ofNat_of_zero_le hv0
          have g4 := hin 36 (by simp)
          have g6 := hin 38 (by simp)
          rw [e4] at g4
          rw [e6] at g6
          obtain ⟨x, hx, hV⟩ := hc4 j (by omega)
          have hV := Lib.hid hV
          clear haft hin hout e4 e6 hc4
          go_simp
          exact hK 39 rfl _ _ (Kp.refl _ _) ⟨hG.1, hG.2.le (Nat.add_le_add_left (cnt_mono _ _ _) _)⟩ ⟨g, j, x, rfl, hg1, hg2, hx, hV.out⟩
        case s9 =>
          intro L s fr wx hin hout hL hG haft K hK
          obtain ⟨g, j, x, e7, hg1, hg2, hx, hV⟩ : PtrI wr.heap.size (fun x => 0 ≤ x ∧ x < 3) (s 39) wx := (haft ⟨8, .data⟩ (by simp) rfl).2
          have g7 := hin 39 (by simp)
          rw [e7] at g7
          have hV := Lib.hid hV
          clear haft hin hout e7
          go_simp
          exact hK 40 rfl _ _ (Kp.refl _ _) ⟨hG.1, hG.2.le (Nat.add_le_add_left (cnt_mono _ _ _) _)⟩ ⟨x, rfl, hV.out⟩
        case s10 =>
          intro L s fr wx hin hout hL hG haft K hK
          obtain ⟨g, e4, hg1, hg2, hc4⟩ : TabI wr.heap.size 3 (fun _ => True) (s 35) wx := (haft ⟨4, .data⟩ (by simp) rfl).2
          obtain ⟨v, e6, hv0, hv1⟩ : IntV (fun x => 0 ≤ x ∧ x < 3) (s 40) := (haft ⟨9, .data⟩ (by simp) rfl).2
          obtain ⟨j, rfl⟩ := Int.eq_ofNat_of_zero_le hv0
          have g4 := hin 35 (by simp)
          have g6 := hin 40 (by simp)
          rw [e4] at g4
          rw [e6] at g6
          obtain ⟨x, hx, hV⟩ := hc4 j (by omega)
          have hV := Lib.hid hV
          clear haft hin hout e4 e6 hc4
          go_simp
          exact hK 41 rfl _ _ (Kp.refl _ _) ⟨hG.1, hG.2.le (Nat.add_le_add_left (cnt_mono _ _ _) _)⟩ ⟨g, j, x, rfl, hg1, hg2, hx, hV.out⟩
        case s11 =>
          intro L s fr wx hin hout hL hG haft K hK
          obtain ⟨g, j, x, e7, hg1, hg2, hx, hV⟩ : PtrI wr.heap.size (fun _ => True) (s 41) wx := (haft ⟨10, .data⟩ (by simp) rfl).2
          have g7 := hin 41 (by simp)
          rw [e7] at g7
          have hV := Lib.hid hV
          clear haft hin hout e7
          go_simp
          exact hK 42 rfl _ _ (Kp.refl _ _) ⟨hG.1, hG.2.le (Nat.add_le_add_left (cnt_mono _ _ _) _)⟩ ⟨x, rfl, hV.out⟩
        case s12 =>
          intro L s fr wx hin hout hL hG haft K hK
          have e0 : s 31 = .slice A2 xs.length c2 := (haft ⟨0, .data⟩ (by simp) rfl).2
          have g0 := hin 31 (by simp)
          rw [e0] at g0
          clear haft hin hout e0
          go_simp
          exact hK 2 rfl _ _ (Kp.refl _ _) ⟨hG.1, hG.2.le (Nat.add_le_add_left (cnt_mono _ _ _) _)⟩ rfl
        case s13 =>
          intro L s fr wx hin hout hL hG haft K hK
          obtain ⟨x0, e0, hx0⟩ : IntV (fun _ => True) (s 42) := (haft ⟨11, .data⟩ (by simp) rfl).2
          have g0 := hin 42 (by simp)
          rw [e0] at g0
          clear haft hin hout e0
          go_simp
          exact hK 3 rfl _ _ (Kp.refl _ _) ⟨hG.1, hG.2.le (Nat.add_le_add_left (cnt_mono _ _ _) _)⟩ ⟨x0, rfl, hx0⟩
    
      case fin =>
        intro L s wx hL hG hF
        have e2 : s 2 = .slice A2 xs.length c2 := hF 12 (by decide)
        obtain ⟨z, e3, _⟩ : IntV (fun _ => True) (s 3) := hF 13 (by decide)
        simp only [frameOf, List.foldl, List.setIfInBounds_toArray, List.set_cons_succ, List.set_cons_zero]
        rw [e2, e3]
        have ho4 := ho.keep hG.1 (fun i hi _ e => by simp only [At] at e; omega)
        have s4 := hG.1.size
        go_wp2_with fail
        go_ret2
        exact ⟨A2, c2, xs, z, rfl, ho4.wide (by omega) (by omega) (Nat.le_refl _), by omega, hk.also hG.1 (fun i hi e => by simp only [At] at e; omega)⟩

theorem repair_false {xs : List Int} {q : Int} {x : List Int} (h : repair xs q = (x, false)) : x = [] := by
  unfold repair at h
  split at h
  · split at h
    · simp at h
    · simp at h; exact h
  · simp at h; exact h

set_option maxHeartbeats 4000000 in
theorem walk_FnRepairStripe {w : World} (A : Option Addr) (zs : List Int) (c : Nat) (h : Byts w A zs) (hcap : zs.length ≤ c) :
    Calls Try.prog 10 #[.slice A zs.length c] w fun e w' => e = .returned (.bool true) ∧ Kp No w w' := by
  go_enter Try.func10, Try.ntmps10
  by_cases hl : 1048576 < zs.length
  · go_wp2_with fail
    go_ret
    exact ⟨rfl, Kp.refl _ _⟩
  · go_wp2_with fail
    refine (drawRepairStripe _ _ _ _ h hcap (by omega)).mono ?_
    rintro e w1 ⟨A1, c1, xs, q, rfl, o1, l1, k1⟩
    clear h hcap
    rcases hr : repair xs q with ⟨x, ok⟩
    have hi1 := repair_impl A1 xs c1 _ _ q w1 o1.ints (by omega)
    rw [hr] at hi1
    have Hi1 := Lib.hid hi1; clear hi1
    go_wp2_with fail
    refine (Hi1.out).mono ?_
    rintro e w2 ⟨A2, c2, rfl, o2, k2⟩
    dsimp only at o2
    have o12 := o1.keepNo k2
    have hi2 := repair_spec A1 xs c1 _ _ q w2 o12.ints (by omega)
    rw [hr] at hi2
    have Hi2 := Lib.hid hi2; clear hi2 Hi1
    go_wp2_with fail
    refine (Hi2.out).mono ?_
    rintro e w3 ⟨A3, c3, rfl, o3, k3⟩
    dsimp only at o3
    have o13 := o12.keepNo k3
    have o23 := o2.keepNo k3
    have hxl : x.length ≤ 7 := by
      cases ok
      · rw [repair_false hr]; simp
      · have := (repair_good hr).1; omega
    have Hr := Lib.hid hr
    clear hr Hi2
    go_wp2_with fail
    refine (sameInts_same _ _ _ _ _ _ _ _ _ _ o23.ints o3.ints (by omega)).mono ?_
    rintro e w4 ⟨rfl, k4⟩
    have o14 := o13.keepNo k4
    have o24 := o23.keepNo k4
    have k14 : Kp No w w4 := ((k1.trans k2).trans k3).trans k4
    clear o1 o12 o13 o2 o23 o3 k1 k2 k3 k4
    cases ok
    · have hx := repair_false Hr.out
      subst hx
      go_wp2_with fail
      refine (alive_ _).mono ?_
      rintro e w' ⟨rfl, rfl⟩
      go_wp2_with fail
      go_ret
      exact ⟨rfl, k14⟩
    · obtain ⟨e1, e2, q0, q1, hkeep, hback⟩ := repair_good Hr.out
      have Hkeep := Lib.hid hkeep; have Hback := Lib.hid hback; have E2 := Lib.hid e2
      have hne : ((x.length : Int) != (xs.length : Int)) = false := by rw [e1]; simp
      have E1 := Lib.hid e1
      clear hkeep hback e1 e2
      go_wp2_with fail
      go_loopw [9] (fun i wr => ∃ k : Nat, k ≤ x.length ∧ i = .int .i64 k ∧ Kp No w4 wr) (fun i _ => x.length - (intOf i).toNat)
      case atStart => exact ⟨0, Nat.zero_le _, rfl, Kp.refl _ _⟩
      case round =>
        obtain ⟨k, hk, rfl, hkp⟩ := hrel
        have o1r := o14.keepNo hkp
        have o2r := o24.keepNo hkp
        by_cases hlt : k < x.length
        · have hlt' : k < xs.length := by rw [← E1.out]; exact hlt
          obtain ⟨b, off, y, rfl, hb1, hb2, hy, hc⟩ := o1r.ints.at_ hlt'
          obtain ⟨b', off', z, rfl, hb1', hb2', hz, hc'⟩ := o2r.ints.at_ hlt
          have hyz : 0 ≤ y → (z != y) = false := fun h0 => by
            have := Hkeep.out k y hy h0
            rw [hz] at this
            injection this with this
            simp [this]
          have Hyz := Lib.hid hyz
          have Hb := Lib.hid (Hback.out k hlt)
          clear hyz hy hz
          have s4 := hkp.size
          by_cases hy0 : 0 ≤ y
          · have hyz' := Hyz.out hy0
            have hd : decide (0 ≤ y) = true := by simp [hy0]
            go_wp2_with fail
            go_quiet (fail)
            have k5 : Kp No w4 (wr.drewN nq) := hkp.drewN nq
            have o5 := ownI_lit (wr.drewN nq) (wr.drewN nq).heap.size #[] [] rfl (Nat.le_refl _) (by simp)
            have o2q := o24.keepNo k5
            go_wp2_with (at_builtin; refine wpList_appI _ rfl _ _ rfl _ _ _ 0 [] rfl o5 _ _ _ c2 x rfl (o2q.ints.keepNo ((Kp.refl _ _).alloc _)) (by simp; omega) (by simp) ?_; intro A6 c6 w6 o6 k6; rw [List.nil_append] at o6; obtain ⟨g, z6, rfl, hg1, hg2, hz6, hc6, hf6⟩ := o6.at_ hlt; clear hz6)
            have k6' : Kp No w4 w6 := (k5.alloc _).also k6 (fun i hi e => by have := e.1; have := k5.size; omega)
            have o7 := o6.set_ k (-1)
            have k7 : Kp No w4 (w6.setCell ⟨g, k, none⟩ (.int .i64 (-1))) := k6'.setCell (fun hh => absurd hh (by have := k5.size; show ¬ g < _; omega)) _
            have hi7 := repair_impl _ (x.set k (-1)) c6 _ _ q _ o7.ints (by simp; omega)
            rw [Hb.out] at hi7
            refine (len2 hi7 (by simp)).mono ?_
            rintro e w8 ⟨A8, c8, rfl, o8, k8⟩
            dsimp only at o8
            have k78 := k7.trans k8
            go_wp2_with fail
            refine (sameInts_same _ _ _ _ _ _ _ _ _ _ o8.ints (o24.keepNo k78).ints (by omega)).mono ?_
            rintro e w9 ⟨rfl, k9⟩
            go_wp2_with fail
            go_roundw
            case rel => exact ⟨k + 1, by omega, by go_num, k78.trans k9⟩
            case measure => simp [intOf]; omega
          · have hd : decide (0 ≤ y) = false := by simp; omega
            go_wp2_with fail
            go_quiet (fail)
            have k5 : Kp No w4 (wr.drewN nq) := hkp.drewN nq
            have o5 := ownI_lit (wr.drewN nq) (wr.drewN nq).heap.size #[] [] rfl (Nat.le_refl _) (by simp)
            have o2q := o24.keepNo k5
            go_wp2_with (at_builtin; refine wpList_appI _ rfl _ _ rfl _ _ _ 0 [] rfl o5 _ _ _ c2 x rfl (o2q.ints.keepNo ((Kp.refl _ _).alloc _)) (by simp; omega) (by simp) ?_; intro A6 c6 w6 o6 k6; rw [List.nil_append] at o6; obtain ⟨g, z6, rfl, hg1, hg2, hz6, hc6, hf6⟩ := o6.at_ hlt; clear hz6)
            have k6' : Kp No w4 w6 := (k5.alloc _).also k6 (fun i hi e => by have := e.1; have := k5.size; omega)
            have o7 := o6.set_ k (-1)
            have k7 : Kp No w4 (w6.setCell ⟨g, k, none⟩ (.int .i64 (-1))) := k6'.setCell (fun hh => absurd hh (by have := k5.size; show ¬ g < _; omega)) _
            have hi7 := repair_impl _ (x.set k (-1)) c6 _ _ q _ o7.ints (by simp; omega)
            rw [Hb.out] at hi7
            refine (len2 hi7 (by simp)).mono ?_
            rintro e w8 ⟨A8, c8, rfl, o8, k8⟩
            dsimp only at o8
            have k78 := k7.trans k8
            go_wp2_with fail
            refine (sameInts_same _ _ _ _ _ _ _ _ _ _ o8.ints (o24.keepNo k78).ints (by omega)).mono ?_
            rintro e w9 ⟨rfl, k9⟩
            go_wp2_with fail
            go_roundw
            case rel => exact ⟨k + 1, by omega, by go_num, k78.trans k9⟩
            case measure => simp [intOf]; omega
        · obtain rfl : k = x.length := by omega
          have hqq : (q == q) = true := by simp
          go_wp2_with fail
          refine (parityOf_impl _ _ _ _ _ _ o2r.ints (by omega)).mono ?_
          rintro e w' ⟨rfl, rfl⟩
          rw [E2.out]
          go_wp2_with fail
          go_ret
          exact ⟨rfl, k14.trans hkp⟩
end Go.Proofs.Ytcnaehllegoefaa
