/- DrawNewParity, and the walk of the law FnNewParity. -/
import Derived.Test.YtcnaehllegoefaaTab
import Derived.Test.YtcnaehllegoefaaNewPar
import Derived.Test.YtcnaehllegoefaaLawParity
import Derived.WalkKit
import Derived.WalkSpells
import Derived.WalkLawsBesides
import Derived.Outline
namespace Go.Proofs.Ytcnaehllegoefaa
open Go.RowKit
set_option linter.unusedVariables false

def FNP (lo a : Nat) (va vb : Int) (i : Nat) (v : Value) (wx : World) : Prop := match i with
  | 0 => v = .int .i64 va
  | 1 => v = .int .i64 vb
  | 2 => v = .pointer (some ⟨a, 0, none⟩)
  | 3 => IntV (fun x => 0 ≤ x ∧ x < 256) v
  | 4 => TabI lo 3 (fun _ => True) v wx
  | 5 => TabI lo 6 (fun x => 0 ≤ x ∧ x < 3) v wx
  | 6 => v = .pointer (some ⟨a, 0, none⟩)
  | 7 => IntV (fun x => 0 ≤ x ∧ x < 6) v
  | 8 => PtrI lo (fun x => 0 ≤ x ∧ x < 3) v wx
  | 9 => IntV (fun x => 0 ≤ x ∧ x < 3) v
  | 10 => PtrI lo (fun _ => True) v wx
  | 11 => IntV (fun _ => True) v
  | 12 => v = .int .i64 va
  | 13 => v = .int .i64 vb
  | 14 => IntV (fun _ => True) v
  | _ => True
theorem FNP.keep {lo a : Nat} {va vb : Int} (ha : a < lo) (j : Nat) (v : Value) (wx wy : World) (k : Kp (At a) wx wy) (h : FNP lo a va vb j v wx) : FNP lo a va vb j v wy := by
  unfold FNP at h ⊢
  split at h
  all_goals first | exact h | exact TabI.keep h ha k | exact PtrI.keep h ha k | trivial

/-- Three numbers come out. -/
def Some3 (w : World) (e : Ending) (w' : World) : Prop := ∃ x y z : Int, e = .returned (.tuple #[.int .i64 x, .int .i64 y, .int .i64 z]) ∧ Kp No w w'

set_option maxHeartbeats 2000000 in
theorem drawNewParity (A : Option Addr) (zs : List Int) (c : Nat) (w : World) (h : Byts w A zs) (hcap : zs.length ≤ c) (hl : zs.length ≤ 4000000) :
    Calls Try.prog 15 #[.slice A zs.length c] w (Some3 w) := by
  go_enter Try.func15, Try.ntmps15
  go_wp2_with fail
  refine (open_ _ _ _ _ h hcap hl).mono ?_
  rintro e w1 ⟨rfl, r1, k1, z1⟩
  go_wp2_with fail
  refine (pick_ _ _ _ _ r1 (by omega) (by omega) (by omega)).mono ?_
  rintro e w2 ⟨va, rfl, va0, va1, r2, k2, z2⟩
  go_wp2_with fail
  refine (pick_ _ _ _ _ r2 (by omega) (by omega) (by omega)).mono ?_
  rintro e w3 ⟨vb, rfl, vb0, vb1, r3, k3, z3⟩
  have ha : w.heap.size < w3.heap.size := by omega
  have k13 : Kp No w w3 := (k1.also k2 (fun i hi e => by simp only [At] at e; omega)).also k3 (fun i hi e => by simp only [At] at e; omega)
  clear h hcap k1 k2 k3 r1 r2
  go_wp2_with fail
  refine wp_region_facts [2, 3, 4, 14, 15, 16, 17, 18, 19, 20, 21, 22, 23, 24, 25] (Kp (At w.heap.size)) (fun L wx => Kp (At w.heap.size) w3 wx ∧ Rdr wx w.heap.size (2 + cnt L [3, 7])) (FNP w3.heap.size w.heap.size va vb) (by kernel_rfl) (by kernel_rfl) (by kernel_rfl) (by simp) ?mono ?start ?steps ?fin
  case mono => exact fun j v wx wy hR hF => FNP.keep ha j v wx wy hR hF
  case start => exact ⟨(Kp.refl _ _).drew, by rw [cnt_none]; exact r3.keepNo ((Kp.refl _ _).drew)⟩
  case steps =>
    refine ⟨?s0, ?s1, ?s2, ?s3, ?s4, ?s5, ?s6, ?s7, ?s8, ?s9, ?s10, ?s11, ?s12, ?s13, ?s14, trivial⟩
    case s0 =>
      intro L s fr wx hin hout hL hG haft K hK
      have g0 := hout 6 (by simp)
      simp at g0
      clear haft hin hout
      go_simp
      exact hK 14 rfl _ _ (Kp.refl _ _) ⟨hG.1, hG.2.le (Nat.add_le_add_left (cnt_mono _ _ _) _)⟩ rfl
    case s1 =>
      intro L s fr wx hin hout hL hG haft K hK
      have g0 := hout 7 (by simp)
      simp at g0
      clear haft hin hout
      go_simp
      exact hK 15 rfl _ _ (Kp.refl _ _) ⟨hG.1, hG.2.le (Nat.add_le_add_left (cnt_mono _ _ _) _)⟩ rfl
    case s2 =>
      intro L s fr wx hin hout hL hG haft K hK
      have g0 := hout 5 (by simp)
      simp at g0
      clear haft hin hout
      go_simp
      exact hK 16 rfl _ _ (Kp.refl _ _) ⟨hG.1, hG.2.le (Nat.add_le_add_left (cnt_mono _ _ _) _)⟩ rfl
    case s3 =>
      intro L s fr wx hin hout hL hG haft K hK
      have e0 : s 16 = .pointer (some ⟨w.heap.size, 0, none⟩) := (haft ⟨2, .data⟩ (by simp) rfl).2
      have g0 := hin 16 (by simp)
      rw [e0] at g0
      clear haft hin hout e0
      have hcl := cnt_le L [3, 7]
      simp only [List.length_cons, List.length_nil] at hcl
      go_simp
      refine (pick_ w.heap.size _ 256 _ hG.2 (by omega) (by omega) (by omega)).mono ?_
      rintro e w5 ⟨v5, rfl, v5a, v5b, r5, k5, z5⟩
      exact hK 17 rfl _ _ k5 ⟨hG.1.trans k5, r5.le (by have := cnt_step (is := [3, 7]) (by simp) hL; omega)⟩ ⟨v5, rfl, ⟨v5a, v5b⟩⟩
    case s4 =>
      intro L s fr wx hin hout hL hG haft K hK
      obtain ⟨x1, ex1, hx1⟩ : IntV (fun x => 0 ≤ x ∧ x < 256) (s 17) := (haft ⟨3, .data⟩ (by simp) rfl).2
      have gx1 := hin 17 (by simp)
      rw [ex1] at gx1
      clear haft hin hout ex1
      go_simp
      exact hK 18 rfl _ _ ((Kp.refl _ _).alloc _) ⟨hG.1.alloc _, (hG.2.keepNo ((Kp.refl _ _).alloc _)).le (Nat.add_le_add_left (cnt_mono _ _ _) _)⟩ (TabI.lit wx w3.heap.size _ [x1, 256, -1] _ rfl _ (by simp) hG.1.size)
    case s5 =>
      intro L s fr wx hin hout hL hG haft K hK
      clear haft hin hout
      go_simp
      exact hK 19 rfl _ _ ((Kp.refl _ _).alloc _) ⟨hG.1.alloc _, (hG.2.keepNo ((Kp.refl _ _).alloc _)).le (Nat.add_le_add_left (cnt_mono _ _ _) _)⟩ (TabI.lit wx w3.heap.size _ [0, 0, 0, 0, 1, 2] _ rfl _ (by simp) hG.1.size)
    case s6 =>
      intro L s fr wx hin hout hL hG haft K hK
      have g0 := hout 5 (by simp)
      simp at g0
      clear haft hin hout
      go_simp
      exact hK 20 rfl _ _ (Kp.refl _ _) ⟨hG.1, hG.2.le (Nat.add_le_add_left (cnt_mono _ _ _) _)⟩ rfl
    case s7 =>
      intro L s fr wx hin hout hL hG haft K hK
      have e0 : s 20 = .pointer (some ⟨w.heap.size, 0, none⟩) := (haft ⟨6, .data⟩ (by simp) rfl).2
      have g0 := hin 20 (by simp)
      rw [e0] at g0
      clear haft hin hout e0
      have hcl := cnt_le L [3, 7]
      simp only [List.length_cons, List.length_nil] at hcl
      go_simp
      refine (pick_ w.heap.size _ 6 _ hG.2 (by omega) (by omega) (by omega)).mono ?_
      rintro e w5 ⟨v5, rfl, v5a, v5b, r5, k5, z5⟩
      exact hK 21 rfl _ _ k5 ⟨hG.1.trans k5, r5.le (by have := cnt_step (is := [3, 7]) (by simp) hL; omega)⟩ ⟨v5, rfl, ⟨v5a, v5b⟩⟩
    case s8 =>
      intro L s fr wx hin hout hL hG haft K hK
      obtain ⟨g, e4, hg1, hg2, hc4⟩ : TabI w3.heap.size 6 (fun x => 0 ≤ x ∧ x < 3) (s 19) wx := (haft ⟨5, .data⟩ (by simp) rfl).2
      obtain ⟨v, e6, hv0, hv1⟩ : IntV (fun x => 0 ≤ x ∧ x < 6) (s 21) := (haft ⟨7, .data⟩ (by simp) rfl).2
      obtain ⟨j, rfl⟩ := Int.eq_ofNat_of_zero_le hv0
      have g4 := hin 19 (by simp)
      have g6 := hin 21 (by simp)
      rw [e4] at g4
      rw [e6] at g6
      obtain ⟨x, hx, hV⟩ := hc4 j (by omega)
      have hV := Lib.hid hV
      clear haft hin hout e4 e6 hc4
      go_simp
      exact hK 22 rfl _ _ (Kp.refl _ _) ⟨hG.1, hG.2.le (Nat.add_le_add_left (cnt_mono _ _ _) _)⟩ ⟨g, j, x, rfl, hg1, hg2, hx, hV.out⟩
    case s9 =>
      intro L s fr wx hin hout hL hG haft K hK
      obtain ⟨g, j, x, e7, hg1, hg2, hx, hV⟩ : PtrI w3.heap.size (fun x => 0 ≤ x ∧ x < 3) (s 22) wx := (haft ⟨8, .data⟩ (by simp) rfl).2
      have g7 := hin 22 (by simp)
      rw [e7] at g7
      have hV := Lib.hid hV
      clear haft hin hout e7
      go_simp
      exact hK 23 rfl _ _ (Kp.refl _ _) ⟨hG.1, hG.2.le (Nat.add_le_add_left (cnt_mono _ _ _) _)⟩ ⟨x, rfl, hV.out⟩
    case s10 =>
      intro L s fr wx hin hout hL hG haft K hK
      obtain ⟨g, e4, hg1, hg2, hc4⟩ : TabI w3.heap.size 3 (fun _ => True) (s 18) wx := (haft ⟨4, .data⟩ (by simp) rfl).2
      obtain ⟨v, e6, hv0, hv1⟩ : IntV (fun x => 0 ≤ x ∧ x < 3) (s 23) := (haft ⟨9, .data⟩ (by simp) rfl).2
      obtain ⟨j, rfl⟩ := Int.eq_ofNat_of_zero_le hv0
      have g4 := hin 18 (by simp)
      have g6 := hin 23 (by simp)
      rw [e4] at g4
      rw [e6] at g6
      obtain ⟨x, hx, hV⟩ := hc4 j (by omega)
      have hV := Lib.hid hV
      clear haft hin hout e4 e6 hc4
      go_simp
      exact hK 24 rfl _ _ (Kp.refl _ _) ⟨hG.1, hG.2.le (Nat.add_le_add_left (cnt_mono _ _ _) _)⟩ ⟨g, j, x, rfl, hg1, hg2, hx, hV.out⟩
    case s11 =>
      intro L s fr wx hin hout hL hG haft K hK
      obtain ⟨g, j, x, e7, hg1, hg2, hx, hV⟩ : PtrI w3.heap.size (fun _ => True) (s 24) wx := (haft ⟨10, .data⟩ (by simp) rfl).2
      have g7 := hin 24 (by simp)
      rw [e7] at g7
      have hV := Lib.hid hV
      clear haft hin hout e7
      go_simp
      exact hK 25 rfl _ _ (Kp.refl _ _) ⟨hG.1, hG.2.le (Nat.add_le_add_left (cnt_mono _ _ _) _)⟩ ⟨x, rfl, hV.out⟩
    case s12 =>
      intro L s fr wx hin hout hL hG haft K hK
      have e0 : s 14 = .int .i64 va := (haft ⟨0, .data⟩ (by simp) rfl).2
      have g0 := hin 14 (by simp)
      rw [e0] at g0
      clear haft hin hout e0
      go_simp
      exact hK 2 rfl _ _ (Kp.refl _ _) ⟨hG.1, hG.2.le (Nat.add_le_add_left (cnt_mono _ _ _) _)⟩ rfl
    case s13 =>
      intro L s fr wx hin hout hL hG haft K hK
      have e0 : s 15 = .int .i64 vb := (haft ⟨1, .data⟩ (by simp) rfl).2
      have g0 := hin 15 (by simp)
      rw [e0] at g0
      clear haft hin hout e0
      go_simp
      exact hK 3 rfl _ _ (Kp.refl _ _) ⟨hG.1, hG.2.le (Nat.add_le_add_left (cnt_mono _ _ _) _)⟩ rfl
    case s14 =>
      intro L s fr wx hin hout hL hG haft K hK
      obtain ⟨x0, e0, hx0⟩ : IntV (fun _ => True) (s 25) := (haft ⟨11, .data⟩ (by simp) rfl).2
      have g0 := hin 25 (by simp)
      rw [e0] at g0
      clear haft hin hout e0
      go_simp
      exact hK 4 rfl _ _ (Kp.refl _ _) ⟨hG.1, hG.2.le (Nat.add_le_add_left (cnt_mono _ _ _) _)⟩ ⟨x0, rfl, hx0⟩
  case fin =>
    intro L s wx hL hG hF
    have e2 : s 2 = .int .i64 va := hF 12 (by decide)
    have e3 : s 3 = .int .i64 vb := hF 13 (by decide)
    obtain ⟨z, e4, _⟩ : IntV (fun _ => True) (s 4) := hF 14 (by decide)
    simp only [frameOf, List.foldl, List.setIfInBounds_toArray, List.set_cons_succ, List.set_cons_zero]
    rw [e2, e3, e4]
    go_wp2_with fail
    go_ret3

    exact ⟨va, vb, z, rfl, k13.also hG.1 (fun i hi e => by simp only [At] at e; omega)⟩

theorem newParity_nat (x y z : Nat) (hx : x < 256) (hy : y < 256) (hz : z < 256) : newParity (x : Int) (y : Int) (z : Int) = ((x ^^^ y ^^^ z : Nat) : Int) := by
  have b : ∀ n : Nat, n < 256 → byteB (n : Int) = true := fun n hn => inB_true ⟨by omega, by omega⟩
  unfold newParity
  rw [b x hx, b y hy, b z hz]
  simp only [Bool.and_true, if_true]
  have e1 := bx_nat x y hx hy
  have e2 := bx_nat (x ^^^ y) z (Nat.xor_lt_two_pow (n := 8) hx hy) hz
  unfold bx at e1 e2
  rw [e1, e2]
theorem newParity_cases (a b c : Int) : newParity a b c = -1 ∨ ∃ x y z : Nat, a = x ∧ b = y ∧ c = z ∧ x < 256 ∧ y < 256 ∧ z < 256 := by
  by_cases h : (byteB a && byteB b && byteB c) = true
  · simp only [Bool.and_eq_true] at h
    obtain ⟨⟨ha, hb⟩, hc⟩ := h
    simp [byteB, inB] at ha hb hc
    exact .inr ⟨a.toNat, b.toNat, c.toNat, by omega, by omega, by omega, by omega, by omega, by omega⟩
  · left; unfold newParity; rw [if_neg h]
theorem newParity_law {a b c : Int} (h : 0 ≤ newParity a b c) : newParity (newParity a b c) c b = a ∧ newParity a b b = a ∧ parityOf [a, b, c] = newParity a b c := by
  rcases newParity_cases a b c with h' | ⟨x, y, z, rfl, rfl, rfl, hx, hy, hz⟩
  · omega
  · have hxy : x ^^^ y < 256 := Nat.xor_lt_two_pow (n := 8) hx hy
    have hlt : x ^^^ y ^^^ z < 256 := Nat.xor_lt_two_pow (n := 8) hxy hz
    refine ⟨?_, ?_, ?_⟩
    · rw [newParity_nat x y z hx hy hz, newParity_nat _ z y hlt hz hy]
      have : x ^^^ y ^^^ z ^^^ z ^^^ y = x ^^^ (y ^^^ y) ^^^ (z ^^^ z) := by ac_rfl
      rw [this]; simp
    · rw [newParity_nat x y y hx hy hy]
      have : x ^^^ y ^^^ y = x ^^^ (y ^^^ y) := by ac_rfl
      rw [this]; simp
    · rw [newParity_nat x y z hx hy hz]
      have := parityOf_full (ys := [x, y, z]) (by simp; omega) (by simp) (by simp)
      simpa [nx] using this
theorem newParity_ge (a b c : Int) : -1 ≤ newParity a b c := by
  rcases newParity_cases a b c with h' | ⟨x, y, z, rfl, rfl, rfl, hx, hy, hz⟩
  · omega
  · rw [newParity_nat x y z hx hy hz]; omega

set_option maxHeartbeats 1000000 in
theorem walk_FnNewParity {w : World} (A : Option Addr) (zs : List Int) (c : Nat) (h : Byts w A zs) (hcap : zs.length ≤ c) :
    Calls Try.prog 4 #[.slice A zs.length c] w fun e w' => e = .returned (.bool true) ∧ Kp No w w' := by
  go_enter Try.func4, Try.ntmps4
  by_cases hl : 1048576 < zs.length
  · go_wp2_with fail
    go_ret
    exact ⟨rfl, Kp.refl _ _⟩
  · go_wp2_with fail
    refine (drawNewParity _ _ _ _ h hcap (by omega)).mono ?_
    rintro e w1 ⟨x, y, z, rfl, k1⟩
    clear h hcap
    go_wp2_with fail
    refine (newParity_impl _ _ _ _).mono ?_
    rintro e w' ⟨rfl, rfl⟩
    have hne : (newParity x y z != newParity x y z) = false := by simp
    go_wp2_with fail
    refine (newParity_spec _ _ _ _).mono ?_
    rintro e w' ⟨rfl, rfl⟩
    have hge := newParity_ge x y z
    by_cases hn : newParity x y z < 0
    · have hm : (newParity x y z == -1) = true := by simp; omega
      go_wp2_with fail
      refine (alive_ _).mono ?_
      rintro e w' ⟨rfl, rfl⟩
      go_wp2_with fail
      go_ret
      exact ⟨rfl, k1⟩
    · obtain ⟨e1, e2, e3⟩ := newParity_law (a := x) (b := y) (c := z) (by omega)
      have E1 := Lib.hid e1; have E2 := Lib.hid e2; have E3 := Lib.hid e3
      clear e1 e2 e3
      have hx : (x == x) = true := by simp
      have hq : (newParity x y z == newParity x y z) = true := by simp
      go_wp2_with fail
      refine (newParity_impl _ _ _ _).mono ?_
      rintro e w' ⟨rfl, rfl⟩
      rw [E1.out]
      go_wp2_with fail
      refine (newParity_impl _ _ _ _).mono ?_
      rintro e w' ⟨rfl, rfl⟩
      rw [E2.out]
      go_wp2_with fail
      have o2 := ownI_lit w1 w1.heap.size #[.int .i64 x, .int .i64 y, .int .i64 z] [x, y, z] rfl (Nat.le_refl _) (by simp)
      refine (parityOf_impl _ [x, y, z] _ _ _ _ o2.ints (by simp)).mono ?_
      rintro e w' ⟨rfl, rfl⟩
      rw [E3.out]
      go_wp2_with fail
      go_ret
      exact ⟨rfl, k1.alloc _⟩
end Go.Proofs.Ytcnaehllegoefaa
