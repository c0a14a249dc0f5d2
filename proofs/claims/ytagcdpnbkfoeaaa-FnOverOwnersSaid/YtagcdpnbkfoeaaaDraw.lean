/- The reader of the drawn codes (l20Open, pick, odd) and alive. -/
import Derived.Test.YtagcdpnbkfoeaaaOpen
import Derived.WalkKit
import Derived.WalkSpells
import Derived.WalkLawsBesides
import Derived.Outline
import Derived.Deep.QuietTactic
import Derived.BigQuiet
import Derived.Laws.BitsAllLaws
import Derived.Laws.BitsLemmas
namespace Go.Proofs.Ytagcdpnbkfoeaaa
open Go.RowKit
set_option linter.unusedVariables false

theorem ofInt_i64 (a : Nat) (ha : a < 9223372036854775808) : (BitVec.ofInt 64 (a : Int)).toNat = a := by
  rw [BitVec.ofInt_natCast, BitVec.toNat_ofNat]; exact Nat.mod_eq_of_lt (by omega)
theorem i64_xor_nat (a b : Nat) (ha : a < 9223372036854775808) (hb : b < 9223372036854775808) : bits .xor .i64 (a : Int) (b : Int) = ((a ^^^ b : Nat) : Int) := by
  have hx : a ^^^ b < 2 ^ 63 := Nat.xor_lt_two_pow (by omega) (by omega)
  show IntKind.i64.wrap ((BitVec.ofInt 64 (a : Int) ^^^ BitVec.ofInt 64 (b : Int)).toNat : Int) = _
  rw [BitVec.toNat_xor, ofInt_i64 a ha, ofInt_i64 b hb, IntKind.wrap_i64]
  omega
theorem xor_nonneg {a b : Int} (ha : 0 ≤ a) (ha' : a ≤ 1000000000000) (hb : 0 ≤ b) (hb' : b ≤ 1000000000000) : 0 ≤ bits .xor .i64 a b := by
  obtain ⟨a, rfl⟩ := Int.eq_ofNat_of_zero_le ha
  obtain ⟨b, rfl⟩ := Int.eq_ofNat_of_zero_le hb
  rw [i64_xor_nat a b (by omega) (by omega)]
  omega

/-- The reader in block a: its code cd, its place p. -/
def Rd (w : World) (a : Nat) (cd : List Int) (p : Nat) : Prop :=
  (∃ A c, w.heap[a]? = some (.cells #[.slice A cd.length c, .int .i64 p] 62 (0, 0)) ∧ Row w 0 a 1 A cd.length (cd.map (Value.int .u8))) ∧ (∀ z ∈ cd, 0 ≤ z ∧ z ≤ 255) ∧ cd.length ≤ 2000

theorem Rd.lt {w : World} {a : Nat} {cd : List Int} {p : Nat} (h : Rd w a cd p) : a < w.heap.size := by
  obtain ⟨⟨A, c, h1, _⟩, _⟩ := h
  exact (Array.getElem?_eq_some_iff.1 h1).1
theorem Rd.keep {w w' : World} {a : Nat} {cd : List Int} {p : Nat} {S : Nat → Prop} (h : Rd w a cd p) (k : Kp S w w') (hs : ∀ i, i ≤ a → ¬ S i) : Rd w' a cd p := by
  have hlt := h.lt
  obtain ⟨⟨A, c, h1, h2⟩, h3⟩ := h
  exact ⟨⟨A, c, (k.block a hlt (hs a (Nat.le_refl _))).trans h1, h2.keep k fun i _ hi => hs i (by omega)⟩, h3⟩
theorem Rd.keepNo {w w' : World} {a : Nat} {cd : List Int} {p : Nat} (h : Rd w a cd p) (k : Kp No w w') : Rd w' a cd p := h.keep k fun _ _ e => e

/-- What pick leaves: a number v, of which V holds; only the reader's block has changed. -/
def Picks (V : Int → Prop) (w : World) (a : Nat) (cd : List Int) (p : Nat) (e : Ending) (w' : World) : Prop :=
  ∃ v : Int, V v ∧ e = .returned (.int .i64 v) ∧ Rd w' a cd (p + 1) ∧ Kp (At a) w w' ∧ w'.heap.size = w.heap.size

set_option maxHeartbeats 1000000 in
theorem pick_any (a : Nat) (cd : List Int) (p : Nat) (n : Int) (w : World) (h : Rd w a cd p) (hp : p ≤ 1000000) (h1 : 1 ≤ n) (hn : n ≤ 1000000) :
    Calls Try.prog 42 #[.pointer (some ⟨a, 0, none⟩), .int .i64 n] w (Picks (fun v => 0 ≤ v ∧ v < n) w a cd p) := by
  obtain ⟨⟨A, c, hb, hrow⟩, hcd, hlen⟩ := h
  have hlt : a < w.heap.size := (Array.getElem?_eq_some_iff.1 hb).1
  have c0 : w.cell? ⟨a, 0, none⟩ = some (.slice A cd.length c) := by rw [cell_of_row w a 0 _ _ _ hb]; rfl
  have c1 : w.cell? ⟨a, 1, none⟩ = some (.int .i64 p) := by rw [cell_of_row w a 1 _ _ _ hb]; rfl
  have f1 : w.frozen? ⟨a, 1, none⟩ = false := frozen_of_row w a 1 _ _ hb
  have hb2 : (w.setCell ⟨a, 1, none⟩ (.int .i64 ((p : Int) + 1))).heap[a]? = some (.cells #[.slice A cd.length c, .int .i64 ((p : Int) + 1)] 62 (0, 0)) := by
    rw [heap_setCell_same w a 1 _ _ _ hb]; rfl
  have g0 : (w.setCell ⟨a, 1, none⟩ (.int .i64 ((p : Int) + 1))).cell? ⟨a, 0, none⟩ = some (.slice A cd.length c) := by rw [cell_of_row _ a 0 _ _ _ hb2]; rfl
  have g1 : (w.setCell ⟨a, 1, none⟩ (.int .i64 ((p : Int) + 1))).cell? ⟨a, 1, none⟩ = some (.int .i64 ((p : Int) + 1)) := by rw [cell_of_row _ a 1 _ _ _ hb2]; rfl
  have hk : Kp (At a) w (w.setCell ⟨a, 1, none⟩ (.int .i64 ((p : Int) + 1))) := Kp.setCell (Kp.refl (At a) w) (p := ⟨a, 1, none⟩) (fun _ => (rfl : a = a)) _
  have hrow2 := hrow.keep hk (fun i _ hi e => by simp only [At] at e; omega)
  have hrd : Rd (w.setCell ⟨a, 1, none⟩ (.int .i64 ((p : Int) + 1))) a cd (p + 1) := ⟨⟨A, c, by rw [hb2]; simp, hrow2⟩, hcd, hlen⟩
  have Hb := Lib.hid hb2; clear hb2 hb
  have HS : Hid ((w.setCell ⟨a, 1, none⟩ (.int .i64 ((p : Int) + 1))).heap.size = w.heap.size) := by simp [Hid, World.setCell]
  go_enter Try.func42, Try.ntmps42
  by_cases hz : cd.length = 0
  · have hz' : ((cd.length : Int) == 0) = true := by simp [hz]
    have HZ := Lib.hid hz; clear hz
    go_wp2
    go_ret
    exact ⟨0, ⟨by omega, by omega⟩, rfl, hrd, hk, HS.out⟩
  · have hz' : ((cd.length : Int) == 0) = false := beq_eq_false_iff_ne.2 (by omega)
    obtain ⟨b, off, rfl, _, hba, hcell⟩ := hrow2.2.2 (by omega)
    have hget : ∀ j, j < cd.length → ∃ z, (w.setCell ⟨a, 1, none⟩ (.int .i64 ((p : Int) + 1))).cell? ⟨b, off + j, none⟩ = some (.int .u8 z) ∧ 0 ≤ z ∧ z ≤ 255 := fun j hj =>
      ⟨cd[j], hcell j _ (by simp [List.getElem?_eq_getElem hj]), hcd _ (List.getElem_mem hj)⟩
    by_cases hpl : p < cd.length
    · obtain ⟨z, hz1, hz2, hz3⟩ := hget p hpl
      clear hget hcell
      go_wp2
      go_ret
      exact ⟨z % n, ⟨Int.emod_nonneg _ (by omega), Int.emod_lt_of_pos _ (by omega)⟩, rfl, hrd, hk, HS.out⟩
    · obtain ⟨y, hy1, hy2, hy3⟩ := hget (p % cd.length) (Nat.mod_lt _ (by omega))
      obtain ⟨z, hz1, hz2, hz3⟩ := hget ((p * 7 + 3) % cd.length) (Nat.mod_lt _ (by omega))
      have hm1 : 0 ≤ (p : Int) % (cd.length : Int) := Int.emod_nonneg _ (by omega)
      have hm2 : (p : Int) % (cd.length : Int) < cd.length := Int.emod_lt_of_pos _ (by omega)
      have hm3 : 0 ≤ ((p : Int) * 7 + 3) % (cd.length : Int) := Int.emod_nonneg _ (by omega)
      have hm4 : ((p : Int) * 7 + 3) % (cd.length : Int) < cd.length := Int.emod_lt_of_pos _ (by omega)
      have hq1 : 0 ≤ (p : Int) / (cd.length : Int) := Int.ediv_nonneg (by omega) (by omega)
      have hq2 : (p : Int) / (cd.length : Int) ≤ p := Int.ediv_le_self _ (by omega)
      clear hget hcell
      go_wp2
      go_quiet (fail)
      go_wp2
      go_ret
      refine ⟨_, ?_, rfl, hrd.keepNo ((Kp.refl _ _).drewN _), hk.drewN _, HS.out⟩
      have hX : 0 ≤ bits .xor .i64 (y * 131 + z * 1117 + (p : Int) * 29 + (p : Int) / (cd.length : Int) * 53) ((y * 131 + z * 1117 + (p : Int) * 29 + (p : Int) / (cd.length : Int) * 53) / 64) :=
        xor_nonneg (by omega) (by omega) (by omega) (by omega)
      exact ⟨Int.tmod_nonneg _ hX, Int.tmod_lt_of_pos _ (by omega)⟩

/-- The reader in block a, its code and place left open; at most B numbers were read. -/
def Rdr (w : World) (a B : Nat) : Prop := ∃ cd p, Rd w a cd p ∧ p ≤ B
theorem Rdr.lt {w : World} {a B : Nat} (h : Rdr w a B) : a < w.heap.size := by obtain ⟨_, _, h, _⟩ := h; exact h.lt
theorem Rdr.keep {w w' : World} {a B : Nat} {S : Nat → Prop} (h : Rdr w a B) (k : Kp S w w') (hs : ∀ i, i ≤ a → ¬ S i) : Rdr w' a B := by
  obtain ⟨cd, p, h, hp⟩ := h; exact ⟨cd, p, h.keep k hs, hp⟩
theorem Rdr.keepNo {w w' : World} {a B : Nat} (h : Rdr w a B) (k : Kp No w w') : Rdr w' a B := h.keep k fun _ _ e => e
theorem Rdr.le {w : World} {a B B' : Nat} (h : Rdr w a B) (hB : B ≤ B') : Rdr w a B' := by
  obtain ⟨cd, p, h, hp⟩ := h; exact ⟨cd, p, h, by omega⟩

/-- What a pick leaves. -/
def Pk (n : Int) (w : World) (a B : Nat) (e : Ending) (w' : World) : Prop :=
  ∃ v : Int, e = .returned (.int .i64 v) ∧ 0 ≤ v ∧ v < n ∧ Rdr w' a (B + 1) ∧ Kp (At a) w w' ∧ w.heap.size = w'.heap.size
theorem pick_ (a B : Nat) (n : Int) (w : World) (h : Rdr w a B) (hB : B ≤ 1000000) (h1 : 1 ≤ n) (hn : n ≤ 1000000) :
    Calls Try.prog 42 #[.pointer (some ⟨a, 0, none⟩), .int .i64 n] w (Pk n w a B) := by
  obtain ⟨cd, p, h, hp⟩ := h
  refine (pick_any a cd p n w h (by omega) h1 hn).mono ?_
  rintro e w' ⟨v, ⟨v0, v1⟩, rfl, hr, hk, hz⟩
  exact ⟨v, rfl, v0, v1, ⟨cd, p + 1, hr, by omega⟩, hk, hz.symm⟩

/-- What odd leaves. -/
def Od (w : World) (a B : Nat) (e : Ending) (w' : World) : Prop :=
  ∃ b : Bool, e = .returned (.bool b) ∧ Rdr w' a (B + 1) ∧ Kp (At a) w w' ∧ w.heap.size = w'.heap.size
theorem odd_ (a B : Nat) (n : Int) (w : World) (h : Rdr w a B) (hB : B ≤ 1000000) (h1 : 0 ≤ n) (hn : n ≤ 1000000) :
    Calls Try.prog 43 #[.pointer (some ⟨a, 0, none⟩), .int .i64 n] w (Od w a B) := by
  go_enter Try.func43, Try.ntmps43
  by_cases h0 : n ≤ 0
  · go_wp2_with fail
    go_ret
    exact ⟨false, rfl, h.le (by omega), Kp.refl _ _, rfl⟩
  · go_wp2_with (go_at_call 42; refine (pick_ a B n w h hB (by omega) hn).mono ?_; rintro e w' ⟨v, rfl, v0, v1, hr, hk, hz⟩)
    all_goals go_ret
    all_goals exact ⟨_, rfl, hr, hk, hz⟩

/-- What l20Open leaves: the reader in the first new block. -/
def Opens (w : World) (e : Ending) (w' : World) : Prop :=
  e = .returned (.pointer (some ⟨w.heap.size, 0, none⟩)) ∧ Rdr w' w.heap.size 0 ∧ Kp No w w' ∧ w'.heap.size = w.heap.size + 1
theorem open_ (A : Option Addr) (zs : List Int) (c : Nat) (w : World) (h : Byts w A zs) (hcap : zs.length ≤ c) (hl : zs.length ≤ 4000000) :
    Calls Try.prog 32 #[.slice A zs.length c] w (Opens w) := by
  go_enter Try.func32, Try.ntmps32
  by_cases h2 : 2000 < zs.length
  · go_wp2_with fail
    go_ret
    have hl2 : (zs.take 2000).length = 2000 := by simp; omega
    have hr := h.1.cut (m := 2000) (by omega)
    rw [← List.map_take] at hr
    refine ⟨rfl, ⟨zs.take 2000, 0, ⟨⟨A, c, by rw [hl2]; exact heap_alloc_new w _, by rw [hl2]; exact hr.keepNo ((Kp.refl _ _).alloc _)⟩, fun z hz => h.2 z (List.mem_of_mem_take hz), by omega⟩, by omega⟩, (Kp.refl _ _).alloc _, by simp⟩
  · go_wp2_with fail
    go_ret
    refine ⟨rfl, ⟨zs, 0, ⟨⟨A, c, heap_alloc_new w _, h.1.keepNo ((Kp.refl _ _).alloc _)⟩, h.2, by omega⟩, by omega⟩, (Kp.refl _ _).alloc _, by simp⟩

theorem bitCount_10 (w : World) : Calls Try.prog 33 #[.int .i64 10] w fun e w' => e = .returned (.int .i64 2) ∧ w = w' := by
  go_enter Try.func33, Try.ntmps33
  go_wp2
  refine wp_loop_rounds 5 ?_
  iterate 5 (rw [rounds_succ]; go_wp2)
  go_ret
  exact ⟨rfl, rfl⟩
theorem bitCount_neg (w : World) : Calls Try.prog 33 #[.int .i64 (-1)] w fun e w' => e = .returned (.int .i64 (-1)) ∧ w = w' := by
  go_enter Try.func33, Try.ntmps33
  go_wp2
  go_ret
  exact ⟨rfl, rfl⟩
theorem alive_ (w : World) : Calls Try.prog 14 #[] w fun e w' => e = .returned (.bool true) ∧ w = w' := by
  go_enter Try.func14, Try.ntmps14
  go_wp2_with fail
  refine (bitCount_10 _).mono ?_
  rintro e w' ⟨rfl, rfl⟩
  go_wp2_with fail
  refine (bitCount_neg _).mono ?_
  rintro e w' ⟨rfl, rfl⟩
  go_wp2_with fail
  go_ret
  exact ⟨rfl, rfl⟩
end Go.Proofs.Ytagcdpnbkfoeaaa
