/- The draws of the trim laws. -/
import Derived.Test.YtjjglggfkbbhfaaDrawSpan
import Derived.WalkKit
import Derived.WalkSpells
import Derived.WalkLawsBesides
import Derived.Outline
namespace Go.Proofs.Ytjjglggfkbbhfaa
open Go.RowKit
set_option linter.unusedVariables false

theorem Byts.keepNo {w w' : World} {A : Option Addr} {zs : List Int} (h : Byts w A zs) (k : Kp No w w') : Byts w' A zs := ⟨(h.1.keepNo k).wide (Nat.le_refl _) k.size (Nat.le_refl _), h.2⟩
def SomeS (w : World) (e : Ending) (w' : World) : Prop := ∃ x y : Int, e = .returned (.agg #[.int .i64 x, .int .i64 y]) ∧ Kp No w w'
def SomeP (L : Nat) (w : World) (e : Ending) (w' : World) : Prop := ∃ A c ps, e = .returned (.slice A (ps : List (Int × Int)).length c) ∧ OwnP w' w.heap.size w'.heap.size A c ps ∧ ps.length ≤ L ∧ Kp No w w'
def SomePS (L : Nat) (w : World) (e : Ending) (w' : World) : Prop := ∃ A c ps x y, e = .returned (.tuple #[.slice A (ps : List (Int × Int)).length c, .agg #[.int .i64 x, .int .i64 y]]) ∧ OwnP w' w.heap.size w'.heap.size A c ps ∧ ps.length ≤ L ∧ Kp No w w'
def SomePN (L : Nat) (w : World) (e : Ending) (w' : World) : Prop := ∃ A c ps n, e = .returned (.tuple #[.slice A (ps : List (Int × Int)).length c, .int .i64 n]) ∧ OwnP w' w.heap.size w'.heap.size A c ps ∧ ps.length ≤ L ∧ Kp No w w'

set_option maxHeartbeats 1000000 in
theorem drawSpanValid (A : Option Addr) (zs : List Int) (c : Nat) (w : World) (h : Byts w A zs) (hcap : zs.length ≤ c) (hl : zs.length ≤ 4000000) :
    Calls Try.prog 18 #[.slice A zs.length c] w (SomeS w) := by
  have b0 := Box2.new w 25 0 0
  have k0 : Kp No w (w.alloc (.cells #[.int .i64 0, .int .i64 0] 25)) := (Kp.refl _ _).alloc _
  have hB := h.keepNo k0
  have hsz : (w.alloc (.cells #[.int .i64 0, .int .i64 0] 25)).heap.size = w.heap.size + 1 := by simp
  clear h
  go_enter Try.func18, Try.ntmps18
  go_wp2_with fail
  refine (open_ _ _ _ _ hB hcap hl).mono ?_
  rintro e w1 ⟨rfl, r1, k1, z1⟩
  rw [hsz] at r1 z1
  try rw [hsz]
  clear hsz
  go_wp2_with fail
  refine (l20Span_ _ _ _ _ r1 (by omega) (by omega) (by omega)).mono ?_
  rintro e w2 ⟨x, y, rfl, r2, k2⟩
  have b3 := (b0.keepNo k1).keep k2 (by simp only [At]; omega)
  have d3 := b3.set x y
  obtain ⟨c0, c1, f0, f1, _⟩ := b3
  go_wp2_with fail
  exact bodyPost_ret (v := .agg #[.int .i64 x, .int .i64 y]) (by simp [results, Try.results18, go_sem, d3.1, d3.2.1]) rfl ⟨x, y, rfl, (((k0.trans k1).also k2 (fun i hi e => by simp only [At] at e; omega)).setCell (fun hh => absurd hh (by simp)) _).setCell (fun hh => absurd hh (by simp)) _⟩

set_option maxHeartbeats 1000000 in
theorem drawSpansValid (A : Option Addr) (zs : List Int) (c : Nat) (w : World) (h : Byts w A zs) (hcap : zs.length ≤ c) (hl : zs.length ≤ 4000000) :
    Calls Try.prog 25 #[.slice A zs.length c] w (SomeP 11 w) := by
  go_enter Try.func25, Try.ntmps25
  go_wp2_with fail
  refine (open_ _ _ _ _ h hcap hl).mono ?_
  rintro e w1 ⟨rfl, r1, k1, z1⟩
  go_wp2_with fail
  refine (l20Spans_ _ _ _ _ r1 (by omega) (by omega) (by omega)).mono ?_
  rintro e w2 ⟨A2, c2, ps, rfl, o2, l2, r2, k2⟩
  go_wp2_with fail
  go_ret
  exact ⟨A2, c2, ps, rfl, o2.wide (by omega) (Nat.le_refl _) (Nat.le_refl _), l2, k1.also k2 (fun i hi e => by simp only [At] at e; omega)⟩

set_option maxHeartbeats 1000000 in
theorem drawTrimCount (A : Option Addr) (zs : List Int) (c : Nat) (w : World) (h : Byts w A zs) (hcap : zs.length ≤ c) (hl : zs.length ≤ 4000000) :
    Calls Try.prog 31 #[.slice A zs.length c] w (SomeP 11 w) := by
  go_enter Try.func31, Try.ntmps31
  go_wp2_with fail
  refine (open_ _ _ _ _ h hcap hl).mono ?_
  rintro e w1 ⟨rfl, r1, k1, z1⟩
  go_wp2_with fail
  refine (l20Spans_ _ _ _ _ r1 (by omega) (by omega) (by omega)).mono ?_
  rintro e w2 ⟨A2, c2, ps, rfl, o2, l2, r2, k2⟩
  go_wp2_with fail
  go_ret
  exact ⟨A2, c2, ps, rfl, o2.wide (by omega) (Nat.le_refl _) (Nat.le_refl _), l2, k1.also k2 (fun i hi e => by simp only [At] at e; omega)⟩

set_option maxHeartbeats 1000000 in
theorem drawTrimHas (A : Option Addr) (zs : List Int) (c : Nat) (w : World) (h : Byts w A zs) (hcap : zs.length ≤ c) (hl : zs.length ≤ 4000000) :
    Calls Try.prog 28 #[.slice A zs.length c] w (SomePN 11 w) := by
  go_enter Try.func28, Try.ntmps28
  go_wp2_with fail
  refine (open_ _ _ _ _ h hcap hl).mono ?_
  rintro e w1 ⟨rfl, r1, k1, z1⟩
  go_wp2_with fail
  refine (l20Spans_ _ _ _ _ r1 (by omega) (by omega) (by omega)).mono ?_
  rintro e w2 ⟨A2, c2, ps, rfl, o2, l2, r2, k2⟩
  go_wp2_with fail
  refine (pick_ _ _ _ _ r2 (by omega) (by omega) (by omega)).mono ?_
  rintro e w3 ⟨v3, rfl, v3a, v3b, r3, k3, z3⟩
  have o3 := o2.keep k3 (fun i hi _ e => by simp only [At] at e; omega)
  go_wp2_with fail
  go_ret2
  exact ⟨A2, c2, ps, _, rfl, o3.wide (by omega) (by omega) (Nat.le_refl _), l2, (k1.also k2 (fun i hi e => by simp only [At] at e; omega)).also k3 (fun i hi e => by simp only [At] at e; omega)⟩

set_option maxHeartbeats 1000000 in
theorem drawTrimAdd (A : Option Addr) (zs : List Int) (c : Nat) (w : World) (h : Byts w A zs) (hcap : zs.length ≤ c) (hl : zs.length ≤ 4000000) :
    Calls Try.prog 36 #[.slice A zs.length c] w (SomePS 11 w) := by
  have b0 := Box2.new w 25 0 0
  have k0 : Kp No w (w.alloc (.cells #[.int .i64 0, .int .i64 0] 25)) := (Kp.refl _ _).alloc _
  have hB := h.keepNo k0
  have hsz : (w.alloc (.cells #[.int .i64 0, .int .i64 0] 25)).heap.size = w.heap.size + 1 := by simp
  clear h
  go_enter Try.func36, Try.ntmps36
  go_wp2_with fail
  refine (open_ _ _ _ _ hB hcap hl).mono ?_
  rintro e w1 ⟨rfl, r1, k1, z1⟩
  rw [hsz] at r1 z1
  try rw [hsz]
  clear hsz
  go_wp2_with fail
  refine (l20Spans_ _ _ _ _ r1 (by omega) (by omega) (by omega)).mono ?_
  rintro e w2 ⟨A2, c2, ps, rfl, o2, l2, r2, k2⟩
  go_wp2_with fail
  refine (l20Span_ _ _ _ _ r2 (by omega) (by omega) (by omega)).mono ?_
  rintro e w3 ⟨x, y, rfl, r3, k3⟩
  have o3 := o2.keep k3 (fun i hi _ e => by simp only [At] at e; omega)
  have b3 := ((b0.keepNo k1).keep k2 (by simp only [At]; omega)).keep k3 (by simp only [At]; omega)
  have d3 := b3.set x y
  obtain ⟨c0, c1, f0, f1, _⟩ := b3
  have ks : Kp (At w.heap.size) w3 ((w3.setCell ⟨w.heap.size, 0, none⟩ (.int .i64 x)).setCell ⟨w.heap.size, 1, none⟩ (.int .i64 y)) := Kp.set2 _ _ _ _
  have o4 := o3.keep ks (fun i hi _ e => by simp only [At] at e; omega)
  have hs2 := k2.size; have hs3 := k3.size; have hs4 := ks.size
  go_wp2_with fail
  exact bodyPost_ret (v := .tuple #[.slice A2 ps.length c2, .agg #[.int .i64 x, .int .i64 y]]) (by simp [results, Try.results36, go_sem, d3.1, d3.2.1]) rfl ⟨A2, c2, ps, x, y, rfl, o4.wide (by omega) (by omega) (Nat.le_refl _), l2, (((k0.trans k1).also k2 (fun i hi e => by simp only [At] at e; omega)).also k3 (fun i hi e => by simp only [At] at e; omega)).also ks (fun i hi e => by simp only [At] at e; omega)⟩

set_option maxHeartbeats 1000000 in
theorem drawTrimCut (A : Option Addr) (zs : List Int) (c : Nat) (w : World) (h : Byts w A zs) (hcap : zs.length ≤ c) (hl : zs.length ≤ 4000000) :
    Calls Try.prog 40 #[.slice A zs.length c] w (SomePS 11 w) := by
  have b0 := Box2.new w 25 0 0
  have k0 : Kp No w (w.alloc (.cells #[.int .i64 0, .int .i64 0] 25)) := (Kp.refl _ _).alloc _
  have hB := h.keepNo k0
  have hsz : (w.alloc (.cells #[.int .i64 0, .int .i64 0] 25)).heap.size = w.heap.size + 1 := by simp
  clear h
  go_enter Try.func40, Try.ntmps40
  go_wp2_with fail
  refine (drawTrimAdd _ _ _ _ hB hcap hl).mono ?_
  rintro e w1 ⟨A2, c2, ps, x, y, rfl, o2, l2, k1⟩
  rw [hsz] at o2
  have b3 := b0.keepNo k1
  have d3 := b3.set x y
  obtain ⟨c0, c1, f0, f1, _⟩ := b3
  have ks : Kp (At w.heap.size) w1 ((w1.setCell ⟨w.heap.size, 0, none⟩ (.int .i64 x)).setCell ⟨w.heap.size, 1, none⟩ (.int .i64 y)) := Kp.set2 _ _ _ _
  have o4 := o2.keep ks (fun i hi _ e => by simp only [At] at e; omega)
  have hs4 := ks.size
  go_wp2_with fail
  exact bodyPost_ret (v := .tuple #[.slice A2 ps.length c2, .agg #[.int .i64 x, .int .i64 y]]) (by simp [results, Try.results40, go_sem, d3.1, d3.2.1]) rfl ⟨A2, c2, ps, x, y, rfl, o4.wide (by omega) (by omega) (Nat.le_refl _), l2, (k0.trans k1).also ks (fun i hi e => by simp only [At] at e; omega)⟩
end Go.Proofs.Ytjjglggfkbbhfaa
