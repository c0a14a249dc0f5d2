/- MarkBad, of the program and of the reference: one Lean function markBad for both. -/
import Derived.Test.YtcnaehllegoefaaSpareOf
import Derived.Test.YtcnaehllegoefaaApp2
import Derived.Deep.RegionHeld3
namespace Go.Proofs.Ytcnaehllegoefaa
open Go.RowKit
set_option linter.unusedVariables false

def markBad (B X : Int) (xs : List Int) (v : Int) : (Int × Int × List Int) × Bool :=
  if spareOf B X xs v < 0 then ((0, 0, []), false) else if (xs.length : Int) = X then ((B, X, xs), false) else ((B, X, xs ++ [spareOf B X xs v]), true)
def NewSB (w : World) (r : (Int × Int × List Int) × Bool) (e : Ending) (w' : World) : Prop :=
  ∃ A c, e = .returned (.tuple #[.agg #[.int .i64 r.1.1, .int .i64 r.1.2.1, .slice A r.1.2.2.length c], .bool r.2]) ∧ OwnI w' w.heap.size w'.heap.size A c r.1.2.2 ∧ Kp No w w'
theorem BoxS.set {w : World} {b : Nat} {B X : Int} {A : Option Addr} {n c : Nat} (h : BoxS w b B X A n c) (B' X' : Int) (A' : Option Addr) (n' c' : Nat) :
    BoxS (((w.setCell ⟨b, 0, none⟩ (.int .i64 B')).setCell ⟨b, 1, none⟩ (.int .i64 X')).setCell ⟨b, 2, none⟩ (.slice A' n' c')) b B' X' A' n' c' := by
  obtain ⟨h0, h1, h2, f0, f1, f2, hl⟩ := h
  have e1 : (w.setCell ⟨b, 0, none⟩ (.int .i64 B')).cell? ⟨b, 1, none⟩ = some (.int .i64 X) := by rw [World.cell?_setCell_other _ _ _ _ (by simp)]; exact h1
  have e2 : ((w.setCell ⟨b, 0, none⟩ (.int .i64 B')).setCell ⟨b, 1, none⟩ (.int .i64 X')).cell? ⟨b, 2, none⟩ = some (.slice A n c) := by rw [World.cell?_setCell_other _ _ _ _ (by simp), World.cell?_setCell_other _ _ _ _ (by simp)]; exact h2
  refine ⟨?_, ?_, World.cell?_setCell_same _ _ _ e2, by simpa using f0, by simpa using f1, by simpa using f2, by simpa [World.setCell] using hl⟩
  · rw [World.cell?_setCell_other _ _ _ _ (by simp), World.cell?_setCell_other _ _ _ _ (by simp)]
    exact World.cell?_setCell_same _ _ _ h0
  · rw [World.cell?_setCell_other _ _ _ _ (by simp)]
    exact World.cell?_setCell_same _ _ _ e1
theorem BoxS.set2 {w : World} {b : Nat} {B X : Int} {A : Option Addr} {n c : Nat} (h : BoxS w b B X A n c) (A' : Option Addr) (n' c' : Nat) :
    BoxS (w.setCell ⟨b, 2, none⟩ (.slice A' n' c')) b B X A' n' c' := by
  obtain ⟨h0, h1, h2, f0, f1, f2, hl⟩ := h
  refine ⟨?_, ?_, World.cell?_setCell_same _ _ _ h2, by simpa using f0, by simpa using f1, by simpa using f2, by simpa [World.setCell] using hl⟩
  · rw [World.cell?_setCell_other _ _ _ _ (by simp)]; exact h0
  · rw [World.cell?_setCell_other _ _ _ _ (by simp)]; exact h1
theorem Kp.set3 (w : World) (b : Nat) (u v x : Value) : Kp (At b) w (((w.setCell ⟨b, 0, none⟩ u).setCell ⟨b, 1, none⟩ v).setCell ⟨b, 2, none⟩ x) :=
  Kp.setCell (Kp.setCell (Kp.setCell (Kp.refl (At b) w) (p := ⟨b, 0, none⟩) (fun _ => (rfl : b = b)) u) (p := ⟨b, 1, none⟩) (fun _ => (rfl : b = b)) v) (p := ⟨b, 2, none⟩) (fun _ => (rfl : b = b)) x
theorem Kp.set1 (w : World) (b : Nat) (u : Value) : Kp (At b) w (w.setCell ⟨b, 2, none⟩ u) := Kp.setCell (Kp.refl (At b) w) (p := ⟨b, 2, none⟩) (fun _ => (rfl : b = b)) u

theorem OwnI.keepB {w w' : World} {S : Nat → Prop} {lo hi c : Nat} {A : Option Addr} {xs : List Int} (h : OwnI w lo hi A c xs) (k : Kp S w w') (hs : ∀ i, Blk A i → ¬ S i) : OwnI w' lo hi A c xs := by
  refine ⟨⟨h.1.1, ?_⟩, h.2.1, Nat.le_trans h.2.2 k.size⟩
  rcases h.1.2 with hn | ⟨g, cap, cur, hv, hg, hh, r⟩
  · exact .inl hn
  · refine .inr ⟨g, cap, cur, hv, hg, ?_, r⟩
    have hlt : g < hi := h.2.1 g (by rw [hv]; rfl)
    have hA : A = some ⟨g, 0, none⟩ := by injection hv
    rw [k.block g (Nat.lt_of_lt_of_le hlt h.2.2) (hs g ⟨0, hA⟩)]
    exact hh
/-- What stands in memory once the copy has been made. -/
structure Mid (w W : World) (b : Nat) (B X : Int) (A : Option Addr) (n c : Nat) (A' : Option Addr) (c' : Nat) (xs : List Int) : Prop where
  kp : Kp No w W
  hs : BoxS W w.heap.size B X A n c
  hr : BoxS W (w.heap.size + 1) 0 0 none 0 0
  hb : BoxS W b B X A' n c'
  own : OwnI W w.heap.size W.heap.size A' c' xs
  at_ : ∀ k, Blk A' k → k ≠ b ∧ w.heap.size + 2 ≤ k
  lt : w.heap.size + 2 ≤ b
theorem Mid.late {w w1 w4 : World} {B X : Int} {A A4 : Option Addr} {n c c4 : Nat} {xs : List Int} (t : TypeId) (kp : Kp No w w1) (s1 : w.heap.size + 2 ≤ w1.heap.size) (q : Kp No w1 w4)
    (hs : BoxS w1 w.heap.size B X A n c) (hr : BoxS w1 (w.heap.size + 1) 0 0 none 0 0) (o : OwnI w4 w1.heap.size w4.heap.size A4 c4 xs) :
    Mid w (w4.alloc (.cells #[.int .i64 B, .int .i64 X, .slice A4 n c4] t)) w4.heap.size B X A n c A4 c4 xs := by
  have ka : Kp No w4 (w4.alloc (.cells #[.int .i64 B, .int .i64 X, .slice A4 n c4] t)) := (Kp.refl _ _).alloc _
  have := q.size
  refine ⟨(kp.trans q).trans ka, (hs.keepNo q).keepNo ka, (hr.keepNo q).keepNo ka, BoxS.new _ _ _ _ _ _ _, (o.keepNo ka).wide (by omega) (by simp) (Nat.le_refl _), fun k hk => ?_, by omega⟩
  have := Own.blk o hk
  omega
theorem Mid.soon {w w1 w4 : World} {B X : Int} {A A4 : Option Addr} {n c c4 : Nat} {xs : List Int} (kp : Kp No w w1) (s1 : w.heap.size + 2 ≤ w1.heap.size) (q : Kp No w1 w4)
    (hs : BoxS w1 w.heap.size B X A n c) (hr : BoxS w1 (w.heap.size + 1) 0 0 none 0 0) (hb : BoxS w4 w1.heap.size 0 0 none 0 0) {lo : Nat} (o : OwnI w4 lo w4.heap.size A4 c4 xs) (hlo : w1.heap.size + 1 ≤ lo) :
    Mid w (((w4.setCell ⟨w1.heap.size, 0, none⟩ (.int .i64 B)).setCell ⟨w1.heap.size, 1, none⟩ (.int .i64 X)).setCell ⟨w1.heap.size, 2, none⟩ (.slice A4 n c4)) w1.heap.size B X A n c A4 c4 xs := by
  have ks := Kp.set3 w4 w1.heap.size (.int .i64 B) (.int .i64 X) (.slice A4 n c4)
  have := q.size
  have hsz := ks.size
  refine ⟨(kp.trans q).also ks (fun i hi e => by simp only [At] at e; omega), (hs.keepNo q).keep ks (by simp only [At]; omega), (hr.keepNo q).keep ks (by simp only [At]; omega), hb.set _ _ _ _ _, ?_, fun k hk => ?_, by omega⟩
  · exact (o.keepB ks (fun i hi e => by have := Own.blk o hi; simp only [At] at e; omega)).wide (by omega) hsz (Nat.le_refl _)
  · have := Own.blk o hk
    omega

theorem Mid.soonB {w w1 w4 : World} {b : Nat} {B X : Int} {A A4 : Option Addr} {n c c4 : Nat} {xs : List Int} (kp : Kp No w w1) (s1 : w.heap.size + 2 ≤ w1.heap.size) (q : Kp No w1 w4)
    (hs : BoxS w1 w.heap.size B X A n c) (hr : BoxS w1 (w.heap.size + 1) 0 0 none 0 0) (hb0 : w1.heap.size ≤ b) (hb : BoxS w4 b 0 0 none 0 0) (o : OwnI w4 w1.heap.size w4.heap.size A4 c4 xs) (hat : ∀ k, Blk A4 k → k ≠ b) :
    Mid w (((w4.setCell ⟨b, 0, none⟩ (.int .i64 B)).setCell ⟨b, 1, none⟩ (.int .i64 X)).setCell ⟨b, 2, none⟩ (.slice A4 n c4)) b B X A n c A4 c4 xs := by
  have ks := Kp.set3 w4 b (.int .i64 B) (.int .i64 X) (.slice A4 n c4)
  have := q.size
  have hsz := ks.size
  refine ⟨(kp.trans q).also ks (fun i hi e => by simp only [At] at e; omega), (hs.keepNo q).keep ks (by simp only [At]; omega), (hr.keepNo q).keep ks (by simp only [At]; omega), hb.set _ _ _ _ _, ?_, fun k hk => ?_, by omega⟩
  · exact (o.keepB ks (fun i hi e => hat i hi e)).wide (by omega) hsz (Nat.le_refl _)
  · have := Own.blk o hk
    exact ⟨hat k hk, by omega⟩

set_option maxHeartbeats 4000000 in
theorem markBad_impl (B X v : Int) (A : Option Addr) (xs : List Int) (c lo hi : Nat) (w : World) (h : Ints w lo hi A xs) (hs : xs.length ≤ 4000000) (hcap : xs.length ≤ c) : Calls Try.prog 32 #[.agg #[.int .i64 B, .int .i64 X, .slice A xs.length c], .int .i64 v] w
    (NewSB w (markBad B X xs v)) := by
  have ka := ((Kp.refl No w).alloc (.cells #[.int .i64 B, .int .i64 X, .slice A xs.length c] 42)).alloc (.cells #[.int .i64 0, .int .i64 0, .slice none 0 0] 42)
  have hb := (BoxS.new w 42 B X A xs.length c).keepNo ((Kp.refl No _).alloc (.cells #[.int .i64 0, .int .i64 0, .slice none 0 0] 42))
  have hr := BoxS.new (w.alloc (.cells #[.int .i64 B, .int .i64 X, .slice A xs.length c] 42)) 42 0 0 none 0 0
  rw [show (w.alloc (.cells #[.int .i64 B, .int .i64 X, .slice A xs.length c] 42)).heap.size = w.heap.size + 1 by simp] at hr
  go_enter Try.func32, Try.ntmps32
  go_wp2_with fail
  refine (spareOf_impl B X v A xs c lo hi _ (h.keepNo ka) hs hcap).mono ?_
  rintro e w1 ⟨rfl, k1⟩
  have kp := ka.trans k1
  have h1 := h.keepNo kp
  have hb1 := hb.keepNo k1
  have hr1 := hr.keepNo k1
  have s1 : w.heap.size + 2 ≤ w1.heap.size := by have := k1.size; simp at this; omega
  clear hb hr ka k1
  generalize hu : spareOf B X xs v = u
  have Hu := Lib.hid hu; clear hu
  have Hb1 := Lib.hid hb1; have Hr1 := Lib.hid hr1
  obtain ⟨hc0, hc1, hc2, hf0, hf1, hf2, hbl⟩ := hb1
  obtain ⟨ec0, ec1, ec2, ef0, ef1, ef2, ebl⟩ := hr1
  by_cases hneg : u < 0
  · have Hm := Lib.hid (show markBad B X xs v = ((0, 0, []), false) by rw [markBad, if_pos (by rw [Hu.out]; exact hneg)])
    have d3 := Hr1.out.set 0 0 none 0 0
    go_wp2_with fail
    have ks := Kp.set3 w1 (w.heap.size + 1) (.int .i64 0) (.int .i64 0) (.slice none 0 0)
    refine bodyPost_ret (v := .tuple #[.agg #[.int .i64 0, .int .i64 0, .slice none 0 0], .bool false]) (by simp [results, Try.results32, go_sem, d3.1, d3.2.1, d3.2.2.1]) rfl ?_
    rw [Hm.out]
    exact ⟨none, 0, rfl, Own.nil (Nat.le_refl _), kp.also ks (fun i hi e => by simp only [At] at e; omega)⟩
  · go_wp2_with fail
    go_region_held3 (fun w' => w'.cell? ⟨w.heap.size, 0, none⟩ = some (.int .i64 B) ∧ w'.cell? ⟨w.heap.size, 1, none⟩ = some (.int .i64 X) ∧ w'.cell? ⟨w.heap.size, 2, none⟩ = some (.slice A xs.length c))
      (first | exact ⟨f0, f1, f2⟩ | exact ⟨m0, m1, m2⟩ | go_keep | exact ⟨hc0, hc1, hc2⟩)
      ((go_simp; go_at_call 51; refine (clone_any _ xs _ _ _ _ (h1.keepNo (by repeat (first | exact Kp.refl _ _ | apply Kp.drew | apply Kp.alloc))) hs).mono ?_; rintro e w4 ⟨A4, c4, rfl, o4, k4⟩
        have s4 := k4.size
        try simp at s4
        have q4 : Kp No w1 w4 := (by repeat (first | exact Kp.refl _ _ | apply Kp.drew | apply Kp.alloc) : Kp No w1 _).trans k4
        have f0 := (q4.cell (p := ⟨w.heap.size, 0, none⟩) hbl (fun e => e)).trans hc0
        have f1 := (q4.cell (p := ⟨w.heap.size, 1, none⟩) hbl (fun e => e)).trans hc1
        have f2 := (q4.cell (p := ⟨w.heap.size, 2, none⟩) hbl (fun e => e)).trans hc2
        try (have bx : BoxS w4 w1.heap.size 0 0 none 0 0 := ((BoxS.new w1 42 0 0 none 0 0).keepNo ((Kp.refl No _).drew)).keepNo k4; have Bx := Lib.hid bx; obtain ⟨g0, g1, g2, g3, g4, g5, g6⟩ := bx
             have ks := Kp.set3 w4 w1.heap.size (.int .i64 B) (.int .i64 X) (.slice A4 xs.length c4)
             have m0 := (ks.cell (p := ⟨w.heap.size, 0, none⟩) (by show w.heap.size < _; omega) (by simp only [At]; omega)).trans f0
             have m1 := (ks.cell (p := ⟨w.heap.size, 1, none⟩) (by show w.heap.size < _; omega) (by simp only [At]; omega)).trans f1
             have m2 := (ks.cell (p := ⟨w.heap.size, 2, none⟩) (by show w.heap.size < _; omega) (by simp only [At]; omega)).trans f2)))
    · have M := Mid.late 42 kp s1 q4 Hb1.out Hr1.out o4
      generalize (w4.alloc (.cells #[.int .i64 B, .int .i64 X, .slice A4 xs.length c4] 42)) = W at M ⊢
      generalize w4.heap.size = b at M ⊢
      clear f0 f1 f2 q4 k4 o4 hc0 hc1 hc2 hf0 hf1 hf2 ec0 ec1 ec2 ef0 ef1 ef2 hbl ebl Hb1 Hr1 h1 kp s1 s4
      obtain ⟨M1, M2, M3, M4, M5, M6, M7⟩ := M
      have sW := M1.size
      have Hb := Lib.hid M4; have Hr := Lib.hid M3
      obtain ⟨hc0, hc1, hc2, hf0, hf1, hf2, hbl⟩ := M2
      obtain ⟨ec0, ec1, ec2, ef0, ef1, ef2, ebl⟩ := M3
      obtain ⟨bc0, bc1, bc2, bf0, bf1, bf2, bbl⟩ := M4
      by_cases hx : (xs.length : Int) = X
      · have hbe : ((xs.length : Int) == X) = true := by simpa using hx
        have Hm := Lib.hid (show markBad B X xs v = ((B, X, xs), false) by rw [markBad, if_neg (by rw [Hu.out]; omega), if_pos hx])
        clear hx
        have d3 := Hr.out.set B X A4 xs.length c4
        have ks := Kp.set3 W (w.heap.size + 1) (.int .i64 B) (.int .i64 X) (.slice A4 xs.length c4)
        have o8 := M5.keepB ks (fun i hi e => by have := M6 i hi; simp only [At] at e; omega)
        have s8 := ks.size
        go_wp2_with fail
        refine bodyPost_ret (v := .tuple #[.agg #[.int .i64 B, .int .i64 X, .slice A4 xs.length c4], .bool false]) (by simp [results, Try.results32, go_sem, d3.1, d3.2.1, d3.2.2.1]) rfl ?_
        rw [Hm.out]
        exact ⟨A4, c4, rfl, o8.wide (Nat.le_refl _) s8 (Nat.le_refl _), M1.also ks (fun i hi e => by simp only [At] at e; omega)⟩
      · have hbf : ((xs.length : Int) == X) = false := by simpa using hx
        have Hm := Lib.hid (show markBad B X xs v = ((B, X, xs ++ [u]), true) by rw [markBad, if_neg (by rw [Hu.out]; omega), if_neg hx, Hu.out])
        clear hx
        have ka : Kp No W (W.alloc (.cells #[.int .i64 u] 3)) := (Kp.refl _ _).alloc _
        have l1 := ints_lit W u 3
        go_wp2_with (at_builtin; refine wpList_appI2 _ rfl _ _ rfl w.heap.size W.heap.size A4 c4 xs rfl (M5.keepNo ka) _ _ _ 1 [u] rfl l1 (by simp; omega) (by simp; omega) ?_; intro A7 c7 w7 o7 k7 b7
                     have Bs7 := (Hb.out.keepNo ka).keep k7 (fun e => (M6 _ e).1 rfl)
                     have Br7 := (Hr.out.keepNo ka).keep k7 (fun e => by have := (M6 _ e).2; omega)
                     have ds := Bs7.set2 A7 (xs.length + 1) c7
                     have ks1 := Kp.set1 w7 b (.slice A7 (xs.length + 1) c7)
                     have Br8 := Br7.keep ks1 (by simp only [At]; omega)
                     have d3 := Br8.set B X A7 (xs.length + 1) c7
                     have Br8' := Br8
                     obtain ⟨p0, p1, p2, p3, p4, p5, p6⟩ := Bs7
                     obtain ⟨q0, q1, q2, q3, q4, q5, q6⟩ := Br7
                     obtain ⟨r0, r1, r2, r3, r4, r5, r6⟩ := ds
                     obtain ⟨t0, t1, t2, t3, t4, t5, t6⟩ := Br8)
        have ks2 := Kp.set3 (w7.setCell ⟨b, 2, none⟩ (.slice A7 (xs.length + 1) c7)) (w.heap.size + 1) (.int .i64 B) (.int .i64 X) (.slice A7 (xs.length + 1) c7)
        have hA7 : ∀ k, Blk A7 k → k ≠ b ∧ w.heap.size + 2 ≤ k := fun k hk => by
          rcases b7 k hk with h | h
          · exact M6 k h
          · simp at h; omega
        have o8 := (o7.keepB ks1 (fun i hi e => (hA7 i hi).1 e)).keepB ks2 (fun i hi e => by have := (hA7 i hi).2; simp only [At] at e; omega)
        have s8 := ks1.size; have s9 := ks2.size
        refine bodyPost_ret (v := .tuple #[.agg #[.int .i64 B, .int .i64 X, .slice A7 (xs.length + 1) c7], .bool true]) (by simp [results, Try.results32, go_sem, d3.1, d3.2.1, d3.2.2.1]) rfl ?_
        rw [Hm.out]
        exact ⟨A7, c7, by simp, o8.wide (Nat.le_refl _) (by omega) (Nat.le_refl _), (((M1.trans ka).also k7 (fun i hi e => by have := (M6 _ e).2; omega)).also ks1 (fun i hi e => by simp only [At] at e; omega)).also ks2 (fun i hi e => by simp only [At] at e; omega)⟩
    · have M := Mid.soon kp s1 q4 Hb1.out Hr1.out Bx.out o4 (by simp)
      clear ks m0 m1 m2 Bx g0 g1 g2 g3 g4 g5 g6
      generalize (((w4.setCell ⟨w1.heap.size, 0, none⟩ (.int .i64 B)).setCell ⟨w1.heap.size, 1, none⟩ (.int .i64 X)).setCell ⟨w1.heap.size, 2, none⟩ (.slice A4 xs.length c4)) = W at M ⊢
      generalize w1.heap.size = b at M ⊢
      clear f0 f1 f2 q4 k4 o4 hc0 hc1 hc2 hf0 hf1 hf2 ec0 ec1 ec2 ef0 ef1 ef2 hbl ebl Hb1 Hr1 h1 kp s1 s4
      obtain ⟨M1, M2, M3, M4, M5, M6, M7⟩ := M
      have sW := M1.size
      have Hb := Lib.hid M4; have Hr := Lib.hid M3
      obtain ⟨hc0, hc1, hc2, hf0, hf1, hf2, hbl⟩ := M2
      obtain ⟨ec0, ec1, ec2, ef0, ef1, ef2, ebl⟩ := M3
      obtain ⟨bc0, bc1, bc2, bf0, bf1, bf2, bbl⟩ := M4
      by_cases hx : (xs.length : Int) = X
      · have hbe : ((xs.length : Int) == X) = true := by simpa using hx
        have Hm := Lib.hid (show markBad B X xs v = ((B, X, xs), false) by rw [markBad, if_neg (by rw [Hu.out]; omega), if_pos hx])
        clear hx
        have d3 := Hr.out.set B X A4 xs.length c4
        have ks := Kp.set3 W (w.heap.size + 1) (.int .i64 B) (.int .i64 X) (.slice A4 xs.length c4)
        have o8 := M5.keepB ks (fun i hi e => by have := M6 i hi; simp only [At] at e; omega)
        have s8 := ks.size
        go_wp2_with fail
        refine bodyPost_ret (v := .tuple #[.agg #[.int .i64 B, .int .i64 X, .slice A4 xs.length c4], .bool false]) (by simp [results, Try.results32, go_sem, d3.1, d3.2.1, d3.2.2.1]) rfl ?_
        rw [Hm.out]
        exact ⟨A4, c4, rfl, o8.wide (Nat.le_refl _) s8 (Nat.le_refl _), M1.also ks (fun i hi e => by simp only [At] at e; omega)⟩
      · have hbf : ((xs.length : Int) == X) = false := by simpa using hx
        have Hm := Lib.hid (show markBad B X xs v = ((B, X, xs ++ [u]), true) by rw [markBad, if_neg (by rw [Hu.out]; omega), if_neg hx, Hu.out])
        clear hx
        have ka : Kp No W (W.alloc (.cells #[.int .i64 u] 3)) := (Kp.refl _ _).alloc _
        have l1 := ints_lit W u 3
        go_wp2_with (at_builtin; refine wpList_appI2 _ rfl _ _ rfl w.heap.size W.heap.size A4 c4 xs rfl (M5.keepNo ka) _ _ _ 1 [u] rfl l1 (by simp; omega) (by simp; omega) ?_; intro A7 c7 w7 o7 k7 b7
                     have Bs7 := (Hb.out.keepNo ka).keep k7 (fun e => (M6 _ e).1 rfl)
                     have Br7 := (Hr.out.keepNo ka).keep k7 (fun e => by have := (M6 _ e).2; omega)
                     have ds := Bs7.set2 A7 (xs.length + 1) c7
                     have ks1 := Kp.set1 w7 b (.slice A7 (xs.length + 1) c7)
                     have Br8 := Br7.keep ks1 (by simp only [At]; omega)
                     have d3 := Br8.set B X A7 (xs.length + 1) c7
                     have Br8' := Br8
                     obtain ⟨p0, p1, p2, p3, p4, p5, p6⟩ := Bs7
                     obtain ⟨q0, q1, q2, q3, q4, q5, q6⟩ := Br7
                     obtain ⟨r0, r1, r2, r3, r4, r5, r6⟩ := ds
                     obtain ⟨t0, t1, t2, t3, t4, t5, t6⟩ := Br8)
        have ks2 := Kp.set3 (w7.setCell ⟨b, 2, none⟩ (.slice A7 (xs.length + 1) c7)) (w.heap.size + 1) (.int .i64 B) (.int .i64 X) (.slice A7 (xs.length + 1) c7)
        have hA7 : ∀ k, Blk A7 k → k ≠ b ∧ w.heap.size + 2 ≤ k := fun k hk => by
          rcases b7 k hk with h | h
          · exact M6 k h
          · simp at h; omega
        have o8 := (o7.keepB ks1 (fun i hi e => (hA7 i hi).1 e)).keepB ks2 (fun i hi e => by have := (hA7 i hi).2; simp only [At] at e; omega)
        have s8 := ks1.size; have s9 := ks2.size
        refine bodyPost_ret (v := .tuple #[.agg #[.int .i64 B, .int .i64 X, .slice A7 (xs.length + 1) c7], .bool true]) (by simp [results, Try.results32, go_sem, d3.1, d3.2.1, d3.2.2.1]) rfl ?_
        rw [Hm.out]
        exact ⟨A7, c7, by simp, o8.wide (Nat.le_refl _) (by omega) (Nat.le_refl _), (((M1.trans ka).also k7 (fun i hi e => by have := (M6 _ e).2; omega)).also ks1 (fun i hi e => by simp only [At] at e; omega)).also ks2 (fun i hi e => by simp only [At] at e; omega)⟩

/-- append of ints onto an own slice of ints, inside a drawn region. -/
theorem step_appI2 (w : World) {ops : Array Oper} {o : Oper} {a : Act} {K : Act → World → Prop} {Q : Exit → Act → World → Prop} {E : Prop} (hgd : o.guard = none) (s x : Operand)
    (ho : o.op = .call { callee := .builtin .append, args := #[s, x], argTypes := #[29, 29] })
    (lo up : Nat) (A : Option Addr) (c : Nat) (xs : List Int) (hs : a.eval s = .slice A xs.length c) (hown : OwnI w lo up A c xs)
    (lo' up' : Nat) (A2 : Option Addr) (c2 : Nat) (ys : List Int) (hx : a.eval x = .slice A2 ys.length c2) (hr : Ints w lo' up' A2 ys)
    (hlen : xs.length + ys.length ≤ 100000000) (hlo : lo ≤ w.heap.size)
    (h : ∀ A' c' w', OwnI w' lo w'.heap.size A' c' (xs ++ ys) → Kp (Blk A) w w' → (∀ k, Blk A' k → Blk A k ∨ k = w.heap.size) → K (a.put o.dst (.slice A' (xs.length + ys.length) c')) w') :
    if Region.wanted o (yielded ops a.tmps) = true then Oper.wp Try.prog o a w K Q else E := by
  obtain ⟨i0, hi0, hz0, hz1, hz2⟩ := info_parts int_info
  have hw : Region.wanted o (yielded ops a.tmps) = true := by simp [Region.wanted, hgd]
  rw [if_pos hw]
  obtain ⟨A', c', w', hrun, h2, h3, h4⟩ := run_app2 (P := Try.prog) w 29 o.type 3 i0 (.int .i64 0) 1 8 Try.underlying29 hi0 hz0 hz1 hz2 rfl (by omega) lo up A xs.length c _ hown lo' up' A2 ys.length c2 _ hr (ints_one ys) hlen (by omega) hlo
  unfold Oper.wp execOp
  simp only [ho, resolve, invoke, builtin, Sem.run_bind, Sem.run_pure, Result.andThen_ok, List.map_toArray, List.map_cons, List.map_nil, hs, hx, hrun]
  refine h A' c' w' ?_ h3 h4
  unfold OwnI
  rw [List.map_append, List.length_append]
  exact h2
theorem blk_at {b o k : Nat} (h : Blk (some ⟨b, o, none⟩) k) : k = b := by
  obtain ⟨o', h⟩ := h
  injection h with h; injection h with h1 h2
  exact h1.symm

set_option maxHeartbeats 4000000 in
theorem markBad_spec (B X v : Int) (A : Option Addr) (xs : List Int) (c lo hi : Nat) (w : World) (h : Ints w lo hi A xs) (hs : xs.length ≤ 4000000) : Calls Try.prog 33 #[.agg #[.int .i64 B, .int .i64 X, .slice A xs.length c], .int .i64 v] w
    (NewSB w (markBad B X xs v)) := by
  have ka := ((Kp.refl No w).alloc (.cells #[.int .i64 B, .int .i64 X, .slice A xs.length c] 42)).alloc (.cells #[.int .i64 0, .int .i64 0, .slice none 0 0] 42)
  have hb := (BoxS.new w 42 B X A xs.length c).keepNo ((Kp.refl No _).alloc (.cells #[.int .i64 0, .int .i64 0, .slice none 0 0] 42))
  have hr := BoxS.new (w.alloc (.cells #[.int .i64 B, .int .i64 X, .slice A xs.length c] 42)) 42 0 0 none 0 0
  rw [show (w.alloc (.cells #[.int .i64 B, .int .i64 X, .slice A xs.length c] 42)).heap.size = w.heap.size + 1 by simp] at hr
  go_enter Try.func33, Try.ntmps33
  go_wp2_with fail
  refine (spareOf_spec B X v A xs c lo hi _ (h.keepNo ka) hs).mono ?_
  rintro e w1 ⟨rfl, k1⟩
  have kp := ka.trans k1
  have h1 := h.keepNo kp
  have hb1 := hb.keepNo k1
  have hr1 := hr.keepNo k1
  have s1 : w.heap.size + 2 ≤ w1.heap.size := by have := k1.size; simp at this; omega
  clear hb hr ka k1
  generalize hu : spareOf B X xs v = u
  have Hu := Lib.hid hu; clear hu
  have Hb1 := Lib.hid hb1; have Hr1 := Lib.hid hr1
  obtain ⟨hc0, hc1, hc2, hf0, hf1, hf2, hbl⟩ := hb1
  obtain ⟨ec0, ec1, ec2, ef0, ef1, ef2, ebl⟩ := hr1
  by_cases hneg : u < 0
  · have Hm := Lib.hid (show markBad B X xs v = ((0, 0, []), false) by rw [markBad, if_pos (by rw [Hu.out]; exact hneg)])
    have d3 := Hr1.out.set 0 0 none 0 0
    go_wp2_with fail
    have ks := Kp.set3 w1 (w.heap.size + 1) (.int .i64 0) (.int .i64 0) (.slice none 0 0)
    refine bodyPost_ret (v := .tuple #[.agg #[.int .i64 0, .int .i64 0, .slice none 0 0], .bool false]) (by simp [results, Try.results33, go_sem, d3.1, d3.2.1, d3.2.2.1]) rfl ?_
    rw [Hm.out]
    exact ⟨none, 0, rfl, Own.nil (Nat.le_refl _), kp.also ks (fun i hi e => by simp only [At] at e; omega)⟩
  · have a1 : OwnI (w1.alloc (.cells #[] 3)) w1.heap.size (w1.heap.size + 1) (some ⟨w1.heap.size, 0, none⟩) 0 [] :=
      ⟨World.ownsRow_lit w1 #[] 0 (Nat.le_refl _) (by decide) rfl, fun g hg => by simp [Value.ownBlock] at hg; omega, by simp⟩
    have a2 := a1.keepNo ((Kp.refl _ _).alloc (.cells #[.int .i64 0, .int .i64 0, .slice none 0 0] 42))
    have a3 : OwnI ((w1.alloc (.cells #[.int .i64 0, .int .i64 0, .slice none 0 0] 42)).alloc (.cells #[] 3)) (w1.heap.size + 1) (w1.heap.size + 2) (some ⟨w1.heap.size + 1, 0, none⟩) 0 [] := by
      have := World.ownsRow_lit (w1.alloc (.cells #[.int .i64 0, .int .i64 0, .slice none 0 0] 42)) (e := 3) (size := 1) (base := w1.heap.size + 1) #[] 0 (by simp) (by decide) rfl
      rw [show (w1.alloc (.cells #[.int .i64 0, .int .i64 0, .slice none 0 0] 42)).heap.size = w1.heap.size + 1 by simp] at this
      exact ⟨this, fun g hg => by simp [Value.ownBlock] at hg; omega, by simp⟩
    have x2 := BoxS.new (w1.alloc (.cells #[] 3)) 42 0 0 none 0 0
    rw [show (w1.alloc (.cells #[] 3)).heap.size = w1.heap.size + 1 by simp] at x2
    have x3 := (BoxS.new w1 42 0 0 none 0 0).keepNo ((Kp.refl No _).alloc (.cells #[] 3))
    have A1 := Lib.hid a1; have A2 := Lib.hid a2; have A3 := Lib.hid a3; have X2 := Lib.hid x2; have X3 := Lib.hid x3
    clear a1 a2 a3 x2 x3
    go_wp2_with fail
    go_region_held3 (fun w' => w'.cell? ⟨w.heap.size, 0, none⟩ = some (.int .i64 B) ∧ w'.cell? ⟨w.heap.size, 1, none⟩ = some (.int .i64 X) ∧ w'.cell? ⟨w.heap.size, 2, none⟩ = some (.slice A xs.length c))
      (first | exact ⟨f0, f1, f2⟩ | exact ⟨m0, m1, m2⟩ | go_keep | exact ⟨hc0, hc1, hc2⟩)
      ((refine step_appI2 _ (by rfl) (.tmp 18) (.tmp 20) (by rfl) _ _ _ _ [] (by rfl) (by first | exact A1.out.keepNo ((Kp.refl _ _).drew) | exact A2.out.keepNo ((Kp.refl _ _).drew) | exact A3.out.keepNo ((Kp.refl _ _).drew)) _ _ A c xs (by rfl) (h1.keepNo (by repeat (first | exact Kp.refl _ _ | apply Kp.drew | apply Kp.alloc))) (by simp <;> omega) (by simp <;> omega) ?_; intro A4 c4 w4 o4 k4 b4
        have s4 := k4.size
        try simp at s4
        have q4 : Kp No w1 w4 := (by repeat (first | exact Kp.refl _ _ | apply Kp.drew | apply Kp.alloc) : Kp No w1 _).also k4 (fun i hi e => by have := blk_at e; omega)
        have f0 := (q4.cell (p := ⟨w.heap.size, 0, none⟩) hbl (fun e => e)).trans hc0
        have f1 := (q4.cell (p := ⟨w.heap.size, 1, none⟩) hbl (fun e => e)).trans hc1
        have f2 := (q4.cell (p := ⟨w.heap.size, 2, none⟩) hbl (fun e => e)).trans hc2
        try (have bx : BoxS w4 w1.heap.size 0 0 none 0 0 := (X3.out.keepNo ((Kp.refl No _).drew)).keep k4 (fun e => by have := blk_at e; omega)
             have Bx := Lib.hid bx; obtain ⟨g0, g1, g2, g3, g4, g5, g6⟩ := bx
             have ks := Kp.set3 w4 w1.heap.size (.int .i64 B) (.int .i64 X) (.slice A4 xs.length c4)
             have m0 := (ks.cell (p := ⟨w.heap.size, 0, none⟩) (by show w.heap.size < _; omega) (by simp only [At]; omega)).trans f0
             have m1 := (ks.cell (p := ⟨w.heap.size, 1, none⟩) (by show w.heap.size < _; omega) (by simp only [At]; omega)).trans f1
             have m2 := (ks.cell (p := ⟨w.heap.size, 2, none⟩) (by show w.heap.size < _; omega) (by simp only [At]; omega)).trans f2)
        try (have bx : BoxS w4 (w1.heap.size + 1) 0 0 none 0 0 := (X2.out.keepNo ((Kp.refl No _).drew)).keep k4 (fun e => by have := blk_at e; omega)
             have Bx := Lib.hid bx; obtain ⟨g0, g1, g2, g3, g4, g5, g6⟩ := bx
             have ks := Kp.set3 w4 (w1.heap.size + 1) (.int .i64 B) (.int .i64 X) (.slice A4 xs.length c4)
             have m0 := (ks.cell (p := ⟨w.heap.size, 0, none⟩) (by show w.heap.size < _; omega) (by simp only [At]; omega)).trans f0
             have m1 := (ks.cell (p := ⟨w.heap.size, 1, none⟩) (by show w.heap.size < _; omega) (by simp only [At]; omega)).trans f1
             have m2 := (ks.cell (p := ⟨w.heap.size, 2, none⟩) (by show w.heap.size < _; omega) (by simp only [At]; omega)).trans f2)))
    · have o4' : OwnI w4 w1.heap.size w4.heap.size A4 c4 xs := by simpa using o4
      have M := Mid.late 42 kp s1 q4 Hb1.out Hr1.out o4'
      clear b4 o4'
      generalize (w4.alloc (.cells #[.int .i64 B, .int .i64 X, .slice A4 xs.length c4] 42)) = W at M ⊢
      generalize w4.heap.size = b at M ⊢
      clear f0 f1 f2 q4 k4 o4 hc0 hc1 hc2 hf0 hf1 hf2 ec0 ec1 ec2 ef0 ef1 ef2 hbl ebl Hb1 Hr1 h1 kp s1 s4
      obtain ⟨M1, M2, M3, M4, M5, M6, M7⟩ := M
      have sW := M1.size
      have Hb := Lib.hid M4; have Hr := Lib.hid M3
      obtain ⟨hc0, hc1, hc2, hf0, hf1, hf2, hbl⟩ := M2
      obtain ⟨ec0, ec1, ec2, ef0, ef1, ef2, ebl⟩ := M3
      obtain ⟨bc0, bc1, bc2, bf0, bf1, bf2, bbl⟩ := M4
      by_cases hx : (xs.length : Int) = X
      · have hbe : ((xs.length : Int) == X) = true := by simpa using hx
        have Hm := Lib.hid (show markBad B X xs v = ((B, X, xs), false) by rw [markBad, if_neg (by rw [Hu.out]; omega), if_pos hx])
        clear hx
        have d3 := Hr.out.set B X A4 xs.length c4
        have ks := Kp.set3 W (w.heap.size + 1) (.int .i64 B) (.int .i64 X) (.slice A4 xs.length c4)
        have o8 := M5.keepB ks (fun i hi e => by have := M6 i hi; simp only [At] at e; omega)
        have s8 := ks.size
        go_wp2_with fail
        refine bodyPost_ret (v := .tuple #[.agg #[.int .i64 B, .int .i64 X, .slice A4 xs.length c4], .bool false]) (by simp [results, Try.results33, go_sem, d3.1, d3.2.1, d3.2.2.1]) rfl ?_
        rw [Hm.out]
        exact ⟨A4, c4, rfl, o8.wide (Nat.le_refl _) s8 (Nat.le_refl _), M1.also ks (fun i hi e => by simp only [At] at e; omega)⟩
      · have hbf : ((xs.length : Int) == X) = false := by simpa using hx
        have Hm := Lib.hid (show markBad B X xs v = ((B, X, xs ++ [u]), true) by rw [markBad, if_neg (by rw [Hu.out]; omega), if_neg hx, Hu.out])
        clear hx
        have ka : Kp No W (W.alloc (.cells #[.int .i64 u] 3)) := (Kp.refl _ _).alloc _
        have l1 := ints_lit W u 3
        go_wp2_with (at_builtin; refine wpList_appI2 _ rfl _ _ rfl w.heap.size W.heap.size A4 c4 xs rfl (M5.keepNo ka) _ _ _ 1 [u] rfl l1 (by simp; omega) (by simp; omega) ?_; intro A7 c7 w7 o7 k7 b7
                     have Bs7 := (Hb.out.keepNo ka).keep k7 (fun e => (M6 _ e).1 rfl)
                     have Br7 := (Hr.out.keepNo ka).keep k7 (fun e => by have := (M6 _ e).2; omega)
                     have ds := Bs7.set2 A7 (xs.length + 1) c7
                     have ks1 := Kp.set1 w7 b (.slice A7 (xs.length + 1) c7)
                     have Br8 := Br7.keep ks1 (by simp only [At]; omega)
                     have d3 := Br8.set B X A7 (xs.length + 1) c7
                     have Br8' := Br8
                     obtain ⟨p0, p1, p2, p3, p4, p5, p6⟩ := Bs7
                     obtain ⟨q0, q1, q2, q3, q4, q5, q6⟩ := Br7
                     obtain ⟨r0, r1, r2, r3, r4, r5, r6⟩ := ds
                     obtain ⟨t0, t1, t2, t3, t4, t5, t6⟩ := Br8)
        have ks2 := Kp.set3 (w7.setCell ⟨b, 2, none⟩ (.slice A7 (xs.length + 1) c7)) (w.heap.size + 1) (.int .i64 B) (.int .i64 X) (.slice A7 (xs.length + 1) c7)
        have hA7 : ∀ k, Blk A7 k → k ≠ b ∧ w.heap.size + 2 ≤ k := fun k hk => by
          rcases b7 k hk with h | h
          · exact M6 k h
          · simp at h; omega
        have o8 := (o7.keepB ks1 (fun i hi e => (hA7 i hi).1 e)).keepB ks2 (fun i hi e => by have := (hA7 i hi).2; simp only [At] at e; omega)
        have s8 := ks1.size; have s9 := ks2.size
        refine bodyPost_ret (v := .tuple #[.agg #[.int .i64 B, .int .i64 X, .slice A7 (xs.length + 1) c7], .bool true]) (by simp [results, Try.results33, go_sem, d3.1, d3.2.1, d3.2.2.1]) rfl ?_
        rw [Hm.out]
        exact ⟨A7, c7, by simp, o8.wide (Nat.le_refl _) (by omega) (Nat.le_refl _), (((M1.trans ka).also k7 (fun i hi e => by have := (M6 _ e).2; omega)).also ks1 (fun i hi e => by simp only [At] at e; omega)).also ks2 (fun i hi e => by simp only [At] at e; omega)⟩
    · have o4' : OwnI w4 w1.heap.size w4.heap.size A4 c4 xs := (by simpa using o4 : OwnI w4 _ w4.heap.size A4 c4 xs).wide (by omega) (Nat.le_refl _) (Nat.le_refl _)
      have M := Mid.soonB (b := w1.heap.size + 1) kp s1 q4 Hb1.out Hr1.out (by omega) Bx.out o4' (fun k hk => by
        rcases b4 k hk with e | e
        · have := blk_at e; omega
        · simp at e; omega)
      clear ks m0 m1 m2 Bx g0 g1 g2 g3 g4 g5 g6 b4 o4'
      generalize (((w4.setCell ⟨w1.heap.size + 1, 0, none⟩ (.int .i64 B)).setCell ⟨w1.heap.size + 1, 1, none⟩ (.int .i64 X)).setCell ⟨w1.heap.size + 1, 2, none⟩ (.slice A4 xs.length c4)) = W at M ⊢
      generalize w1.heap.size + 1 = b at M ⊢
      clear f0 f1 f2 q4 k4 o4 hc0 hc1 hc2 hf0 hf1 hf2 ec0 ec1 ec2 ef0 ef1 ef2 hbl ebl Hb1 Hr1 h1 kp s1 s4
      obtain ⟨M1, M2, M3, M4, M5, M6, M7⟩ := M
      have sW := M1.size
      have Hb := Lib.hid M4; have Hr := Lib.hid M3
      obtain ⟨hc0, hc1, hc2, hf0, hf1, hf2, hbl⟩ := M2
      obtain ⟨ec0, ec1, ec2, ef0, ef1, ef2, ebl⟩ := M3
      obtain ⟨bc0, bc1, bc2, bf0, bf1, bf2, bbl⟩ := M4
      by_cases hx : (xs.length : Int) = X
      · have hbe : ((xs.length : Int) == X) = true := by simpa using hx
        have Hm := Lib.hid (show markBad B X xs v = ((B, X, xs), false) by rw [markBad, if_neg (by rw [Hu.out]; omega), if_pos hx])
        clear hx
        have d3 := Hr.out.set B X A4 xs.length c4
        have ks := Kp.set3 W (w.heap.size + 1) (.int .i64 B) (.int .i64 X) (.slice A4 xs.length c4)
        have o8 := M5.keepB ks (fun i hi e => by have := M6 i hi; simp only [At] at e; omega)
        have s8 := ks.size
        go_wp2_with fail
        refine bodyPost_ret (v := .tuple #[.agg #[.int .i64 B, .int .i64 X, .slice A4 xs.length c4], .bool false]) (by simp [results, Try.results33, go_sem, d3.1, d3.2.1, d3.2.2.1]) rfl ?_
        rw [Hm.out]
        exact ⟨A4, c4, rfl, o8.wide (Nat.le_refl _) s8 (Nat.le_refl _), M1.also ks (fun i hi e => by simp only [At] at e; omega)⟩
      · have hbf : ((xs.length : Int) == X) = false := by simpa using hx
        have Hm := Lib.hid (show markBad B X xs v = ((B, X, xs ++ [u]), true) by rw [markBad, if_neg (by rw [Hu.out]; omega), if_neg hx, Hu.out])
        clear hx
        have ka : Kp No W (W.alloc (.cells #[.int .i64 u] 3)) := (Kp.refl _ _).alloc _
        have l1 := ints_lit W u 3
        go_wp2_with (at_builtin; refine wpList_appI2 _ rfl _ _ rfl w.heap.size W.heap.size A4 c4 xs rfl (M5.keepNo ka) _ _ _ 1 [u] rfl l1 (by simp; omega) (by simp; omega) ?_; intro A7 c7 w7 o7 k7 b7
                     have Bs7 := (Hb.out.keepNo ka).keep k7 (fun e => (M6 _ e).1 rfl)
                     have Br7 := (Hr.out.keepNo ka).keep k7 (fun e => by have := (M6 _ e).2; omega)
                     have ds := Bs7.set2 A7 (xs.length + 1) c7
                     have ks1 := Kp.set1 w7 b (.slice A7 (xs.length + 1) c7)
                     have Br8 := Br7.keep ks1 (by simp only [At]; omega)
                     have d3 := Br8.set B X A7 (xs.length + 1) c7
                     have Br8' := Br8
                     obtain ⟨p0, p1, p2, p3, p4, p5, p6⟩ := Bs7
                     obtain ⟨q0, q1, q2, q3, q4, q5, q6⟩ := Br7
                     obtain ⟨r0, r1, r2, r3, r4, r5, r6⟩ := ds
                     obtain ⟨t0, t1, t2, t3, t4, t5, t6⟩ := Br8)
        have ks2 := Kp.set3 (w7.setCell ⟨b, 2, none⟩ (.slice A7 (xs.length + 1) c7)) (w.heap.size + 1) (.int .i64 B) (.int .i64 X) (.slice A7 (xs.length + 1) c7)
        have hA7 : ∀ k, Blk A7 k → k ≠ b ∧ w.heap.size + 2 ≤ k := fun k hk => by
          rcases b7 k hk with h | h
          · exact M6 k h
          · simp at h; omega
        have o8 := (o7.keepB ks1 (fun i hi e => (hA7 i hi).1 e)).keepB ks2 (fun i hi e => by have := (hA7 i hi).2; simp only [At] at e; omega)
        have s8 := ks1.size; have s9 := ks2.size
        refine bodyPost_ret (v := .tuple #[.agg #[.int .i64 B, .int .i64 X, .slice A7 (xs.length + 1) c7], .bool true]) (by simp [results, Try.results33, go_sem, d3.1, d3.2.1, d3.2.2.1]) rfl ?_
        rw [Hm.out]
        exact ⟨A7, c7, by simp, o8.wide (Nat.le_refl _) (by omega) (Nat.le_refl _), (((M1.trans ka).also k7 (fun i hi e => by have := (M6 _ e).2; omega)).also ks1 (fun i hi e => by simp only [At] at e; omega)).also ks2 (fun i hi e => by simp only [At] at e; omega)⟩
    · have o4' : OwnI w4 w1.heap.size w4.heap.size A4 c4 xs := (by simpa using o4 : OwnI w4 _ w4.heap.size A4 c4 xs).wide (by omega) (Nat.le_refl _) (Nat.le_refl _)
      have M := Mid.soonB (b := w1.heap.size) kp s1 q4 Hb1.out Hr1.out (by omega) Bx.out o4' (fun k hk => by
        rcases b4 k hk with e | e
        · have := blk_at e; omega
        · simp at e; omega)
      clear ks m0 m1 m2 Bx g0 g1 g2 g3 g4 g5 g6 b4 o4'
      generalize (((w4.setCell ⟨w1.heap.size, 0, none⟩ (.int .i64 B)).setCell ⟨w1.heap.size, 1, none⟩ (.int .i64 X)).setCell ⟨w1.heap.size, 2, none⟩ (.slice A4 xs.length c4)) = W at M ⊢
      generalize w1.heap.size = b at M ⊢
      clear f0 f1 f2 q4 k4 o4 hc0 hc1 hc2 hf0 hf1 hf2 ec0 ec1 ec2 ef0 ef1 ef2 hbl ebl Hb1 Hr1 h1 kp s1 s4
      obtain ⟨M1, M2, M3, M4, M5, M6, M7⟩ := M
      have sW := M1.size
      have Hb := Lib.hid M4; have Hr := Lib.hid M3
      obtain ⟨hc0, hc1, hc2, hf0, hf1, hf2, hbl⟩ := M2
      obtain ⟨ec0, ec1, ec2, ef0, ef1, ef2, ebl⟩ := M3
      obtain ⟨bc0, bc1, bc2, bf0, bf1, bf2, bbl⟩ := M4
      by_cases hx : (xs.length : Int) = X
      · have hbe : ((xs.length : Int) == X) = true := by simpa using hx
        have Hm := Lib.hid (show markBad B X xs v = ((B, X, xs), false) by rw [markBad, if_neg (by rw [Hu.out]; omega), if_pos hx])
        clear hx
        have d3 := Hr.out.set B X A4 xs.length c4
        have ks := Kp.set3 W (w.heap.size + 1) (.int .i64 B) (.int .i64 X) (.slice A4 xs.length c4)
        have o8 := M5.keepB ks (fun i hi e => by have := M6 i hi; simp only [At] at e; omega)
        have s8 := ks.size
        go_wp2_with fail
        refine bodyPost_ret (v := .tuple #[.agg #[.int .i64 B, .int .i64 X, .slice A4 xs.length c4], .bool false]) (by simp [results, Try.results33, go_sem, d3.1, d3.2.1, d3.2.2.1]) rfl ?_
        rw [Hm.out]
        exact ⟨A4, c4, rfl, o8.wide (Nat.le_refl _) s8 (Nat.le_refl _), M1.also ks (fun i hi e => by simp only [At] at e; omega)⟩
      · have hbf : ((xs.length : Int) == X) = false := by simpa using hx
        have Hm := Lib.hid (show markBad B X xs v = ((B, X, xs ++ [u]), true) by rw [markBad, if_neg (by rw [Hu.out]; omega), if_neg hx, Hu.out])
        clear hx
        have ka : Kp No W (W.alloc (.cells #[.int .i64 u] 3)) := (Kp.refl _ _).alloc _
        have l1 := ints_lit W u 3
        go_wp2_with (at_builtin; refine wpList_appI2 _ rfl _ _ rfl w.heap.size W.heap.size A4 c4 xs rfl (M5.keepNo ka) _ _ _ 1 [u] rfl l1 (by simp; omega) (by simp; omega) ?_; intro A7 c7 w7 o7 k7 b7
                     have Bs7 := (Hb.out.keepNo ka).keep k7 (fun e => (M6 _ e).1 rfl)
                     have Br7 := (Hr.out.keepNo ka).keep k7 (fun e => by have := (M6 _ e).2; omega)
                     have ds := Bs7.set2 A7 (xs.length + 1) c7
                     have ks1 := Kp.set1 w7 b (.slice A7 (xs.length + 1) c7)
                     have Br8 := Br7.keep ks1 (by simp only [At]; omega)
                     have d3 := Br8.set B X A7 (xs.length + 1) c7
                     have Br8' := Br8
                     obtain ⟨p0, p1, p2, p3, p4, p5, p6⟩ := Bs7
                     obtain ⟨q0, q1, q2, q3, q4, q5, q6⟩ := Br7
                     obtain ⟨r0, r1, r2, r3, r4, r5, r6⟩ := ds
                     obtain ⟨t0, t1, t2, t3, t4, t5, t6⟩ := Br8)
        have ks2 := Kp.set3 (w7.setCell ⟨b, 2, none⟩ (.slice A7 (xs.length + 1) c7)) (w.heap.size + 1) (.int .i64 B) (.int .i64 X) (.slice A7 (xs.length + 1) c7)
        have hA7 : ∀ k, Blk A7 k → k ≠ b ∧ w.heap.size + 2 ≤ k := fun k hk => by
          rcases b7 k hk with h | h
          · exact M6 k h
          · simp at h; omega
        have o8 := (o7.keepB ks1 (fun i hi e => (hA7 i hi).1 e)).keepB ks2 (fun i hi e => by have := (hA7 i hi).2; simp only [At] at e; omega)
        have s8 := ks1.size; have s9 := ks2.size
        refine bodyPost_ret (v := .tuple #[.agg #[.int .i64 B, .int .i64 X, .slice A7 (xs.length + 1) c7], .bool true]) (by simp [results, Try.results33, go_sem, d3.1, d3.2.1, d3.2.2.1]) rfl ?_
        rw [Hm.out]
        exact ⟨A7, c7, by simp, o8.wide (Nat.le_refl _) (by omega) (Nat.le_refl _), (((M1.trans ka).also k7 (fun i hi e => by have := (M6 _ e).2; omega)).also ks1 (fun i hi e => by simp only [At] at e; omega)).also ks2 (fun i hi e => by simp only [At] at e; omega)⟩
end Go.Proofs.Ytcnaehllegoefaa
