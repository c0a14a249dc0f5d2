/- DrawSpareOf and DrawMarkBad: some spares and some block come out. -/
import Derived.Test.YtcnaehllegoefaaDrawSpares
namespace Go.Proofs.Ytcnaehllegoefaa
open Go.RowKit
set_option linter.unusedVariables false

/-- What a draw leaves: some spares and a block. -/
def SomeS (w : World) (e : Ending) (w' : World) : Prop :=
  ∃ B X v A c xs, e = .returned (.tuple #[.agg #[.int .i64 B, .int .i64 X, .slice A (xs : List Int).length c], .int .i64 v]) ∧ 0 ≤ B ∧ B ≤ 13 ∧ Ints w' w.heap.size w'.heap.size A xs ∧ xs.length ≤ c ∧ xs.length ≤ 12 ∧ Kp No w w'

set_option maxHeartbeats 8000000 in
theorem drawSpareOf (A : Option Addr) (zs : List Int) (c : Nat) (w : World) (h : Byts w A zs) (hcap : zs.length ≤ c) (hl : zs.length ≤ 4000000) :
    Calls Try.prog 53 #[.slice A zs.length c] w (SomeS w) := by
  have ka := (Kp.refl No w).alloc (.cells #[.int .i64 0, .int .i64 0, .slice none 0 0] 42)
  have b0 := BoxS.new w 42 0 0 none 0 0
  have h' : Byts (w.alloc (.cells #[.int .i64 0, .int .i64 0, .slice none 0 0] 42)) A zs := ⟨(h.1.keepNo ka).wide (Nat.le_refl _) (by simp) (Nat.le_refl _), h.2⟩
  have e0 : (w.alloc (.cells #[.int .i64 0, .int .i64 0, .slice none 0 0] 42)).heap.size = w.heap.size + 1 := by simp
  go_enter Try.func53, Try.ntmps53
  go_wp2_with fail
  refine (open_ _ _ _ _ h' hcap hl).mono ?_
  rintro e w1 ⟨rfl, r1, k1, z1⟩
  rw [e0] at r1 z1
  have b1 := b0.keepNo k1
  have k01 := ka.trans k1
  simp only [e0]
  clear b0 ka k1 h h' hcap hl e0
  go_wp2_with fail
  refine (l20Spares_ _ _ _ _ r1 (by omega) (by omega) (by omega)).mono ?_
  rintro e w2 ⟨B, X, A2, c2, xs, rfl, hB0, hB1, i2, cp2, l2, r2, k2⟩
  have b2 := b1.keep k2 (fun e => by simp only [At] at e; omega)
  have k02 := k01.also k2 (fun i hi e => by simp only [At] at e; omega)
  have sz2 := k2.size
  have kb : Kp No w2 (w2.alloc (.cells #[.int .i64 B, .int .i64 X, .slice A2 xs.length c2] 42)) := (Kp.refl _ _).alloc _
  have s3 := BoxS.new w2 42 B X A2 xs.length c2
  have b3 := b2.keepNo kb
  have k03 := k02.trans kb
  have i3 := i2.keepNo kb
  have r3 := r2.keepNo kb
  have z3 : (w2.alloc (.cells #[.int .i64 B, .int .i64 X, .slice A2 xs.length c2] 42)).heap.size = w2.heap.size + 1 := by simp
  clear b1 k01 k2 kb b2 k02 i2 r2 r1
  go_wp2_with fail
  generalize (w2.alloc (.cells #[.int .i64 B, .int .i64 X, .slice A2 xs.length c2] 42)) = w3 at *
  have Hs := Lib.hid s3; have Hb := Lib.hid b3
  obtain ⟨hc0, hc1, hc2, hf0, hf1, hf2, hsl⟩ := s3
  clear b3
  by_cases hB2 : 1 < B
  · have hsum : IntKind.i64.wrap (B + 1) = B + 1 := IntWalk.i64_in _ (by omega)
    go_region_held3 (fun w' => w'.cell? ⟨w2.heap.size, 0, none⟩ = some (.int .i64 B) ∧ w'.cell? ⟨w2.heap.size, 1, none⟩ = some (.int .i64 X) ∧ w'.cell? ⟨w2.heap.size, 2, none⟩ = some (.slice A2 xs.length c2))
      (first | exact ⟨m0, m1, m2⟩ | exact ⟨q0, q1, q2⟩ | exact ⟨p0, p1, p2⟩ | go_keep | exact ⟨hc0, hc1, hc2⟩)
      (first
        | (go_at_call 45
           refine (pick_ _ _ _ _ r5 (by omega) (by omega) (by omega)).mono ?_
           rintro e w6 ⟨v6, rfl, v6a, v6b, r6, k6, z6⟩
           have bs6 := Bs5.out.keep k6 (fun e => by simp only [At] at e; omega)
           have q0 := bs6.1; have q1 := bs6.2.1; have q2 := bs6.2.2.1
           have br6 := Br5.out.keep k6 (fun e => by simp only [At] at e; omega)
           have kk6 := kk5.trans k6
           have d := br6.set B X A2 xs.length c2
           have Br6 := Lib.hid br6
           obtain ⟨y0, y1, y2, y3, y4, y5, y6⟩ := br6
           have ks := Kp.set3 w6 w.heap.size (.int .i64 B) (.int .i64 X) (.slice A2 xs.length c2)
           have m0 := (ks.cell (p := ⟨w2.heap.size, 0, none⟩) bs6.2.2.2.2.2.2 (by simp only [At]; omega)).trans q0
           have m1 := (ks.cell (p := ⟨w2.heap.size, 1, none⟩) bs6.2.2.2.2.2.2 (by simp only [At]; omega)).trans q1
           have m2 := (ks.cell (p := ⟨w2.heap.size, 2, none⟩) bs6.2.2.2.2.2.2 (by simp only [At]; omega)).trans q2
           clear bs6)
        | (go_at_call 45
           refine (pick_ _ _ _ _ (r3.keepNo ((Kp.refl _ _).drew)) (by omega) (by omega) (by omega)).mono ?_
           rintro e w5 ⟨v5, rfl, v5a, v5b, r5, k5, z5⟩
           have kk5 : Kp (At (w.heap.size + 1)) w3 w5 := (Kp.refl _ _).drew.trans k5
           have bs5 := Hs.out.keep kk5 (fun e => by simp only [At] at e; omega)
           have p0 := bs5.1; have p1 := bs5.2.1; have p2 := bs5.2.2.1
           have Bs5 := Lib.hid bs5; clear bs5
           have Br5 := Lib.hid (Hb.out.keep kk5 (fun e => by simp only [At] at e; omega))))
    have s9 := ks.size
    have s6 := kk6.size
    go_wp2_with fail
    refine bodyPost_ret (v := .tuple #[.agg #[.int .i64 B, .int .i64 X, .slice A2 xs.length c2], .int .i64 _]) (by simp [results, Try.results53, go_sem, d.1, d.2.1, d.2.2.1]; rfl) rfl ?_
    exact ⟨B, X, _, A2, c2, xs, rfl, hB0, hB1, ((i3.keep kk6 (fun i h1 _ e => by simp only [At] at e; omega)).keep ks (fun i h1 _ e => by simp only [At] at e; omega)).wide (by omega) (by omega) (Nat.le_refl _), cp2, l2, (k03.also kk6 (fun i hi e => by simp only [At] at e; omega)).also ks (fun i hi e => by simp only [At] at e; omega)⟩
  · have hsum : IntKind.i64.wrap 2 = 2 := IntWalk.i64_in _ (by omega)
    go_region_held3 (fun w' => w'.cell? ⟨w2.heap.size, 0, none⟩ = some (.int .i64 B) ∧ w'.cell? ⟨w2.heap.size, 1, none⟩ = some (.int .i64 X) ∧ w'.cell? ⟨w2.heap.size, 2, none⟩ = some (.slice A2 xs.length c2))
      (first | exact ⟨m0, m1, m2⟩ | exact ⟨q0, q1, q2⟩ | exact ⟨p0, p1, p2⟩ | go_keep | exact ⟨hc0, hc1, hc2⟩)
      (first
        | (go_at_call 45
           refine (pick_ _ _ _ _ r5 (by omega) (by omega) (by omega)).mono ?_
           rintro e w6 ⟨v6, rfl, v6a, v6b, r6, k6, z6⟩
           have bs6 := Bs5.out.keep k6 (fun e => by simp only [At] at e; omega)
           have q0 := bs6.1; have q1 := bs6.2.1; have q2 := bs6.2.2.1
           have br6 := Br5.out.keep k6 (fun e => by simp only [At] at e; omega)
           have kk6 := kk5.trans k6
           have d := br6.set B X A2 xs.length c2
           have Br6 := Lib.hid br6
           obtain ⟨y0, y1, y2, y3, y4, y5, y6⟩ := br6
           have ks := Kp.set3 w6 w.heap.size (.int .i64 B) (.int .i64 X) (.slice A2 xs.length c2)
           have m0 := (ks.cell (p := ⟨w2.heap.size, 0, none⟩) bs6.2.2.2.2.2.2 (by simp only [At]; omega)).trans q0
           have m1 := (ks.cell (p := ⟨w2.heap.size, 1, none⟩) bs6.2.2.2.2.2.2 (by simp only [At]; omega)).trans q1
           have m2 := (ks.cell (p := ⟨w2.heap.size, 2, none⟩) bs6.2.2.2.2.2.2 (by simp only [At]; omega)).trans q2
           clear bs6)
        | (go_at_call 45
           refine (pick_ _ _ _ _ (r3.keepNo ((Kp.refl _ _).drew)) (by omega) (by omega) (by omega)).mono ?_
           rintro e w5 ⟨v5, rfl, v5a, v5b, r5, k5, z5⟩
           have kk5 : Kp (At (w.heap.size + 1)) w3 w5 := (Kp.refl _ _).drew.trans k5
           have bs5 := Hs.out.keep kk5 (fun e => by simp only [At] at e; omega)
           have p0 := bs5.1; have p1 := bs5.2.1; have p2 := bs5.2.2.1
           have Bs5 := Lib.hid bs5; clear bs5
           have Br5 := Lib.hid (Hb.out.keep kk5 (fun e => by simp only [At] at e; omega))))
    have s9 := ks.size
    have s6 := kk6.size
    go_wp2_with fail
    refine bodyPost_ret (v := .tuple #[.agg #[.int .i64 B, .int .i64 X, .slice A2 xs.length c2], .int .i64 _]) (by simp [results, Try.results53, go_sem, d.1, d.2.1, d.2.2.1]; rfl) rfl ?_
    exact ⟨B, X, _, A2, c2, xs, rfl, hB0, hB1, ((i3.keep kk6 (fun i h1 _ e => by simp only [At] at e; omega)).keep ks (fun i h1 _ e => by simp only [At] at e; omega)).wide (by omega) (by omega) (Nat.le_refl _), cp2, l2, (k03.also kk6 (fun i hi e => by simp only [At] at e; omega)).also ks (fun i hi e => by simp only [At] at e; omega)⟩

set_option maxHeartbeats 1000000 in
theorem drawMarkBad (A : Option Addr) (zs : List Int) (c : Nat) (w : World) (h : Byts w A zs) (hcap : zs.length ≤ c) (hl : zs.length ≤ 4000000) :
    Calls Try.prog 31 #[.slice A zs.length c] w (SomeS w) := by
  have ka := (Kp.refl No w).alloc (.cells #[.int .i64 0, .int .i64 0, .slice none 0 0] 42)
  have b0 := BoxS.new w 42 0 0 none 0 0
  have h' : Byts (w.alloc (.cells #[.int .i64 0, .int .i64 0, .slice none 0 0] 42)) A zs := ⟨(h.1.keepNo ka).wide (Nat.le_refl _) (by simp) (Nat.le_refl _), h.2⟩
  have e0 : (w.alloc (.cells #[.int .i64 0, .int .i64 0, .slice none 0 0] 42)).heap.size = w.heap.size + 1 := by simp
  go_enter Try.func31, Try.ntmps31
  go_wp2_with fail
  refine (drawSpareOf _ _ _ _ h' hcap hl).mono ?_
  rintro e w6 ⟨B, X, v, A2, c2, xs, rfl, hB0, hB1, i2, cp2, l2, k2⟩
  rw [e0] at i2
  have b2 := b0.keepNo k2
  have d := b2.set B X A2 xs.length c2
  have ks := Kp.set3 w6 w.heap.size (.int .i64 B) (.int .i64 X) (.slice A2 xs.length c2)
  have s9 := ks.size
  have k02 := ka.trans k2
  clear b0 ka h h' hcap hl e0 k2
  obtain ⟨y0, y1, y2, y3, y4, y5, y6⟩ := b2
  go_wp2_with fail
  refine bodyPost_ret (v := .tuple #[.agg #[.int .i64 B, .int .i64 X, .slice A2 xs.length c2], .int .i64 v]) (by simp [results, Try.results31, go_sem, d.1, d.2.1, d.2.2.1]) rfl ?_
  exact ⟨B, X, v, A2, c2, xs, rfl, hB0, hB1, (i2.keep ks (fun i h1 _ e => by simp only [At] at e; omega)).wide (by omega) (by omega) (Nat.le_refl _), cp2, l2, k02.also ks (fun i hi e => by simp only [At] at e; omega)⟩
end Go.Proofs.Ytcnaehllegoefaa
