/- DrawOwnerPages and DrawOverOwners: some table, some owners, some numbers come out. -/
import Derived.Test.YtagcdpnbkfoeaaaDrawTab
namespace Go.Proofs.Ytagcdpnbkfoeaaa
open Go.RowKit
set_option linter.unusedVariables false

/-- Some table in blocks from lo on. -/
def SomeT (w' : World) (lo : Nat) (A : Option Addr) (xss : List (List Int)) : Prop :=
  Grid w' lo w'.heap.size A xss ∧ xss.length ≤ 8 ∧ (∀ (k : Nat) (xs : List Int), xss[k]? = some xs → xs.length ≤ 6) ∧ (tableB xss = true → np xss.flatten ≤ 12)

set_option maxHeartbeats 4000000 in
theorem drawOwnerPages_ (A : Option Addr) (zs : List Int) (c : Nat) (w : World) (h : Byts w A zs) (hcap : zs.length ≤ c) (hl : zs.length ≤ 4000000) :
    Calls Try.prog 15 #[.slice A zs.length c] w (fun e w' => ∃ A1 xss c1 A2 os c2, e = .returned (.tuple #[.agg #[.slice A1 (xss : List (List Int)).length c1], .slice A2 (os : List Int).length c2]) ∧ SomeT w' w.heap.size A1 xss ∧ Ints w' w.heap.size w'.heap.size A2 os ∧ os.length ≤ 8 ∧ Kp No w w') := by
  have kp := (Kp.refl No w).alloc (.cells #[.slice none 0 0] 32)
  have br := BoxT.new w 32 none 0 0
  have hb : Byts (w.alloc (.cells #[.slice none 0 0] 32)) A zs := ⟨(h.1.keepNo kp).wide (Nat.le_refl _) (by simp) (Nat.le_refl _), h.2⟩
  have e0 : (w.alloc (.cells #[.slice none 0 0] 32)).heap.size = w.heap.size + 1 := by simp
  go_enter Try.func15, Try.ntmps15
  go_wp2_with fail
  refine (open_ _ _ _ _ hb hcap hl).mono ?_
  rintro e w1 ⟨rfl, r1, k1, z1⟩
  rw [e0] at r1 z1 ⊢
  replace kp := kp.trans k1
  replace br := br.keepNo k1
  clear k1 hb e0
  go_wp2_with fail
  refine (l20Table_ _ _ _ _ r1 (by omega) (by omega) (by omega)).mono ?_
  rintro e w2 ⟨A2, xss, c2, rfl, g2, h8, h6, hnp, r2, k2⟩
  replace kp := kp.also k2 (fun i hi e => by simp only [At] at e; omega)
  replace br := br.keep k2 (by simp only [At]; omega)
  have s2 := k2.size
  clear k2 r1
  have kA : Kp No w2 (w2.alloc (.cells #[.slice A2 xss.length c2] 32)) := (Kp.refl _ _).alloc _
  have b5 := BoxT.new w2 32 A2 xss.length c2
  have eA : (w2.alloc (.cells #[.slice A2 xss.length c2] 32)).heap.size = w2.heap.size + 1 := by simp
  replace kp := kp.trans kA
  replace br := br.keepNo kA
  replace r2 := r2.keepNo kA
  replace g2 := g2.keepNo kA
  go_wp2_with fail
  go_region_held3 (fun w' => w'.cell? ⟨w2.heap.size, 0, none⟩ = some (.slice A2 xss.length c2))
    (first | exact n1 | exact n0 | go_keep | exact b5.1)
    (first
      | (go_at_call 31
         refine (l20Owners_ _ _ _ _ (r2.keepNo ((Kp.refl _ _).drew)) (by omega) (by omega) (by omega)).mono ?_
         rintro e w5 ⟨A5, c5, os, rfl, o5, cp5, l5, r5, k5⟩
         have k25 := ((Kp.refl (At (w.heap.size + 1)) (w2.alloc (.cells #[.slice A2 xss.length c2] 32))).drew).trans k5
         have bq := b5.keep k25 (by simp only [At]; omega)
         have br' := br.keep k25 (by simp only [At]; omega)
         have n0 := bq.1
         have n1 : (w5.setCell ⟨w.heap.size, 0, none⟩ (.slice A2 xss.length c2)).cell? ⟨w2.heap.size, 0, none⟩ = some (.slice A2 xss.length c2) := (bq.keep (Kp.put1 w5 w.heap.size 0 (.slice A2 xss.length c2)) (by simp only [At]; omega)).1
         have br0 := br'.1; have br1 := br'.2.1))
  have d3 := br'.set A2 xss.length c2
  have ks := Kp.put1 w5 w.heap.size 0 (.slice A2 xss.length c2)
  have t0 := k25.size
  rw [eA] at t0
  have g5 := (g2.keep k25 (fun i hi _ e => by simp only [At] at e; omega)).keep ks (fun i hi _ e => by simp only [At] at e; omega)
  have o5' := o5.keep ks (fun i hi _ e => by simp only [At] at e; have : w2.heap.size + 1 ≤ i := by simpa using hi
                                             omega)
  have kp' := (kp.also k25 (fun i hi e => by simp only [At] at e; omega)).also ks (fun i hi e => by simp only [At] at e; omega)
  have hs1 : w.heap.size ≤ w2.heap.size + 1 := by omega
  go_wp2_with fail
  refine bodyPost_ret (v := .tuple #[.agg #[.slice A2 xss.length c2], .slice A5 os.length c5]) (by simp [results, Try.results15, go_sem, d3.1]) rfl ?_
  exact ⟨A2, xss, c2, A5, os, c5, rfl, ⟨g5.wide (by omega) (by have := ks.size; omega) (Nat.le_refl _), h8, h6, hnp⟩, o5'.wide (by simp; omega) ks.size (Nat.le_refl _), l5, kp'⟩

set_option maxHeartbeats 4000000 in
theorem drawOverOwners_ (A : Option Addr) (zs : List Int) (c : Nat) (w : World) (h : Byts w A zs) (hcap : zs.length ≤ c) (hl : zs.length ≤ 4000000) :
    Calls Try.prog 26 #[.slice A zs.length c] w (fun e w' => ∃ A1 xss c1 A2 os c2 A3 ms c3, e = .returned (.tuple #[.agg #[.slice A1 (xss : List (List Int)).length c1], .slice A2 (os : List Int).length c2, .slice A3 (ms : List Int).length c3]) ∧ SomeT w' w.heap.size A1 xss ∧ Ints w' w.heap.size w'.heap.size A2 os ∧ os.length ≤ 8 ∧ Ints w' w.heap.size w'.heap.size A3 ms ∧ ms.length ≤ 4 ∧ Kp No w w') := by
  have kp := (Kp.refl No w).alloc (.cells #[.slice none 0 0] 32)
  have br := BoxT.new w 32 none 0 0
  have hb : Byts (w.alloc (.cells #[.slice none 0 0] 32)) A zs := ⟨(h.1.keepNo kp).wide (Nat.le_refl _) (by simp) (Nat.le_refl _), h.2⟩
  have e0 : (w.alloc (.cells #[.slice none 0 0] 32)).heap.size = w.heap.size + 1 := by simp
  go_enter Try.func26, Try.ntmps26
  go_wp2_with fail
  refine (open_ _ _ _ _ hb hcap hl).mono ?_
  rintro e w1 ⟨rfl, r1, k1, z1⟩
  rw [e0] at r1 z1 ⊢
  replace kp := kp.trans k1
  replace br := br.keepNo k1
  clear k1 hb e0
  go_wp2_with fail
  refine (l20Table_ _ _ _ _ r1 (by omega) (by omega) (by omega)).mono ?_
  rintro e w2 ⟨A2, xss, c2, rfl, g2, h8, h6, hnp, r2, k2⟩
  replace kp := kp.also k2 (fun i hi e => by simp only [At] at e; omega)
  replace br := br.keep k2 (by simp only [At]; omega)
  have s2 := k2.size
  clear k2 r1
  have kA : Kp No w2 (w2.alloc (.cells #[.slice A2 xss.length c2] 32)) := (Kp.refl _ _).alloc _
  have b5 := BoxT.new w2 32 A2 xss.length c2
  have eA : (w2.alloc (.cells #[.slice A2 xss.length c2] 32)).heap.size = w2.heap.size + 1 := by simp
  replace kp := kp.trans kA
  replace br := br.keepNo kA
  replace r2 := r2.keepNo kA
  replace g2 := g2.keepNo kA
  clear kA
  go_wp2_with fail
  refine (l20Owners_ _ _ _ _ r2 (by omega) (by omega) (by omega)).mono ?_
  rintro e w5 ⟨A5, c5, os, rfl, o5, cp5, l5, r5, k5⟩
  rw [eA] at o5
  have s5 := k5.size
  rw [eA] at s5
  replace kp := kp.also k5 (fun i hi e => by simp only [At] at e; omega)
  replace br := br.keep k5 (by simp only [At]; omega)
  replace b5 := b5.keep k5 (by simp only [At]; omega)
  replace g2 := g2.keep k5 (fun i hi _ e => by simp only [At] at e; omega)
  clear k5 r2 eA
  have kA : Kp No w5 (w5.alloc (.cells #[] 3)) := (Kp.refl _ _).alloc _
  have oe := own_empty w5 w5.heap.size (Nat.le_refl _)
  replace kp := kp.trans kA
  replace br := br.keepNo kA
  replace b5 := b5.keepNo kA
  replace g2 := g2.keepNo kA
  replace o5 := o5.keepNo kA
  replace r5 := r5.keepNo kA
  have hgs : w2.heap.size ≤ w5.heap.size := by omega
  have hos : w5.heap.size ≤ (w5.alloc (.cells #[] 3)).heap.size := kA.size
  clear kA
  go_wp2_with fail
  go_loopw [8, 9] (fun v i wr => ∃ (k : Nat) (A6 : Option Addr) (c6 : Nat) (ms : List Int), i = .int .i64 k ∧ k ≤ 4 ∧ v = .slice A6 ms.length c6 ∧ Hid (ms.length = k) ∧ OwnI wr w5.heap.size wr.heap.size A6 c6 ms ∧ Rdr wr (w.heap.size + 1) (52 + 2 * k) ∧ Kp No w wr ∧ BoxT wr w.heap.size none 0 0 ∧ BoxT wr w2.heap.size A2 xss.length c2 ∧ Grid wr w1.heap.size w2.heap.size A2 xss ∧ Ints wr (w2.heap.size + 1) w5.heap.size A5 os ∧ w5.heap.size ≤ wr.heap.size) (fun _ i _ => 4 - (intOf i).toNat)
  case atStart => exact ⟨0, _, 0, [], rfl, by omega, rfl, (by show _ = _; rfl), oe, r5.le (by omega), kp, br, b5, g2, o5, hos⟩
  case round =>
    clear oe r5 kp br b5 g2 o5 hos
    obtain ⟨k, A6, c6, ms, rfl, hk4, rfl, Hl, ho, hr, hkp, hbr, hb5, hg, hos, hsz⟩ := hrel
    have hml : ms.length ≤ k := Nat.le_of_eq Hl.out
    by_cases hlt : k < 4
    · go_wp2_with fail
      refine (pick_ _ _ _ _ hr (by omega) (by omega) (by omega)).mono ?_
      rintro e w6 ⟨v6, rfl, v6a, v6b, r6, k6, z6⟩
      go_wp2_with fail
      refine (pick_ _ _ _ _ r6 (by omega) (by omega) (by omega)).mono ?_
      rintro e w7 ⟨v7, rfl, v7a, v7b, r7, k7, z7⟩
      have k67 := k6.trans k7
      have ho7 := ho.keep k67 (fun i hi _ e => by simp only [At] at e; omega)
      go_wp2_with (at_builtin; refine wpList_appI _ rfl _ _ rfl w5.heap.size wr.heap.size A6 c6 ms rfl (ho7.keepNo ((Kp.refl _ _).alloc _)) _ _ _ _ [v6 - v7 / 29 * 4] rfl (ints_lit _ _ _) (by simp; omega) (by simp; omega) ?_; intro A4 c4 w4 ho4 hk4)
      have kB : Kp No w7 (w7.alloc (.cells #[.int .i64 (v6 - v7 / 29 * 4)] 3)) := (Kp.refl _ _).alloc _
      have kq : Kp (At (w.heap.size + 1)) wr (w7.alloc (.cells #[.int .i64 (v6 - v7 / 29 * 4)] 3)) := k67.alsoNo kB
      have hsw := hkp.size
      go_roundw
      case rel => exact ⟨k + 1, A4, c4, ms ++ [v6 - v7 / 29 * 4], by go_num, by omega, by simp, (by show _ = _; simp; exact Hl.out), ho4, ((r7.keepNo kB).keep hk4 (fun i hi e => by have := e.1; omega)).le (by omega), (hkp.also kq (fun i hi e => by simp only [At] at e; omega)).also hk4 (fun i hi e => by have := e.1; omega), (hbr.keep kq (by simp only [At]; omega)).keep hk4 (fun e => by have := e.1; omega), (hb5.keep kq (by simp only [At]; omega)).keep hk4 (fun e => by have := e.1; omega), (hg.keep kq (fun i hi _ e => by simp only [At] at e; omega)).keep hk4 (fun i h1 h2 e => by have := e.1; omega), (hos.keep kq (fun i hi _ e => by simp only [At] at e; omega)).keep hk4 (fun i h1 h2 e => by have := e.1; omega), Nat.le_trans hsz (Nat.le_trans kq.size hk4.size)⟩
      case measure => simp [intOf]; omega
    · obtain rfl : k = 4 := by omega
      go_wp2_with fail
      refine (odd_ _ _ _ _ hr (by omega) (by omega) (by omega)).mono ?_
      rintro e w8 ⟨bb, rfl, r8, k8, z8⟩
      replace hkp := hkp.also k8 (fun i hi e => by simp only [At] at e; omega)
      replace hbr := hbr.keep k8 (by simp only [At]; omega)
      replace hb5 := hb5.keep k8 (by simp only [At]; omega)
      replace hg := hg.keep k8 (fun i hi _ e => by simp only [At] at e; omega)
      replace hos := hos.keep k8 (fun i hi _ e => by simp only [At] at e; omega)
      replace ho := ho.keep k8 (fun i hi _ e => by simp only [At] at e; omega)
      have s8 := k8.size
      clear k8 hr
      have d3 := hbr.set A2 xss.length c2
      have ks := Kp.put1 w8 w.heap.size 0 (.slice A2 xss.length c2)
      have g9 := hg.keep ks (fun i hi _ e => by simp only [At] at e; omega)
      have o9 := hos.keep ks (fun i hi _ e => by simp only [At] at e; omega)
      have kp9 := hkp.also ks (fun i hi e => by simp only [At] at e; omega)
      have sz9 := ks.size
      obtain ⟨y0, y1, y2⟩ := hb5
      obtain ⟨x0, x1, x2⟩ := hbr
      cases bb
      · go_wp2_with fail
        refine bodyPost_ret (v := .tuple #[.agg #[.slice A2 xss.length c2], .slice A5 os.length c5, .slice A6 ms.length c6]) (by simp [results, Try.results26, go_sem, d3.1]) rfl ?_
        exact ⟨A2, xss, c2, A5, os, c5, A6, ms, c6, rfl, ⟨g9.wide (by omega) (by omega) (Nat.le_refl _), h8, h6, hnp⟩, o9.wide (by omega) (by omega) (Nat.le_refl _), l5, (ho.ints.keep ks (fun i hi _ e => by simp only [At] at e; omega)).wide (by omega) (by omega) (Nat.le_refl _), hml, kp9⟩
      · obtain ⟨x, ys, rfl⟩ : ∃ x ys, ms = x :: ys := by
          rcases ms with _ | ⟨x, ys⟩
          · have := Hl.out; simp at this
          · exact ⟨x, ys, rfl⟩
        have hy3 : ys.length ≤ 3 := by have := Hl.out; simp at this; omega
        have hy3' : 3 ≤ ys.length := by have := Hl.out; simp at this; omega
        obtain ⟨g6, rfl, hg61, hg62⟩ := Own.form ho (by simp)
        have hcp := ho.cap
        have oy := (ho.ints.tail.keep ks (fun i hi _ e => by simp only [At] at e; omega)).wide (show w.heap.size ≤ w5.heap.size by omega) (show wr.heap.size ≤ (w8.setCell ⟨w.heap.size, 0, none⟩ (.slice A2 xss.length c2)).heap.size by omega) (Nat.le_refl _)
        simp only [List.length_cons] at hcp ⊢
        have hc1 : ¬ c6 = 1 := by omega
        go_wp2_with fail
        refine bodyPost_ret (v := .tuple #[.agg #[.slice A2 xss.length c2], .slice A5 os.length c5, .slice (some ⟨g6, 0 + 1, none⟩) ys.length (c6 - 1)]) (by simp [results, Try.results26, go_sem, d3.1]) rfl ?_
        exact ⟨A2, xss, c2, A5, os, c5, _, ys, c6 - 1, rfl, ⟨g9.wide (by omega) (by omega) (Nat.le_refl _), h8, h6, hnp⟩, o9.wide (by omega) (by omega) (Nat.le_refl _), l5, oy, by omega, kp9⟩
end Go.Proofs.Ytagcdpnbkfoeaaa
