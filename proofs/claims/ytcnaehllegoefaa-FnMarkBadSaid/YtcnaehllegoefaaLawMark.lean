/- sameSpares, hasInt and the walk of the law FnMarkBad. -/
import Derived.Test.YtcnaehllegoefaaDrawMark
namespace Go.Proofs.Ytcnaehllegoefaa
open Go.RowKit
set_option linter.unusedVariables false

/-- Lists of other lengths. -/
theorem sameInts_len (A B : Option Addr) (n m c d : Nat) (w : World) (h : n ≠ m) : Calls Try.prog 30 #[.slice A n c, .slice B m d] w fun e w' => e = .returned (.bool false) ∧ w = w' := by
  have hne : ((n : Int) != (m : Int)) = true := by simp; omega
  go_enter Try.func30, Try.ntmps30
  go_wp2_with fail
  go_ret
  exact ⟨rfl, rfl⟩
def hasI (xs : List Int) (v : Int) : Bool := xs.contains v
theorem hasInt_any (A : Option Addr) (xs : List Int) (c lo hi : Nat) (v : Int) (w : World) (h : Ints w lo hi A xs) (hs : xs.length ≤ 4000000) : Calls Try.prog 37 #[.slice A xs.length c, .int .i64 v] w
    fun e w' => e = .returned (.bool (hasI xs v)) ∧ w' = w := by
  go_enter Try.func37, Try.ntmps37
  go_wp2
  go_loop [5] (fun i => ∃ k : Nat, k ≤ xs.length ∧ i = .int .i64 k ∧ Before xs v k) (fun i => xs.length - (intOf i).toNat)
  case atStart => exact ⟨0, Nat.zero_le _, rfl, fun j x hj => absurd hj (by omega)⟩
  case round =>
    obtain ⟨k, hk, rfl, hb⟩ := hrel
    by_cases hlt : k < xs.length
    · obtain ⟨b, off, x, rfl, hb1, hb2, hx, hc⟩ := h.at_ hlt
      have Hx := Lib.hid hx; clear hx
      by_cases he : x = v
      · subst he
        have H := Lib.hid (show hasI xs x = true by simpa [hasI] using List.mem_of_getElem? Hx.out)
        have hbe : (x == x) = true := by simp
        go_wp2
        go_ret
        exact ⟨ret_bool H.out.symm, rfl⟩
      · have hbe : (x == v) = false := beq_eq_false_iff_ne.2 he
        go_wp2
        go_round
        case rel => exact ⟨k + 1, by omega, by go_num, hb.succ Hx.out he⟩
        case measure => simp [intOf]; omega
    · obtain rfl : k = xs.length := by omega
      have H := Lib.hid (show hasI xs v = false by
        unfold hasI
        rcases idxI_cases xs v with ⟨_, h2⟩ | ⟨k, _, h2, _⟩
        · exact h2
        · exact absurd rfl (hb k v (List.getElem?_eq_some_iff.1 h2).1 h2))
      go_wp2
      go_ret
      exact ⟨ret_bool H.out.symm, rfl⟩


theorem sameSpares_ (B X : Int) (A A' : Option Addr) (xs : List Int) (c c' lo hi lo' hi' : Nat) (w : World) (h : Ints w lo hi A xs) (h' : Ints w lo' hi' A' xs) (hs : xs.length ≤ 4000000) : Calls Try.prog 34 #[.agg #[.int .i64 B, .int .i64 X, .slice A xs.length c], .agg #[.int .i64 B, .int .i64 X, .slice A' xs.length c']] w
    fun e w' => e = .returned (.bool true) ∧ Kp No w w' := by
  have hB : (B == B) = true := by simp
  have hX : (X == X) = true := by simp
  have ka := ((Kp.refl No w).alloc (.cells #[.int .i64 B, .int .i64 X, .slice A xs.length c] 42)).alloc (.cells #[.int .i64 B, .int .i64 X, .slice A' xs.length c'] 42)
  go_enter Try.func34, Try.ntmps34
  go_wp2_with fail
  refine (sameInts_same _ _ _ _ _ _ _ _ _ _ (h.keepNo ka) (h'.keepNo ka) hs).mono ?_
  rintro e w1 ⟨rfl, k1⟩
  go_wp2_with fail
  go_ret
  exact ⟨rfl, ka.trans k1⟩
/-- No spares beside any: some answer. -/
theorem sameSpares_zero (B X : Int) (A A' : Option Addr) (n c c' : Nat) (w : World) : Calls Try.prog 34 #[.agg #[.int .i64 0, .int .i64 0, .slice A' 0 c'], .agg #[.int .i64 B, .int .i64 X, .slice A n c]] w
    fun e w' => ∃ b, e = .returned (.bool b) ∧ Kp No w w' := by
  have ka := ((Kp.refl No w).alloc (.cells #[.int .i64 0, .int .i64 0, .slice A' 0 c'] 42)).alloc (.cells #[.int .i64 B, .int .i64 X, .slice A n c] 42)
  go_enter Try.func34, Try.ntmps34
  by_cases hB : B = 0
  · subst hB
    by_cases hX : X = 0
    · subst hX
      by_cases hn : n = 0
      · subst hn
        go_wp2_with fail
        refine (sameInts_same A' A [] c' c 0 0 0 0 _ (Row.empty (Nat.zero_le _)) (Row.empty (Nat.zero_le _)) (by simp)).mono ?_
        rintro e w1 ⟨rfl, k1⟩
        go_wp2_with fail
        go_ret
        exact ⟨_, rfl, ka.trans k1⟩
      · go_wp2_with fail
        refine (sameInts_len _ _ _ _ _ _ _ (Ne.symm hn)).mono ?_
        rintro e w1 ⟨rfl, rfl⟩
        go_wp2_with fail
        go_ret
        exact ⟨_, rfl, ka⟩
    · have hf : ((0 : Int) == X) = false := by simp; omega
      go_wp2_with fail
      go_ret
      exact ⟨_, rfl, ka⟩
  · have hf : ((0 : Int) == B) = false := by simp; omega
    go_wp2_with fail
    go_ret
    exact ⟨_, rfl, ka⟩

set_option maxHeartbeats 8000000 in
theorem walk_FnMarkBad {w : World} (A : Option Addr) (zs : List Int) (c : Nat) (h : Byts w A zs) (hcap : zs.length ≤ c) :
    Calls Try.prog 11 #[.slice A zs.length c] w fun e w' => e = .returned (.bool true) ∧ Kp No w w' := by
  go_enter Try.func11, Try.ntmps11
  by_cases hl : 1048576 < zs.length
  · go_wp2_with fail
    go_ret
    exact ⟨rfl, Kp.refl _ _⟩
  · go_wp2_with fail
    refine (drawMarkBad _ _ _ _ h hcap (by omega)).mono ?_
    rintro e w1 ⟨B, X, bk, A1, c1, xs, rfl, hB0, hB1, i1, cp1, l1, k1⟩
    clear h hcap hl
    have kb : Kp No w1 (w1.alloc (.cells #[.int .i64 B, .int .i64 X, .slice A1 xs.length c1] 42)) := (Kp.refl _ _).alloc _
    have bs := BoxS.new w1 42 B X A1 xs.length c1
    have i2 := i1.keepNo kb
    have k2 := k1.trans kb
    have e2 : (w1.alloc (.cells #[.int .i64 B, .int .i64 X, .slice A1 xs.length c1] 42)).heap.size = w1.heap.size + 1 := by simp
    have Bs := Lib.hid bs; have I2 := Lib.hid i2; have K2 := Lib.hid k2
    clear bs i2 k2 kb i1
    go_wp2_with fail
    refine (markBad_impl _ _ _ _ _ _ _ _ _ I2.out (by omega) cp1).mono ?_
    rintro e w3 ⟨A3, c3, rfl, o3, k3⟩
    rw [e2] at o3
    have t3 := k3.size
    rw [e2] at t3
    have hylen : (markBad B X xs bk).1.2.2.length ≤ 13 := by
      unfold markBad
      split
      · simp
      · split <;> simp <;> omega
    generalize hR : markBad B X xs bk = r at *
    obtain ⟨⟨R1, R2, ys⟩, ok⟩ := r
    have HR := Lib.hid hR; clear hR
    simp only at hylen o3 ⊢
    have bs3 := Bs.out.keepNo k3
    have i3 := I2.out.keepNo k3
    have kk3 := K2.out.trans k3
    clear Bs I2 K2 k3 e2
    have ka : Kp No w3 (w3.alloc (.cells #[.int .i64 R1, .int .i64 R2, .slice A3 ys.length c3] 42)) := (Kp.refl _ _).alloc _
    have bx := BoxS.new w3 42 R1 R2 A3 ys.length c3
    have bs4 := bs3.keepNo ka
    have i4 := i3.keepNo ka
    have kk4 := kk3.trans ka
    have o4 := o3.keepNo ka
    have e4 : (w3.alloc (.cells #[.int .i64 R1, .int .i64 R2, .slice A3 ys.length c3] 42)).heap.size = w3.heap.size + 1 := by simp
    have hbne : (ok != ok) = false := by simp
    have Bx := Lib.hid bx; have Bs := Lib.hid bs4; have I4 := Lib.hid i4; have K4 := Lib.hid kk4; have O4 := Lib.hid o4
    obtain ⟨c0, c1', c2, f0, f1, f2, hsl⟩ := bs3
    clear bx bs4 i4 kk4 o4 i3 kk3 o3 ka
    go_wp2_with fail
    refine (markBad_spec _ _ _ _ _ _ _ _ _ I4.out (by omega)).mono ?_
    rintro e w5 ⟨A5, c5, rfl, o5, k5⟩
    rw [HR.out] at o5
    simp only [HR.out]
    rw [e4] at o5
    have t5 := k5.size
    rw [e4] at t5
    have bx5 := Bx.out.keepNo k5
    have bs5 := Bs.out.keepNo k5
    have i5 := I4.out.keepNo k5
    have kk5 := K4.out.trans k5
    have o35 := O4.out.keepNo k5
    clear c0 c1' c2 f0 f1 f2 hsl Bx Bs I4 K4 O4 k5 e4
    have ka : Kp No w5 (w5.alloc (.cells #[.int .i64 R1, .int .i64 R2, .slice A5 ys.length c5] 42)) := (Kp.refl _ _).alloc _
    have by6 := BoxS.new w5 42 R1 R2 A5 ys.length c5
    have BX := Lib.hid (bx5.keepNo ka)
    have BS := Lib.hid (bs5.keepNo ka)
    have I6 := Lib.hid (i5.keepNo ka)
    have K6 := Lib.hid (kk5.trans ka)
    have OX := Lib.hid (o35.keepNo ka)
    have OY := Lib.hid (o5.keepNo ka)
    obtain ⟨c0, c1', c2, f0, f1, f2, hsl⟩ := bx5
    clear bs5 i5 kk5 o35 o5 ka
    go_wp2_with fail
    refine (sameSpares_ _ _ _ _ _ _ _ _ _ _ _ _ OX.out.ints OY.out.ints (by omega)).mono ?_
    rintro e w7 ⟨rfl, k7⟩
    have bx := BX.out.keepNo k7
    have bs := BS.out.keepNo k7
    have is := I6.out.keepNo k7
    have kk := K6.out.trans k7
    have ox := OX.out.keepNo k7
    clear c0 c1' c2 f0 f1 f2 hsl BX BS I6 K6 OX OY k7 by6
    have cpx := ox.cap
    have ix := ox.ints
    clear ox
    have Bx := Lib.hid bx; have Bs := Lib.hid bs
    obtain ⟨c0, c1', c2, f0, f1, f2, hxl⟩ := bx
    obtain ⟨d0, d1, d2, g0, g1, g2, hsl⟩ := bs
    have hM := markBad_law B X xs bk
    rw [HR.out] at hM
    rcases hM with hM | hM | ⟨u, hM, hv0, hv1, hB2, hB3, hu, hval, hl1, hcon, hnew, hne, hall⟩
    · simp only [Prod.mk.injEq] at hM
      obtain ⟨⟨rfl, rfl, rfl⟩, rfl⟩ := hM
      clear HR
      go_wp2_with fail
      refine (sameSpares_ _ _ _ _ _ _ _ _ _ _ _ _ ix is (by omega)).mono ?_
      rintro e w8 ⟨rfl, k8⟩
      go_wp2_with fail
      refine (alive_ _).mono ?_
      rintro e w' ⟨rfl, rfl⟩
      go_wp2_with fail
      go_ret
      exact ⟨rfl, kk.trans k8⟩
    · simp only [Prod.mk.injEq] at hM
      obtain ⟨⟨rfl, rfl, rfl⟩, rfl⟩ := hM
      clear HR
      simp only [List.length_nil] at c2 Bx
      go_wp2_with fail
      refine (sameSpares_zero _ _ _ _ _ _ _ _).mono ?_
      rintro e w8 ⟨b, rfl, k8⟩
      cases b
      · have bx8 := Bx.out.keepNo k8
        have ix8 := ix.keepNo k8
        obtain ⟨p0, p1, p2, p3, p4, p5, _⟩ := bx8
        go_wp2_with fail
        refine (sameSpares_ 0 0 A3 none [] c3 0 _ _ 0 0 _ ix8 (Row.empty (Nat.zero_le _)) (by simp)).mono ?_
        rintro e w9 ⟨rfl, k9⟩
        go_wp2_with fail
        refine (alive_ _).mono ?_
        rintro e w' ⟨rfl, rfl⟩
        go_wp2_with fail
        go_ret
        exact ⟨rfl, (kk.trans k8).trans k9⟩
      · go_wp2_with fail
        refine (alive_ _).mono ?_
        rintro e w' ⟨rfl, rfl⟩
        go_wp2_with fail
        go_ret
        exact ⟨rfl, kk.trans k8⟩
    · simp only [Prod.mk.injEq] at hM
      obtain ⟨⟨hr1, hr2, hY⟩, rfl⟩ := hM
      have hr1 := hr1.symm; have hr2 := hr2.symm
      subst hr1 hr2
      rw [← hY] at hval hcon hnew hall
      have HY := Lib.hid hY; have Hu := Lib.hid hu; have Hval := Lib.hid hval; have Hcon := Lib.hid hcon; have Hnew := Lib.hid hnew; have Hall := Lib.hid hall
      clear HR hY hu hval hcon hnew hall
      clear c0 c1' c2 f0 f1 f2 d0 d1 d2 g0 g1 g2
      go_wp2_with fail
      go_loopw [9] (fun i wr => ∃ k : Nat, (k : Int) ≤ B ∧ i = .int .i64 k ∧ BoxS wr w3.heap.size B X A3 ys.length c3 ∧ BoxS wr w1.heap.size B X A1 xs.length c1 ∧ Kp No w7 wr) (fun i _ => (B - intOf i).toNat)
      case atStart => exact ⟨0, by omega, rfl, Bx.out, Bs.out, Kp.refl _ _⟩
      case round =>
        clear Bx Bs hxl hsl
        obtain ⟨k, hkB, rfl, bx, bs, hk⟩ := hrel
        have Bx := Lib.hid bx; have Bs := Lib.hid bs
        obtain ⟨c0, c1', c2, f0, f1, f2, hxl⟩ := bx
        obtain ⟨d0, d1, d2, g0, g1, g2, hsl⟩ := bs
        by_cases hlt : (k : Int) < B
        · by_cases hkv : (k : Int) = bk
          · have hnn : ((k : Int) != bk) = false := by simpa using hkv
            go_wp2_with fail
            go_quiet (fail)
            go_wp2_with fail
            go_roundw
            case rel => exact ⟨k + 1, by omega, by go_num, Bx.out.keepNo ((Kp.refl _ _).drewN _), Bs.out.keepNo ((Kp.refl _ _).drewN _), hk.drewN _⟩
            case measure => simp [intOf]; omega
          · have hnn : ((k : Int) != bk) = true := by simpa using hkv
            have hee : (spareOf B X ys k != spareOf B X xs k) = false := by rw [Hall.out k (by omega) hlt hkv]; simp
            have iy := ix.keepNo hk
            have ii := is.keepNo hk
            go_wp2_with fail
            refine wp_region_facts [59, 60, 61, 62, 63, 64, 65, 66, 67, 68, 69, 70] (Kp No) (fun _ wx => Kp No wr wx) (fun i v _ => v = ([.int .i64 k, .int .i64 bk, .bool true, .bool true, .agg #[.int .i64 B, .int .i64 X, .slice A3 ys.length c3], .int .i64 k, .int .i64 (spareOf B X ys k), .agg #[.int .i64 B, .int .i64 X, .slice A1 xs.length c1], .int .i64 k, .int .i64 (spareOf B X xs k), .bool false, .bool false] : List Value).getD i undef) (by kernel_rfl) (by kernel_rfl) (by kernel_rfl) (by simp) (fun _ _ _ _ _ hF => hF) (Kp.refl _ _).drew ?steps ?fin
            case steps =>
              refine ⟨?s0, ?s1, ?s2, ?s3, ?s4, ?s5, ?s6, ?s7, ?s8, ?s9, ?s10, ?s11, trivial⟩
              case s0 =>
                intro L s fr wx hin hout hL hG haft K hK
                have o9 := hout 9 (by simp)
                simp at o9
                clear haft hin hout
                go_simp
                exact hK 59 rfl _ _ (Kp.refl _ _) hG rfl
              case s1 =>
                intro L s fr wx hin hout hL hG haft K hK
                have o4 := hout 4 (by simp)
                simp at o4
                clear haft hin hout
                go_simp
                exact hK 60 rfl _ _ (Kp.refl _ _) hG rfl
              case s2 =>
                intro L s fr wx hin hout hL hG haft K hK
                have g59 : fr[59]? = some (.int .i64 k) := (hin 59 (by simp)).trans (congrArg some (haft ⟨0, .data⟩ (by simp) rfl).2)
                have g60 : fr[60]? = some (.int .i64 bk) := (hin 60 (by simp)).trans (congrArg some (haft ⟨1, .data⟩ (by simp) rfl).2)
                clear haft hin hout
                go_simp
                exact hK 61 rfl _ _ (Kp.refl _ _) hG rfl
              case s3 =>
                intro L s fr wx hin hout hL hG haft K hK
                have g61 : fr[61]? = some (.bool true) := (hin 61 (by simp)).trans (congrArg some (haft ⟨2, .data⟩ (by simp) rfl).2)
                clear haft hin hout
                go_simp
                exact hK 62 rfl _ _ (Kp.refl _ _) hG rfl
              case s4 =>
                intro L s fr wx hin hout hL hG haft K hK
                have g62 : fr[62]? = some (.bool true) := (hin 62 (by simp)).trans (congrArg some (haft ⟨3, .guard⟩ (by simp) rfl).2)
                have o5 := hout 5 (by simp)
                simp at o5
                have c4_0 := (hG.cell (p := ⟨w3.heap.size, 0, none⟩) (by first | exact hxl | exact hsl) (fun e => e)).trans c0
                have c4_1 := (hG.cell (p := ⟨w3.heap.size, 1, none⟩) (by first | exact hxl | exact hsl) (fun e => e)).trans c1'
                have c4_2 := (hG.cell (p := ⟨w3.heap.size, 2, none⟩) (by first | exact hxl | exact hsl) (fun e => e)).trans c2
                clear haft hin hout
                go_simp
                exact hK 63 rfl _ _ (Kp.refl _ _) hG rfl
              case s5 =>
                intro L s fr wx hin hout hL hG haft K hK
                have g62 : fr[62]? = some (.bool true) := (hin 62 (by simp)).trans (congrArg some (haft ⟨3, .guard⟩ (by simp) rfl).2)
                have o9 := hout 9 (by simp)
                simp at o9
                clear haft hin hout
                go_simp
                exact hK 64 rfl _ _ (Kp.refl _ _) hG rfl
              case s6 =>
                intro L s fr wx hin hout hL hG haft K hK
                have g63 : fr[63]? = some (.agg #[.int .i64 B, .int .i64 X, .slice A3 ys.length c3]) := (hin 63 (by simp)).trans (congrArg some (haft ⟨4, .data⟩ (by simp) rfl).2)
                have g64 : fr[64]? = some (.int .i64 k) := (hin 64 (by simp)).trans (congrArg some (haft ⟨5, .data⟩ (by simp) rfl).2)
                have g62 : fr[62]? = some (.bool true) := (hin 62 (by simp)).trans (congrArg some (haft ⟨3, .guard⟩ (by simp) rfl).2)
                clear haft hin hout
                go_simp
                refine (spareOf_impl B X k A3 ys c3 _ _ _ (iy.keepNo hG) (by omega) cpx).mono ?_
                rintro e w2 ⟨rfl, k2⟩
                exact hK 65 rfl _ _ k2 (hG.trans k2) rfl
              case s7 =>
                intro L s fr wx hin hout hL hG haft K hK
                have g62 : fr[62]? = some (.bool true) := (hin 62 (by simp)).trans (congrArg some (haft ⟨3, .guard⟩ (by simp) rfl).2)
                have o3 := hout 3 (by simp)
                simp at o3
                have c7_0 := (hG.cell (p := ⟨w1.heap.size, 0, none⟩) (by first | exact hxl | exact hsl) (fun e => e)).trans d0
                have c7_1 := (hG.cell (p := ⟨w1.heap.size, 1, none⟩) (by first | exact hxl | exact hsl) (fun e => e)).trans d1
                have c7_2 := (hG.cell (p := ⟨w1.heap.size, 2, none⟩) (by first | exact hxl | exact hsl) (fun e => e)).trans d2
                clear haft hin hout
                go_simp
                exact hK 66 rfl _ _ (Kp.refl _ _) hG rfl
              case s8 =>
                intro L s fr wx hin hout hL hG haft K hK
                have g62 : fr[62]? = some (.bool true) := (hin 62 (by simp)).trans (congrArg some (haft ⟨3, .guard⟩ (by simp) rfl).2)
                have o9 := hout 9 (by simp)
                simp at o9
                clear haft hin hout
                go_simp
                exact hK 67 rfl _ _ (Kp.refl _ _) hG rfl
              case s9 =>
                intro L s fr wx hin hout hL hG haft K hK
                have g66 : fr[66]? = some (.agg #[.int .i64 B, .int .i64 X, .slice A1 xs.length c1]) := (hin 66 (by simp)).trans (congrArg some (haft ⟨7, .data⟩ (by simp) rfl).2)
                have g67 : fr[67]? = some (.int .i64 k) := (hin 67 (by simp)).trans (congrArg some (haft ⟨8, .data⟩ (by simp) rfl).2)
                have g62 : fr[62]? = some (.bool true) := (hin 62 (by simp)).trans (congrArg some (haft ⟨3, .guard⟩ (by simp) rfl).2)
                clear haft hin hout
                go_simp
                refine (spareOf_impl B X k A1 xs c1 _ _ _ (ii.keepNo hG) (by omega) cp1).mono ?_
                rintro e w2 ⟨rfl, k2⟩
                exact hK 68 rfl _ _ k2 (hG.trans k2) rfl
              case s10 =>
                intro L s fr wx hin hout hL hG haft K hK
                have g65 : fr[65]? = some (.int .i64 (spareOf B X ys k)) := (hin 65 (by simp)).trans (congrArg some (haft ⟨6, .data⟩ (by simp) rfl).2)
                have g68 : fr[68]? = some (.int .i64 (spareOf B X xs k)) := (hin 68 (by simp)).trans (congrArg some (haft ⟨9, .data⟩ (by simp) rfl).2)
                have g62 : fr[62]? = some (.bool true) := (hin 62 (by simp)).trans (congrArg some (haft ⟨3, .guard⟩ (by simp) rfl).2)
                clear haft hin hout
                go_simp
                exact hK 69 rfl _ _ (Kp.refl _ _) hG rfl
              case s11 =>
                intro L s fr wx hin hout hL hG haft K hK
                have g62 : fr[62]? = some (.bool true) := (hin 62 (by simp)).trans (congrArg some (haft ⟨3, .data⟩ (by simp) rfl).2)
                have g69 : fr[69]? = some (.bool false) := (hin 69 (by simp)).trans (congrArg some (haft ⟨10, .data⟩ (by simp) rfl).2)
                clear haft hin hout
                go_simp
                exact hK 70 rfl _ _ (Kp.refl _ _) hG rfl
            case fin =>
              intro L s wx hL hG hF
              have e0 : s 59 = .int .i64 k := hF 0 (by decide)
              have e1 : s 60 = .int .i64 bk := hF 1 (by decide)
              have e2 : s 61 = .bool true := hF 2 (by decide)
              have e3 : s 62 = .bool true := hF 3 (by decide)
              have e4 : s 63 = .agg #[.int .i64 B, .int .i64 X, .slice A3 ys.length c3] := hF 4 (by decide)
              have e5 : s 64 = .int .i64 k := hF 5 (by decide)
              have e6 : s 65 = .int .i64 (spareOf B X ys k) := hF 6 (by decide)
              have e7 : s 66 = .agg #[.int .i64 B, .int .i64 X, .slice A1 xs.length c1] := hF 7 (by decide)
              have e8 : s 67 = .int .i64 k := hF 8 (by decide)
              have e9 : s 68 = .int .i64 (spareOf B X xs k) := hF 9 (by decide)
              have e10 : s 69 = .bool false := hF 10 (by decide)
              have e11 : s 70 = .bool false := hF 11 (by decide)
              simp only [frameOf, List.foldl, List.setIfInBounds_toArray, List.set_cons_succ, List.set_cons_zero]
              rw [e0, e1, e2, e3, e4, e5, e6, e7, e8, e9, e10, e11]
              clear e0 e1 e2 e3 e4 e5 e6 e7 e8 e9 e10 e11 hF hL
              go_wp2_with fail
              go_roundw
              case rel => exact ⟨k + 1, by omega, by go_num, Bx.out.keepNo hG, Bs.out.keepNo hG, hk.trans hG⟩
              case measure => simp [intOf]; omega
        · have ii := is.keepNo hk
          have iy := ix.keepNo hk
          have kk1 := kk.trans hk
          go_wp2_with fail
          refine (spareOf_impl B X bk A1 xs c1 _ _ _ ii (by omega) cp1).mono ?_
          rintro e w8 ⟨rfl, k8⟩
          rw [Hu.out]
          have bx8 := Bx.out.keepNo k8
          have iy8 := iy.keepNo k8
          have kk8 := kk1.trans k8
          have Bx8 := Lib.hid bx8
          clear c0 c1' c2 f0 f1 f2 d0 d1 d2 g0 g1 g2 Bx Bs iy ii kk1 k8 hk
          obtain ⟨c0, c1', c2, f0, f1, f2, _⟩ := bx8
          go_wp2_with fail
          refine (sparesValid_impl B X A3 ys c3 _ _ _ iy8 (by omega) cpx).mono ?_
          rintro e w9 ⟨rfl, k9⟩
          rw [Hval.out]
          have bx9 := Bx8.out.keepNo k9
          have iy9 := iy8.keepNo k9
          have kk9 := kk8.trans k9
          have Bx9 := Lib.hid bx9
          clear c0 c1' c2 f0 f1 f2 Bx8 iy8 kk8 k9
          obtain ⟨c0, c1', c2, f0, f1, f2, _⟩ := bx9
          have hhas : hasI ys u = true := Hcon.out
          go_wp2_with fail
          refine (hasInt_any A3 ys c3 _ _ u _ iy9 (by omega)).mono ?_
          rintro e w' ⟨rfl, rfl⟩
          rw [hhas]
          go_wp2_with fail
          refine (spareOf_impl B X bk A3 ys c3 _ _ _ iy9 (by omega) cpx).mono ?_
          rintro e w10 ⟨rfl, k10⟩
          rw [Hnew.out]
          have bx10 := Bx9.out.keepNo k10
          have iy10 := iy9.keepNo k10
          have kk10 := kk9.trans k10
          clear c0 c1' c2 f0 f1 f2 Bx9 iy9 kk9 k10
          obtain ⟨c0, c1', c2, f0, f1, f2, _⟩ := bx10
          have hne' : ((B + (xs.length : Int)) != u) = true := by simpa using hne
          go_wp2_with fail
          refine (spareOf_impl B X bk A3 ys c3 _ _ _ iy10 (by omega) cpx).mono ?_
          rintro e w11 ⟨rfl, k11⟩
          rw [Hnew.out]
          have hge : (0 : Int) ≤ B + (xs.length : Int) := by omega
          go_wp2_with fail
          go_ret
          exact ⟨rfl, kk10.trans k11⟩
end Go.Proofs.Ytcnaehllegoefaa
