/- The walk of the law FnTrimCut. -/
import Derived.Test.YtjjglggfkbbhfaaDrawTrim
import Derived.WalkKit
import Derived.WalkSpells
import Derived.WalkLawsBesides
import Derived.Outline
namespace Go.Proofs.Ytjjglggfkbbhfaa
open Go.RowKit
set_option linter.unusedVariables false

theorem sameSpans_len (A B : Option Addr) (n m c d : Nat) (w : World) (h : n ≠ m) : Calls Try.prog 37 #[.slice A n c, .slice B m d] w fun e w' => e = .returned (.bool false) ∧ w = w' := by
  have hne : ((n : Int) != (m : Int)) = true := by simp; omega
  go_enter Try.func37, Try.ntmps37
  go_wp2_with fail
  go_ret
  exact ⟨rfl, rfl⟩

set_option maxHeartbeats 4000000 in
theorem walk_FnTrimCut {w : World} (A : Option Addr) (zs : List Int) (c : Nat) (h : Byts w A zs) (hcap : zs.length ≤ c) :
    Calls Try.prog 14 #[.slice A zs.length c] w fun e w' => e = .returned (.bool true) ∧ Kp No w w' := by
  go_enter Try.func14, Try.ntmps14
  by_cases hl : 1048576 < zs.length
  · go_wp2_with fail
    go_ret
    exact ⟨rfl, Kp.refl _ _⟩
  · go_wp2_with fail
    refine (drawTrimCut _ _ _ _ h hcap (by omega)).mono ?_
    rintro e w1 ⟨A1, c1, ps, x, y, rfl, o1, l1, k1⟩
    clear h hcap
    have bx := Box2.new w1 25 x y
    have kb : Kp No w (w1.alloc (.cells #[.int .i64 x, .int .i64 y] 25)) := k1.alloc _
    have oB := o1.keepNo ((Kp.refl No w1).alloc (.cells #[.int .i64 x, .int .i64 y] 25))
    have ci := fun W (h : Prs W w.heap.size w1.heap.size A1 ps) => trimCut_impl A1 ps c1 _ _ x y W h (by omega)
    have cs := fun W (h : Prs W w.heap.size w1.heap.size A1 ps) => trimCut_spec A1 ps c1 _ _ x y W h (by omega)
    obtain ⟨r, b, hr⟩ : ∃ r b, trimWith ps (x, y) false = (r, b) := ⟨_, _, rfl⟩
    have hrl := trimWith_len ps (x, y) false
    rw [hr] at ci cs hrl
    have CI := Lib.hid ci; have CS := Lib.hid cs
    clear ci cs
    clear o1 k1
    cases b
    · have Hno := Lib.hid (trimWith_no hr)
      clear hr
      obtain ⟨c0, c1', f0, f1, _⟩ := bx
      go_wp2_with fail
      refine (CI.out _ oB.prs).mono ?_
      rintro e w2 ⟨A2, c2, rfl, o2, k2⟩
      have b2 := (show Box2 (w1.alloc (.cells #[.int .i64 x, .int .i64 y] 25)) w1.heap.size x y from ⟨c0, c1', f0, f1, by assumption⟩).keepNo k2
      clear c0 c1' f0 f1
      obtain ⟨c0, c1', f0, f1, _⟩ := b2
      go_wp2_with fail
      refine (CS.out _ (oB.keepNo k2).prs).mono ?_
      rintro e w3 ⟨A3, c3, rfl, o3, k3⟩
      have b3 := (show Box2 w2 w1.heap.size x y from ⟨c0, c1', f0, f1, by assumption⟩).keepNo k3
      clear c0 c1' f0 f1
      go_wp2_with fail
      refine (sameSpans_same _ _ r _ _ _ _ _ _ _ (o2.keepNo k3).prs o3.prs (show r.length ≤ 4000000 from Nat.le_trans hrl (by omega))).mono ?_
      rintro e w5 ⟨rfl, k5⟩
      have b5 := b3.keepNo k5
      have k15 := ((kb.trans k2).trans k3).trans k5
      have o15 := ((oB.keepNo k2).keepNo k3).keepNo k5
      have o25 := (o2.keepNo k3).keepNo k5
      have hrl : r.length ≤ 10 := hrl
      have o25 : OwnP w5 _ _ A2 c2 r := o25
      clear o2 o3 oB kb k2 k3 k5 b3
      go_wp2_with fail
      by_cases hz : r.length = ps.length
      · obtain rfl : r = ps := by
          rcases Hno.out with h | h
          · exact h
          · rw [h] at hz ⊢
            exact (List.eq_nil_of_length_eq_zero (by simpa using hz.symm)).symm
        refine (sameSpans_same _ _ r _ _ _ _ _ _ _ o25.prs o15.prs (by omega)).mono ?_
        rintro e w6 ⟨rfl, k6⟩
        go_wp2_with fail
        refine (alive_ _).mono ?_
        rintro e w' ⟨rfl, rfl⟩
        go_wp2_with fail
        go_ret
        exact ⟨rfl, k15.trans k6⟩
      · obtain rfl : r = [] := by
          rcases Hno.out with h | h
          · exact absurd (by rw [h]) hz
          · exact h
        refine (sameSpans_len _ _ _ _ _ _ _ hz).mono ?_
        rintro e w' ⟨rfl, rfl⟩
        go_wp2_with fail
        refine (alive_ _).mono ?_
        rintro e w' ⟨rfl, rfl⟩
        go_wp2_with fail
        go_ret
        exact ⟨rfl, k15⟩
    · have Hr := Lib.hid hr
      have HV := Lib.hid (trimWith_yes hr).2.2.2.2
      clear hr
      obtain ⟨c0, c1', f0, f1, _⟩ := bx
      go_wp2_with fail
      refine (CI.out _ oB.prs).mono ?_
      rintro e w2 ⟨A2, c2, rfl, o2, k2⟩
      have b2 := (show Box2 (w1.alloc (.cells #[.int .i64 x, .int .i64 y] 25)) w1.heap.size x y from ⟨c0, c1', f0, f1, by assumption⟩).keepNo k2
      clear c0 c1' f0 f1
      obtain ⟨c0, c1', f0, f1, _⟩ := b2
      go_wp2_with fail
      refine (CS.out _ (oB.keepNo k2).prs).mono ?_
      rintro e w3 ⟨A3, c3, rfl, o3, k3⟩
      have b3 := (show Box2 w2 w1.heap.size x y from ⟨c0, c1', f0, f1, by assumption⟩).keepNo k3
      clear c0 c1' f0 f1
      go_wp2_with fail
      refine (sameSpans_same _ _ r _ _ _ _ _ _ _ (o2.keepNo k3).prs o3.prs (show r.length ≤ 4000000 from Nat.le_trans hrl (by omega))).mono ?_
      rintro e w5 ⟨rfl, k5⟩
      have b5 := b3.keepNo k5
      have k15 := ((kb.trans k2).trans k3).trans k5
      have o15 := ((oB.keepNo k2).keepNo k3).keepNo k5
      have o25 := (o2.keepNo k3).keepNo k5
      have hrl : r.length ≤ 10 := hrl
      have o25 : OwnP w5 _ _ A2 c2 r := o25
      clear o2 o3 oB kb k2 k3 k5 b3
      go_wp2_with fail
      go_loopw [9] (fun v wr => ∃ n : Int, -1 ≤ n ∧ n ≤ 61 ∧ v = .int .i64 n ∧ Kp No w5 wr) (fun v _ => (61 - intOf v).toNat)
      case atStart => exact ⟨-1, by omega, by omega, rfl, Kp.refl _ _⟩
      case round =>
        obtain ⟨n, n0, n1, rfl, hkr⟩ := hrel
        by_cases hlt : n ≤ 60
        · have Hh := Lib.hid (trimWith_has Hr.out n)
          have hrr := (o25.keepNo hkr).prs
          go_wp2_with fail
          refine (trimHas_impl _ r _ _ _ _ _ hrr (by omega)).mono ?_
          rintro e w6 ⟨rfl, k6⟩
          go_wp2_with fail
          refine (trimHas_impl _ _ _ _ _ _ _ ((o15.keepNo hkr).keepNo k6).prs (by omega)).mono ?_
          rintro e w7 ⟨rfl, k7⟩
          obtain ⟨c0, c1, f0, f1, _⟩ := ((b5.keepNo hkr).keepNo k6).keepNo k7
          by_cases hin : x ≤ n ∧ n < y
          · have Hh2 := Lib.hid (show trimHas r n = false by rw [Hh.out]; exact if_pos hin)
            obtain ⟨i0, i1⟩ := hin
            cases hh : trimHas ps n
            all_goals
              rw [Hh2.out]
              go_wp2_with fail
              go_roundw
              case rel => exact ⟨n + 1, by omega, by omega, rfl, ((hkr.trans k6).trans k7)⟩
              case measure => simp [intOf]; omega
          · have Hh2 := Lib.hid (show trimHas r n = trimHas ps n by rw [Hh.out]; exact if_neg hin)
            rw [Hh2.out]
            by_cases i0 : x ≤ n
            · have i1 : y ≤ n := by omega
              clear hin
              cases hh : trimHas ps n
              all_goals
                go_wp2_with fail
                go_roundw
                case rel => exact ⟨n + 1, by omega, by omega, rfl, ((hkr.trans k6).trans k7)⟩
                case measure => simp [intOf]; omega
            · clear hin
              cases hh : trimHas ps n
              all_goals
                go_wp2_with fail
                go_roundw
                case rel => exact ⟨n + 1, by omega, by omega, rfl, ((hkr.trans k6).trans k7)⟩
                case measure => simp [intOf]; omega
        · obtain ⟨ra, oa, ha⟩ : ∃ ra oa, trimWith r (x, y) true = (ra, oa) := ⟨_, _, rfl⟩
          obtain ⟨rb, ob, hb⟩ : ∃ rb ob, trimWith ps (x, y) true = (rb, ob) := ⟨_, _, rfl⟩
          have hal := trimWith_len r (x, y) true
          have hbl := trimWith_len ps (x, y) true
          have cii := trimAdd_impl A2 r c2 _ _ x y _ (o25.keepNo hkr).prs (by omega)
          have cjj := fun W (h : Prs W w.heap.size w1.heap.size A1 ps) => trimAdd_impl A1 ps c1 _ _ x y W h (by omega)
          rw [ha] at cii hal
          rw [hb] at cjj hbl
          have hal : ra.length ≤ 10 := hal
          have hbl : rb.length ≤ 10 := hbl
          have Hab := Lib.hid (show oa = true → ob = true → ra = rb by intro h1 h2; rw [h1] at ha; rw [h2] at hb; exact cut_add Hr.out ha hb)
          have CII := Lib.hid cii; have CJJ := Lib.hid cjj
          clear cii cjj ha hb
          obtain ⟨c0, c1', f0, f1, _⟩ := b5.keepNo hkr
          go_wp2_with fail
          refine CII.out.mono ?_
          rintro e w6 ⟨A6, c6, rfl, o6, k6⟩
          clear c0 c1' f0 f1
          obtain ⟨c0, c1', f0, f1, _⟩ := (b5.keepNo hkr).keepNo k6
          go_wp2_with fail
          refine (CJJ.out _ ((o15.keepNo hkr).keepNo k6).prs).mono ?_
          rintro e w7 ⟨A7, c7, rfl, o7, k7⟩
          go_wp2_with fail
          refine (spansValid_impl _ r _ _ _ _ (((o25.keepNo hkr).keepNo k6).keepNo k7).prs (by omega)).mono ?_
          rintro e w8 ⟨rfl, k8⟩
          rw [HV.out]
          have k18 := (((k15.trans hkr).trans k6).trans k7).trans k8
          cases oa
          · go_wp2_with fail
            go_ret
            exact ⟨rfl, k18⟩
          · cases ob
            · go_wp2_with fail
              go_ret
              exact ⟨rfl, k18⟩
            · obtain rfl : ra = rb := Hab.out rfl rfl
              go_wp2_with fail
              refine (sameSpans_same _ _ ra _ _ _ _ _ _ _ ((o6.keepNo k7).keepNo k8).prs (o7.keepNo k8).prs (by omega)).mono ?_
              rintro e w9 ⟨rfl, k9⟩
              go_wp2_with fail
              go_ret
              exact ⟨rfl, k18.trans k9⟩
end Go.Proofs.Ytjjglggfkbbhfaa
