/- PackRuns, UnpackRuns, RunGain, ValueAt, of the program and of the reference. -/
import Derived.Test.YtjkncdmnajfkjaaRuns
import Derived.Test.YtjkncdmnajfkjaaApp2
import Derived.WalkKit
import Derived.WalkSpells
import Derived.WalkLawsBesides
import Derived.Outline
import Derived.Deep.QuietTactic
import Derived.BigQuiet
namespace Go.Proofs.Ytjkncdmnajfkjaa
open Go.RowKit
set_option linter.unusedVariables false

/-- What a call leaves that hands back a new slice of pairs and a bool. -/
def NewPB (w : World) (r : List (Int × Int) × Bool) (e : Ending) (w' : World) : Prop := ∃ A c, e = .returned (.tuple #[.slice A r.1.length c, .bool r.2]) ∧ OwnP w' w.heap.size w'.heap.size A c r.1 ∧ Kp No w w'
theorem prs_lit (w : World) (a b : Int) (t : TypeId) : Prs (w.alloc (.cells #[.int .i64 a, .int .i64 b] t)) w.heap.size (w.heap.size + 1) (some ⟨w.heap.size, 0, none⟩) [(a, b)] := by
  refine ⟨rfl, by simp, fun _ => ⟨_, 0, rfl, Nat.le_refl _, by omega, fun j u hj => ?_⟩⟩
  match j, hj with
  | 0, hj => simp [flatP] at hj; subst hj; simp
  | 1, hj => simp [flatP] at hj; subst hj; simp
theorem ownI_lit (w : World) (lo : Nat) (cs : Array Value) (xs : List Int) (h : cs.toList = xs.map (Value.int .i64)) (hlo : lo ≤ w.heap.size) (hl : xs.length ≤ 4000000) :
    OwnI (w.alloc (.cells cs 3)) lo (w.heap.size + 1) (some ⟨w.heap.size, 0, none⟩) xs.length xs := by
  have hs : cs.size = xs.length * 1 := by
    have := congrArg List.length h
    simpa using this
  refine ⟨?_, fun g hg => by simp [Value.ownBlock] at hg; omega, by simp⟩
  rw [← h]
  exact World.ownsRow_lit w cs xs.length hlo (by unfold maxLen; omega) hs
theorem lastP (ps : List (Int × Int)) : ps[ps.length - 1]? = ps.getLast? := by rw [List.getLast?_eq_getElem?]
theorem last_take {xs : List Int} {j : Nat} {x : Int} (h : xs[j]? = some x) : (xs.take (j + 1)).getLast? = some x := by
  obtain ⟨hk, hx⟩ := List.getElem?_eq_some_iff.1 h
  rw [List.take_succ_eq_append_getElem hk, hx]; simp
theorem pack_zero {xs : List Int} {v : Int} (h : xs[0]? = some v) : pack (xs.take 1) = [(v, 1)] := by
  have := pack_succ h
  simpa [pack, packStep] using this
/-- The same value again: the last run grows. -/
theorem pack_more {xs : List Int} {j : Nat} {v : Int} (hj : xs[j]? = some v) (hk : xs[j + 1]? = some v) : ∃ m, (pack (xs.take (j + 1)))[(pack (xs.take (j + 1))).length - 1]? = some (v, m) ∧ 1 ≤ m ∧ m ≤ xs.length ∧
    pack (xs.take (j + 1 + 1)) = (pack (xs.take (j + 1))).set ((pack (xs.take (j + 1))).length - 1) (v, m + 1) := by
  obtain ⟨m, hm⟩ := (pack_inv (xs.take (j + 1))).last v (last_take hj)
  have hpos := (pack_inv (xs.take (j + 1))).pos (v, m) (List.mem_of_getLast? hm)
  refine ⟨m, by rw [lastP, hm], hpos, ?_, ?_⟩
  · have hs := (pack_inv (xs.take (j + 1))).sum
    obtain ⟨init, hi⟩ := snoc_of_last hm
    have hp : ∀ (qs : List (Int × Int)), (∀ p ∈ qs, 1 ≤ p.2) → 0 ≤ sumM qs := by
      intro qs
      induction qs with
      | nil => intro _; simp [sumM]
      | cons q qs ih =>
        intro hq
        have := hq q (by simp)
        have := ih fun p hp => hq p (by simp [hp])
        rw [sumM_cons]; omega
    have h0 := hp init (fun p hp => (pack_inv (xs.take (j + 1))).pos p (by rw [hi]; simp [hp]))
    rw [hi, sumM_app] at hs
    have hl : (xs.take (j + 1)).length ≤ xs.length := by simp; omega
    simp only [sumM, List.foldl_cons, List.foldl_nil] at hs h0
    omega
  · rw [pack_succ hk]
    unfold packStep
    rw [hm]; simp
theorem pack_new {xs : List Int} {j : Nat} {u v : Int} (hj : xs[j]? = some u) (hk : xs[j + 1]? = some v) (hne : v ≠ u) : pack (xs.take (j + 1 + 1)) = pack (xs.take (j + 1)) ++ [(v, 1)] := by
  obtain ⟨m, hm⟩ := (pack_inv (xs.take (j + 1))).last u (last_take hj)
  rw [pack_succ hk]
  unfold packStep
  rw [hm]
  simp only
  rw [if_neg (fun e => hne e.symm)]
theorem pack_len (xs : List Int) (k : Nat) : (pack (xs.take k)).length ≤ xs.length := by
  have := (pack_inv (xs.take k)).len
  simp at this; omega

set_option maxHeartbeats 4000000 in
theorem packRuns_impl (A : Option Addr) (xs : List Int) (c lo hi : Nat) (w : World) (h : Ints w lo hi A xs) (hs : xs.length ≤ 4000000) : Calls Try.prog 35 #[.slice A xs.length c] w (NewPB w (packRuns xs)) := by
  go_enter Try.func35, Try.ntmps35
  by_cases hl : xs.length ≤ 30
  · go_wp2_with fail
    go_loopw [4, 12] (fun v i wr => ∃ (k : Nat) (A1 : Option Addr) (c1 : Nat), k ≤ xs.length ∧ i = .int .i64 k ∧ v = .slice A1 (pack (xs.take k)).length c1 ∧ OwnP wr w.heap.size wr.heap.size A1 c1 (pack (xs.take k)) ∧ Kp No w wr) (fun _ i _ => xs.length - (intOf i).toNat)
    case atStart => exact ⟨0, none, 0, Nat.zero_le _, rfl, rfl, Own.nil (Nat.le_refl _), Kp.refl _ _⟩
    case round =>
      obtain ⟨k, A1, c1, hk, rfl, rfl, o1, kr⟩ := hrel
      have hpl := pack_len xs k
      have hsz := kr.size
      by_cases hlt : k < xs.length
      · obtain ⟨b, off, v, rfl, hb1, hb2, hx, hc⟩ := (h.keepNo kr).at_ hlt
        have Hx := Lib.hid hx
        clear hx
        rcases k with _ | j
        · have Hz := Lib.hid (pack_zero Hx.out)
          have H0 := Lib.hid (show pack (xs.take 0) = [] from rfl)
          have hd : decide ((0 : Int) < ((0 : Nat) : Int)) = false := by simp
          simp only [Nat.add_zero] at hc
          rw [H0.out] at o1 ⊢
          clear hpl
          go_wp2_with (at_builtin; refine wpList_appP _ rfl _ _ rfl w.heap.size wr.heap.size A1 c1 [] rfl (o1.keepNo ((Kp.refl _ _).alloc _)) _ _ _ _ [(v, 1)] rfl (prs_lit _ _ _ _) (by simp) (by simp <;> omega) ?_; intro A4 c4 w4 o4 k4)
          go_roundw
          case rel => exact ⟨1, A4, c4, by omega, by go_num, by rw [Hz.out]; simp, by rw [Hz.out]; simpa using o4, (kr.alloc _).also k4 (fun i hi e => by have := e.1; omega)⟩
          case measure => simp [intOf]; omega
        · obtain ⟨b', off', u, hA, _, _, hx', hc'⟩ := (h.keepNo kr).at_ (k := j) (by omega)
          obtain ⟨rfl, rfl⟩ : b = b' ∧ off = off' := by injection hA with hA; injection hA with h1 h2; exact ⟨h1, h2⟩
          have Hx' := Lib.hid hx'
          clear hx' hA
          have hj : decide ((0 : Int) < ((j + 1 : Nat) : Int)) = true := by simp
          have hjl : j < xs.length := by omega
          by_cases he : v = u
          · subst he
            obtain ⟨m, hm1, hm2, hm3, hm4⟩ := pack_more Hx'.out Hx.out
            have hb : (v == v) = true := by simp
            have hpos : 0 < (pack (xs.take (j + 1))).length := by
              rcases Nat.eq_zero_or_pos (pack (xs.take (j + 1))).length with h0 | h0
              · rw [List.eq_nil_of_length_eq_zero h0] at hm1; simp at hm1
              · exact h0
            obtain ⟨L, hL⟩ : ∃ L, (pack (xs.take (j + 1))).length = L + 1 := ⟨(pack (xs.take (j + 1))).length - 1, by omega⟩
            obtain ⟨g, px, py, rfl, hg1, hg2, hpx, c0, c1', f0, f1⟩ := o1.at_ (k := L) (by omega)
            rw [hL, Nat.add_sub_cancel] at hm1 hm4
            obtain ⟨rfl, rfl⟩ : v = px ∧ m = py := by rw [hm1] at hpx; simpa using hpx
            have Hm4 := Lib.hid hm4
            have o5 := o1.set2 L (m + 1) hm1
            have HL := Lib.hid hL
            have hL3 : L ≤ 4000000 := by omega
            clear hm1 hm4 hpx hL hpos hpl
            rw [HL.out]
            go_wp2_with fail
            go_roundw
            case rel =>
              refine ⟨j + 1 + 1, _, c1, by omega, by go_num, by rw [Hm4.out, List.length_set, HL.out], ?_, kr.setCell (fun hh => absurd hh (by show ¬ g < _; omega)) _⟩
              rw [Hm4.out]
              exact o5.wide (Nat.le_refl _) (by simp [World.setCell]) (Nat.le_refl _)
            case measure => simp [intOf]; omega
          · have hb : (v == u) = false := by simpa using he
            have Hn := Lib.hid (pack_new Hx'.out Hx.out he)
            clear he
            go_wp2_with (at_builtin; refine wpList_appP _ rfl _ _ rfl w.heap.size wr.heap.size A1 c1 _ rfl (o1.keepNo ((Kp.refl _ _).alloc _)) _ _ _ _ [(v, 1)] rfl (prs_lit _ _ _ _) (by simp <;> omega) (by simp <;> omega) ?_; intro A4 c4 w4 o4 k4)
            go_roundw
            case rel => exact ⟨j + 1 + 1, A4, c4, by omega, by go_num, by rw [Hn.out]; simp, by rw [Hn.out]; exact o4, (kr.alloc _).also k4 (fun i hi e => by have := e.1; omega)⟩
            case measure => simp [intOf]; omega
      · obtain rfl : k = xs.length := by omega
        have Ht := Lib.hid (show pack (xs.take xs.length) = pack xs by rw [List.take_length])
        rw [Ht.out] at o1 hpl ⊢
        go_wp2_with fail
        refine (runsValid_impl _ _ _ _ _ _ o1.prs (by omega)).mono ?_
        rintro e w5 ⟨rfl, k5⟩
        cases hv : runsB (pack xs)
        · have H := Lib.hid (show packRuns xs = ([], false) by unfold packRuns; rw [hv]; rfl)
          go_wp2_with fail
          go_ret2
          rw [H.out]
          exact ⟨none, 0, rfl, Own.nil (Nat.le_refl _), kr.trans k5⟩
        · have H := Lib.hid (show packRuns xs = (pack xs, true) by unfold packRuns; rw [hv]; rfl)
          go_wp2_with fail
          go_ret2
          rw [H.out]
          exact ⟨A1, c1, rfl, (o1.keepNo k5).wide (Nat.le_refl _) k5.size (Nat.le_refl _), kr.trans k5⟩
  · have H := Lib.hid (show packRuns xs = ([], false) by unfold packRuns; rw [pack_long (by omega)]; rfl)
    go_wp2_with fail
    go_ret2
    rw [H.out]
    exact ⟨none, 0, rfl, Own.nil (Nat.le_refl _), Kp.refl _ _⟩

set_option maxHeartbeats 4000000 in
theorem packRuns_spec (A : Option Addr) (xs : List Int) (c lo hi : Nat) (w : World) (h : Ints w lo hi A xs) (hs : xs.length ≤ 4000000) : Calls Try.prog 37 #[.slice A xs.length c] w (NewPB w (packRuns xs)) := by
  have hnil := ownP_lit w w.heap.size #[] [] rfl (Nat.le_refl _) (by simp)
  have hknil : Kp No w (w.alloc (.cells #[] 33)) := (Kp.refl _ _).alloc _
  go_enter Try.func37, Try.ntmps37
  go_wp2_with fail
  go_loopw [4, 5] (fun v i wr => ∃ (k : Nat) (A1 : Option Addr) (c1 : Nat), k ≤ xs.length ∧ i = .int .i64 k ∧ v = .slice A1 (pack (xs.take k)).length c1 ∧ OwnP wr w.heap.size wr.heap.size A1 c1 (pack (xs.take k)) ∧ Kp No w wr) (fun _ i _ => xs.length - (intOf i).toNat)
  case atStart => exact ⟨0, _, 0, Nat.zero_le _, rfl, rfl, hnil.wide (Nat.le_refl _) (by simp) (Nat.le_refl _), hknil⟩
  case round =>
    clear hnil hknil
    obtain ⟨k, A1, c1, hk, rfl, rfl, o1, kr⟩ := hrel
    have hpl := pack_len xs k
    have hsz := kr.size
    by_cases hlt : k < xs.length
    · obtain ⟨b, off, v, rfl, hb1, hb2, hx, hc⟩ := (h.keepNo kr).at_ hlt
      have Hx := Lib.hid hx
      clear hx
      rcases k with _ | j
      · have Hz := Lib.hid (pack_zero Hx.out)
        have H0 := Lib.hid (show pack (xs.take 0) = [] from rfl)
        have hd : decide ((0 : Int) < ((0 : Nat) : Int)) = false := by simp
        simp only [Nat.add_zero] at hc
        rw [H0.out] at o1 ⊢
        clear hpl
        go_wp2_with fail
        go_quiet (fail)
        go_wp2_with (at_builtin; refine wpList_appP _ rfl _ _ rfl w.heap.size wr.heap.size A1 c1 [] rfl (o1.keepNo (((Kp.refl _ _).drewN nq).alloc _)) _ _ _ _ [(v, 1)] rfl (prs_lit _ _ _ _) (by simp) (by simp <;> omega) ?_; intro A4 c4 w4 o4 k4)
        go_roundw
        case rel => exact ⟨1, A4, c4, by omega, by go_num, by rw [Hz.out]; simp, by rw [Hz.out]; simpa using o4, ((kr.drewN _).alloc _).also k4 (fun i hi e => by have := e.1; omega)⟩
        case measure => simp [intOf]; omega
      · obtain ⟨b', off', u, hA, _, _, hx', hc'⟩ := (h.keepNo kr).at_ (k := j) (by omega)
        obtain ⟨rfl, rfl⟩ : b = b' ∧ off = off' := by injection hA with hA; injection hA with h1 h2; exact ⟨h1, h2⟩
        have Hx' := Lib.hid hx'
        clear hx' hA
        have hj : decide ((0 : Int) < ((j + 1 : Nat) : Int)) = true := by simp
        have hjl : j < xs.length := by omega
        by_cases he : v = u
        · subst he
          obtain ⟨m, hm1, hm2, hm3, hm4⟩ := pack_more Hx'.out Hx.out
          have hb : (v == v) = true := by simp
          have hpos : 0 < (pack (xs.take (j + 1))).length := by
            rcases Nat.eq_zero_or_pos (pack (xs.take (j + 1))).length with h0 | h0
            · rw [List.eq_nil_of_length_eq_zero h0] at hm1; simp at hm1
            · exact h0
          obtain ⟨L, hL⟩ : ∃ L, (pack (xs.take (j + 1))).length = L + 1 := ⟨(pack (xs.take (j + 1))).length - 1, by omega⟩
          obtain ⟨g, px, py, rfl, hg1, hg2, hpx, c0, c1', f0, f1⟩ := o1.at_ (k := L) (by omega)
          rw [hL, Nat.add_sub_cancel] at hm1 hm4
          obtain ⟨rfl, rfl⟩ : v = px ∧ m = py := by rw [hm1] at hpx; simpa using hpx
          have Hm4 := Lib.hid hm4
          have Hm1 := Lib.hid hm1
          have HL := Lib.hid hL
          have hL3 : L ≤ 4000000 := by omega
          clear hm1 hm4 hpx hL hpos hpl
          rw [HL.out]
          go_wp2_with fail
          go_quiet (fail)
          go_wp2_with fail
          go_roundw
          case rel =>
            refine ⟨j + 1 + 1, _, c1, by omega, by go_num, by rw [Hm4.out, List.length_set, HL.out], ?_, (kr.drewN _).setCell (fun hh => absurd hh (by show ¬ g < _; omega)) _⟩
            rw [Hm4.out]
            exact ((o1.keepNo ((Kp.refl _ _).drewN nq)).set2 L (m + 1) Hm1.out).wide (Nat.le_refl _) (by simp [World.setCell]) (Nat.le_refl _)
          case measure => simp [intOf]; omega
        · have hb : (v == u) = false := by simpa using he
          have Hn := Lib.hid (pack_new Hx'.out Hx.out he)
          clear he
          go_wp2_with fail
          go_quiet (fail)
          go_wp2_with (at_builtin; refine wpList_appP _ rfl _ _ rfl w.heap.size wr.heap.size A1 c1 _ rfl (o1.keepNo (((Kp.refl _ _).drewN nq).alloc _)) _ _ _ _ [(v, 1)] rfl (prs_lit _ _ _ _) (by simp <;> omega) (by simp <;> omega) ?_; intro A4 c4 w4 o4 k4)
          go_roundw
          case rel => exact ⟨j + 1 + 1, A4, c4, by omega, by go_num, by rw [Hn.out]; simp, by rw [Hn.out]; exact o4, ((kr.drewN _).alloc _).also k4 (fun i hi e => by have := e.1; omega)⟩
          case measure => simp [intOf]; omega
    · obtain rfl : k = xs.length := by omega
      have Ht := Lib.hid (show pack (xs.take xs.length) = pack xs by rw [List.take_length])
      rw [Ht.out] at o1 hpl ⊢
      go_wp2_with fail
      refine (runsValid_spec _ _ _ _ _ _ o1.prs (by omega)).mono ?_
      rintro e w5 ⟨rfl, k5⟩
      cases hv : runsB (pack xs)
      · have H := Lib.hid (show packRuns xs = ([], false) by unfold packRuns; rw [hv]; rfl)
        have hn := ownP_lit w5 w.heap.size #[] [] rfl (by have := k5.size; omega) (by simp)
        go_wp2_with fail
        go_ret2
        rw [H.out]
        exact ⟨_, 0, rfl, hn.wide (Nat.le_refl _) (by simp) (Nat.le_refl _), (kr.trans k5).alloc _⟩
      · have H := Lib.hid (show packRuns xs = (pack xs, true) by unfold packRuns; rw [hv]; rfl)
        go_wp2_with fail
        go_ret2
        rw [H.out]
        exact ⟨A1, c1, rfl, (o1.keepNo k5).wide (Nat.le_refl _) k5.size (Nat.le_refl _), kr.trans k5⟩

theorem expand_succ {ps : List (Int × Int)} {k : Nat} {x y : Int} (h : ps[k]? = some (x, y)) : expand (ps.take (k + 1)) = expand (ps.take k) ++ List.replicate y.toNat x := by
  obtain ⟨hk, hx⟩ := List.getElem?_eq_some_iff.1 h
  rw [List.take_succ_eq_append_getElem hk, expand_app, hx]; simp [expand]
theorem expand_take_len {ps : List (Int × Int)} (h : runsB ps = true) (k : Nat) (hk : k ≤ ps.length) : (expand (ps.take k)).length ≤ 30 := by
  have := expand_len (ps := ps.take k) fun p hp => runs_pos h p (List.mem_of_mem_take hp)
  have := (sum_bound k hk (fun j hj => runsB_upto h j (by omega))).2
  omega

set_option maxHeartbeats 2000000 in
theorem unpackRuns_impl (A : Option Addr) (ps : List (Int × Int)) (c lo hi : Nat) (w : World) (h : Prs w lo hi A ps) (hs : ps.length ≤ 4000000) : Calls Try.prog 28 #[.slice A ps.length c] w (NewI w (unpackRuns ps)) := by
  go_enter Try.func28, Try.ntmps28
  go_wp2_with fail
  refine (runsValid_impl _ _ _ _ _ _ h hs).mono ?_
  rintro e w1 ⟨rfl, k1⟩
  cases hv : runsB ps
  · have H := Lib.hid (show unpackRuns ps = [] by unfold unpackRuns; rw [hv]; rfl)
    go_wp2_with fail
    go_ret
    rw [H.out]
    exact ⟨none, 0, rfl, Own.nil (Nat.le_refl _), k1⟩
  · have H := Lib.hid (show unpackRuns ps = expand ps by unfold unpackRuns; rw [hv]; rfl)
    have Hv := Lib.hid hv
    clear hv
    go_wp2_with fail
    go_loopw [3, 11] (fun v i wr => ∃ (k : Nat) (A1 : Option Addr) (c1 : Nat), k ≤ ps.length ∧ i = .int .i64 k ∧ v = .slice A1 (expand (ps.take k)).length c1 ∧ OwnI wr w.heap.size wr.heap.size A1 c1 (expand (ps.take k)) ∧ Kp No w wr) (fun _ i _ => ps.length - (intOf i).toNat)
    case atStart => exact ⟨0, none, 0, Nat.zero_le _, rfl, rfl, Own.nil (Nat.le_refl _), k1⟩
    case round =>
      clear k1
      obtain ⟨k, A1, c1, hk, rfl, rfl, o1, kr⟩ := hrel
      have hsz := kr.size
      have hel := expand_take_len Hv.out k hk
      by_cases hlt : k < ps.length
      · obtain ⟨b, off, x, y, rfl, hb1, hb2, hx, hc, hc2⟩ := (h.keepNo kr).at_ hlt
        obtain ⟨x0, x1, y0, y1, y2⟩ := run_at Hv.out hx
        have Hx := Lib.hid (expand_succ hx); clear hx
        obtain ⟨n, rfl⟩ := Int.eq_ofNat_of_zero_le (show 0 ≤ y by omega)
        have hn : n ≤ 30 := by omega
        have hka : Kp No w (wr.alloc (.cells #[.int .i64 x, .int .i64 (n : Int)] 33)) := kr.alloc _
        have hbx : (wr.alloc (.cells #[.int .i64 x, .int .i64 (n : Int)] 33)).cell? ⟨wr.heap.size, 0, none⟩ = some (.int .i64 x) := by simp
        have hba : wr.heap.size < (wr.alloc (.cells #[.int .i64 x, .int .i64 (n : Int)] 33)).heap.size := by simp
        go_wp2_with fail
        generalize hBe : wr.heap.size = B at hbx hba hsz o1 ⊢
        clear hBe
        go_loopw [3, 17] (fun v i wq => ∃ (j : Nat) (A2 : Option Addr) (c2 : Nat), j ≤ n ∧ i = .int .i64 j ∧ v = .slice A2 (expand (ps.take k) ++ List.replicate j x).length c2 ∧ OwnI wq w.heap.size wq.heap.size A2 c2 (expand (ps.take k) ++ List.replicate j x) ∧ wq.cell? ⟨B, 0, none⟩ = some (.int .i64 x) ∧ B < wq.heap.size ∧ ¬ Blk A2 B ∧ Kp No w wq) (fun _ i _ => n - (intOf i).toNat)
        case atStart =>
          refine ⟨0, A1, c1, Nat.zero_le _, rfl, by simp, ?_, hbx, hba, fun hb => by have := (Own.blk o1 hb).2; omega, hka⟩
          simpa using (o1.keepNo ((Kp.refl No wr).alloc _)).wide (Nat.le_refl _) (Nat.le_of_lt hba) (Nat.le_refl _)
        case round =>
          clear hbx hba hka o1
          obtain ⟨j, A2, c2, hj, rfl, rfl, o2, hbx, hba, hnb, kq⟩ := hrel
          have hll : (expand (ps.take k) ++ List.replicate j x).length ≤ 100 := by simp; omega
          have hszq := kq.size
          obtain ⟨E, hE⟩ : ∃ E, E = expand (ps.take k) ++ List.replicate j x := ⟨_, rfl⟩
          rw [← hE] at o2 hll ⊢
          have HE := Lib.hid hE
          clear hE
          by_cases hlt2 : j < n
          · have Hr := Lib.hid (show expand (ps.take k) ++ List.replicate (j + 1) x = E ++ [x] by rw [HE.out, List.append_assoc, ← List.replicate_succ'])
            go_wp2_with (at_builtin; refine wpList_appI2 _ rfl _ _ rfl w.heap.size wr.heap.size A2 c2 _ rfl (o2.keepNo ((Kp.refl _ _).alloc _)) _ _ _ _ [x] rfl (ints_lit _ _ _) (by simp <;> omega) (by simp <;> omega) ?_; intro A4 c4 w4 o4 k4 h4)
            have k4s := k4.size
            simp at k4s
            go_roundw
            case rel =>
              refine ⟨j + 1, A4, c4, by omega, by go_num, by rw [Hr.out]; simp, by rw [Hr.out]; exact o4, ?_, by omega, ?_, ?_⟩
              · exact (k4.cell (p := ⟨B, 0, none⟩) (by simp; omega) hnb).trans ((((Kp.refl No wr).alloc _).cell (p := ⟨B, 0, none⟩) hba (fun e => e)).trans hbx)
              · intro hb
                rcases h4 _ hb with h | h
                · exact hnb h
                · simp at h; omega
              · exact (kq.alloc _).also k4 (fun i hi e => by have := (Own.blk o2 e).1; omega)
            case measure => simp [intOf]; omega
          · obtain rfl : j = n := by omega
            have Hx2 := Lib.hid (show expand (ps.take (k + 1)) = E by rw [HE.out, Hx.out]; simp)
            go_wp2_with fail
            go_roundw
            case rel => exact ⟨k + 1, A2, c2, by omega, by go_num, by rw [Hx2.out], by rw [Hx2.out]; exact o2, kq⟩
            case measure => simp [intOf]; omega
      · obtain rfl : k = ps.length := by omega
        have Ht := Lib.hid (show expand (ps.take ps.length) = expand ps by rw [List.take_length])
        rw [Ht.out] at o1 ⊢
        go_wp2_with fail
        go_ret
        rw [H.out]
        exact ⟨A1, c1, rfl, o1, kr⟩

set_option maxHeartbeats 2000000 in
theorem unpackRuns_spec (A : Option Addr) (ps : List (Int × Int)) (c lo hi : Nat) (w : World) (h : Prs w lo hi A ps) (hs : ps.length ≤ 4000000) : Calls Try.prog 29 #[.slice A ps.length c] w (NewI w (unpackRuns ps)) := by
  have hnil := ownI_lit w w.heap.size #[] [] rfl (Nat.le_refl _) (by simp)
  have hknil : Kp No w (w.alloc (.cells #[] 3)) := (Kp.refl _ _).alloc _
  cases hv : runsB ps
  · have H := Lib.hid (show unpackRuns ps = [] by unfold unpackRuns; rw [hv]; rfl)
    have Hv := Lib.hid hv
    clear hv
    go_enter Try.func29, Try.ntmps29
    go_wp2_with fail
    refine wp_loop_rounds 1 ?_
    rw [rounds_succ]
    by_cases hz : 0 < ps.length
    · go_wp2_with fail
      refine (runsValid_spec _ _ _ _ _ _ (h.keepNo hknil) hs).mono ?_
      rintro e w1 ⟨rfl, k1⟩
      rw [Hv.out]
      go_wp2_with fail
      go_ret
      rw [H.out]
      exact ⟨_, 0, rfl, (hnil.keepNo k1).wide (Nat.le_refl _) (by have := k1.size; simp at this; omega) (Nat.le_refl _), hknil.trans k1⟩
    · go_wp2_with fail
      go_ret
      rw [H.out]
      exact ⟨_, 0, rfl, hnil.wide (Nat.le_refl _) (by simp) (Nat.le_refl _), hknil⟩
  · have H := Lib.hid (show unpackRuns ps = expand ps by unfold unpackRuns; rw [hv]; rfl)
    have Hv := Lib.hid hv
    clear hv
    go_enter Try.func29, Try.ntmps29
    go_wp2_with fail
    go_loopw [3, 4] (fun v i wr => ∃ (k : Nat) (A1 : Option Addr) (c1 : Nat), k ≤ ps.length ∧ i = .int .i64 k ∧ v = .slice A1 (expand (ps.take k)).length c1 ∧ OwnI wr w.heap.size wr.heap.size A1 c1 (expand (ps.take k)) ∧ Kp No w wr) (fun _ i _ => ps.length - (intOf i).toNat)
    case atStart => exact ⟨0, _, 0, Nat.zero_le _, rfl, rfl, hnil.wide (Nat.le_refl _) (by simp) (Nat.le_refl _), hknil⟩
    case round =>
      clear hnil hknil
      obtain ⟨k, A1, c1, hk, rfl, rfl, o1, kr⟩ := hrel
      have hsz := kr.size
      have hel := expand_take_len Hv.out k hk
      by_cases hlt : k < ps.length
      · obtain ⟨b, off, x, y, rfl, hb1, hb2, hx, hc, hc2⟩ := (h.keepNo kr).at_ hlt
        obtain ⟨x0, x1, y0, y1, y2⟩ := run_at Hv.out hx
        have Hx := Lib.hid (expand_succ hx)
        obtain ⟨n, rfl⟩ := Int.eq_ofNat_of_zero_le (show 0 ≤ y by omega)
        have Hx0 := Lib.hid hx
        clear hx
        have hn : n ≤ 30 := by omega
        go_wp2_with fail
        refine (runsValid_spec _ _ _ _ _ _ (h.keepNo kr) hs).mono ?_
        rintro e w1 ⟨rfl, k1⟩
        rw [Hv.out]
        have o1' := (o1.keepNo k1).wide (Nat.le_refl _) k1.size (Nat.le_refl _)
        have kr1 := kr.trans k1
        clear o1 hc hc2
        go_wp2_with fail
        go_loopw [3, 5] (fun v i wq => ∃ (j : Nat) (A2 : Option Addr) (c2 : Nat), j ≤ n ∧ i = .int .i64 j ∧ v = .slice A2 (expand (ps.take k) ++ List.replicate j x).length c2 ∧ OwnI wq w.heap.size wq.heap.size A2 c2 (expand (ps.take k) ++ List.replicate j x) ∧ Kp No w wq) (fun _ i _ => n - (intOf i).toNat)
        case atStart => exact ⟨0, A1, c1, Nat.zero_le _, rfl, by simp, by simpa using o1', kr1⟩
        case round =>
          clear o1' kr1
          obtain ⟨j, A2, c2, hj, rfl, rfl, o2, kq⟩ := hrel
          have hll : (expand (ps.take k) ++ List.replicate j x).length ≤ 100 := by simp; omega
          have hszq := kq.size
          obtain ⟨b', off', x', y', hA, _, _, hx', hc, hc2⟩ := (h.keepNo kq).at_ hlt
          obtain ⟨rfl, rfl⟩ : b = b' ∧ off = off' := by injection hA with hA; injection hA with h1 h2; exact ⟨h1, h2⟩
          obtain ⟨rfl, rfl⟩ : x = x' ∧ (n : Int) = y' := by have := Hx0.out; rw [this] at hx'; simpa using hx'
          clear hA hx'
          obtain ⟨E, hE⟩ : ∃ E, E = expand (ps.take k) ++ List.replicate j x := ⟨_, rfl⟩
          rw [← hE] at o2 hll ⊢
          have HE := Lib.hid hE
          clear hE
          by_cases hlt2 : j < n
          · have Hr := Lib.hid (show expand (ps.take k) ++ List.replicate (j + 1) x = E ++ [x] by rw [HE.out, List.append_assoc, ← List.replicate_succ'])
            go_wp2_with (at_builtin; refine wpList_appI _ rfl _ _ rfl w.heap.size wr.heap.size A2 c2 _ rfl (o2.keepNo ((Kp.refl _ _).alloc _)) _ _ _ _ [x] rfl (ints_lit _ _ _) (by simp <;> omega) (by simp <;> omega) ?_; intro A4 c4 w4 o4 k4)
            go_roundw
            case rel => exact ⟨j + 1, A4, c4, by omega, by go_num, by rw [Hr.out]; simp, by rw [Hr.out]; exact o4, (kq.alloc _).also k4 (fun i hi e => by have := e.1; omega)⟩
            case measure => simp [intOf]; omega
          · obtain rfl : j = n := by omega
            have Hx2 := Lib.hid (show expand (ps.take (k + 1)) = E by rw [HE.out, Hx.out]; simp)
            go_wp2_with fail
            go_roundw
            case rel => exact ⟨k + 1, A2, c2, by omega, by go_num, by rw [Hx2.out], by rw [Hx2.out]; exact o2, kq⟩
            case measure => simp [intOf]; omega
      · obtain rfl : k = ps.length := by omega
        have Ht := Lib.hid (show expand (ps.take ps.length) = expand ps by rw [List.take_length])
        rw [Ht.out] at o1 ⊢
        go_wp2_with fail
        go_ret
        rw [H.out]
        exact ⟨A1, c1, rfl, o1, kr⟩
end Go.Proofs.Ytjkncdmnajfkjaa
