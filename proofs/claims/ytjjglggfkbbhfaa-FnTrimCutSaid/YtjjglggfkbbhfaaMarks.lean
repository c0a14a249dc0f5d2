/- l24Marks and l24Spans of the reference. -/
import Derived.Test.YtjjglggfkbbhfaaTrimW
import Derived.WalkKit
import Derived.WalkSpells
import Derived.WalkLawsBesides
import Derived.Outline
import Derived.Laws.EntriesVeiled
namespace Go.Proofs.Ytjjglggfkbbhfaa
open Go.RowKit
set_option linter.unusedVariables false

/-- A slice of bools. -/
def OwnL (w : World) (lo hi : Nat) (A : Option Addr) (c : Nat) (bs : List Bool) : Prop := Own w lo hi 4 1 A bs.length c (bs.map Value.bool)
section
variable {S : Nat → Prop} {w w' : World} {lo hi lo' hi' c : Nat} {A : Option Addr} {bs : List Bool}
theorem OwnL.keep (h : OwnL w lo hi A c bs) (k : Kp S w w') (hs : ∀ i, lo ≤ i → i < hi → ¬ S i) : OwnL w' lo hi A c bs := Own.keep h k hs
theorem OwnL.keepNo (h : OwnL w lo hi A c bs) (k : Kp No w w') : OwnL w' lo hi A c bs := Own.keepNo h k
theorem OwnL.wide (h : OwnL w lo hi A c bs) (h1 : lo' ≤ lo) (h2 : hi ≤ hi') (h3 : hi' ≤ w.heap.size) : OwnL w lo' hi' A c bs := Own.wide h h1 h2 h3
theorem OwnL.at_ (h : OwnL w lo hi A c bs) {k : Nat} (hk : k < bs.length) : ∃ g b, A = some ⟨g, 0, none⟩ ∧ lo ≤ g ∧ g < hi ∧ bs[k]? = some b ∧ w.cell? ⟨g, k, none⟩ = some (.bool b) ∧ w.frozen? ⟨g, k, none⟩ = false := by
  obtain ⟨g, rfl, h1, h2⟩ := Own.form h (by omega)
  refine ⟨g, bs[k], rfl, h1, h2, List.getElem?_eq_getElem hk, ?_, h.1.frozenAt k⟩
  rw [h.1.cellAt k (by omega)]
  simp [List.getElem?_eq_getElem hk]
theorem OwnL.set_ {g : Nat} (h : OwnL w lo hi (some ⟨g, 0, none⟩) c bs) (j : Nat) (b : Bool) : OwnL (w.setCell ⟨g, j, none⟩ (.bool b)) lo hi (some ⟨g, 0, none⟩) c (bs.set j b) := by
  have := Own.set_ h j (.bool b)
  unfold OwnL
  rw [List.map_set, List.length_set]
  exact this
end
def markL (f : Nat → Bool) : List Bool := (List.range 60).map f
theorem markL_len (f : Nat → Bool) : (markL f).length = 60 := by simp [markL]
theorem markL_get (f : Nat → Bool) {k : Nat} (h : k < 60) : (markL f)[k]? = some (f k) := by simp [markL, h]
theorem markL_set (f : Nat → Bool) (m : Nat) (b : Bool) (hm : m < 60) : (markL f).set m b = markL (fun k => if k = m then b else f k) := by
  apply List.ext_getElem?
  intro i
  rw [List.getElem?_set, markL_len]
  by_cases h : m = i
  · subst h
    rw [if_pos rfl, if_pos hm, markL_get (fun k => if k = m then b else f k) hm]; simp
  · rw [if_neg h]
    by_cases hi : i < 60
    · rw [markL_get f hi, markL_get (fun k => if k = m then b else f k) hi]; simp [Ne.symm h]
    · rw [List.getElem?_eq_none (by rw [markL_len]; omega), List.getElem?_eq_none (by rw [markL_len]; omega)]
theorem markL_congr {f g : Nat → Bool} (h : ∀ k, k < 60 → f k = g k) : markL f = markL g := List.map_congr_left fun k hk => h k (by simpa using hk)

theorem bool_info : (Try.prog.info? 4).map (fun i => (i.zero, i.size, i.bytes)) = some (some (.bool false), 1, 1) := by kernel_rfl

/-- What a call leaves that hands back the marks of a set. -/
def NewL (w : World) (f : Nat → Bool) (e : Ending) (w' : World) : Prop := ∃ A, e = .returned (.slice A 60 60) ∧ OwnL w' w.heap.size w'.heap.size A 60 (markL f) ∧ Kp No w w'

def inRange (ps : List (Int × Int)) : Prop := ∀ p ∈ ps, 0 ≤ p.1 ∧ p.2 ≤ 60
theorem has_succ {ps : List (Int × Int)} {k : Nat} {x y : Int} (h : ps[k]? = some (x, y)) (m : Int) : hasB (ps.take (k + 1)) m = (hasB (ps.take k) m || inP (x, y) m) := by
  obtain ⟨hk, hx⟩ := List.getElem?_eq_some_iff.1 h
  rw [List.take_succ_eq_append_getElem hk, has_app, has_one, hx]

set_option maxHeartbeats 2000000 in
theorem l24Marks_any (A : Option Addr) (ps : List (Int × Int)) (c lo hi : Nat) (w : World) (h : Prs w lo hi A ps) (hs : ps.length ≤ 4000000) (hr : inRange ps) :
    Calls Try.prog 49 #[.slice A ps.length c] w (NewL w (fun n => hasB ps n)) := by
  obtain ⟨i0, hi0, hz0, hz1, hz2⟩ := info_parts bool_info
  go_enter Try.func49, Try.ntmps49
  go_wp2_with (at_make; refine wpList_make_full _ rfl _ _ 59 rfl w.heap.size 4 i0 (.bool false) 1 Try.underlying59 hi0 hz0 hz1 .i64 .i64 _ _ 60 rfl rfl rfl rfl ?c1 ?c2 (Nat.le_refl _) ?_)
  case c1 => rw [hz2]; omega
  case c2 => unfold maxLen; omega
  intro w1 hown hg
  have o1 : OwnL w1 w.heap.size w1.heap.size (some ⟨w.heap.size, 0, none⟩) 60 (markL fun n => hasB (ps.take 0) n) := by
    have e : (markL fun n => hasB (ps.take 0) n).map Value.bool = (madeCells #[Value.bool false] (60 * 1)).toList := by
      rw [toList_madeCells_one]; simp [markL, hasB]; rfl
    have := Own.of hown
    unfold OwnL
    rw [e, markL_len]
    simpa [Value.cells] using this
  have hk0 : Kp No w w1 := (Kp.refl _ _).grown hg (by simp)
  clear hown hg
  go_wp2_with fail
  go_loopw [4] (fun i wr => ∃ k : Nat, k ≤ ps.length ∧ i = .int .i64 k ∧ OwnL wr w.heap.size w1.heap.size (some ⟨w.heap.size, 0, none⟩) 60 (markL fun n => hasB (ps.take k) n) ∧ Kp No w wr) (fun i _ => ps.length - (intOf i).toNat)
  case atStart => exact ⟨0, Nat.zero_le _, rfl, o1, hk0⟩
  case round =>
    obtain ⟨k, hk, rfl, ho, hkp⟩ := hrel
    clear o1 hk0
    by_cases hlt : k < ps.length
    · obtain ⟨b, off, x, y, rfl, hb1, hb2, hx, hc, hc2⟩ := (h.keepNo hkp).at_ hlt
      have Hx := Lib.hid hx
      obtain ⟨hx0, hy60⟩ := hr (x, y) (List.mem_of_getElem? hx)
      simp only at hx0 hy60
      clear hx
      obtain ⟨wo, rfl⟩ : ∃ wo : World, wo = wr := ⟨_, rfl⟩
      obtain ⟨m0, rfl⟩ := Int.eq_ofNat_of_zero_le hx0
      go_wp2_with fail
      go_loopw [5] (fun i wr => ∃ m : Nat, m0 ≤ m ∧ ((m : Int) ≤ y ∨ m = m0) ∧ i = .int .i64 m ∧ OwnL wr w.heap.size w1.heap.size (some ⟨w.heap.size, 0, none⟩) 60 (markL fun n => hasB (ps.take k) n || inP ((m0 : Int), (m : Int)) n) ∧ Kp No w wr) (fun i _ => (y - intOf i).toNat)
      case atStart =>
        refine ⟨m0, Nat.le_refl _, .inr rfl, rfl, ?_, hkp⟩
        rw [markL_congr (g := fun n => hasB (ps.take k) n) (fun j _ => by
          have : inP ((m0 : Int), (m0 : Int)) j = false := inP_false (by omega)
          simp [this])]
        exact ho
      case round =>
        obtain ⟨m, hm0, hm1, rfl, ho', hkp'⟩ := hrel
        obtain ⟨b', off', x', y', hA, _, _, hx', hc', hc2'⟩ := (h.keepNo hkp').at_ hlt
        obtain ⟨rfl, rfl⟩ : b = b' ∧ off = off' := by injection hA with hA; injection hA with h1 h2; exact ⟨h1, h2⟩
        obtain ⟨rfl, rfl⟩ : (m0 : Int) = x' ∧ y = y' := by have := Hx.out; rw [this] at hx'; simpa using hx'
        clear hx' hA
        by_cases hlt' : (m : Int) < y
        · obtain ⟨g, bb, hg, hg1, hg2, hbb, hcb, hfb⟩ := ho'.at_ (k := m) (by rw [markL_len]; omega)
          obtain rfl : w.heap.size = g := by injection hg with hg; injection hg
          clear hbb hg
          go_wp2_with fail
          go_roundw
          case rel =>
            refine ⟨m + 1, by omega, .inl (by omega), by go_num, ?_, hkp'.setCell (fun hh => absurd hh (by simp)) _⟩
            have := ho'.set_ m true
            rw [markL_set _ m true (by omega)] at this
            rw [markL_congr (g := fun j => if j = m then true else (hasB (ps.take k) j || inP ((m0 : Int), (m : Int)) j)) (fun j _ => by
              by_cases hj : j = m
              · subst hj
                have : inP ((m0 : Int), (j : Int) + 1) j = true := inP_true (by omega)
                simp [this]
              · simp only [hj, if_false]
                congr 1
                rw [Bool.eq_iff_iff, inP_iff, inP_iff]
                simp only; omega)]
            exact this
          case measure => simp [intOf]; omega
        · go_wp2_with fail
          go_roundw
          case rel =>
            refine ⟨k + 1, by omega, by go_num, ?_, hkp'⟩
            rw [markL_congr (g := fun n => hasB (ps.take k) n || inP ((m0 : Int), (m : Int)) n) (fun j _ => by
              rw [has_succ Hx.out]
              congr 1
              rw [Bool.eq_iff_iff, inP_iff, inP_iff]
              simp only; omega)]
            exact ho'
          case measure => simp [intOf]; omega
    · obtain rfl : k = ps.length := by omega
      rw [List.take_length] at ho
      go_wp2_with fail
      go_ret
      exact ⟨_, rfl, ho.wide (Nat.le_refl _) ho.2.2 (Nat.le_refl _), hkp⟩

set_option maxHeartbeats 4000000 in
theorem l24Spans_any (A : Option Addr) (f : Nat → Bool) (lo hi : Nat) (w : World) (h : OwnL w lo hi A 60 (markL f)) :
    Calls Try.prog 48 #[.slice A 60 60] w (NewP w (build f 60)) := by
  have hnil := ownP_lit w w.heap.size #[] [] rfl (Nat.le_refl _) (by simp)
  have hknil : Kp No w (w.alloc (.cells #[] 25)) := (Kp.refl _ _).alloc _
  go_enter Try.func48, Try.ntmps48
  go_wp2_with fail
  go_loopw [3, 4] (fun v i wr => ∃ (n : Nat) (A1 : Option Addr) (c1 : Nat), n ≤ 60 ∧ i = .int .i64 n ∧ v = .slice A1 (build f n).length c1 ∧ OwnP wr w.heap.size wr.heap.size A1 c1 (build f n) ∧ Kp No w wr) (fun _ i _ => 60 - (intOf i).toNat)
  case atStart => exact ⟨0, _, 0, by omega, rfl, rfl, hnil.wide (Nat.le_refl _) (by simp) (Nat.le_refl _), hknil⟩
  case round =>
    obtain ⟨n, A1, c1, hn, rfl, rfl, ho, hkp⟩ := hrel
    have hBl := build_len f n
    have sr := hkp.size
    by_cases hlt : n < 60
    · obtain ⟨g, b, rfl, hg1, hg2, hb, hcb, _⟩ := (h.keepNo hkp).at_ (k := n) (by rw [markL_len]; omega)
      obtain rfl : f n = b := by rw [markL_get f hlt] at hb; injection hb
      clear hb
      have HL := Lib.hid (fun (x y : Int) => build_last (f := f) (n := n) (x := x) (y := y))
      have HN := Lib.hid (build_none (f := f) (n := n))
      generalize hout : build f n = out at *
      have HO := Lib.hid hout
      clear hout
      have hcase : out = [] ∨ ∃ m, out.length = m + 1 := by
        rcases out with _ | ⟨q, out⟩
        · exact .inl rfl
        · exact .inr ⟨out.length, rfl⟩
      cases hf : f n
      · have HB := Lib.hid (show build f (n + 1) = stepB out n false by rw [build, HO.out, hf])
        clear hcase
        go_wp2_with fail
        go_roundw
        case rel => exact ⟨n + 1, A1, c1, by omega, by go_num, by rw [HB.out, stepB_false], by rw [HB.out, stepB_false]; exact ho, hkp⟩
        case measure => simp [intOf]; omega
      · rcases n with _ | j
        · obtain rfl : out = [] := List.eq_nil_of_length_eq_zero (by omega)
          have HB := Lib.hid (show build f (0 + 1) = [((0 : Int), (1 : Int))] by rw [build, HO.out, hf]; rfl)
          have h0 : ((0 : Int) == 0) = true := rfl
          clear hcase
          go_wp2_with (at_builtin; refine wpList_appP _ rfl _ _ rfl w.heap.size wr.heap.size A1 c1 [] (by rfl) (ho.keepNo ((Kp.refl _ _).alloc _)) _ _ _ _ [((0 : Int), (1 : Int))] rfl (prs_lit _ _ _ _) (by simp) (by simp; omega) ?_; intro A4 c4 w4 o4 k4)
          go_roundw
          case rel => exact ⟨0 + 1, A4, c4, by omega, by go_num, by rw [HB.out]; rfl, by rw [HB.out]; exact o4, (hkp.alloc _).also k4 (fun i hi e => by have := e.1; omega)⟩
          case measure => simp [intOf]
        · obtain ⟨g', b', hA, _, _, hb', hcb', _⟩ := (h.keepNo hkp).at_ (k := j) (by rw [markL_len]; omega)
          obtain rfl : g = g' := by injection hA with hA; injection hA
          obtain rfl : f j = b' := by rw [markL_get f (by omega)] at hb'; injection hb'
          clear hb' hA
          have h0 : ((j : Int) + 1 == 0) = false := beq_eq_false_iff_ne.2 (by omega)
          cases hfj : f j
          · have HB := Lib.hid (show build f (j + 1 + 1) = out ++ [((j : Int) + 1, (j : Int) + 1 + 1)] by
              rw [build, HO.out, hf]
              rcases hcase with rfl | ⟨m, hm⟩
              · rfl
              · obtain ⟨q, hq⟩ : ∃ q, out[out.length - 1]? = some q := ⟨_, List.getElem?_eq_getElem (by omega)⟩
                have := HL.out q.1 q.2 hq
                rw [stepB_new hq (fun e => by obtain ⟨i, hi, hfi⟩ := this.1 e; obtain rfl : j = i := (by omega); rw [hfj] at hfi; cases hfi)]
                rfl)
            clear hcase
            go_wp2_with (at_builtin; refine wpList_appP _ rfl _ _ rfl w.heap.size wr.heap.size A1 c1 out (by rfl) (ho.keepNo ((Kp.refl _ _).alloc _)) _ _ _ _ [((j : Int) + 1, (j : Int) + 1 + 1)] rfl (prs_lit _ _ _ _) (by simp; omega) (by simp; omega) ?_; intro A4 c4 w4 o4 k4)
            go_roundw
            case rel => exact ⟨j + 1 + 1, A4, c4, by omega, by go_num, by rw [HB.out]; simp, by rw [HB.out]; exact o4, (hkp.alloc _).also k4 (fun i hi e => by have := e.1; omega)⟩
            case measure => simp [intOf]; omega
          · obtain ⟨m, hm⟩ : ∃ m, out.length = m + 1 := by
              rcases hcase with rfl | h'
              · have := HN.out rfl j rfl
                rw [hfj] at this; cases this
              · exact h'
            obtain ⟨g2, x', y', rfl, hg1', hg2', hx', hd1, hd2, hfz1, hfz2⟩ := ho.at_ (k := m) (by omega)
            have hlast : out[out.length - 1]? = some (x', y') := by rw [hm]; exact hx'
            have hy : y' = ((j + 1 : Nat) : Int) := (HL.out x' y' hlast).2 ⟨j, rfl, hfj⟩
            have HB := Lib.hid (show build f (j + 1 + 1) = out.set m (x', (j : Int) + 1 + 1) by
              rw [build, HO.out, hf, stepB_more hlast hy, hm]; rfl)
            have hxy := Lib.hid hx'
            clear hx' hlast hy hcase
            rw [hm]
            go_wp2_with fail
            go_roundw
            case rel => exact ⟨j + 1 + 1, some ⟨g2, 0, none⟩, c1, by omega, by go_num, by rw [HB.out]; simp [hm], by rw [HB.out]; exact (ho.set2 m _ hxy.out).wide (Nat.le_refl _) (by simp [World.setCell]) (Nat.le_refl _), hkp.setCell (fun hh => absurd hh (by show ¬ g2 < _; omega)) _⟩
            case measure => simp [intOf]; omega
    · obtain rfl : n = 60 := by omega
      go_wp2_with fail
      go_ret
      exact ⟨A1, c1, rfl, ho, hkp⟩
end Go.Proofs.Ytjjglggfkbbhfaa
