/- SpareOf, of the program and of the reference: one Lean function spareOf for both. -/
import Derived.Test.YtcnaehllegoefaaSpares
namespace Go.Proofs.Ytcnaehllegoefaa
open Go.RowKit
set_option linter.unusedVariables false

def spareGo (B : Int) (xs : List Int) : Nat → Int → Int
  | 0, _ => -1
  | f + 1, v => if idxI xs v < 0 then v else spareGo B xs f (B + idxI xs v)
def spareOf (B X : Int) (xs : List Int) (v : Int) : Int := if sparesB B X xs = true ∧ 0 ≤ v ∧ v < B then spareGo B xs (xs.length + 1) v else -1

theorem spareGo_end {B : Int} {xs : List Int} {f : Nat} {v : Int} (h : idxI xs v = -1) : spareGo B xs (f + 1) v = v := by simp [spareGo, h]
theorem spareGo_on {B : Int} {xs : List Int} {f k : Nat} {v : Int} (h : idxI xs v = k) : spareGo B xs (f + 1) v = spareGo B xs f (B + k) := by
  have : ¬ ((k : Int) < 0) := by omega
  simp [spareGo, h, this]
/-- What is bad at v comes at s or later. -/
def Late (xs : List Int) (s : Nat) (v : Int) : Prop := ∀ j : Nat, xs[j]? = some v → s ≤ j
theorem Late.zero (xs : List Int) (v : Int) : Late xs 0 v := fun _ _ => Nat.zero_le _
theorem Late.step {B X : Int} {xs : List Int} (hv : sparesB B X xs = true) {s k : Nat} {v : Int} (h : Late xs s v) (hk : xs[k]? = some v) : Late xs (s + 1) (B + k) := by
  intro j hj
  have := ((sparesB_dec hv).2 j _ hj).2.1
  have := h k hk
  omega
/-- In valid spares the one place of v is its index. -/
theorem idxI_one {B X : Int} {xs : List Int} (hv : sparesB B X xs = true) {k : Nat} {v : Int} (hk : xs[k]? = some v) : idxI xs v = k := by
  refine idxI_at (fun j x hj hx => ?_) hk
  rintro rfl
  have := ((sparesB_dec hv).2 k _ hk).2.2
  rw [in_take hj hx] at this
  cases this
theorem idxI_some {xs : List Int} {v : Int} {k : Nat} (h : idxI xs v = k) : xs[k]? = some v := by
  rcases idxI_cases xs v with ⟨h1, _⟩ | ⟨k', h1, h2, _⟩
  · omega
  · obtain rfl : k = k' := by omega
    exact h2
theorem spareOf_bad {B X : Int} {xs : List Int} {v : Int} (h : ¬ (sparesB B X xs = true ∧ 0 ≤ v ∧ v < B)) : spareOf B X xs v = -1 := by rw [spareOf, if_neg h]
theorem spareOf_good {B X : Int} {xs : List Int} {v : Int} (h : sparesB B X xs = true ∧ 0 ≤ v ∧ v < B) : spareOf B X xs v = spareGo B xs (xs.length + 1) v := by rw [spareOf, if_pos h]

set_option maxHeartbeats 1000000 in
theorem spareOf_impl (B X v : Int) (A : Option Addr) (xs : List Int) (c lo hi : Nat) (w : World) (h : Ints w lo hi A xs) (hs : xs.length ≤ 4000000) (hcap : xs.length ≤ c) : Calls Try.prog 35 #[.agg #[.int .i64 B, .int .i64 X, .slice A xs.length c], .int .i64 v] w
    fun e w' => e = .returned (.int .i64 (spareOf B X xs v)) ∧ Kp No w w' := by
  go_enter Try.func35, Try.ntmps35
  go_wp2_with fail
  refine (sparesValid_impl B X A xs c lo hi _ (h.keepNo ((Kp.refl _ _).alloc _)) hs hcap).mono ?_
  rintro e w1 ⟨rfl, k1⟩
  have hbox := (BoxS.new w 42 B X A xs.length c).keepNo k1
  have kp := ((Kp.refl No w).alloc _).trans k1
  have h1 := h.keepNo kp
  clear k1
  have Hbox := Lib.hid hbox
  obtain ⟨hc0, hc1, hc2, hf0, hf1, hf2, hbl⟩ := hbox
  cases hv : sparesB B X xs
  · have Hr := Lib.hid (spareOf_bad (B := B) (X := X) (xs := xs) (v := v) (by rw [hv]; simp))
    go_wp2
    go_ret
    exact ⟨ret_int Hr.out.symm, kp⟩
  · by_cases hb : 0 ≤ v ∧ v < B
    · have Hr := Lib.hid (spareOf_good ⟨hv, hb⟩)
      obtain ⟨hb1, hb2⟩ := hb
      have Hv := Lib.hid hv
      obtain ⟨⟨g1, g2, g3, g4, g5⟩, g6⟩ := sparesB_dec hv
      have G6 := Lib.hid g6
      clear hv g6
      go_wp2
      go_loop [1, 5] (fun a q => ∃ (s : Nat) (u : Int), s ≤ xs.length ∧ a = .int .i64 u ∧ 0 ≤ u ∧ u < B + xs.length ∧ Late xs s u ∧ Hid (spareGo B xs (xs.length + 1 - s) u = spareOf B X xs v)) (fun a _ => (100 - intOf a).toNat)
      case atStart => exact ⟨0, v, Nat.zero_le _, rfl, hb1, by omega, Late.zero _ _, Lib.hid Hr.out.symm⟩
      case round =>
        obtain ⟨s, u, hsl, rfl, hu1, hu2, hlate, Hgo⟩ := hrel
        rcases idxI_cases xs u with ⟨hi1, hi2⟩ | ⟨k, hi1, hi2, hi3⟩
        · have Hr := Lib.hid (show u = spareOf B X xs v by
            rw [← Hgo.out, show xs.length + 1 - s = (xs.length - s) + 1 by omega, spareGo_end hi1])
          clear hi2 Hgo
          go_wp2_with (go_at_call 52; refine (index_any _ _ _ _ _ _ _ h1 hs).mono ?_; rintro e w' ⟨rfl, rfl⟩)
          go_ret
          exact ⟨ret_int Hr.out, kp⟩
        · have hkl : k < xs.length := (List.getElem?_eq_some_iff.1 hi2).1
          have hsk := hlate k hi2
          have hub := G6.out k u hi2
          have hub1 := hub.2.1
          have Hl := Lib.hid (hlate.step Hv.out hi2)
          have Hgo2 := Lib.hid (show spareGo B xs (xs.length + 1 - (s + 1)) (B + k) = spareOf B X xs v by
            rw [← Hgo.out, show xs.length + 1 - s = (xs.length + 1 - (s + 1)) + 1 by omega, spareGo_on hi1])
          clear hi2 hi3 Hgo hub
          go_wp2_with (go_at_call 52; refine (index_any _ _ _ _ _ _ _ h1 hs).mono ?_; rintro e w' ⟨rfl, rfl⟩)
          go_round
          case rel => exact ⟨s + 1, B + k, by omega, by go_num, by omega, by omega, Hl.out, Hgo2⟩
          case measure => simp [intOf]; omega
    · have Hr := Lib.hid (spareOf_bad (B := B) (X := X) (xs := xs) (v := v) (by rw [hv]; simpa using hb))
      have hb' : v < 0 ∨ B ≤ v := by omega
      go_wp2
      all_goals go_ret
      all_goals exact ⟨ret_int Hr.out.symm, kp⟩

/-- What the reference's search has found after m numbers. -/
def Found (B : Int) (xs : List Int) (u : Int) (m : Nat) (q : Int) : Prop := (Before xs u m ∧ q = -1) ∨ ∃ k : Nat, k < m ∧ xs[k]? = some u ∧ q = B + k
theorem Found.zero (B : Int) (xs : List Int) (u : Int) : Found B xs u 0 (-1) := .inl ⟨fun j x hj => absurd hj (by omega), rfl⟩
theorem Found.hit {B : Int} {xs : List Int} {u : Int} {m : Nat} (h : xs[m]? = some u) : Found B xs u (m + 1) (B + m) := .inr ⟨m, by omega, h, rfl⟩
theorem Found.miss {B : Int} {xs : List Int} {u x q : Int} {m : Nat} (h : Found B xs u m q) (hx : xs[m]? = some x) (hn : x ≠ u) : Found B xs u (m + 1) q := by
  rcases h with ⟨h1, h2⟩ | ⟨k, h1, h2, h3⟩
  · exact .inl ⟨h1.succ hx hn, h2⟩
  · exact .inr ⟨k, by omega, h2, h3⟩

set_option maxHeartbeats 1000000 in
theorem spareOf_spec (B X v : Int) (A : Option Addr) (xs : List Int) (c lo hi : Nat) (w : World) (h : Ints w lo hi A xs) (hs : xs.length ≤ 4000000) : Calls Try.prog 54 #[.agg #[.int .i64 B, .int .i64 X, .slice A xs.length c], .int .i64 v] w
    fun e w' => e = .returned (.int .i64 (spareOf B X xs v)) ∧ Kp No w w' := by
  go_enter Try.func54, Try.ntmps54
  go_wp2_with fail
  refine (sparesValid_spec B X A xs c lo hi _ (h.keepNo ((Kp.refl _ _).alloc _)) hs).mono ?_
  rintro e w1 ⟨rfl, k1⟩
  have hbox := (BoxS.new w 42 B X A xs.length c).keepNo k1
  have kp := ((Kp.refl No w).alloc _).trans k1
  have h1 := h.keepNo kp
  clear k1
  have Hbox := Lib.hid hbox
  obtain ⟨hc0, hc1, hc2, hf0, hf1, hf2, hbl⟩ := hbox
  cases hv : sparesB B X xs
  · have Hr := Lib.hid (spareOf_bad (B := B) (X := X) (xs := xs) (v := v) (by rw [hv]; simp))
    go_wp2_with fail
    go_ret
    exact ⟨ret_int Hr.out.symm, kp⟩
  · have Hv := Lib.hid hv
    obtain ⟨⟨g1, g2, g3, g4, g5⟩, g6⟩ := sparesB_dec hv
    have G6 := Lib.hid g6
    clear g6
    have hsub : IntKind.i64.wrap (B - 1) = B - 1 := IntWalk.i64_in _ (by omega)
    cases hin : inB v 0 (B - 1)
    · have Hr := Lib.hid (spareOf_bad (B := B) (X := X) (xs := xs) (v := v) (by
        rintro ⟨_, h2⟩
        rw [inB_true (by omega)] at hin
        cases hin))
      go_wp2_with (go_at_call 43; refine (l1In_any _ _ _ _).mono ?_; rintro e w' ⟨rfl, rfl⟩)
      go_ret
      exact ⟨ret_int Hr.out.symm, kp⟩
    · have hb : 0 ≤ v ∧ v ≤ B - 1 := by simpa [inB] using hin
      have Hr := Lib.hid (spareOf_good ⟨hv, hb.1, by omega⟩)
      obtain ⟨hb1, hb2⟩ := hb
      clear hv
      go_wp2_with (go_at_call 43; refine (l1In_any _ _ _ _).mono ?_; rintro e w' ⟨rfl, rfl⟩)
      clear hin
      go_loop [1, 5] (fun a st => ∃ (s : Nat) (u : Int), s ≤ xs.length ∧ a = .int .i64 u ∧ st = .int .i64 s ∧ 0 ≤ u ∧ u < B + xs.length ∧ Late xs s u ∧ Hid (spareGo B xs (xs.length + 1 - s) u = spareOf B X xs v)) (fun _ st => xs.length + 1 - (intOf st).toNat)
      case atStart => exact ⟨0, v, Nat.zero_le _, rfl, rfl, hb1, by omega, Late.zero _ _, Lib.hid Hr.out.symm⟩
      case round =>
        obtain ⟨s, u, hsl, rfl, rfl, hu1, hu2, hlate, Hgo⟩ := hrel
        go_wp2_with fail
        go_loop [6, 7] (fun q i => ∃ (m : Nat) (x : Int), m ≤ xs.length ∧ i = .int .i64 m ∧ q = .int .i64 x ∧ Found B xs u m x) (fun _ i => xs.length - (intOf i).toNat)
        case atStart => exact ⟨0, -1, Nat.zero_le _, rfl, rfl, Found.zero _ _ _⟩
        case round =>
          obtain ⟨m, q, hm, rfl, rfl, hfo⟩ := hrel
          by_cases hlt : m < xs.length
          · obtain ⟨b, off, x, rfl, hb1', hb2', hx, hc⟩ := h1.at_ hlt
            have Hx := Lib.hid hx; clear hx
            by_cases he : x = u
            · subst he
              have hbe : (x == x) = true := by simp
              go_wp2_with fail
              go_round
              case rel => exact ⟨m + 1, B + m, by omega, by go_num, by go_num, Found.hit Hx.out⟩
              case measure => simp [intOf]; omega
            · have hbf : (x == u) = false := by simpa using he
              go_wp2_with fail
              go_round
              case rel => exact ⟨m + 1, q, by omega, by go_num, rfl, hfo.miss Hx.out he⟩
              case measure => simp [intOf]; omega
          · obtain rfl : m = xs.length := by omega
            rcases hfo with ⟨hbe, rfl⟩ | ⟨k, hkl, hi2, rfl⟩
            · have Hr := Lib.hid (show u = spareOf B X xs v by
                rw [← Hgo.out, show xs.length + 1 - s = (xs.length - s) + 1 by omega, spareGo_end (idxI_no hbe)])
              clear Hgo
              go_wp2_with fail
              go_ret
              exact ⟨ret_int Hr.out, kp⟩
            · have hsk := hlate k hi2
              have Hl := Lib.hid (hlate.step Hv.out hi2)
              have Hgo2 := Lib.hid (show spareGo B xs (xs.length + 1 - (s + 1)) (B + k) = spareOf B X xs v by
                rw [← Hgo.out, show xs.length + 1 - s = (xs.length + 1 - (s + 1)) + 1 by omega, spareGo_on (idxI_one Hv.out hi2)])
              clear hi2 Hgo
              have hneg : ¬ (B + (k : Int) < 0) := by omega
              go_wp2_with fail
              go_round
              case rel => exact ⟨s + 1, B + k, by omega, rfl, by go_num, by omega, by omega, Hl.out, Hgo2⟩
              case measure => simp [intOf]; omega
end Go.Proofs.Ytcnaehllegoefaa
