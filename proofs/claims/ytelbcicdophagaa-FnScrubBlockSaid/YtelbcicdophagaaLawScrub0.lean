/- DrawCountRead, DrawScrubBlock, DrawScrubOrder; hasInt and sameInts in full. -/
import Derived.Test.YtelbcicdophagaaLawReads
import Derived.Test.YtelbcicdophagaaOrder
import Derived.WalkKit
import Derived.WalkSpells
import Derived.WalkLawsBesides
import Derived.Outline
import Derived.Deep.QuietTactic
import Derived.BigQuiet
namespace Go.Proofs.Ytelbcicdophagaa
open Go.RowKit
set_option linter.unusedVariables false

/-- What a draw leaves: some own slice of at most L ints, and a number. -/
def SomeIN (L : Nat) (w : World) (e : Ending) (w' : World) : Prop := ∃ A c xs n, e = .returned (.tuple #[.slice A (xs : List Int).length c, .int .i64 n]) ∧ OwnI w' w.heap.size w'.heap.size A c xs ∧ xs.length ≤ L ∧ Kp No w w'

set_option maxHeartbeats 1000000 in
theorem drawCountRead (A : Option Addr) (zs : List Int) (c : Nat) (w : World) (h : Byts w A zs) (hcap : zs.length ≤ c) (hl : zs.length ≤ 4000000) :
    Calls Try.prog 21 #[.slice A zs.length c] w (SomeIN 13 w) := by
  go_enter Try.func21, Try.ntmps21
  go_wp2_with fail
  refine (open_ _ _ _ _ h hcap hl).mono ?_
  rintro e w1 ⟨rfl, r1, k1, z1⟩
  go_wp2_with fail
  refine (l20Reads_ _ _ _ _ r1 (by omega) (by omega) (by omega)).mono ?_
  rintro e w2 ⟨A2, c2, xs, rfl, o2, l2, r2, k2⟩
  have k12 : Kp No w w2 := k1.also k2 (fun i hi e => by simp only [At] at e; omega)
  have o2' := o2.wide (lo' := w.heap.size) (hi' := w2.heap.size) (by omega) (Nat.le_refl _) (Nat.le_refl _)
  clear h hcap k1 r1
  go_wp2_with fail
  refine (pick_ _ _ _ _ r2 (by omega) (by omega) (by omega)).mono ?_
  rintro e w3 ⟨v3, rfl, v3a, v3b, r3, k3, z3⟩
  have o3 := o2.keep k3 (fun i hi _ e => by simp only [At] at e; omega)
  go_wp2_with fail
  refine (pick_ _ _ _ _ r3 (by omega) (by omega) (by omega)).mono ?_
  rintro e w4 ⟨v4, rfl, v4a, v4b, r4, k4, z4⟩
  have o4 := o3.keep k4 (fun i hi _ e => by simp only [At] at e; omega)
  go_wp2_with fail
  go_ret2
  exact ⟨A2, c2, xs, _, rfl, o4.wide (by omega) (by omega) (Nat.le_refl _), l2, (k12.also k3 (fun i hi e => by simp only [At] at e; omega)).also k4 (fun i hi e => by simp only [At] at e; omega)⟩

theorem drawScrubBlock (A : Option Addr) (zs : List Int) (c : Nat) (w : World) (h : Byts w A zs) (hcap : zs.length ≤ c) (hl : zs.length ≤ 4000000) :
    Calls Try.prog 25 #[.slice A zs.length c] w (SomeIN 13 w) := by
  go_enter Try.func25, Try.ntmps25
  go_wp2_with fail
  refine (drawCountRead _ _ _ _ h hcap hl).mono ?_
  rintro e w1 ⟨A1, c1, xs, n, rfl, o1, l1, k1⟩
  go_wp2_with fail
  go_ret2
  exact ⟨A1, c1, xs, n, rfl, o1, l1, k1⟩

theorem drawScrubOrder (A : Option Addr) (zs : List Int) (c : Nat) (w : World) (h : Byts w A zs) (hcap : zs.length ≤ c) (hl : zs.length ≤ 4000000) :
    Calls Try.prog 29 #[.slice A zs.length c] w (SomeI 13 w) := by
  go_enter Try.func29, Try.ntmps29
  go_wp2_with fail
  refine (open_ _ _ _ _ h hcap hl).mono ?_
  rintro e w1 ⟨rfl, r1, k1, z1⟩
  go_wp2_with fail
  refine (l20Reads_ _ _ _ _ r1 (by omega) (by omega) (by omega)).mono ?_
  intro e w2 hd
  obtain ⟨A2, c2, xs, rfl, ho, hl, hk⟩ := someI_of k1 z1 hd
  go_wp2_with fail
  go_ret
  exact ⟨A2, c2, xs, rfl, ho, hl, hk⟩

theorem countRead_cases (xs : List Int) (n : Int) : countRead xs n = ([], false) ∨ countRead xs n = (xs, false) ∨
    ∃ (m : Nat) (x : Int), n = m ∧ readsValid xs = true ∧ xs[m]? = some x ∧ x ≠ 1000 ∧ countRead xs n = (xs.set m (x + 1), true) := by
  by_cases h : (readsValid xs && inB n 0 (xs.length - 1)) = true
  · have h' := h
    simp only [Bool.and_eq_true] at h'
    obtain ⟨hv, hb⟩ := h'
    have hb : 0 ≤ n ∧ n ≤ (xs.length : Int) - 1 := by simpa [inB] using hb
    obtain ⟨m, rfl⟩ := Int.eq_ofNat_of_zero_le hb.1
    have hl : m < xs.length := by omega
    have hx : xs[m]? = some xs[m] := List.getElem?_eq_getElem hl
    by_cases e : xs[m] = 1000
    · exact .inr (.inl (countRead_full hv (by rw [hx, e])))
    · exact .inr (.inr ⟨m, _, rfl, hv, hx, e, countRead_ok hv hx e⟩)
  · exact .inl (countRead_bad (by simpa using h))

theorem sameInts_n (A B : Option Addr) (xs : List Int) (n m c d lo hi lo' hi' : Nat) (w : World) (h : Ints w lo hi A xs) (h' : Ints w lo' hi' B xs) (hs : xs.length ≤ 4000000) (hn : n = xs.length) (hm : m = xs.length) : Calls Try.prog 22 #[.slice A n c, .slice B m d] w
    fun e w' => e = .returned (.bool true) ∧ Kp No w w' := by
  subst hn hm
  exact sameInts_same A B xs c d lo hi lo' hi' w h h' hs
/-- Lists of other lengths. -/
theorem sameInts_len (A B : Option Addr) (n m c d : Nat) (w : World) (h : n ≠ m) : Calls Try.prog 22 #[.slice A n c, .slice B m d] w fun e w' => e = .returned (.bool false) ∧ w = w' := by
  have hne : ((n : Int) != (m : Int)) = true := by simp; omega
  go_enter Try.func22, Try.ntmps22
  go_wp2_with fail
  go_ret
  exact ⟨rfl, rfl⟩

def hasI (xs : List Int) (v : Int) : Bool := xs.contains v
theorem hasInt_any (A : Option Addr) (xs : List Int) (c lo hi : Nat) (v : Int) (w : World) (h : Ints w lo hi A xs) (hs : xs.length ≤ 4000000) : Calls Try.prog 27 #[.slice A xs.length c, .int .i64 v] w
    fun e w' => e = .returned (.bool (hasI xs v)) ∧ w' = w := by
  go_enter Try.func27, Try.ntmps27
  go_wp2
  go_loop [5] (fun i => ∃ k : Nat, k ≤ xs.length ∧ i = .int .i64 k ∧ Before xs v k) (fun i => xs.length - (intOf i).toNat)
  case atStart => exact ⟨0, Nat.zero_le _, rfl, fun j x hj => absurd hj (by omega)⟩
  case round =>
    obtain ⟨k, hk, rfl, hb⟩ := hrel
    by_cases hlt : k < xs.length
    · obtain ⟨b, off, x, rfl, hb1, hb2, hx, hc⟩ := h.at_ hlt
      have Hx := Lib.hid hx; clear hx
      by_cases he : x = v
      · subst he
        have H := Lib.hid (show hasI xs x = true by simpa [hasI] using List.mem_of_getElem? Hx.out)
        have hbe : (x == x) = true := by simp
        go_wp2
        go_ret
        exact ⟨ret_bool H.out.symm, rfl⟩
      · have hbe : (x == v) = false := beq_eq_false_iff_ne.2 he
        go_wp2
        go_round
        case rel => exact ⟨k + 1, by omega, by go_num, hb.succ Hx.out he⟩
        case measure => simp [intOf]; omega
    · obtain rfl : k = xs.length := by omega
      have H := Lib.hid (show hasI xs v = false by
        unfold hasI
        rcases idxI_cases xs v with ⟨_, h2⟩ | ⟨k, _, h2, _⟩
        · exact h2
        · exact absurd rfl (hb k v (List.getElem?_eq_some_iff.1 h2).1 h2))
      go_wp2
      go_ret
      exact ⟨ret_bool H.out.symm, rfl⟩

theorem has_order {xs : List Int} (h : readsValid xs = true) {k : Nat} {x : Int} (hx : xs[k]? = some x) : hasI (scrubOrder xs) (k : Int) = decide (100 ≤ x) := by
  have hl := (List.getElem?_eq_some_iff.1 hx).1
  unfold hasI
  rw [Bool.eq_iff_iff, List.contains_iff_mem, order_mem h, decide_eq_true_eq, List.getD_eq_getElem?_getD, hx]
  simp [hl]
theorem geRow_count {xs : List Int} {x : Int} {k : Nat} (h : xs[k]? = some x) : ((geRow xs (k + 1)).length : Int) = (geRow xs k).length + (if 100 ≤ x then 1 else 0) := by
  rw [geRow_succ h]
  split <;> simp

theorem scrub_cases (xs : List Int) (n : Int) : scrubBlock xs n = [] ∨ ∃ m : Nat, n = m ∧ m < xs.length ∧ readsValid xs = true ∧ scrubBlock xs n = xs.set m 0 := by
  by_cases h : (readsValid xs && inB n 0 (xs.length - 1)) = true
  · have h' := h
    simp only [Bool.and_eq_true] at h'
    obtain ⟨hv, hb⟩ := h'
    have hb : 0 ≤ n ∧ n ≤ (xs.length : Int) - 1 := by simpa [inB] using hb
    obtain ⟨m, rfl⟩ := Int.eq_ofNat_of_zero_le hb.1
    have hl : m < xs.length := by omega
    exact .inr ⟨m, rfl, hl, hv, scrubBlock_ok hv hl⟩
  · exact .inl (scrubBlock_bad (by simpa using h))
theorem has_after {xs : List Int} {m : Nat} {a : Int} (hv : readsValid xs = true) (hm : m < xs.length) (ha : a ∈ scrubOrder xs) : hasI (scrubOrder (xs.set m 0)) a = (a != (m : Int)) := by
  obtain ⟨i, rfl, hi, h100⟩ := order_idx hv ha
  have hv2 := reads_set hv (k := m) (v := 0) (by omega)
  have hi2 : i < (xs.set m 0).length := by simpa using hi
  rw [has_order hv2 (List.getElem?_eq_getElem hi2)]
  rw [List.getD_eq_getElem?_getD, List.getElem?_eq_getElem hi] at h100
  simp only [Option.getD_some] at h100
  by_cases e : i = m
  · subst e; simp
  · rw [List.getElem_set_ne (by omega)]
    have : ((i : Int) != (m : Int)) = true := by simp; omega
    rw [this]; simpa using h100
theorem has_after_m {xs : List Int} {m : Nat} (hv : readsValid xs = true) (hm : m < xs.length) : hasI (scrubOrder (xs.set m 0)) (m : Int) = false := by
  have hv2 := reads_set hv (k := m) (v := 0) (by omega)
  rw [has_order hv2 (List.getElem?_set_self hm)]
  rfl

end Go.Proofs.Ytelbcicdophagaa
