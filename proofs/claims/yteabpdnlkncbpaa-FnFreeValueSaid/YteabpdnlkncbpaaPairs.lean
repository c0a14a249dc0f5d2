/- Slices of structs of two ints: the words, and the contracts of the laws' helpers (toKeptS, eqKeptS, markKeptS, heldKeptS, samesameKept, szKeptS). -/
import Derived.Test.YteabpdnlkncbpaaInts
import Derived.Test.YteabpdnlkncbpaaApp
import Derived.WalkKit
import Derived.WalkSpells
import Derived.WalkLawsBesides
import Derived.Outline
import Derived.Deep.QuietTactic
import Derived.BigQuiet
import Derived.StillTailTactics
namespace Go.Proofs.Yteabpdnlkncbpaa
open Go.RowKit
set_option linter.unusedVariables false

def flatP (ps : List (Int × Int)) : List Value := ps.flatMap fun p => [Value.int .i64 p.1, Value.int .i64 p.2]
theorem flatP_len (ps : List (Int × Int)) : (flatP ps).length = ps.length * 2 := by
  induction ps with
  | nil => rfl
  | cons p ps ih =>
    show (Value.int .i64 p.1 :: Value.int .i64 p.2 :: flatP ps).length = _
    rw [List.length_cons, List.length_cons, ih, List.length_cons]; omega
theorem flatP_app (ps qs : List (Int × Int)) : flatP (ps ++ qs) = flatP ps ++ flatP qs := by simp [flatP]
theorem flatP_get : ∀ (ps : List (Int × Int)) (k : Nat) (x y : Int), ps[k]? = some (x, y) → (flatP ps)[k * 2]? = some (.int .i64 x) ∧ (flatP ps)[k * 2 + 1]? = some (.int .i64 y)
  | [], k, x, y, h => by simp at h
  | p :: ps, 0, x, y, h => by simp at h; subst h; simp [flatP]
  | p :: ps, k + 1, x, y, h => by
    have := flatP_get ps k x y (by simpa using h)
    have e1 : (k + 1) * 2 = k * 2 + 1 + 1 := by omega
    rw [e1]
    simpa [flatP] using this
theorem flatP_set : ∀ (ps : List (Int × Int)) (k : Nat) (x y : Int), k < ps.length → flatP (ps.set k (x, y)) = ((flatP ps).set (k * 2) (.int .i64 x)).set (k * 2 + 1) (.int .i64 y)
  | [], k, x, y, h => by simp at h
  | p :: ps, 0, x, y, h => by simp [flatP]
  | p :: ps, k + 1, x, y, h => by
    have := flatP_set ps k x y (by simpa using h)
    have e1 : (k + 1) * 2 = k * 2 + 1 + 1 := by omega
    rw [e1]
    simpa [flatP] using this
theorem flatP_one (ps : List (Int × Int)) : ∀ u ∈ flatP ps, u.oneCell' = true := by
  intro u hu
  simp only [flatP, List.mem_flatMap, List.mem_cons, List.not_mem_nil, or_false] at hu
  obtain ⟨p, _, rfl | rfl⟩ := hu <;> rfl

def Prs (w : World) (lo hi : Nat) (A : Option Addr) (ps : List (Int × Int)) : Prop := Row w lo hi 2 A ps.length (flatP ps)
def OwnP (w : World) (lo hi : Nat) (A : Option Addr) (c : Nat) (ps : List (Int × Int)) : Prop := Own w lo hi 33 2 A ps.length c (flatP ps)
section
variable {S : Nat → Prop} {w w' : World} {lo hi lo' hi' c : Nat} {A : Option Addr} {ps : List (Int × Int)}
theorem Prs.at_ (h : Prs w lo hi A ps) {k : Nat} (hk : k < ps.length) : ∃ b off x y, A = some ⟨b, off, none⟩ ∧ lo ≤ b ∧ b < hi ∧ ps[k]? = some (x, y) ∧ w.cell? ⟨b, off + k * 2, none⟩ = some (.int .i64 x) ∧ w.cell? ⟨b, off + k * 2 + 1, none⟩ = some (.int .i64 y) := by
  obtain ⟨b, off, e, h1, h2, h3⟩ := h.2.2 (by omega)
  have hg : ps[k]? = some (ps[k].1, ps[k].2) := List.getElem?_eq_getElem hk
  obtain ⟨g1, g2⟩ := flatP_get ps k _ _ hg
  refine ⟨b, off, _, _, e, h1, h2, hg, h3 _ _ g1, ?_⟩
  have := h3 _ _ g2
  rwa [← Nat.add_assoc] at this
theorem Prs.keep (h : Prs w lo hi A ps) (k : Kp S w w') (hs : ∀ i, lo ≤ i → i < hi → ¬ S i) : Prs w' lo hi A ps := Row.keep h k hs
theorem Prs.keepNo (h : Prs w lo hi A ps) (k : Kp No w w') : Prs w' lo hi A ps := Row.keepNo h k
theorem Prs.wide (h : Prs w lo hi A ps) (h1 : lo' ≤ lo) (h2 : hi ≤ hi') (h3 : hi' ≤ w.heap.size) : Prs w lo' hi' A ps := Row.wide h h1 h2 h3
theorem OwnP.prs (h : OwnP w lo hi A c ps) : Prs w lo hi A ps := Own.row h
theorem OwnP.keep (h : OwnP w lo hi A c ps) (k : Kp S w w') (hs : ∀ i, lo ≤ i → i < hi → ¬ S i) : OwnP w' lo hi A c ps := Own.keep h k hs
theorem OwnP.keepNo (h : OwnP w lo hi A c ps) (k : Kp No w w') : OwnP w' lo hi A c ps := Own.keepNo h k
theorem OwnP.wide (h : OwnP w lo hi A c ps) (h1 : lo' ≤ lo) (h2 : hi ≤ hi') (h3 : hi' ≤ w.heap.size) : OwnP w lo' hi' A c ps := Own.wide h h1 h2 h3
theorem OwnP.cap (h : OwnP w lo hi A c ps) : ps.length ≤ c := Own.cap h
theorem OwnP.at_ (h : OwnP w lo hi A c ps) {k : Nat} (hk : k < ps.length) : ∃ g x y, A = some ⟨g, 0, none⟩ ∧ lo ≤ g ∧ g < hi ∧ ps[k]? = some (x, y) ∧
    w.cell? ⟨g, k * 2, none⟩ = some (.int .i64 x) ∧ w.cell? ⟨g, k * 2 + 1, none⟩ = some (.int .i64 y) ∧ w.frozen? ⟨g, k * 2, none⟩ = false ∧ w.frozen? ⟨g, k * 2 + 1, none⟩ = false := by
  obtain ⟨g, rfl, h1, h2⟩ := Own.form h (by omega)
  have hg : ps[k]? = some (ps[k].1, ps[k].2) := List.getElem?_eq_getElem hk
  obtain ⟨g1, g2⟩ := flatP_get ps k _ _ hg
  refine ⟨g, _, _, rfl, h1, h2, hg, ?_, ?_, h.1.frozenAt _, h.1.frozenAt _⟩
  · rw [h.1.cellAt _ (by omega)]; exact g1
  · rw [h.1.cellAt _ (by omega)]; exact g2
theorem OwnP.set_ {g : Nat} (h : OwnP w lo hi (some ⟨g, 0, none⟩) c ps) (j : Nat) (x y : Int) (hj : j < ps.length) :
    OwnP ((w.setCell ⟨g, j * 2, none⟩ (.int .i64 x)).setCell ⟨g, j * 2 + 1, none⟩ (.int .i64 y)) lo hi (some ⟨g, 0, none⟩) c (ps.set j (x, y)) := by
  have := Own.set_ (Own.set_ h (j * 2) (.int .i64 x)) (j * 2 + 1) (.int .i64 y)
  unfold OwnP
  rw [flatP_set ps j x y hj, List.length_set]
  exact this
/-- A store into the second field alone. -/
theorem OwnP.set2 {g : Nat} {x y' : Int} (h : OwnP w lo hi (some ⟨g, 0, none⟩) c ps) (j : Nat) (y : Int) (hj : ps[j]? = some (x, y')) :
    OwnP (w.setCell ⟨g, j * 2 + 1, none⟩ (.int .i64 y)) lo hi (some ⟨g, 0, none⟩) c (ps.set j (x, y)) := by
  have hlt := (List.getElem?_eq_some_iff.1 hj).1
  have := Own.set_ h (j * 2 + 1) (.int .i64 y)
  unfold OwnP
  rw [flatP_set ps j x y hlt, List.length_set]
  have e : (flatP ps).set (j * 2) (.int .i64 x) = flatP ps := by
    obtain ⟨g1, _⟩ := flatP_get ps j x y' hj
    obtain ⟨hl, he⟩ := List.getElem?_eq_some_iff.1 g1
    rw [← he]; exact List.set_getElem_self hl
  rw [e]
  exact this
end

/-- What a call leaves that hands back a new slice of pairs. -/
def NewP (w : World) (ps : List (Int × Int)) (e : Ending) (w' : World) : Prop := ∃ A c, e = .returned (.slice A ps.length c) ∧ OwnP w' w.heap.size w'.heap.size A c ps ∧ Kp No w w'

theorem pair_info : (Try.prog.info? 33).map (fun i => (i.zero, i.size, i.bytes)) = some (some (.agg #[.int .i64 0, .int .i64 0]), 2, 16) := by kernel_rfl

theorem toKept_any (x y : Int) (w : World) : Calls Try.prog 31 #[.agg #[.int .i64 x, .int .i64 y]] w
    fun e w' => e = .returned (.agg #[.int .i64 x, .int .i64 y]) ∧ Kp No w w' := by
  go_enter Try.func31, Try.ntmps31
  go_wp2
  exact bodyPost_ret (v := .agg #[.int .i64 x, .int .i64 y]) (by simp [results, Try.results31, go_sem]) rfl ⟨rfl, by repeat (first | exact Kp.refl _ _ | apply Kp.alloc | apply Kp.drew)⟩

theorem eqKept_same (x y : Int) (w : World) : Calls Try.prog 32 #[.agg #[.int .i64 x, .int .i64 y], .agg #[.int .i64 x, .int .i64 y]] w
    fun e w' => e = .returned (.bool true) ∧ Kp No w w' := by
  have hx : (x != x) = false := by simp
  have hy : (y != y) = false := by simp
  go_enter Try.func32, Try.ntmps32
  go_wp2
  go_ret
  exact ⟨rfl, by repeat (first | exact Kp.refl _ _ | apply Kp.alloc | apply Kp.drew)⟩

theorem eqKeptS_same (A B : Option Addr) (ps : List (Int × Int)) (c d lo hi lo' hi' : Nat) (w : World) (h : Prs w lo hi A ps) (h' : Prs w lo' hi' B ps) (hs : ps.length ≤ 4000000) :
    Calls Try.prog 15 #[.slice A ps.length c, .slice B ps.length d] w fun e w' => e = .returned (.bool true) ∧ Kp No w w' := by
  go_enter Try.func15, Try.ntmps15
  have hne : ((ps.length : Int) != (ps.length : Int)) = false := by simp
  go_wp2_with fail
  go_loopw [5] (fun i wr => ∃ k : Nat, k ≤ ps.length ∧ i = .int .i64 k ∧ Kp No w wr) (fun i _ => ps.length - (intOf i).toNat)
  case atStart => exact ⟨0, Nat.zero_le _, rfl, Kp.refl _ _⟩
  case round =>
    obtain ⟨k, hk, rfl, hkp⟩ := hrel
    by_cases hlt : k < ps.length
    · obtain ⟨b, off, x, y, rfl, hb1, hb2, hx, hc, hc2⟩ := (h.keepNo hkp).at_ hlt
      obtain ⟨b', off', x', y', rfl, hb1', hb2', hx', hc', hc2'⟩ := (h'.keepNo hkp).at_ hlt
      obtain ⟨rfl, rfl⟩ : x = x' ∧ y = y' := by rw [hx] at hx'; simpa using hx'
      clear hx hx'
      go_wp2_with fail
      go_still_tail 8, (by kernel_rfl)
      change wpList _ _ _ _ _ wr.drew
      generalize hwd : wr.drew = wd
      have kd : Kp No w wd := by rw [← hwd]; exact hkp.drew
      clear hwd
      go_wp2_with fail
      refine (eqKept_same _ _ _).mono ?_
      rintro e w2 ⟨rfl, k2⟩
      go_wp2_with fail
      go_roundw
      case rel => exact ⟨k + 1, by omega, by go_num, kd.trans k2⟩
      case measure => simp [intOf]; omega
    · go_wp2_with fail
      go_ret
      exact ⟨rfl, hkp⟩

theorem sameKept_same (A B : Option Addr) (ps : List (Int × Int)) (c d lo hi lo' hi' : Nat) (w : World) (h : Prs w lo hi A ps) (h' : Prs w lo' hi' B ps) (hs : ps.length ≤ 4000000) :
    Calls Try.prog 26 #[.slice A ps.length c, .slice B ps.length d] w fun e w' => e = .returned (.bool true) ∧ Kp No w w' := by
  go_enter Try.func26, Try.ntmps26
  have hne : ((ps.length : Int) != (ps.length : Int)) = false := by simp
  go_wp2_with fail
  go_loopw [5] (fun i wr => ∃ k : Nat, k ≤ ps.length ∧ i = .int .i64 k ∧ Kp No w wr) (fun i _ => ps.length - (intOf i).toNat)
  case atStart => exact ⟨0, Nat.zero_le _, rfl, Kp.refl _ _⟩
  case round =>
    obtain ⟨k, hk, rfl, hkp⟩ := hrel
    by_cases hlt : k < ps.length
    · obtain ⟨b, off, x, y, rfl, hb1, hb2, hx, hc, hc2⟩ := (h.keepNo hkp).at_ hlt
      obtain ⟨b', off', x', y', rfl, hb1', hb2', hx', hc', hc2'⟩ := (h'.keepNo hkp).at_ hlt
      obtain ⟨rfl, rfl⟩ : x = x' ∧ y = y' := by rw [hx] at hx'; simpa using hx'
      clear hx hx'
      have hnx : (x != x) = false := by simp
      have hny : (y != y) = false := by simp
      go_wp2_with fail
      go_quiet (fail)
      go_wp2_with fail
      go_roundw
      case rel => exact ⟨k + 1, by omega, by go_num, hkp.drewN _⟩
      case measure => simp [intOf]; omega
    · go_wp2_with fail
      go_ret
      exact ⟨rfl, hkp⟩

theorem szKeptS_big (A : Option Addr) (n c : Nat) (l : Int) (w : World) (hl : 0 ≤ l) (hn : n ≤ 9223372036854775807) (h : l < n) : Calls Try.prog 11 #[.slice A n c, .int .i64 l] w
    fun e w' => e = .returned (.int .i64 (-1)) ∧ w = w' := by
  go_enter Try.func11, Try.ntmps11
  go_wp2_with fail
  go_ret
  exact ⟨rfl, rfl⟩
theorem szKeptS_ok (A : Option Addr) (n c : Nat) (l : Int) (w : World) (hl' : l ≤ 4000000) (h : n ≤ l) : Calls Try.prog 11 #[.slice A n c, .int .i64 l] w
    fun e w' => e = .returned (.int .i64 (l - n)) ∧ w = w' := by
  go_enter Try.func11, Try.ntmps11
  go_wp2_with fail
  go_ret
  exact ⟨rfl, rfl⟩

def marks2 (n : Nat) (k : Int) : List (Int × Int) := (List.range n).map fun i : Nat => (k + 2 * (i : Int), k + 2 * (i : Int) + 1)
theorem marks2_get (n : Nat) (k : Int) (i : Nat) (h : i < n) : (marks2 n k)[i]? = some (k + 2 * (i : Int), k + 2 * (i : Int) + 1) := by simp [marks2, h]
theorem marks2_len (n : Nat) (k : Int) : (marks2 n k).length = n := by simp [marks2]

theorem markKeptS_any (A : Option Addr) (ps : List (Int × Int)) (c lo hi : Nat) (m : Int) (w : World) (h : OwnP w lo hi A c ps) (hs : ps.length ≤ 4000000) (hm0 : 0 ≤ m) (hm1 : m ≤ 4000000) : Calls Try.prog 23 #[.slice A ps.length c, .int .i64 m] w
    fun e w' => e = .returned (.int .i64 (m + 2 * ps.length)) ∧ OwnP w' lo hi A c (marks2 ps.length m) ∧ Kp (Rg lo hi) w w' := by
  go_enter Try.func23, Try.ntmps23
  go_wp2_with fail
  go_loopw [1, 5] (fun q i wr => ∃ k : Nat, k ≤ ps.length ∧ i = .int .i64 k ∧ q = .int .i64 (m + 2 * k) ∧ OwnP wr lo hi A c (marks2 k m ++ ps.drop k) ∧ Kp (Rg lo hi) w wr) (fun _ i _ => ps.length - (intOf i).toNat)
  case atStart => exact ⟨0, Nat.zero_le _, rfl, by simp, by simpa [marks2] using h, Kp.refl _ _⟩
  case round =>
    obtain ⟨k, hk, rfl, rfl, hown, hkp⟩ := hrel
    by_cases hlt : k < ps.length
    · obtain ⟨g, x, y, rfl, hg1, hg2, hx, hc, hc2, hf, hf2⟩ := hown.at_ (k := k) (by simp [marks2_len]; omega)
      clear hx
      go_wp2
      go_roundw
      case rel =>
        refine ⟨k + 1, by omega, by go_num, by go_num, ?_, (hkp.setCell (fun hh => ⟨hg1, hg2⟩) _).setCell (fun hh => ⟨hg1, hg2⟩) _⟩
        have e : marks2 (k + 1) m ++ ps.drop (k + 1) = (marks2 k m ++ ps.drop k).set k (m + 2 * k, m + 2 * k + 1) := by
          rw [List.set_append_right _ _ (by simp [marks2_len])]
          simp only [marks2_len, Nat.sub_self]
          rw [List.drop_eq_getElem_cons hlt, List.set_cons_zero]
          simp [marks2, List.range_succ]
        rw [e]
        exact hown.set_ k _ _ (by simp [marks2_len]; omega)
      case measure => simp [intOf]; omega
    · go_wp2
      go_ret
      obtain rfl : k = ps.length := by omega
      exact ⟨rfl, by simpa using hown, hkp⟩

theorem heldKeptS_any (A : Option Addr) (n c lo hi : Nat) (m : Int) (w : World) (h : Prs w lo hi A (marks2 n m)) (hs : n ≤ 4000000) (hm0 : 0 ≤ m) (hm1 : m ≤ 4000000) : Calls Try.prog 24 #[.slice A n c, .int .i64 m] w
    fun e w' => e = .returned (.int .i64 (m + 2 * n)) ∧ w = w' := by
  go_enter Try.func24, Try.ntmps24
  go_wp2_with fail
  go_loop [1, 5] (fun q i => ∃ k : Nat, k ≤ n ∧ i = .int .i64 k ∧ q = .int .i64 (m + 2 * k)) (fun _ i => n - (intOf i).toNat)
  case atStart => exact ⟨0, Nat.zero_le _, rfl, by simp⟩
  case round =>
    obtain ⟨k, hk, rfl, rfl⟩ := hrel
    by_cases hlt : k < n
    · obtain ⟨b, off, x, y, rfl, hb1, hb2, hx, hc, hc2⟩ := h.at_ (k := k) (by rw [marks2_len]; exact hlt)
      obtain ⟨rfl, rfl⟩ : x = m + 2 * k ∧ y = m + 2 * k + 1 := by rw [marks2_get n m k hlt] at hx; simp at hx; exact ⟨hx.1.symm, hx.2.symm⟩
      clear hx
      have hne : (m + 2 * (k : Int) != m + 2 * (k : Int)) = false := by simp
      have hne2 : (m + 2 * (k : Int) + 1 != m + 2 * (k : Int) + 1) = false := by simp
      go_wp2
      go_round
      case rel => exact ⟨k + 1, by omega, by go_num, by go_num⟩
      case measure => simp [intOf]; omega
    · go_wp2
      go_ret
      obtain rfl : k = n := by omega
      exact ⟨rfl, rfl⟩

theorem flat_zeros (n : Nat) : flatP (List.replicate n (0, 0)) = List.replicate (n * 2) (Value.int .i64 0) := by
  induction n with
  | zero => rfl
  | succ n ih =>
    have e : (n + 1) * 2 = n * 2 + 1 + 1 := by omega
    rw [List.replicate_succ, e, List.replicate_succ, List.replicate_succ, ← ih]; rfl
theorem map_const_range (m : Nat) (v : Value) : (List.range m).map (fun _ => v) = List.replicate m v := by
  induction m with
  | zero => rfl
  | succ m ih => rw [List.range_succ, List.map_append, ih, List.replicate_succ']; rfl
theorem made2 (n : Nat) : (madeCells #[Value.int .i64 0, Value.int .i64 0] (n * 2)).toList = flatP (List.replicate n (0, 0)) := by
  rw [flat_zeros]
  have e : ∀ i : Nat, (#[Value.int .i64 0, Value.int .i64 0] : Array Value)[i % (#[Value.int .i64 0, Value.int .i64 0] : Array Value).size]! = Value.int .i64 0 := by
    intro i
    have : i % 2 = 0 ∨ i % 2 = 1 := by omega
    show (#[Value.int .i64 0, Value.int .i64 0] : Array Value)[i % 2]! = _
    rcases this with h | h <;> rw [h] <;> rfl
  simp only [madeCells, e]
  rw [Array.toList_map, Array.toList_range]
  exact map_const_range _ _

theorem toP_step (ps : List (Int × Int)) (k : Nat) (x y : Int) (h : ps[k]? = some (x, y)) :
    (ps.take k ++ List.replicate (ps.length - k) ((0 : Int), (0 : Int))).set k (x, y) = ps.take (k + 1) ++ List.replicate (ps.length - (k + 1)) ((0 : Int), (0 : Int)) := by
  obtain ⟨hk, hx⟩ := List.getElem?_eq_some_iff.1 h
  have e1 : ps.length - k = (ps.length - (k + 1)) + 1 := by omega
  rw [e1, List.replicate_succ, List.set_append_right _ _ (by simp; omega)]
  have e2 : k - (List.take k ps).length = 0 := by simp; omega
  rw [e2, List.take_succ_eq_append_getElem hk, hx]
  simp

theorem toKeptS_any (A : Option Addr) (ps : List (Int × Int)) (c lo hi : Nat) (w : World) (h : Prs w lo hi A ps) (hs : ps.length ≤ 4000000) : Calls Try.prog 13 #[.slice A ps.length c] w (NewP w ps) := by
  obtain ⟨i0, hi0, hz0, hz1, hz2⟩ := info_parts pair_info
  go_enter Try.func13, Try.ntmps13
  go_wp2_with (at_make; refine wpList_make_full _ rfl _ _ 25 rfl w.heap.size 33 i0 (.agg #[.int .i64 0, .int .i64 0]) 2 Try.underlying25 hi0 hz0 hz1 .i64 .i64 _ _ ps.length rfl rfl rfl rfl ?c1 ?c2 (Nat.le_refl _) ?_)
  case c1 => rw [hz2]; omega
  case c2 => unfold maxLen; omega
  intro w1 hown hg
  have hown0 : OwnP w1 w.heap.size w1.heap.size (some ⟨w.heap.size, 0, none⟩) ps.length (ps.take 0 ++ List.replicate (ps.length - 0) ((0 : Int), (0 : Int))) := by
    rw [made2] at hown
    have := Own.of hown
    unfold OwnP
    simpa using this
  have hk0 : Kp No w w1 := (Kp.refl _ _).grown hg (by simp)
  clear hown hg
  go_wp2_with fail
  go_loopw [4] (fun i wr => ∃ k : Nat, k ≤ ps.length ∧ i = .int .i64 k ∧ OwnP wr w.heap.size w1.heap.size (some ⟨w.heap.size, 0, none⟩) ps.length (ps.take k ++ List.replicate (ps.length - k) ((0 : Int), (0 : Int))) ∧ Kp No w wr) (fun i _ => ps.length - (intOf i).toNat)
  case atStart => exact ⟨0, Nat.zero_le _, rfl, hown0, hk0⟩
  case round =>
    obtain ⟨k, hk, rfl, hown, hkp⟩ := hrel
    by_cases hlt : k < ps.length
    · obtain ⟨b, off, x, y, rfl, hb1, hb2, hx, hc, hc2⟩ := (h.keepNo hkp).at_ hlt
      have Hx := Lib.hid hx; clear hx
      go_wp2_with fail
      refine (toKept_any _ _ _).mono ?_
      rintro e w2 ⟨rfl, k2⟩
      have hown2 := hown.keepNo k2
      obtain ⟨g', x', y', hg', _, _, hx', hd, hd2, hf, hf2⟩ := hown2.at_ (k := k) (by simp; omega)
      obtain rfl : w.heap.size = g' := by injection hg' with hg'; injection hg'
      clear hx' hg'
      go_wp2_with fail
      go_roundw
      case rel =>
        refine ⟨k + 1, by omega, by go_num, ?_, ((hkp.trans k2).setCell (fun hh => absurd hh (by simp)) _).setCell (fun hh => absurd hh (by simp)) _⟩
        rw [← toP_step ps k x y Hx.out]
        exact hown2.set_ k x y (by simp; omega)
      case measure => simp [intOf]; omega
    · go_wp2_with fail
      go_ret
      obtain rfl : k = ps.length := by omega
      have hown' := hown
      simp only [List.take_length, Nat.sub_self, List.replicate_zero, List.append_nil] at hown'
      exact ⟨_, _, rfl, hown'.wide (Nat.le_refl _) (Nat.le_trans hown'.2.2 (Nat.le_refl _)) (Nat.le_refl _), hkp⟩
end Go.Proofs.Yteabpdnlkncbpaa
