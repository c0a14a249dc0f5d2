/- Plain facts on parities: stripes of numbers 0 .. 255, with lost ones (-1); no program is walked here. -/
import Derived.Test.YtcnaehllegoefaaStripe
import Derived.Test.YtcnaehllegoefaaDraw
namespace Go.Proofs.Ytcnaehllegoefaa
open Go.RowKit

def bx (a b : Int) : Int := bits .xor .i64 a b
theorem bx_nat (a b : Nat) (ha : a < 256) (hb : b < 256) : bx (a : Int) (b : Int) = ((a ^^^ b : Nat) : Int) := i64_xor_nat a b (by omega) (by omega)
def xorAll (xs : List Int) : Int := xs.foldl bx 0
def lostN (xs : List Int) : Nat := (xs.filter fun x => decide (x < 0)).length
def parityOf (xs : List Int) : Int := if stripeValid xs && !xs.contains (-1) then xorAll xs else -1
def fixOf (xs : List Int) (q : Int) : Int := xs.foldl (fun a x => bx a (max 0 x)) q
def fill (xs : List Int) (v : Int) : List Int := xs.map fun x => if x < 0 then v else x
def repair (xs : List Int) (q : Int) : List Int × Bool :=
  if stripeValid xs && inB q 0 255 && decide (lostN xs ≤ 1) then (if parityOf (fill xs (fixOf xs q)) = q then (fill xs (fixOf xs q), true) else ([], false)) else ([], false)

/-! ### Nat's exclusive or over a list -/
def nx (ys : List Nat) (a : Nat) : Nat := ys.foldl (· ^^^ ·) a
theorem nx_lt : ∀ (ys : List Nat) (a : Nat), (∀ y ∈ ys, y < 256) → a < 256 → nx ys a < 256
  | [], a, _, ha => ha
  | y :: ys, a, h, ha => nx_lt ys (a ^^^ y) (fun z hz => h z (by simp [hz])) (Nat.xor_lt_two_pow (n := 8) ha (h y (by simp)))
theorem nx_acc : ∀ (ys : List Nat) (a : Nat), nx ys a = a ^^^ nx ys 0
  | [], a => by simp [nx]
  | y :: ys, a => by
    show nx ys (a ^^^ y) = a ^^^ nx ys (0 ^^^ y)
    rw [nx_acc ys (a ^^^ y), nx_acc ys (0 ^^^ y), Nat.zero_xor, Nat.xor_assoc]
theorem fold_nat (f : Int → Int) : ∀ (xs : List Int) (ys : List Nat) (a : Nat), xs.map f = ys.map (fun n : Nat => (n : Int)) → (∀ y ∈ ys, y < 256) → a < 256 → xs.foldl (fun b x => bx b (f x)) (a : Int) = (nx ys a : Nat)
  | [], [], a, _, _, _ => rfl
  | [], y :: ys, a, h, _, _ => by simp at h
  | x :: xs, [], a, h, _, _ => by simp at h
  | x :: xs, y :: ys, a, h, hy, ha => by
    simp only [List.map_cons, List.cons.injEq] at h
    have hy0 := hy y (by simp)
    simp only [List.foldl_cons]
    rw [h.1, bx_nat a y ha hy0]
    exact fold_nat f xs ys (a ^^^ y) h.2 (fun z hz => hy z (by simp [hz])) (Nat.xor_lt_two_pow (n := 8) ha hy0)
theorem xorAll_nat (ys : List Nat) (h : ∀ y ∈ ys, y < 256) : xorAll (ys.map (fun n : Nat => (n : Int))) = (nx ys 0 : Nat) := by
  have := fold_nat id (ys.map (fun n : Nat => (n : Int))) ys 0 (by simp) h (by omega)
  simpa [xorAll] using this
theorem nx_set : ∀ (ys : List Nat) (k : Nat) (y v a : Nat), ys[k]? = some y → nx (ys.set k v) a = nx ys a ^^^ y ^^^ v
  | [], k, y, v, a, h => by simp at h
  | z :: ys, 0, y, v, a, h => by
    simp at h; subst h
    show nx ys (a ^^^ v) = nx ys (a ^^^ z) ^^^ z ^^^ v
    rw [nx_acc ys (a ^^^ v), nx_acc ys (a ^^^ z)]
    have : a ^^^ z ^^^ nx ys 0 ^^^ z ^^^ v = a ^^^ v ^^^ nx ys 0 ^^^ (z ^^^ z) := by ac_rfl
    rw [this]; simp
  | z :: ys, k + 1, y, v, a, h => by
    show nx (ys.set k v) (a ^^^ z) = _
    rw [nx_set ys k y v (a ^^^ z) (by simpa using h)]
    rfl

/-! ### Valid stripes as lists of Nat -/
theorem valid_mem {xs : List Int} (h : stripeValid xs = true) : ∀ x ∈ xs, -1 ≤ x ∧ x ≤ 255 := by
  simp only [stripeValid, Bool.and_eq_true, List.all_eq_true] at h
  intro x hx
  have := h.2 x hx
  simpa [stripeOk, inB] using this
theorem valid_len {xs : List Int} (h : stripeValid xs = true) : 1 ≤ xs.length ∧ xs.length ≤ 6 := by
  simp only [stripeValid, Bool.and_eq_true, decide_eq_true_eq] at h
  exact h.1
theorem valid_mk {xs : List Int} (h1 : 1 ≤ xs.length) (h2 : xs.length ≤ 6) (h : ∀ x ∈ xs, -1 ≤ x ∧ x ≤ 255) : stripeValid xs = true := by
  simp only [stripeValid, Bool.and_eq_true, decide_eq_true_eq, List.all_eq_true]
  exact ⟨⟨h1, h2⟩, fun x hx => by simpa [stripeOk, inB] using h x hx⟩
/-- A stripe without lost numbers, as Nats. -/
theorem as_nat {xs : List Int} (h : ∀ x ∈ xs, 0 ≤ x ∧ x ≤ 255) : ∃ ys : List Nat, xs = ys.map (fun n : Nat => (n : Int)) ∧ ∀ y ∈ ys, y < 256 := by
  refine ⟨xs.map Int.toNat, ?_, ?_⟩
  · rw [List.map_map]
    refine (List.map_id xs).symm.trans (List.map_congr_left fun x hx => ?_)
    have := h x hx
    simp; omega
  · intro y hy
    obtain ⟨x, hx, rfl⟩ := List.mem_map.1 hy
    have := h x hx
    omega
theorem nonneg_of {xs : List Int} (h : stripeValid xs = true) (hl : xs.contains (-1) = false) : ∀ x ∈ xs, 0 ≤ x ∧ x ≤ 255 := by
  intro x hx
  have h1 := valid_mem h x hx
  have h2 : x ≠ -1 := by rintro rfl; simp at hl; exact hl hx
  omega
theorem not_lost {xs : List Int} (h : ∀ x ∈ xs, 0 ≤ x ∧ x ≤ 255) : xs.contains (-1) = false := by
  simp only [List.contains_eq_mem, decide_eq_false_iff_not]
  intro hx
  have := h _ hx
  omega
theorem parityOf_full {ys : List Nat} (h : ∀ y ∈ ys, y < 256) (h1 : 1 ≤ ys.length) (h2 : ys.length ≤ 6) : parityOf (ys.map (fun n : Nat => (n : Int))) = (nx ys 0 : Nat) := by
  have hm : ∀ x ∈ ys.map (fun n : Nat => (n : Int)), 0 ≤ x ∧ x ≤ 255 := by
    intro x hx
    obtain ⟨y, hy, rfl⟩ := List.mem_map.1 hx
    have := h y hy
    omega
  have hv : stripeValid (ys.map (fun n : Nat => (n : Int))) = true := valid_mk (by simpa using h1) (by simpa using h2) fun x hx => by have := hm x hx; omega
  unfold parityOf
  rw [hv, not_lost hm]
  simp only [Bool.not_false, Bool.and_true, if_true]
  exact xorAll_nat ys h
/-- Either there is no parity, or the stripe is full and of Nats. -/
theorem parityOf_cases (xs : List Int) : parityOf xs = -1 ∨ ∃ ys : List Nat, xs = ys.map (fun n : Nat => (n : Int)) ∧ (∀ y ∈ ys, y < 256) ∧ 1 ≤ ys.length ∧ ys.length ≤ 6 ∧ parityOf xs = (nx ys 0 : Nat) := by
  by_cases h : (stripeValid xs && !xs.contains (-1)) = true
  · simp only [Bool.and_eq_true, Bool.not_eq_true'] at h
    obtain ⟨ys, rfl, hy⟩ := as_nat (nonneg_of h.1 h.2)
    have hl := valid_len h.1
    simp only [List.length_map] at hl
    exact .inr ⟨ys, rfl, hy, hl.1, hl.2, parityOf_full hy hl.1 hl.2⟩
  · left
    unfold parityOf
    rw [if_neg h]
theorem parity_more {xs : List Int} (h0 : 0 ≤ parityOf xs) (hl : xs.length ≠ 6) : parityOf xs ≤ 255 ∧ parityOf (xs ++ [parityOf xs]) = 0 := by
  rcases parityOf_cases xs with h | ⟨ys, rfl, hy, h1, h2, hp⟩
  · omega
  · have hlt := nx_lt ys 0 hy (by omega)
    refine ⟨by rw [hp]; omega, ?_⟩
    rw [hp]
    have e : ys.map (fun n : Nat => (n : Int)) ++ [((nx ys 0 : Nat) : Int)] = (ys ++ [nx ys 0]).map (fun n : Nat => (n : Int)) := by simp
    have hy' : ∀ y ∈ ys ++ [nx ys 0], y < 256 := by
      intro y hm
      rcases List.mem_append.1 hm with hm | hm
      · exact hy y hm
      · simp at hm; omega
    rw [e, parityOf_full hy' (by simp) (by simp at hl ⊢; omega)]
    have : nx (ys ++ [nx ys 0]) 0 = 0 := by
      show (ys ++ [nx ys 0]).foldl (· ^^^ ·) 0 = 0
      rw [List.foldl_append]
      show nx ys 0 ^^^ nx ys 0 = 0
      simp
    rw [this]; rfl
theorem parity_ge (xs : List Int) : -1 ≤ parityOf xs := by
  rcases parityOf_cases xs with h | ⟨ys, _, _, _, _, hp⟩ <;> omega

/-! ### Repairing -/
theorem lost_iff {xs : List Int} (h : stripeValid xs = true) : xs.contains (-1) = decide (0 < lostN xs) := by
  rw [Bool.eq_iff_iff]
  simp only [List.contains_eq_mem, decide_eq_true_eq, lostN, List.length_pos_iff_exists_mem, List.mem_filter]
  constructor
  · intro hm; exact ⟨-1, hm, by decide⟩
  · rintro ⟨x, hx, hn⟩
    have := valid_mem h x hx
    have : x = -1 := by omega
    exact this ▸ hx
theorem lost_set : ∀ (xs : List Int) (p : Nat), xs[p]? = some (-1) → lostN (xs.set p 0) + 1 = lostN xs
  | [], p, h => by simp at h
  | x :: xs, 0, h => by simp at h; subst h; simp [lostN]
  | x :: xs, p + 1, h => by
    have := lost_set xs p (by simpa using h)
    simp only [lostN, List.set_cons_succ, List.filter_cons] at this ⊢
    split
    · simp only [List.length_cons]; omega
    · exact this
theorem lost_zero {xs : List Int} (h : lostN xs = 0) : ∀ x ∈ xs, 0 ≤ x := by
  intro x hx
  simp only [lostN, List.length_eq_zero_iff, List.filter_eq_nil_iff, decide_eq_true_eq] at h
  have := h x hx
  omega
theorem fill_none {xs : List Int} (h : ∀ x ∈ xs, 0 ≤ x) (v : Int) : fill xs v = xs := by
  refine (List.map_congr_left fun x hx => ?_).trans (List.map_id xs)
  have := h x hx
  rw [if_neg (by omega)]; rfl
theorem fill_set : ∀ (xs : List Int) (p : Nat) (v : Int), xs[p]? = some (-1) → (∀ x ∈ xs.set p 0, 0 ≤ x) → fill xs v = xs.set p v
  | [], p, v, h, _ => by simp at h
  | x :: xs, 0, v, h, h0 => by
    simp at h; subst h
    have : fill xs v = xs := fill_none (fun y hy => h0 y (by simp [hy])) v
    simp only [fill, List.map_cons, List.set_cons_zero] at this ⊢
    rw [this]; rfl
  | x :: xs, p + 1, v, h, h0 => by
    have hx := h0 x (by simp)
    have := fill_set xs p v (by simpa using h) (fun y hy => h0 y (by simp [hy]))
    simp only [fill, List.map_cons, List.set_cons_succ] at this ⊢
    rw [this, if_neg (by omega)]
theorem max_set : ∀ (xs : List Int) (p : Nat), xs[p]? = some (-1) → (∀ x ∈ xs.set p 0, 0 ≤ x) → xs.map (max 0) = xs.set p 0
  | [], p, h, _ => by simp at h
  | x :: xs, 0, h, h0 => by
    simp at h; subst h
    simp only [List.map_cons, List.set_cons_zero, List.cons.injEq]
    refine ⟨rfl, (List.map_congr_left fun y hy => ?_).trans (List.map_id xs)⟩
    have := h0 y (by simp [hy])
    simp; omega
  | x :: xs, p + 1, h, h0 => by
    have hx := h0 x (by simp)
    have := max_set xs p (by simpa using h) (fun y hy => h0 y (by simp [hy]))
    simp only [List.map_cons, List.set_cons_succ, this, List.cons.injEq, and_true]
    omega

/-- One number is lost, at p: what the program computes is what the reference computes. -/
theorem repair_one {xs : List Int} {p : Nat} {q : Int} (hv : stripeValid xs = true) (hp : xs[p]? = some (-1)) (hc : (xs.set p 0).contains (-1) = false) (hq : 0 ≤ q ∧ q ≤ 255) :
    lostN xs = 1 ∧ fill xs (fixOf xs q) = xs.set p (bx (parityOf (xs.set p 0)) q) ∧ parityOf (xs.set p (bx (parityOf (xs.set p 0)) q)) = q := by
  have hlen := valid_len hv
  have hv0 : stripeValid (xs.set p 0) = true := valid_mk (by simpa using hlen.1) (by simpa using hlen.2) fun x hx => by
    rcases List.mem_or_eq_of_mem_set hx with hx | rfl
    · exact valid_mem hv x hx
    · omega
  have h0 := nonneg_of hv0 hc
  have hl : lostN (xs.set p 0) = 0 := by
    have := lost_iff hv0
    rw [hc] at this
    simp at this; omega
  obtain ⟨ys, hys, hy⟩ := as_nat h0
  obtain ⟨n, rfl⟩ := Int.eq_ofNat_of_zero_le hq.1
  have hn : n < 256 := by omega
  have hyl : ys.length = xs.length := by
    have := congrArg List.length hys
    simpa using this.symm
  have hpl : p < xs.length := (List.getElem?_eq_some_iff.1 hp).1
  have hpar : parityOf (xs.set p 0) = (nx ys 0 : Nat) := by rw [hys]; exact parityOf_full hy (by omega) (by omega)
  have hlt := nx_lt ys 0 hy (by omega)
  have hfix : fixOf xs (n : Int) = ((nx ys 0 ^^^ n : Nat) : Int) := by
    have := fold_nat (max 0) xs ys n (by rw [max_set xs p hp fun x hx => (h0 x hx).1, hys]) hy hn
    rw [nx_acc, Nat.xor_comm] at this
    exact this
  have hbx : bx (parityOf (xs.set p 0)) (n : Int) = ((nx ys 0 ^^^ n : Nat) : Int) := by rw [hpar, bx_nat _ _ hlt hn]
  refine ⟨by have := lost_set xs p hp; omega, ?_, ?_⟩
  · rw [hbx, hfix]
    exact fill_set xs p _ hp fun x hx => (h0 x hx).1
  · rw [hbx]
    have e : xs.set p ((nx ys 0 ^^^ n : Nat) : Int) = (ys.set p (nx ys 0 ^^^ n)).map (fun n : Nat => (n : Int)) := by
      rw [List.map_set, ← hys, List.set_set]
    have hlt' : nx ys 0 ^^^ n < 256 := Nat.xor_lt_two_pow (n := 8) hlt hn
    have hy' : ∀ y ∈ ys.set p (nx ys 0 ^^^ n), y < 256 := by
      intro y hm
      rcases List.mem_or_eq_of_mem_set hm with hm | rfl
      · exact hy y hm
      · exact hlt'
    rw [e, parityOf_full hy' (by simp; omega) (by simp; omega)]
    have hyp : ys[p]? = some 0 := by
      have h1 : (xs.set p 0)[p]? = some 0 := by simp [hpl]
      rw [hys, List.getElem?_map] at h1
      cases hh : ys[p]? with
      | none => rw [hh] at h1; simp at h1
      | some y => rw [hh] at h1; simp at h1; rw [h1]
    rw [nx_set ys p 0 _ 0 hyp]
    have : nx ys 0 ^^^ 0 ^^^ (nx ys 0 ^^^ n) = (nx ys 0 ^^^ nx ys 0) ^^^ n := by rw [Nat.xor_zero, Nat.xor_assoc]
    rw [this]; simp
theorem repair_two {xs : List Int} {p : Nat} (hv : stripeValid xs = true) (hp : xs[p]? = some (-1)) (hc : (xs.set p 0).contains (-1) = true) : ¬ lostN xs ≤ 1 := by
  have hlen := valid_len hv
  have hv0 : stripeValid (xs.set p 0) = true := valid_mk (by simpa using hlen.1) (by simpa using hlen.2) fun x hx => by
    rcases List.mem_or_eq_of_mem_set hx with hx | rfl
    · exact valid_mem hv x hx
    · omega
  have h1 := lost_iff hv0
  rw [hc] at h1
  simp at h1
  have := lost_set xs p hp
  omega
theorem repair_none {xs : List Int} {q : Int} (hv : stripeValid xs = true) (hc : xs.contains (-1) = false) : lostN xs = 0 ∧ fill xs (fixOf xs q) = xs := by
  have h1 := lost_iff hv
  rw [hc] at h1
  simp at h1
  have hl : lostN xs = 0 := by omega
  exact ⟨hl, fill_none (lost_zero hl) _⟩

/-- What comes out of a repair is full, has the parity, keeps what was not lost, and each of its numbers could be lost. -/
theorem repair_good {xs x : List Int} {q : Int} (h : repair xs q = (x, true)) :
    x.length = xs.length ∧ parityOf x = q ∧ 0 ≤ q ∧ q ≤ 255 ∧ (∀ (k : Nat) (y : Int), xs[k]? = some y → 0 ≤ y → x[k]? = some y) ∧ ∀ k, k < x.length → repair (x.set k (-1)) q = (x, true) := by
  unfold repair at h
  split at h
  · rename_i hc
    simp only [Bool.and_eq_true, decide_eq_true_eq] at hc
    obtain ⟨⟨hv, hq⟩, hl⟩ := hc
    have hq : 0 ≤ q ∧ q ≤ 255 := by simpa [inB] using hq
    split at h
    · rename_i hpar
      simp only [Prod.mk.injEq, and_true] at h
      subst h
      refine ⟨by simp [fill], hpar, hq.1, hq.2, ?_, ?_⟩
      · intro k y hk hy
        simp only [fill, List.getElem?_map, hk, Option.map_some]
        rw [if_neg (by omega)]
      · generalize hx : fill xs (fixOf xs q) = x at hpar
        intro k hk
        rcases parityOf_cases x with h0 | ⟨ys, rfl, hy, h1, h2, hp⟩
        · omega
        · have hk' : k < ys.length := by simpa using hk
          obtain ⟨y, hyk⟩ : ∃ y, ys[k]? = some y := ⟨_, List.getElem?_eq_getElem hk'⟩
          generalize hxs : (ys.map (fun n : Nat => (n : Int))).set k (-1) = xs'
          have hv' : stripeValid xs' = true := by
            subst hxs
            refine valid_mk (by simpa using h1) (by simpa using h2) fun x hx => ?_
            rcases List.mem_or_eq_of_mem_set hx with hx | rfl
            · obtain ⟨z, hz, rfl⟩ := List.mem_map.1 hx
              have := hy z hz; omega
            · omega
          have hk1 : xs'[k]? = some (-1) := by subst hxs; simp [hk']
          have hset : xs'.set k 0 = (ys.set k 0).map (fun n : Nat => (n : Int)) := by subst hxs; rw [List.set_set, List.map_set]; rfl
          have hm0 : ∀ x ∈ xs'.set k 0, 0 ≤ x ∧ x ≤ 255 := by
            rw [hset]
            intro x hx
            obtain ⟨z, hz, rfl⟩ := List.mem_map.1 hx
            rcases List.mem_or_eq_of_mem_set hz with hz | rfl
            · have := hy z hz; omega
            · omega
          obtain ⟨r1, r2, r3⟩ := repair_one hv' hk1 (not_lost hm0) hq
          have hy0 : ∀ z ∈ ys.set k 0, z < 256 := by
            intro z hz
            rcases List.mem_or_eq_of_mem_set hz with hz | rfl
            · exact hy z hz
            · omega
          have hpar0 : parityOf (xs'.set k 0) = (nx (ys.set k 0) 0 : Nat) := by rw [hset]; exact parityOf_full hy0 (by simpa using h1) (by simpa using h2)
          obtain ⟨n, rfl⟩ := Int.eq_ofNat_of_zero_le hq.1
          have hn : nx ys 0 = n := by rw [hp] at hpar; exact Int.ofNat.inj hpar
          have hylt : y < 256 := hy y (List.mem_of_getElem? hyk)
          have hbx : bx (parityOf (xs'.set k 0)) (n : Int) = (y : Int) := by
            rw [hpar0, bx_nat _ _ (nx_lt _ 0 hy0 (by omega)) (by omega), nx_set ys k y 0 0 hyk, hn]
            have : n ^^^ y ^^^ 0 ^^^ n = y ^^^ (n ^^^ n) := by rw [Nat.xor_zero]; ac_rfl
            rw [this]; simp
          have hback : xs'.set k (y : Int) = ys.map (fun n : Nat => (n : Int)) := by
            subst hxs
            rw [List.set_set, ← List.map_set]
            congr 1
            obtain ⟨_, e⟩ := List.getElem?_eq_some_iff.1 hyk
            rw [← e]
            exact List.set_getElem_self hk'
          rw [hbx, hback] at r2
          unfold repair
          rw [hv', r1, r2]
          have hin : inB (n : Int) 0 255 = true := inB_true hq
          rw [hin]
          simp [hpar]
    · simp at h
  · simp at h
end Go.Proofs.Ytcnaehllegoefaa
