/- l7New and l7Copy of the reference: a new table; a copy of one. -/
import Derived.Test.YtagcdpnbkfoeaaaPagesS
import Derived.Test.YtagcdpnbkfoeaaaApp2
import Derived.Test.YtagcdpnbkfoeaaaRegion2
import Derived.Deep.RegionHeld3
namespace Go.Proofs.Ytagcdpnbkfoeaaa
open Go.RowKit
set_option linter.unusedVariables false

theorem rows_info : (Try.prog.info? 22).map (fun i => (i.zero, i.size, i.bytes)) = some (some (.slice none 0 0), 1, 24) := by kernel_rfl
/-- One slice in a new block, as the source of an append. -/
theorem row_lit (w : World) (v : Value) (t : TypeId) : Row (w.alloc (.cells #[v] t)) w.heap.size (w.heap.size + 1) 1 (some ⟨w.heap.size, 0, none⟩) 1 [v] := by
  refine ⟨rfl, by simp, fun _ => ⟨_, 0, rfl, Nat.le_refl _, by omega, fun j u hj => ?_⟩⟩
  match j, hj with
  | 0, hj => simp at hj; subst hj; simp

theorem OwnG.blk {w : World} {lo hi c : Nat} {A : Option Addr} {xss : List (List Int)} (h : OwnG w lo hi A c xss) {k : Nat} (hk : Blk A k) : lo ≤ k ∧ k < hi := by
  obtain ⟨vs, h⟩ := h
  exact Own.blk h.own hk
/-- append of a row onto an own slice of slices. -/
theorem run_appG (w : World) (ty : TypeId) (lo up up2 : Nat) (A : Option Addr) (n c : Nat) (xss : List (List Int)) (hn : n = xss.length) (hown : OwnG w lo up A c xss)
    (A2 : Option Addr) (c2 m2 : Nat) (ys : List Int) (hm2 : m2 = ys.length) (o : OwnI w up up2 A2 c2 ys) (hle : up ≤ up2) (lo' up' : Nat) (A3 : Option Addr) (c3 : Nat) (hr : Row w lo' up' 1 A3 1 [.slice A2 m2 c2])
    (hlen : xss.length + 1 ≤ 100000000) (hlo : lo ≤ w.heap.size) (hlo2 : lo ≤ up) :
    ∃ A' c' w', (Builtin.append_ #[30, 30] ty #[.slice A n c, .slice A3 1 c3]).run Try.prog w = .ok (.slice A' (n + 1) c') w' ∧ OwnG w' lo w'.heap.size A' c' (xss ++ [ys]) ∧ Kp (Blk A) w w' ∧ (∀ k, Blk A' k → Blk A k ∨ k = w.heap.size) := by
  subst hn hm2
  obtain ⟨i0, hi0, hz0, hz1, hz2⟩ := info_parts rows_info
  obtain ⟨vs, hg⟩ := hown
  obtain ⟨A', c', w', h1, h2, h3, h4⟩ := run_app2 (P := Try.prog) w 30 ty 22 i0 (.slice none 0 0) 1 24 Try.underlying30 hi0 hz0 hz1 hz2 rfl (by omega) lo up A xss.length c vs hg.own lo' up' A3 1 c3 _ hr (fun u hu => by simp at hu; subst hu; rfl) hlen (by omega) hlo
  exact ⟨A', c', w', h1, hg.app o hle h2 h3 h4 hlo2, h3, h4⟩
theorem wpList_appG (w : World) {ops : Array Oper} {rest : List Oper} {o : Oper} {a : Act} {Q : Exit → Act → World → Prop} (hgd : Region.wanted o (yielded ops a.tmps) = true) (s x : Operand)
    (ho : o.op = .call { callee := .builtin .append, args := #[s, x], argTypes := #[30, 30] })
    (lo up up2 : Nat) (A : Option Addr) (n c : Nat) (xss : List (List Int)) (hs : a.eval s = .slice A n c) (hn : n = xss.length) (hown : OwnG w lo up A c xss)
    (A2 : Option Addr) (c2 m2 : Nat) (ys : List Int) (hm2 : m2 = ys.length) (ow : OwnI w up up2 A2 c2 ys) (hle : up ≤ up2) (lo' up' : Nat) (A3 : Option Addr) (c3 : Nat) (hx : a.eval x = .slice A3 1 c3) (hr : Row w lo' up' 1 A3 1 [.slice A2 m2 c2])
    (hlen : xss.length + 1 ≤ 100000000) (hlo : lo ≤ w.heap.size) (hlo2 : lo ≤ up)
    (h : ∀ A' c' w', OwnG w' lo w'.heap.size A' c' (xss ++ [ys]) → Kp (Blk A) w w' → (∀ k, Blk A' k → Blk A k ∨ k = w.heap.size) → wpList Try.prog ops Q rest (a.put o.dst (.slice A' (n + 1) c')) w') : wpList Try.prog ops Q (o :: rest) a w :=
  wpList_step fun K hK => by
    rw [if_pos hgd]
    obtain ⟨A', c', w', hrun, h2, h3, h4⟩ := run_appG w o.type lo up up2 A n c xss hn hown A2 c2 m2 ys hm2 ow hle lo' up' A3 c3 hr hlen hlo hlo2
    unfold Oper.wp execOp
    simp only [ho, resolve, invoke, builtin, Sem.run_bind, Sem.run_pure, Result.andThen_ok, List.map_toArray, List.map_cons, List.map_nil, hs, hx, hrun]
    exact hK _ _ (h A' c' w' h2 h3 h4)

theorem step_appG (w : World) {ops : Array Oper} {o : Oper} {a : Act} {K : Act → World → Prop} {Q : Exit → Act → World → Prop} {E : Prop} (hgd : o.guard = none) (s x : Operand)
    (ho : o.op = .call { callee := .builtin .append, args := #[s, x], argTypes := #[30, 30] })
    (lo up up2 : Nat) (A : Option Addr) (n c : Nat) (xss : List (List Int)) (hs : a.eval s = .slice A n c) (hn : n = xss.length) (hown : OwnG w lo up A c xss)
    (A2 : Option Addr) (c2 m2 : Nat) (ys : List Int) (hm2 : m2 = ys.length) (ow : OwnI w up up2 A2 c2 ys) (hle : up ≤ up2) (lo' up' : Nat) (A3 : Option Addr) (c3 : Nat) (hx : a.eval x = .slice A3 1 c3) (hr : Row w lo' up' 1 A3 1 [.slice A2 m2 c2])
    (hlen : xss.length + 1 ≤ 100000000) (hlo : lo ≤ w.heap.size) (hlo2 : lo ≤ up)
    (h : ∀ A' c' w', OwnG w' lo w'.heap.size A' c' (xss ++ [ys]) → Kp (Blk A) w w' → (∀ k, Blk A' k → Blk A k ∨ k = w.heap.size) → K (a.put o.dst (.slice A' (n + 1) c')) w') :
    if Region.wanted o (yielded ops a.tmps) = true then Oper.wp Try.prog o a w K Q else E := by
  have hw : Region.wanted o (yielded ops a.tmps) = true := by simp [Region.wanted, hgd]
  rw [if_pos hw]
  obtain ⟨A', c', w', hrun, h2, h3, h4⟩ := run_appG w o.type lo up up2 A n c xss hn hown A2 c2 m2 ys hm2 ow hle lo' up' A3 c3 hr hlen hlo hlo2
  unfold Oper.wp execOp
  simp only [ho, resolve, invoke, builtin, Sem.run_bind, Sem.run_pure, Result.andThen_ok, List.map_toArray, List.map_cons, List.map_nil, hs, hx, hrun]
  exact h A' c' w' h2 h3 h4
theorem step_appI (w : World) {ops : Array Oper} {o : Oper} {a : Act} {K : Act → World → Prop} {Q : Exit → Act → World → Prop} {E : Prop} (hgd : o.guard = none) (s x : Operand)
    (ho : o.op = .call { callee := .builtin .append, args := #[s, x], argTypes := #[22, 22] })
    (lo up : Nat) (A : Option Addr) (n c : Nat) (xs : List Int) (hs : a.eval s = .slice A n c) (hn : n = xs.length) (hown : OwnI w lo up A c xs)
    (lo' up' : Nat) (A2 : Option Addr) (m c2 : Nat) (ys : List Int) (hx : a.eval x = .slice A2 m c2) (hm : m = ys.length) (hr : Ints w lo' up' A2 ys)
    (hlen : xs.length + ys.length ≤ 100000000) (hlo : lo ≤ w.heap.size)
    (h : ∀ A' c' w', OwnI w' lo w'.heap.size A' c' (xs ++ ys) → Kp (Rg lo up) w w' → K (a.put o.dst (.slice A' (n + m) c')) w') :
    if Region.wanted o (yielded ops a.tmps) = true then Oper.wp Try.prog o a w K Q else E := by
  subst hn hm
  obtain ⟨i0, hi0, hz0, hz1, hz2⟩ := info_parts int_info
  refine step_app w hgd s x 22 ho 3 i0 (.int .i64 0) 1 8 Try.underlying22 hi0 hz0 hz1 hz2 rfl (by omega) lo up A xs.length c _ hs hown lo' up' A2 ys.length c2 _ hx hr (ints_one ys) hlen (by omega) hlo ?_
  intro A' c' w' h1 h2
  refine h A' c' w' ?_ h2
  unfold OwnI
  rw [List.map_append, List.length_append]
  exact h1

def newTab : List (List Int) := List.replicate 8 (List.replicate 6 (-1))
theorem newTab_ok : tableB newTab = true := by decide +kernel
/-- What a call leaves that hands back a new table. -/
def NewT (w : World) (xss : List (List Int)) (e : Ending) (w' : World) : Prop := ∃ A c, e = .returned (.agg #[.slice A xss.length c]) ∧ OwnG w' w.heap.size w'.heap.size A c xss ∧ Kp No w w'

set_option maxHeartbeats 2000000 in
theorem l7New_ (w : World) : Calls Try.prog 44 #[] w (NewT w newTab) := by
  have ka := ((Kp.refl No w).alloc (.cells #[.slice none 0 0] 32)).alloc (.cells #[.slice none 0 0] 32)
  have hr := (BoxT.new w 32 none 0 0).keepNo ((Kp.refl No _).alloc (.cells #[.slice none 0 0] 32))
  have hb := BoxT.new (w.alloc (.cells #[.slice none 0 0] 32)) 32 none 0 0
  have e2 : ((w.alloc (.cells #[.slice none 0 0] 32)).alloc (.cells #[.slice none 0 0] 32)).heap.size = w.heap.size + 2 := by simp
  rw [show (w.alloc (.cells #[.slice none 0 0] 32)).heap.size = w.heap.size + 1 by simp] at hb
  go_enter Try.func44, Try.ntmps44
  go_wp2_with fail
  go_loopw [2] (fun i wr => ∃ (n : Nat) (A : Option Addr) (c : Nat), n ≤ 8 ∧ i = .int .i64 n ∧ OwnG wr (w.heap.size + 2) wr.heap.size A c (List.replicate n (List.replicate 6 (-1))) ∧ BoxT wr (w.heap.size + 1) A n c ∧ BoxT wr w.heap.size none 0 0 ∧ Kp No w wr ∧ w.heap.size + 2 ≤ wr.heap.size) (fun i _ => 8 - (intOf i).toNat)
  case atStart => exact ⟨0, none, 0, by omega, rfl, OwnG.nil (Nat.le_refl _), hb, hr, ka, Nat.le_of_eq e2.symm⟩
  case round =>
    clear hb hr ka e2
    obtain ⟨n, A, c, hn, rfl, hg, hb, hr, hkp, hsz⟩ := hrel
    by_cases hn8 : n < 8
    · have kA : Kp No wr (wr.alloc (.cells #[] 3)) := (Kp.refl _ _).alloc _
      have oe := own_empty wr wr.heap.size (Nat.le_refl _)
      have hgd : decide ((n : Int) < 8) = true := decide_eq_true (by omega)
      go_wp2_with fail
      clear hgd
      obtain ⟨s0, hs0⟩ : ∃ s0, Hid (s0 = wr.heap.size) := ⟨_, Lib.hid rfl⟩
      rw [← hs0.out] at oe hsz
      rw [← hs0.out] at hg
      go_loopw [3, 4] (fun v i wx => ∃ (k : Nat) (A2 : Option Addr) (c2 : Nat), k ≤ 6 ∧ i = .int .i64 k ∧ v = .slice A2 k c2 ∧ OwnI wx s0 wx.heap.size A2 c2 (List.replicate k (-1)) ∧ Kp No wr wx ∧ s0 ≤ wx.heap.size) (fun _ i _ => 6 - (intOf i).toNat)
      case atStart => exact ⟨0, _, 0, by omega, rfl, rfl, by rw [hs0.out] at oe ⊢; exact oe, kA, by rw [hs0.out]; exact kA.size⟩
      case round =>
        clear oe kA
        obtain ⟨k, A2, c2, hk, rfl, rfl, ho, hkx, hsx⟩ := hrel
        by_cases hk6 : k < 6
        · go_wp2_with (at_builtin; (refine wpList_appI _ rfl _ _ rfl s0 wr.heap.size A2 c2 (List.replicate k (-1)) (congrArg (fun m => Value.slice A2 m c2) (List.length_replicate (n := k) (a := (-1 : Int))).symm) (ho.keepNo ((Kp.refl _ _).alloc _)) _ _ _ _ [(-1 : Int)] rfl (ints_lit _ _ _) (by simp; omega) (by simp; omega) ?_; intro A4 c4 w4 ho4 hk4))
          have kB : Kp No wr (wr.alloc (.cells #[.int .i64 (-1)] 3)) := (Kp.refl _ _).alloc _
          go_roundw
          case rel => exact ⟨k + 1, A4, c4, by omega, by go_num, by simp, by rw [← List.replicate_append_replicate (n := k) (m := 1)]; exact ho4, (hkx.trans kB).also hk4 (fun i hi e => by have := e.1; rw [hs0.out] at this; omega), Nat.le_trans hsx (Nat.le_trans kB.size hk4.size)⟩
          case measure => simp [intOf]; omega
        · obtain rfl : k = 6 := by omega
          have hg2 := hg.keepNo hkx
          have hb2 := hb.keepNo hkx
          have hr2 := hr.keepNo hkx
          have hkp2 := hkp.trans hkx
          have kB : Kp No wr (wr.alloc (.cells #[.slice A2 6 c2] 22)) := (Kp.refl _ _).alloc _
          clear hg hb hr
          have yb := hb2
          obtain ⟨b0, b1, b2⟩ := yb
          go_wp2_with (at_builtin; go_loud (refine wpList_appG _ rfl _ _ rfl (w.heap.size + 2) s0 wr.heap.size A n c (List.replicate n (List.replicate 6 (-1))) rfl (List.length_replicate).symm (hg2.keepNo kB) A2 c2 6 (List.replicate 6 (-1)) (List.length_replicate).symm (ho.keepNo kB) hsx _ _ _ _ rfl (row_lit _ _ _) (by simp; omega) (by simp; omega) hsz ?_; intro A4 c4 w4 ho4 hk4 hb4; have hb3 := (hb2.keepNo kB).keep hk4 (fun e => by have := (hg2.blk e).1; omega); obtain ⟨p0, p1, p2⟩ := hb3))
          have hb3 : BoxT w4 (w.heap.size + 1) A n c := ⟨p0, p1, p2⟩
          have hb4' := hb3.set A4 (n + 1) c4
          have ks := Kp.put1 w4 (w.heap.size + 1) 0 (.slice A4 (n + 1) c4)
          have hr4 := ((hr2.keepNo kB).keep hk4 (fun e => by have := (hg2.blk e).1; omega)).keep ks (by simp only [At]; omega)
          have hkp4 := ((hkp2.trans kB).also hk4 (fun i hi e => by have := (hg2.blk e).1; omega)).also ks (fun i hi e => by simp only [At] at e; omega)
          have hsz4 : w.heap.size + 2 ≤ w4.heap.size := by have := kB.size; have := hk4.size; omega
          go_roundw
          case rel => exact ⟨n + 1, A4, c4, by omega, by go_num, by rw [← List.replicate_append_replicate (n := n) (m := 1)]; exact (ho4.keep ks (fun i h1 _ e => by simp only [At] at e; omega)).wide (Nat.le_refl _) ks.size (Nat.le_refl _), hb4', hr4, hkp4, Nat.le_trans hsz4 ks.size⟩
          case measure => simp [intOf]; omega
    · obtain rfl : n = 8 := by omega
      have d3 := hr.set A 8 c
      have ks := Kp.put1 wr w.heap.size 0 (.slice A 8 c)
      obtain ⟨b0, b1, b2⟩ := hb
      obtain ⟨r0, r1, r2⟩ := hr
      go_wp2_with fail
      refine bodyPost_ret (v := .agg #[.slice A 8 c]) (by simp [results, Try.results44, go_sem, d3.1]) rfl ?_
      exact ⟨A, c, rfl, (hg.keep ks (fun i h1 _ e => by simp only [At] at e; omega)).wide (by omega) ks.size (Nat.le_refl _), hkp.also ks (fun i hi e => by simp only [At] at e; omega)⟩
end Go.Proofs.Ytagcdpnbkfoeaaa
