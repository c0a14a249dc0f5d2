/- KeepValue of the reference. -/
import Derived.Test.YteabpdnlkncbpaaFreeS
import Derived.WalkKit
import Derived.WalkSpells
import Derived.WalkLawsBesides
import Derived.Outline
import Derived.Deep.RegionHeld3
import Derived.Deep.RegionWith
namespace Go.Proofs.Yteabpdnlkncbpaa
open Go.RowKit
set_option linter.unusedVariables false

theorem keptValid_n (A : Option Addr) (ps : List (Int × Int)) (n c lo hi : Nat) (w : World) (h : Prs w lo hi A ps) (hs : ps.length ≤ 4000000) (hn : n = ps.length) : Calls Try.prog 12 #[.slice A n c] w
    fun e w' => e = .returned (.bool (keptB ps)) ∧ Kp No w w' := by
  subst hn
  exact keptValid_spec A ps c lo hi w h hs
/-- The first k values are below v. -/
def Below_ (ps : List (Int × Int)) (v : Int) (k : Nat) : Prop := ∀ p ∈ ps.take k, p.1 < v
theorem Below_.succ {ps : List (Int × Int)} {v : Int} {k : Nat} {x y : Int} (h : Below_ ps v k) (hx : ps[k]? = some (x, y)) (hv : x < v) : Below_ ps v (k + 1) := by
  obtain ⟨hk, hx⟩ := List.getElem?_eq_some_iff.1 hx
  intro p hp
  rw [List.take_succ_eq_append_getElem hk, List.mem_append] at hp
  rcases hp with hp | hp
  · exact h p hp
  · simp at hp; subst hp; rw [hx]; exact hv
theorem place_of {ps : List (Int × Int)} {v : Int} {k : Nat} (h : Below_ ps v k) (hk : k ≤ ps.length) (hr : ∀ x y, ps[k]? = some (x, y) → v ≤ x) : placeN ps v = k := by
  have := placeN_app (L := ps.take k) (R := ps.drop k) h (fun p hp => by
    rw [List.head?_drop] at hp
    exact hr p.1 p.2 hp)
  rw [List.take_append_drop] at this
  rw [this]; simp; omega
theorem keepRaw_set {ps : List (Int × Int)} {v y : Int} {k : Nat} (hp : placeN ps v = k) (hk : ps[k]? = some (v, y)) : keepRaw ps v = ps.set k (v, y + 1) := by
  unfold keepRaw; rw [hp, hk]; simp
theorem keepRaw_ins {ps : List (Int × Int)} {v : Int} {k : Nat} (hp : placeN ps v = k) (hk : ∀ x y, ps[k]? = some (x, y) → x ≠ v) : keepRaw ps v = ps.take k ++ (v, 1) :: ps.drop k := by
  unfold keepRaw
  rw [hp]
  cases hg : ps[k]? with
  | none => rfl
  | some q =>
    obtain ⟨x, y⟩ := q
    simp only
    rw [if_neg (hk x y hg)]
theorem Prs.cut {w : World} {lo hi : Nat} {A : Option Addr} {ps : List (Int × Int)} (h : Prs w lo hi A ps) {m : Nat} (hm : m ≤ ps.length) : Prs w lo hi A (ps.take m) := by
  refine ⟨flatP_len _, h.2.1, fun h0 => ?_⟩
  obtain ⟨b, off, e, h1, h2, h3⟩ := h.2.2 (by simp at h0; omega)
  refine ⟨b, off, e, h1, h2, fun j u hu => h3 j u ?_⟩
  have e2 : flatP ps = flatP (ps.take m) ++ flatP (ps.drop m) := by rw [← flatP_app, List.take_append_drop]
  rw [e2, List.getElem?_append_left (List.getElem?_eq_some_iff.1 hu).1]; exact hu
theorem Prs.from {w : World} {lo hi b off : Nat} {ps : List (Int × Int)} (h : Prs w lo hi (some ⟨b, off, none⟩) ps) {m : Nat} (hm : m ≤ ps.length) : Prs w lo hi (some ⟨b, off + m * 2, none⟩) (ps.drop m) := by
  refine ⟨flatP_len _, h.2.1, fun h0 => ?_⟩
  obtain ⟨b', off', e, h1, h2, h3⟩ := h.2.2 (by simp at h0; omega)
  injection e with e
  injection e with e1 e2
  subst e1 e2
  refine ⟨_, _, rfl, h1, h2, fun j u hu => ?_⟩
  have e2 : flatP ps = flatP (ps.take m) ++ flatP (ps.drop m) := by rw [← flatP_app, List.take_append_drop]
  have := h3 (m * 2 + j) u (by rw [e2, List.getElem?_append_right (by rw [flatP_len]; simp; omega)]; rw [flatP_len]; simp only [List.length_take]; rw [Nat.min_eq_left hm]; simpa using hu)
  rwa [← Nat.add_assoc] at this

theorem ownP_form {w : World} {lo hi c : Nat} {A : Option Addr} {ps : List (Int × Int)} (h : OwnP w lo hi A c ps) : (A = none ∧ c = 0 ∧ ps = []) ∨ ∃ g, A = some ⟨g, 0, none⟩ := by
  rcases h.1.2 with ⟨hv, h0⟩ | ⟨g, cap, cur, hv, _⟩
  · injection hv with hA _ hc
    exact .inl ⟨hA, hc, List.eq_nil_of_length_eq_zero h0⟩
  · injection hv with hA
    exact .inr ⟨g, hA⟩
theorem keep_cells {w1 w3 : World} {lo hi b off c3 k : Nat} {A3 : Option Addr} {ps : List (Int × Int)} {x y : Int} {o : Obj} (h1 : Prs w1 lo hi (some ⟨b, off, none⟩) ps) (o3 : OwnP w3 w1.heap.size w3.heap.size A3 c3 ([] ++ ps)) (k3 : Kp (Rg w1.heap.size (w1.heap.size + 1)) (w1.alloc o) w3) (hk : ps[k]? = some (x, y)) :
    ∃ g, A3 = some ⟨g, 0, none⟩ ∧ w1.heap.size ≤ g ∧ g < w3.heap.size ∧ w3.cell? ⟨b, off + k * 2, none⟩ = some (.int .i64 x) ∧ w3.cell? ⟨b, off + k * 2 + 1, none⟩ = some (.int .i64 y) ∧
      w3.cell? ⟨g, k * 2, none⟩ = some (.int .i64 x) ∧ w3.cell? ⟨g, k * 2 + 1, none⟩ = some (.int .i64 y) ∧ w3.frozen? ⟨g, k * 2, none⟩ = false ∧ w3.frozen? ⟨g, k * 2 + 1, none⟩ = false := by
  have hlt := (List.getElem?_eq_some_iff.1 hk).1
  have hhi := h1.2.1
  obtain ⟨b', off', x', y', hA, _, _, hx', d0, d1⟩ := ((h1.keepNo ((Kp.refl No w1).alloc o)).keep k3 (fun i _ hi e => by have := e.1; omega)).at_ hlt
  obtain ⟨rfl, rfl⟩ : b = b' ∧ off = off' := by injection hA with hA; injection hA with h1 h2; exact ⟨h1, h2⟩
  obtain ⟨rfl, rfl⟩ : x = x' ∧ y = y' := by rw [hk] at hx'; simpa using hx'
  rw [List.nil_append] at o3
  obtain ⟨g, gx, gy, rfl, hg1, hg2, hgx, e0, e1, f0, f1⟩ := o3.at_ hlt
  obtain ⟨rfl, rfl⟩ : x = gx ∧ y = gy := by rw [hk] at hgx; simpa using hgx
  exact ⟨g, rfl, hg1, hg2, d0, d1, e0, e1, f0, f1⟩

set_option maxHeartbeats 4000000 in
theorem keepValue_spec (A : Option Addr) (ps : List (Int × Int)) (c lo hi : Nat) (v : Int) (w : World) (ho : OwnP w lo hi A c ps) (hs : ps.length ≤ 4000000) : Calls Try.prog 28 #[.slice A ps.length c, .int .i64 v] w (NewPB w (keepValue ps v)) := by
  have h := ho.prs
  have hcap := ho.cap
  go_enter Try.func28, Try.ntmps28
  go_wp2_with fail
  refine (keptValid_spec _ _ _ _ _ _ h hs).mono ?_
  rintro e w1 ⟨rfl, k1⟩
  have on := ownP_lit w1 w.heap.size #[] [] rfl k1.size (by simp)
  have kn : Kp No w (w1.alloc (.cells #[] 33)) := k1.alloc _
  cases hv : keptB ps
  · have H := Lib.hid (keepValue_bad (v := v) hv)
    go_wp2_with fail
    go_ret2
    rw [H.out]
    exact ⟨_, 0, rfl, on.wide (Nat.le_refl _) (by simp) (Nat.le_refl _), kn⟩
  · have Hv := Lib.hid hv
    have hl10 := keptB_len hv
    have h1 := h.keepNo k1
    clear hv
    go_wp2_with fail
    go_loop [6] (fun i => ∃ k : Nat, k ≤ ps.length ∧ i = .int .i64 k ∧ Below_ ps v k) (fun i => ps.length - (intOf i).toNat)
    case atStart => exact ⟨0, Nat.zero_le _, rfl, fun p hp => by simp at hp⟩
    case round =>
      obtain ⟨k, hk, rfl, hbel⟩ := hrel
      by_cases hgo : ∃ x y, ps[k]? = some (x, y) ∧ x < v
      · obtain ⟨x', y', hx', hlt'⟩ := hgo
        have hlt := (List.getElem?_eq_some_iff.1 hx').1
        obtain ⟨b, off, x, y, rfl, hb1, hb2, hx, hc, hc2⟩ := h1.at_ hlt
        obtain ⟨rfl, rfl⟩ : x = x' ∧ y = y' := by rw [hx] at hx'; simpa using hx'
        have Hb := Lib.hid (hbel.succ hx hlt')
        clear hx hx'
        go_wp2_with fail
        go_round
        case rel => exact ⟨k + 1, by omega, by go_num, Hb.out⟩
        case measure => simp [intOf]; omega
      · have Hpl := Lib.hid (place_of hbel hk (fun x y hx => by
          rcases Int.lt_or_le x v with h | h
          · exact absurd ⟨x, y, hx, h⟩ hgo
          · exact h))
        obtain ⟨L, R, hps, hkL⟩ : ∃ L R, ps = L ++ R ∧ k = L.length := ⟨ps.take k, ps.drop k, (List.take_append_drop _ _).symm, by simp; omega⟩
        subst hkL
        subst hps
        clear hbel
        simp only [List.length_append] at hs hcap hl10 hk
        have hR0 : (L ++ R)[L.length]? = R.head? := by rw [List.getElem?_append_right (Nat.le_refl _), Nat.sub_self, List.head?_eq_getElem?]
        have on1 := ownP_lit w1 w1.heap.size #[] [] rfl (Nat.le_refl _) (by simp)
        have hsw := k1.size
        rcases R with _ | ⟨⟨x, y⟩, R⟩
        · have Hr := Lib.hid (show keepRaw (L ++ []) v = L ++ (v, 1) :: [] by
            have := keepRaw_ins Hpl.out (fun x y hx => by rw [hR0] at hx; cases hx)
            simpa using this)
          clear hR0 hgo
          simp only [List.append_nil, List.length_nil, Nat.add_zero] at h h1 ho hs hcap hl10 hk Hpl Hv Hr ⊢
          rcases ownP_form ho with ⟨rfl, rfl, rfl⟩ | ⟨g0, rfl⟩
          · have hs0 : True := trivial
            go_wp2_with (at_builtin; refine wpList_appP _ rfl _ _ rfl w1.heap.size (w1.heap.size + 1) _ 0 [] rfl on1 _ _ (none) 0 (([] : List (Int × Int))) (Eq.trans (b := .slice (none) (0) 0) (by rfl) (by simp)) (h1.keepNo ((Kp.refl _ _).alloc _)) (by simp <;> omega) (by simp) ?_; intro A3 c3 w3 o3 k3)
            have k13 : Kp No w w3 := kn.also k3 (fun i hi e => by have := e.1; omega)
            have P1 := Lib.hid (show ∀ W, Prs W lo hi (none) (([] : List (Int × Int))) → Prs W lo hi (none) ([] : List (Int × Int)) from fun W hW => hW)
            have P2 := Lib.hid (show ∀ W, Prs W lo hi (none) (([] : List (Int × Int))) → Prs W lo hi (none) ([]) from fun W hW => Row.empty hW.2.1)
            have s3 := k13.size
            have a1 := ownP_lit w3 w3.heap.size #[] [] rfl (Nat.le_refl _) (by simp)
            have a2 := a1.keepNo ((Kp.refl _ _).alloc (.cells #[.int .i64 v, .int .i64 1] 33))
            have a3 := ownP_lit (w3.alloc (.cells #[.int .i64 v, .int .i64 1] 33)) (w3.heap.size + 1) #[] [] rfl (by simp) (by simp)
            rw [show (w3.alloc (.cells #[.int .i64 v, .int .i64 1] 33)).heap.size = w3.heap.size + 1 by simp] at a3
            have l1 := prs_lit w3 v 1 33
            have l2 := prs_lit (w3.alloc (.cells #[] 33)) v 1 33
            rw [show (w3.alloc (.cells #[] 33)).heap.size = w3.heap.size + 1 by simp] at l2
            have A1 := Lib.hid a1; have A2 := Lib.hid a2; have A3' := Lib.hid a3; have L1 := Lib.hid l1; have L2 := Lib.hid l2
            clear a1 a2 a3 l1 l2
            have hIL : (0 : Int) ≤ (([] : List (Int × Int)).length : Int) := by omega
            skip
            have hIc : (([] : List (Int × Int)).length : Int) ≤ (0 : Int) := by omega
            go_region_held3 (fun _ => True) (exact trivial)
              (first
                | (refine step_appP _ (by rfl) (.tmp 53) (.tmp 56) (by rfl) _ _ _ _ [] (by rfl) (by first | exact A1.out.keepNo ((Kp.refl _ _).drew) | exact A2.out.keepNo ((Kp.refl _ _).drew) | exact A3'.out.keepNo ((Kp.refl _ _).drew) | exact A1.out | exact A2.out | exact A3'.out) _ _ (none) 0 ([] : List (Int × Int)) (by rfl) ((P1.out _ (h.keepNo k13)).keepNo (by repeat (first | exact Kp.refl _ _ | apply Kp.drew | apply Kp.alloc))) (by simp <;> omega) (by simp <;> omega) ?_; intro A4 c4 w4 o4 k4
                   have s4 := k4.size
                   try simp at s4
                   have q4 : Kp No w w4 := (by repeat (first | exact k13 | apply Kp.drew | apply Kp.alloc) : Kp No w _).also k4 (fun i hi e => by have := e.1; omega))
                | (refine step_appP _ (by rfl) (.tmp 57) (.tmp 60) (by rfl) _ _ A4 c4 ([] : List (Int × Int)) (by first | rfl | exact Eq.trans (b := .slice A4 (([] : List (Int × Int)).length + ([] : List (Int × Int)).length) c4) (by rfl) (by simp)) (by first | exact o4.keepNo (by repeat (first | exact Kp.refl _ _ | apply Kp.drew | apply Kp.alloc))) _ _ _ 1 [(v, 1)] (by rfl) (by first | exact prs_lit w4 v 1 33 | exact (L1.out.keepNo ((Kp.refl _ _).alloc _)).keep k4 (fun i h1 h2 h3 => by have := h3.1; (try simp at this h1); omega) | exact ((L1.out.keepNo ((Kp.refl _ _).alloc _)).keepNo ((Kp.refl _ _).drew)).keep k4 (fun i h1 h2 h3 => by have := h3.1; (try simp at this h1); omega) | exact L2.out.keep k4 (fun i h1 h2 h3 => by have := h3.2; (try simp at this h1); omega) | exact (L2.out.keepNo ((Kp.refl _ _).drew)).keep k4 (fun i h1 h2 h3 => by have := h3.2; (try simp at this h1); omega) | exact (prs_lit w4 v 1 33).keepNo ((Kp.refl _ _).drew) | exact (L1.out.keep k4 (fun i h1 h2 h3 => by have := h3.1; (try simp at this h1); omega)).keepNo ((Kp.refl _ _).drew) | exact (L2.out.keep k4 (fun i h1 h2 h3 => by have := h3.2; (try simp at this h1); omega)).keepNo ((Kp.refl _ _).drew)) (by simp <;> omega) (by first | omega | (simp; omega) | simp) ?_; intro A5 c5 w5 o5 k5
                   have s5 := k5.size
                   try simp at s5
                   have q5 : Kp No w w5 := (by repeat (first | exact q4 | apply Kp.drew | apply Kp.alloc) : Kp No w _).also k5 (fun i hi e => by have := e.1; omega))
                | (refine step_appP _ (by rfl) (.tmp 61) (.tmp 64) (by rfl) _ _ A5 c5 (([] : List (Int × Int)) ++ [(v, 1)]) (by first | rfl | exact Eq.trans (b := .slice A5 (([] : List (Int × Int)).length + 1) c5) (by rfl) (by simp) | exact Eq.trans (b := .slice A5 (([] : List (Int × Int)).length + [((v, 1) : Int × Int)].length) c5) (by rfl) (by simp)) (by first | exact o5.keepNo (by repeat (first | exact Kp.refl _ _ | apply Kp.drew | apply Kp.alloc))) _ _ (none) (0) ([]) (by rfl) ((P2.out _ (h.keepNo q5)).keepNo (by repeat (first | exact Kp.refl _ _ | apply Kp.drew | apply Kp.alloc))) (by simp <;> omega) (by first | omega | (simp; omega) | simp) ?_; intro A6 c6 w6 o6 k6
                   have s6 := k6.size
                   try simp at s6
                   have q6 : Kp No w w6 := (by repeat (first | exact q5 | apply Kp.drew | apply Kp.alloc) : Kp No w _).also k6 (fun i hi e => by have := e.1; omega)))
            all_goals
              go_wp2_with fail
              have o7 : OwnP w6 w3.heap.size w6.heap.size A6 c6 (keepRaw (([] : List (Int × Int))) v) := by rw [Hr.out]; simpa using o6.wide (by omega) (Nat.le_refl _) (Nat.le_refl _)
              refine (keptValid_n _ (keepRaw (([] : List (Int × Int))) v) _ _ _ _ _ o7.prs (by rw [Hr.out]; simp <;> omega) (by rw [Hr.out]; simp <;> omega)).mono ?_
              rintro e w5 ⟨rfl, k5⟩
              have o5 := o7.keepNo k5
              have k15 := q6.trans k5
              cases hv2 : keptB (keepRaw ([] : List (Int × Int)) v)
              · have H := Lib.hid (show keepValue (([] : List (Int × Int)) ++ []) v = (([] : List (Int × Int)), false) by rw [List.append_nil]; exact keepValue_no Hv.out hv2)
                have on5 := ownP_lit w5 w5.heap.size #[] [] rfl (Nat.le_refl _) (by simp)
                have hs5 := k15.size
                go_wp2_with (at_builtin; refine wpList_appP _ rfl _ _ rfl w5.heap.size (w5.heap.size + 1) _ 0 [] rfl on5 _ _ (none) 0 ([] : List (Int × Int)) (Eq.trans (b := .slice (none) (0) 0) (by rfl) (by simp)) ((h.keepNo k15).keepNo ((Kp.refl _ _).alloc _)) (by simp <;> omega) (by simp) ?_; intro A9 c9 w9 o9 k9)
                go_ret2
                rw [H.out]
                exact ⟨A9, c9, by simp, (by simpa using o9 : OwnP w9 w5.heap.size w9.heap.size A9 c9 ([] : List (Int × Int))).wide hs5 (Nat.le_refl _) (Nat.le_refl _), (k15.alloc _).also k9 (fun i hi e => by have := e.1; omega)⟩
              · have H := Lib.hid (show keepValue (([] : List (Int × Int)) ++ []) v = (keepRaw ([] : List (Int × Int)) v, true) by rw [List.append_nil]; exact keepValue_yes Hv.out hv2)
                have hs5 := k15.size
                go_wp2_with fail
                go_ret2
                rw [H.out]
                exact ⟨_, _, by rw [Hr.out]; simp <;> omega, o5.wide (by omega) (by have := k5.size; omega) (Nat.le_refl _), k15⟩
          · by_cases hcc : c = L.length
            · subst hcc
              go_wp2_with (at_builtin; refine wpList_appP _ rfl _ _ rfl w1.heap.size (w1.heap.size + 1) _ 0 [] rfl on1 _ _ (some ⟨g0, 0, none⟩) L.length (L) (Eq.trans (b := .slice (some ⟨g0, 0, none⟩) (L.length) L.length) (by rfl) (by simp)) (h1.keepNo ((Kp.refl _ _).alloc _)) (by simp <;> omega) (by simp) ?_; intro A3 c3 w3 o3 k3)
              have k13 : Kp No w w3 := kn.also k3 (fun i hi e => by have := e.1; omega)
              have P1 := Lib.hid (show ∀ W, Prs W lo hi (some ⟨g0, 0, none⟩) (L) → Prs W lo hi (some ⟨g0, 0, none⟩) L from fun W hW => hW)
              have P2 := Lib.hid (show ∀ W, Prs W lo hi (some ⟨g0, 0, none⟩) (L) → Prs W lo hi (some ⟨g0, 0, none⟩) ([]) from fun W hW => Row.empty hW.2.1)
              have s3 := k13.size
              have a1 := ownP_lit w3 w3.heap.size #[] [] rfl (Nat.le_refl _) (by simp)
              have a2 := a1.keepNo ((Kp.refl _ _).alloc (.cells #[.int .i64 v, .int .i64 1] 33))
              have a3 := ownP_lit (w3.alloc (.cells #[.int .i64 v, .int .i64 1] 33)) (w3.heap.size + 1) #[] [] rfl (by simp) (by simp)
              rw [show (w3.alloc (.cells #[.int .i64 v, .int .i64 1] 33)).heap.size = w3.heap.size + 1 by simp] at a3
              have l1 := prs_lit w3 v 1 33
              have l2 := prs_lit (w3.alloc (.cells #[] 33)) v 1 33
              rw [show (w3.alloc (.cells #[] 33)).heap.size = w3.heap.size + 1 by simp] at l2
              have A1 := Lib.hid a1; have A2 := Lib.hid a2; have A3' := Lib.hid a3; have L1 := Lib.hid l1; have L2 := Lib.hid l2
              clear a1 a2 a3 l1 l2
              have hIL : (0 : Int) ≤ (L.length : Int) := by omega
              skip
              have hIc : (L.length : Int) ≤ (L.length : Int) := by omega
              go_region_held3 (fun _ => True) (exact trivial)
                (first
                  | (refine step_appP _ (by rfl) (.tmp 53) (.tmp 56) (by rfl) _ _ _ _ [] (by rfl) (by first | exact A1.out.keepNo ((Kp.refl _ _).drew) | exact A2.out.keepNo ((Kp.refl _ _).drew) | exact A3'.out.keepNo ((Kp.refl _ _).drew) | exact A1.out | exact A2.out | exact A3'.out) _ _ (some ⟨g0, 0, none⟩) L.length L (by rfl) ((P1.out _ (h.keepNo k13)).keepNo (by repeat (first | exact Kp.refl _ _ | apply Kp.drew | apply Kp.alloc))) (by simp <;> omega) (by simp <;> omega) ?_; intro A4 c4 w4 o4 k4
                     have s4 := k4.size
                     try simp at s4
                     have q4 : Kp No w w4 := (by repeat (first | exact k13 | apply Kp.drew | apply Kp.alloc) : Kp No w _).also k4 (fun i hi e => by have := e.1; omega))
                  | (refine step_appP _ (by rfl) (.tmp 57) (.tmp 60) (by rfl) _ _ A4 c4 L (by first | rfl | exact Eq.trans (b := .slice A4 (([] : List (Int × Int)).length + L.length) c4) (by rfl) (by simp)) (by first | exact o4.keepNo (by repeat (first | exact Kp.refl _ _ | apply Kp.drew | apply Kp.alloc))) _ _ _ 1 [(v, 1)] (by rfl) (by first | exact prs_lit w4 v 1 33 | exact (L1.out.keepNo ((Kp.refl _ _).alloc _)).keep k4 (fun i h1 h2 h3 => by have := h3.1; (try simp at this h1); omega) | exact ((L1.out.keepNo ((Kp.refl _ _).alloc _)).keepNo ((Kp.refl _ _).drew)).keep k4 (fun i h1 h2 h3 => by have := h3.1; (try simp at this h1); omega) | exact L2.out.keep k4 (fun i h1 h2 h3 => by have := h3.2; (try simp at this h1); omega) | exact (L2.out.keepNo ((Kp.refl _ _).drew)).keep k4 (fun i h1 h2 h3 => by have := h3.2; (try simp at this h1); omega) | exact (prs_lit w4 v 1 33).keepNo ((Kp.refl _ _).drew) | exact (L1.out.keep k4 (fun i h1 h2 h3 => by have := h3.1; (try simp at this h1); omega)).keepNo ((Kp.refl _ _).drew) | exact (L2.out.keep k4 (fun i h1 h2 h3 => by have := h3.2; (try simp at this h1); omega)).keepNo ((Kp.refl _ _).drew)) (by simp <;> omega) (by first | omega | (simp; omega) | simp) ?_; intro A5 c5 w5 o5 k5
                     have s5 := k5.size
                     try simp at s5
                     have q5 : Kp No w w5 := (by repeat (first | exact q4 | apply Kp.drew | apply Kp.alloc) : Kp No w _).also k5 (fun i hi e => by have := e.1; omega))
                  | (refine step_appP _ (by rfl) (.tmp 61) (.tmp 64) (by rfl) _ _ A5 c5 (L ++ [(v, 1)]) (by first | rfl | exact Eq.trans (b := .slice A5 (L.length + 1) c5) (by rfl) (by simp) | exact Eq.trans (b := .slice A5 (L.length + [((v, 1) : Int × Int)].length) c5) (by rfl) (by simp)) (by first | exact o5.keepNo (by repeat (first | exact Kp.refl _ _ | apply Kp.drew | apply Kp.alloc))) _ _ (some ⟨g0, 0, none⟩) (0) ([]) (by rfl) ((P2.out _ (h.keepNo q5)).keepNo (by repeat (first | exact Kp.refl _ _ | apply Kp.drew | apply Kp.alloc))) (by simp <;> omega) (by first | omega | (simp; omega) | simp) ?_; intro A6 c6 w6 o6 k6
                     have s6 := k6.size
                     try simp at s6
                     have q6 : Kp No w w6 := (by repeat (first | exact q5 | apply Kp.drew | apply Kp.alloc) : Kp No w _).also k6 (fun i hi e => by have := e.1; omega)))
              all_goals
                go_wp2_with fail
                have o7 : OwnP w6 w3.heap.size w6.heap.size A6 c6 (keepRaw (L) v) := by rw [Hr.out]; simpa using o6.wide (by omega) (Nat.le_refl _) (Nat.le_refl _)
                refine (keptValid_n _ (keepRaw (L) v) _ _ _ _ _ o7.prs (by rw [Hr.out]; simp <;> omega) (by rw [Hr.out]; simp <;> omega)).mono ?_
                rintro e w5 ⟨rfl, k5⟩
                have o5 := o7.keepNo k5
                have k15 := q6.trans k5
                cases hv2 : keptB (keepRaw L v)
                · have H := Lib.hid (show keepValue (L ++ []) v = (L, false) by rw [List.append_nil]; exact keepValue_no Hv.out hv2)
                  have on5 := ownP_lit w5 w5.heap.size #[] [] rfl (Nat.le_refl _) (by simp)
                  have hs5 := k15.size
                  go_wp2_with (at_builtin; refine wpList_appP _ rfl _ _ rfl w5.heap.size (w5.heap.size + 1) _ 0 [] rfl on5 _ _ (some ⟨g0, 0, none⟩) L.length L (Eq.trans (b := .slice (some ⟨g0, 0, none⟩) (L.length) L.length) (by rfl) (by simp)) ((h.keepNo k15).keepNo ((Kp.refl _ _).alloc _)) (by simp <;> omega) (by simp) ?_; intro A9 c9 w9 o9 k9)
                  go_ret2
                  rw [H.out]
                  exact ⟨A9, c9, by simp, (by simpa using o9 : OwnP w9 w5.heap.size w9.heap.size A9 c9 L).wide hs5 (Nat.le_refl _) (Nat.le_refl _), (k15.alloc _).also k9 (fun i hi e => by have := e.1; omega)⟩
                · have H := Lib.hid (show keepValue (L ++ []) v = (keepRaw L v, true) by rw [List.append_nil]; exact keepValue_yes Hv.out hv2)
                  have hs5 := k15.size
                  go_wp2_with fail
                  go_ret2
                  rw [H.out]
                  exact ⟨_, _, by rw [Hr.out]; simp <;> omega, o5.wide (by omega) (by have := k5.size; omega) (Nat.le_refl _), k15⟩
            · go_wp2_with (at_builtin; refine wpList_appP _ rfl _ _ rfl w1.heap.size (w1.heap.size + 1) _ 0 [] rfl on1 _ _ (some ⟨g0, 0, none⟩) c (L) (Eq.trans (b := .slice (some ⟨g0, 0, none⟩) (L.length) c) (by rfl) (by simp)) (h1.keepNo ((Kp.refl _ _).alloc _)) (by simp <;> omega) (by simp) ?_; intro A3 c3 w3 o3 k3)
              have k13 : Kp No w w3 := kn.also k3 (fun i hi e => by have := e.1; omega)
              have P1 := Lib.hid (show ∀ W, Prs W lo hi (some ⟨g0, 0, none⟩) (L) → Prs W lo hi (some ⟨g0, 0, none⟩) L from fun W hW => hW)
              have P2 := Lib.hid (show ∀ W, Prs W lo hi (some ⟨g0, 0, none⟩) (L) → Prs W lo hi (some ⟨g0, L.length * 2, none⟩) ([]) from fun W hW => Row.empty hW.2.1)
              have s3 := k13.size
              have a1 := ownP_lit w3 w3.heap.size #[] [] rfl (Nat.le_refl _) (by simp)
              have a2 := a1.keepNo ((Kp.refl _ _).alloc (.cells #[.int .i64 v, .int .i64 1] 33))
              have a3 := ownP_lit (w3.alloc (.cells #[.int .i64 v, .int .i64 1] 33)) (w3.heap.size + 1) #[] [] rfl (by simp) (by simp)
              rw [show (w3.alloc (.cells #[.int .i64 v, .int .i64 1] 33)).heap.size = w3.heap.size + 1 by simp] at a3
              have l1 := prs_lit w3 v 1 33
              have l2 := prs_lit (w3.alloc (.cells #[] 33)) v 1 33
              rw [show (w3.alloc (.cells #[] 33)).heap.size = w3.heap.size + 1 by simp] at l2
              have A1 := Lib.hid a1; have A2 := Lib.hid a2; have A3' := Lib.hid a3; have L1 := Lib.hid l1; have L2 := Lib.hid l2
              clear a1 a2 a3 l1 l2
              have hIL : (0 : Int) ≤ (L.length : Int) := by omega
              have hcL : ¬ c = L.length := hcc
              have hcL2 : ¬ L.length = c := fun e => hcc e.symm
              have hIc : (L.length : Int) ≤ (c : Int) := by omega
              go_region_held3 (fun _ => True) (exact trivial)
                (first
                  | (refine step_appP _ (by rfl) (.tmp 53) (.tmp 56) (by rfl) _ _ _ _ [] (by rfl) (by first | exact A1.out.keepNo ((Kp.refl _ _).drew) | exact A2.out.keepNo ((Kp.refl _ _).drew) | exact A3'.out.keepNo ((Kp.refl _ _).drew) | exact A1.out | exact A2.out | exact A3'.out) _ _ (some ⟨g0, 0, none⟩) c L (by rfl) ((P1.out _ (h.keepNo k13)).keepNo (by repeat (first | exact Kp.refl _ _ | apply Kp.drew | apply Kp.alloc))) (by simp <;> omega) (by simp <;> omega) ?_; intro A4 c4 w4 o4 k4
                     have s4 := k4.size
                     try simp at s4
                     have q4 : Kp No w w4 := (by repeat (first | exact k13 | apply Kp.drew | apply Kp.alloc) : Kp No w _).also k4 (fun i hi e => by have := e.1; omega))
                  | (refine step_appP _ (by rfl) (.tmp 57) (.tmp 60) (by rfl) _ _ A4 c4 L (by first | rfl | exact Eq.trans (b := .slice A4 (([] : List (Int × Int)).length + L.length) c4) (by rfl) (by simp)) (by first | exact o4.keepNo (by repeat (first | exact Kp.refl _ _ | apply Kp.drew | apply Kp.alloc))) _ _ _ 1 [(v, 1)] (by rfl) (by first | exact prs_lit w4 v 1 33 | exact (L1.out.keepNo ((Kp.refl _ _).alloc _)).keep k4 (fun i h1 h2 h3 => by have := h3.1; (try simp at this h1); omega) | exact ((L1.out.keepNo ((Kp.refl _ _).alloc _)).keepNo ((Kp.refl _ _).drew)).keep k4 (fun i h1 h2 h3 => by have := h3.1; (try simp at this h1); omega) | exact L2.out.keep k4 (fun i h1 h2 h3 => by have := h3.2; (try simp at this h1); omega) | exact (L2.out.keepNo ((Kp.refl _ _).drew)).keep k4 (fun i h1 h2 h3 => by have := h3.2; (try simp at this h1); omega) | exact (prs_lit w4 v 1 33).keepNo ((Kp.refl _ _).drew) | exact (L1.out.keep k4 (fun i h1 h2 h3 => by have := h3.1; (try simp at this h1); omega)).keepNo ((Kp.refl _ _).drew) | exact (L2.out.keep k4 (fun i h1 h2 h3 => by have := h3.2; (try simp at this h1); omega)).keepNo ((Kp.refl _ _).drew)) (by simp <;> omega) (by first | omega | (simp; omega) | simp) ?_; intro A5 c5 w5 o5 k5
                     have s5 := k5.size
                     try simp at s5
                     have q5 : Kp No w w5 := (by repeat (first | exact q4 | apply Kp.drew | apply Kp.alloc) : Kp No w _).also k5 (fun i hi e => by have := e.1; omega))
                  | (refine step_appP _ (by rfl) (.tmp 61) (.tmp 64) (by rfl) _ _ A5 c5 (L ++ [(v, 1)]) (by first | rfl | exact Eq.trans (b := .slice A5 (L.length + 1) c5) (by rfl) (by simp) | exact Eq.trans (b := .slice A5 (L.length + [((v, 1) : Int × Int)].length) c5) (by rfl) (by simp)) (by first | exact o5.keepNo (by repeat (first | exact Kp.refl _ _ | apply Kp.drew | apply Kp.alloc))) _ _ (some ⟨g0, L.length * 2, none⟩) (c - L.length) ([]) (by rfl) ((P2.out _ (h.keepNo q5)).keepNo (by repeat (first | exact Kp.refl _ _ | apply Kp.drew | apply Kp.alloc))) (by simp <;> omega) (by first | omega | (simp; omega) | simp) ?_; intro A6 c6 w6 o6 k6
                     have s6 := k6.size
                     try simp at s6
                     have q6 : Kp No w w6 := (by repeat (first | exact q5 | apply Kp.drew | apply Kp.alloc) : Kp No w _).also k6 (fun i hi e => by have := e.1; omega)))
              all_goals
                go_wp2_with fail
                have o7 : OwnP w6 w3.heap.size w6.heap.size A6 c6 (keepRaw (L) v) := by rw [Hr.out]; simpa using o6.wide (by omega) (Nat.le_refl _) (Nat.le_refl _)
                refine (keptValid_n _ (keepRaw (L) v) _ _ _ _ _ o7.prs (by rw [Hr.out]; simp <;> omega) (by rw [Hr.out]; simp <;> omega)).mono ?_
                rintro e w5 ⟨rfl, k5⟩
                have o5 := o7.keepNo k5
                have k15 := q6.trans k5
                cases hv2 : keptB (keepRaw L v)
                · have H := Lib.hid (show keepValue (L ++ []) v = (L, false) by rw [List.append_nil]; exact keepValue_no Hv.out hv2)
                  have on5 := ownP_lit w5 w5.heap.size #[] [] rfl (Nat.le_refl _) (by simp)
                  have hs5 := k15.size
                  go_wp2_with (at_builtin; refine wpList_appP _ rfl _ _ rfl w5.heap.size (w5.heap.size + 1) _ 0 [] rfl on5 _ _ (some ⟨g0, 0, none⟩) c L (Eq.trans (b := .slice (some ⟨g0, 0, none⟩) (L.length) c) (by rfl) (by simp)) ((h.keepNo k15).keepNo ((Kp.refl _ _).alloc _)) (by simp <;> omega) (by simp) ?_; intro A9 c9 w9 o9 k9)
                  go_ret2
                  rw [H.out]
                  exact ⟨A9, c9, by simp, (by simpa using o9 : OwnP w9 w5.heap.size w9.heap.size A9 c9 L).wide hs5 (Nat.le_refl _) (Nat.le_refl _), (k15.alloc _).also k9 (fun i hi e => by have := e.1; omega)⟩
                · have H := Lib.hid (show keepValue (L ++ []) v = (keepRaw L v, true) by rw [List.append_nil]; exact keepValue_yes Hv.out hv2)
                  have hs5 := k15.size
                  go_wp2_with fail
                  go_ret2
                  rw [H.out]
                  exact ⟨_, _, by rw [Hr.out]; simp <;> omega, o5.wide (by omega) (by have := k5.size; omega) (Nat.le_refl _), k15⟩
        · have hR0 : (L ++ (x, y) :: R)[L.length]? = some (x, y) := hR0
          simp only [List.length_cons] at hs hcap hl10 hk
          obtain ⟨b, off, x', y', hA, hb1, hb2, hx, hc, hc2⟩ := h1.at_ (k := L.length) (by simp)
          obtain ⟨rfl, rfl⟩ : x = x' ∧ y = y' := by rw [hR0] at hx; simpa using hx
          subst hA
          clear hx
          by_cases hxv : x = v
          · subst hxv
            have hb : (x == x) = true := by simp
            have Hr := Lib.hid (show keepRaw (L ++ (x, y) :: R) x = (L ++ (x, y) :: R).set L.length (x, y + 1) from keepRaw_set Hpl.out hR0)
            obtain ⟨_, _, y0, y1⟩ := kept_at Hv.out hR0
            have HR0 := Lib.hid hR0
            clear hR0 hgo
            go_wp2_with (at_builtin; refine wpList_appP _ rfl _ _ rfl w1.heap.size (w1.heap.size + 1) _ 0 [] rfl on1 _ _ (some ⟨b, off, none⟩) c (L ++ (x, y) :: R) (Eq.trans (b := .slice (some ⟨b, off, none⟩) (L.length + (R.length + 1)) c) (by rfl) (by simp)) (h1.keepNo ((Kp.refl _ _).alloc _)) (by simp; omega) (by simp) ?_; intro A3 c3 w3 o3 k3; obtain ⟨g, rfl, hg1, hg2, d0, d1, e0, e1, f0, f1⟩ := keep_cells h1 o3 k3 HR0.out)
            simp only [List.nil_append] at o3
            have o4 := o3.set2 L.length (y + 1) HR0.out
            have k13 : Kp No w w3 := kn.also k3 (fun i hi e => by have := e.1; omega)
            have k14 : Kp No w (w3.setCell ⟨g, L.length * 2 + 1, none⟩ (.int .i64 (y + 1))) := k13.setCell (fun hh => absurd hh (by show ¬ g < _; omega)) _
            rw [← Hr.out] at o4
            refine (keptValid_n _ (keepRaw (L ++ (x, y) :: R) x) _ _ _ _ _ o4.prs (by rw [Hr.out]; simp; omega) (by rw [Hr.out]; simp <;> omega)).mono ?_
            rintro e w5 ⟨rfl, k5⟩
            have o5 := o4.keepNo k5
            have k15 := k14.trans k5
            cases hv2 : keptB (keepRaw (L ++ (x, y) :: R) x)
            · have H := Lib.hid (keepValue_no Hv.out hv2)
              have on5 := ownP_lit w5 w5.heap.size #[] [] rfl (Nat.le_refl _) (by simp)
              have hs5 := k15.size
              go_wp2_with (at_builtin; refine wpList_appP _ rfl _ _ rfl w5.heap.size (w5.heap.size + 1) _ 0 [] rfl on5 _ _ (some ⟨b, off, none⟩) c (L ++ (x, y) :: R) (Eq.trans (b := .slice (some ⟨b, off, none⟩) (L.length + (R.length + 1)) c) (by rfl) (by simp)) ((h.keepNo k15).keepNo ((Kp.refl _ _).alloc _)) (by simp <;> omega) (by simp) ?_; intro A9 c9 w9 o9 k9)
              go_ret2
              rw [H.out]
              exact ⟨A9, c9, by simp, (by simpa using o9 : OwnP w9 w5.heap.size w9.heap.size A9 c9 (L ++ (x, y) :: R)).wide hs5 (Nat.le_refl _) (Nat.le_refl _), (k15.alloc _).also k9 (fun i hi e => by have := e.1; omega)⟩
            · have H := Lib.hid (keepValue_yes Hv.out hv2)
              have hs5 := k15.size
              go_wp2_with fail
              go_ret2
              rw [H.out]
              exact ⟨_, _, by rw [Hr.out]; simp <;> omega, o5.wide (by omega) (by have := k5.size; first | omega | (simp [World.setCell] at this ⊢; omega)) (Nat.le_refl _), k15⟩
          · have Hr := Lib.hid (show keepRaw (L ++ (x, y) :: R) v = L ++ (v, 1) :: (x, y) :: R by
              have := keepRaw_ins Hpl.out (fun a b hab => by rw [hR0] at hab; injection hab with hab; injection hab with h1 h2; rw [← h1]; exact hxv)
              simpa using this)
            have hb : (x == v) = false := by simpa using hxv
            have HR0 := Lib.hid hR0
            have hgt : v < x := by
              rcases Int.lt_or_le x v with h | h
              · exact absurd ⟨x, y, hR0, h⟩ hgo
              · omega
            clear hR0 hgo hxv
            go_wp2_with (at_builtin; refine wpList_appP _ rfl _ _ rfl w1.heap.size (w1.heap.size + 1) _ 0 [] rfl on1 _ _ (some ⟨b, off, none⟩) c (L ++ (x, y) :: R) (Eq.trans (b := .slice (some ⟨b, off, none⟩) (L.length + (R.length + 1)) c) (by rfl) (by simp)) (h1.keepNo ((Kp.refl _ _).alloc _)) (by simp <;> omega) (by simp) ?_; intro A3 c3 w3 o3 k3; obtain ⟨g, rfl, hg1, hg2, d0, d1, e0, e1, f0, f1⟩ := keep_cells h1 o3 k3 HR0.out)
            have k13 : Kp No w w3 := kn.also k3 (fun i hi e => by have := e.1; omega)
            have P1 := Lib.hid (show ∀ W, Prs W lo hi (some ⟨b, off, none⟩) ((L ++ ((x, y) :: R))) → Prs W lo hi (some ⟨b, off, none⟩) L from fun W hW => by simpa using hW.cut (m := L.length) (by simp))
            have P2 := Lib.hid (show ∀ W, Prs W lo hi (some ⟨b, off, none⟩) ((L ++ ((x, y) :: R))) → Prs W lo hi (some ⟨b, off + L.length * 2, none⟩) (((x, y) :: R)) from fun W hW => by simpa using hW.from (m := L.length) (by simp))
            have s3 := k13.size
            have a1 := ownP_lit w3 w3.heap.size #[] [] rfl (Nat.le_refl _) (by simp)
            have a2 := a1.keepNo ((Kp.refl _ _).alloc (.cells #[.int .i64 v, .int .i64 1] 33))
            have a3 := ownP_lit (w3.alloc (.cells #[.int .i64 v, .int .i64 1] 33)) (w3.heap.size + 1) #[] [] rfl (by simp) (by simp)
            rw [show (w3.alloc (.cells #[.int .i64 v, .int .i64 1] 33)).heap.size = w3.heap.size + 1 by simp] at a3
            have l1 := prs_lit w3 v 1 33
            have l2 := prs_lit (w3.alloc (.cells #[] 33)) v 1 33
            rw [show (w3.alloc (.cells #[] 33)).heap.size = w3.heap.size + 1 by simp] at l2
            have A1 := Lib.hid a1; have A2 := Lib.hid a2; have A3' := Lib.hid a3; have L1 := Lib.hid l1; have L2 := Lib.hid l2
            clear a1 a2 a3 l1 l2
            have hIL : (0 : Int) ≤ (L.length : Int) := by omega
            have hcL : ¬ c = L.length := by omega
            have hcL2 : ¬ L.length = c := by omega
            have hI1 : (L.length : Int) ≤ (L.length : Int) + ((R.length : Int) + 1) := by omega
            have hI2 : (L.length : Int) + ((R.length : Int) + 1) ≤ (c : Int) := by omega
            have hI3 : (0 : Int) ≤ (L.length : Int) + ((R.length : Int) + 1) := by omega
            have hI4 : (((L.length : Int) + ((R.length : Int) + 1))).toNat = L.length + (R.length + 1) := by omega
            have hI5 : L.length + (R.length + 1) - L.length = R.length + 1 := by omega
            have hIc : (L.length : Int) ≤ (c : Int) := by omega
            go_region_held3 (fun _ => True) (exact trivial)
              (first
                | (refine step_appP _ (by rfl) (.tmp 53) (.tmp 56) (by rfl) _ _ _ _ [] (by rfl) (by first | exact A1.out.keepNo ((Kp.refl _ _).drew) | exact A2.out.keepNo ((Kp.refl _ _).drew) | exact A3'.out.keepNo ((Kp.refl _ _).drew) | exact A1.out | exact A2.out | exact A3'.out) _ _ (some ⟨b, off, none⟩) c L (by rfl) ((P1.out _ (h.keepNo k13)).keepNo (by repeat (first | exact Kp.refl _ _ | apply Kp.drew | apply Kp.alloc))) (by simp <;> omega) (by simp <;> omega) ?_; intro A4 c4 w4 o4 k4
                   have s4 := k4.size
                   try simp at s4
                   have q4 : Kp No w w4 := (by repeat (first | exact k13 | apply Kp.drew | apply Kp.alloc) : Kp No w _).also k4 (fun i hi e => by have := e.1; omega))
                | (refine step_appP _ (by rfl) (.tmp 57) (.tmp 60) (by rfl) _ _ A4 c4 L (by first | rfl | exact Eq.trans (b := .slice A4 (([] : List (Int × Int)).length + L.length) c4) (by rfl) (by simp)) (by first | exact o4.keepNo (by repeat (first | exact Kp.refl _ _ | apply Kp.drew | apply Kp.alloc))) _ _ _ 1 [(v, 1)] (by rfl) (by first | exact prs_lit w4 v 1 33 | exact (L1.out.keepNo ((Kp.refl _ _).alloc _)).keep k4 (fun i h1 h2 h3 => by have := h3.1; (try simp at this h1); omega) | exact ((L1.out.keepNo ((Kp.refl _ _).alloc _)).keepNo ((Kp.refl _ _).drew)).keep k4 (fun i h1 h2 h3 => by have := h3.1; (try simp at this h1); omega) | exact L2.out.keep k4 (fun i h1 h2 h3 => by have := h3.2; (try simp at this h1); omega) | exact (L2.out.keepNo ((Kp.refl _ _).drew)).keep k4 (fun i h1 h2 h3 => by have := h3.2; (try simp at this h1); omega) | exact (prs_lit w4 v 1 33).keepNo ((Kp.refl _ _).drew) | exact (L1.out.keep k4 (fun i h1 h2 h3 => by have := h3.1; (try simp at this h1); omega)).keepNo ((Kp.refl _ _).drew) | exact (L2.out.keep k4 (fun i h1 h2 h3 => by have := h3.2; (try simp at this h1); omega)).keepNo ((Kp.refl _ _).drew)) (by simp <;> omega) (by first | omega | (simp; omega) | simp) ?_; intro A5 c5 w5 o5 k5
                   have s5 := k5.size
                   try simp at s5
                   have q5 : Kp No w w5 := (by repeat (first | exact q4 | apply Kp.drew | apply Kp.alloc) : Kp No w _).also k5 (fun i hi e => by have := e.1; omega))
                | (refine step_appP _ (by rfl) (.tmp 61) (.tmp 64) (by rfl) _ _ A5 c5 (L ++ [(v, 1)]) (by first | rfl | exact Eq.trans (b := .slice A5 (L.length + 1) c5) (by rfl) (by simp) | exact Eq.trans (b := .slice A5 (L.length + [((v, 1) : Int × Int)].length) c5) (by rfl) (by simp)) (by first | exact o5.keepNo (by repeat (first | exact Kp.refl _ _ | apply Kp.drew | apply Kp.alloc))) _ _ (some ⟨b, off + L.length * 2, none⟩) (c - L.length) (((x, y) :: R)) (by rfl) ((P2.out _ (h.keepNo q5)).keepNo (by repeat (first | exact Kp.refl _ _ | apply Kp.drew | apply Kp.alloc))) (by simp <;> omega) (by first | omega | (simp; omega) | simp) ?_; intro A6 c6 w6 o6 k6
                   have s6 := k6.size
                   try simp at s6
                   have q6 : Kp No w w6 := (by repeat (first | exact q5 | apply Kp.drew | apply Kp.alloc) : Kp No w _).also k6 (fun i hi e => by have := e.1; omega)))
            all_goals
              go_wp2_with fail
              have o7 : OwnP w6 w3.heap.size w6.heap.size A6 c6 (keepRaw ((L ++ ((x, y) :: R))) v) := by rw [Hr.out]; simpa using o6.wide (by omega) (Nat.le_refl _) (Nat.le_refl _)
              refine (keptValid_n _ (keepRaw ((L ++ ((x, y) :: R))) v) _ _ _ _ _ o7.prs (by rw [Hr.out]; simp <;> omega) (by rw [Hr.out]; simp <;> omega)).mono ?_
              rintro e w5 ⟨rfl, k5⟩
              have o5 := o7.keepNo k5
              have k15 := q6.trans k5
              cases hv2 : keptB (keepRaw (L ++ ((x, y) :: R)) v)
              · have H := Lib.hid (keepValue_no Hv.out hv2)
                have on5 := ownP_lit w5 w5.heap.size #[] [] rfl (Nat.le_refl _) (by simp)
                have hs5 := k15.size
                go_wp2_with (at_builtin; refine wpList_appP _ rfl _ _ rfl w5.heap.size (w5.heap.size + 1) _ 0 [] rfl on5 _ _ (some ⟨b, off, none⟩) c (L ++ ((x, y) :: R)) (Eq.trans (b := .slice (some ⟨b, off, none⟩) (L.length + (R.length + 1)) c) (by rfl) (by simp)) ((h.keepNo k15).keepNo ((Kp.refl _ _).alloc _)) (by simp <;> omega) (by simp) ?_; intro A9 c9 w9 o9 k9)
                go_ret2
                rw [H.out]
                exact ⟨A9, c9, by simp, (by simpa using o9 : OwnP w9 w5.heap.size w9.heap.size A9 c9 (L ++ ((x, y) :: R))).wide hs5 (Nat.le_refl _) (Nat.le_refl _), (k15.alloc _).also k9 (fun i hi e => by have := e.1; omega)⟩
              · have H := Lib.hid (keepValue_yes Hv.out hv2)
                have hs5 := k15.size
                go_wp2_with fail
                go_ret2
                rw [H.out]
                exact ⟨_, _, by rw [Hr.out]; simp <;> omega, o5.wide (by omega) (by have := k5.size; omega) (Nat.le_refl _), k15⟩
end Go.Proofs.Yteabpdnlkncbpaa
