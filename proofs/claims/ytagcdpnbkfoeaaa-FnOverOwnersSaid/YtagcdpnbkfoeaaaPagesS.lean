/- OwnerPages of the reference. -/
import Derived.Test.YtagcdpnbkfoeaaaPages
namespace Go.Proofs.Ytagcdpnbkfoeaaa
open Go.RowKit
set_option linter.unusedVariables false

/-- The pages of the first n owners. -/
def pl (os : List Int) (xss : List (List Int)) (n : Nat) : List Int := (List.range n).map fun j => (pg os xss j 8 : Int)
theorem pl_succ (os : List Int) (xss : List (List Int)) (n : Nat) : pl os xss (n + 1) = pl os xss n ++ [(pg os xss n 8 : Int)] := by simp [pl, List.range_succ]
theorem pl_len (os : List Int) (xss : List (List Int)) (n : Nat) : (pl os xss n).length = n := by simp [pl]
theorem pl_four (os : List Int) (xss : List (List Int)) : pl os xss 4 = p4 (fun n => pg os xss n 8) := rfl

theorem own_empty (w : World) (lo : Nat) (hlo : lo ≤ w.heap.size) : OwnI (w.alloc (.cells #[] 3)) lo (w.alloc (.cells #[] 3)).heap.size (some ⟨w.heap.size, 0, none⟩) 0 [] :=
  Own.of (World.ownsRow_lit w #[] 0 hlo (by decide) rfl)

set_option maxHeartbeats 4000000 in
theorem ownerPages_spec (A : Option Addr) (xss : List (List Int)) (c lo hi : Nat) (B : Option Addr) (os : List Int) (d lo' hi' : Nat) (w : World) (h : Grid w lo hi A xss) (hs : xss.length ≤ 4000000) (hr : ∀ (k : Nat) (xs : List Int), xss[k]? = some xs → xs.length ≤ 4000000) (ho_ : Ints w lo' hi' B os) (hos : os.length ≤ 4000000) :
    Calls Try.prog 18 #[.agg #[.slice A xss.length c], .slice B os.length d] w (NewI w (ownerPages xss os)) := by
  have hbx := (BoxT.new w 32 A xss.length c).keepNo ((Kp.refl No _).alloc (.cells #[] 3))
  have ka := ((Kp.refl No w).alloc (.cells #[.slice A xss.length c] 32)).alloc (.cells #[] 3)
  have oa : OwnI ((w.alloc (.cells #[.slice A xss.length c] 32)).alloc (.cells #[] 3)) (w.heap.size + 1) ((w.alloc (.cells #[.slice A xss.length c] 32)).alloc (.cells #[] 3)).heap.size (some ⟨w.heap.size + 1, 0, none⟩) 0 [] := by
    have e : (w.alloc (.cells #[.slice A xss.length c] 32)).heap.size = w.heap.size + 1 := by simp
    have := own_empty (w.alloc (.cells #[.slice A xss.length c] 32)) (w.heap.size + 1) (Nat.le_of_eq e.symm)
    rw [e] at this
    exact this
  go_enter Try.func18, Try.ntmps18
  by_cases hall : (tableB xss && ownersValid os) = true
  · have Hp := Lib.hid (show ownerPages xss os = pl os xss 4 by rw [pl_four]; simp only [ownerPages, hall]; rfl)
    obtain ⟨hv, hw⟩ := Bool.and_eq_true_iff.1 hall
    have Hv := Lib.hid (tableB_dec hv); have Hw := Lib.hid (ownersValid_dec hw)
    have hl1 : xss.length ≤ 8 := Nat.le_of_eq Hv.out.1
    have hl2 : 8 ≤ xss.length := Nat.le_of_eq Hv.out.1.symm
    have ho1 : os.length ≤ 8 := Nat.le_of_eq Hw.out.1
    have ho2 : 8 ≤ os.length := Nat.le_of_eq Hw.out.1.symm
    clear hall
    go_wp2_with fail
    go_loopw [5, 6] (fun v i wr => ∃ (n : Nat) (A2 : Option Addr) (c2 : Nat), n ≤ 4 ∧ i = .int .i64 n ∧ v = .slice A2 n c2 ∧ OwnI wr (w.heap.size + 1) wr.heap.size A2 c2 (pl os xss n) ∧ BoxT wr w.heap.size A xss.length c ∧ Kp No w wr) (fun _ i _ => 4 - (intOf i).toNat)
    case atStart => exact ⟨0, _, 0, by omega, rfl, rfl, oa, hbx, ka⟩
    case round =>
      clear oa hbx ka
      obtain ⟨n, A2, c2, hn, rfl, rfl, hown, hbox, hkp⟩ := hrel
      have Hbox := Lib.hid hbox
      obtain ⟨bx0, bxf, bxl⟩ := hbox
      by_cases hn4 : n < 4
      · go_wp2_with fail
        refine (tableValid_spec _ _ _ _ _ _ (h.keepNo hkp) hs hr).mono ?_
        rintro e w3 ⟨rfl, k3⟩
        rw [hv]
        have hkp3 := hkp.trans k3
        have hown3 := (hown.keepNo k3).wide (Nat.le_refl _) k3.size (Nat.le_refl _)
        have Hbox3 := Lib.hid (Hbox.out.keepNo k3)
        have hsz3 := k3.size
        clear hkp hown Hbox bx0 bxf bxl
        go_wp2_with fail
        refine (ownersValid_spec _ _ _ _ _ _ (ho_.keepNo hkp3) hos).mono ?_
        rintro e w' ⟨rfl, rfl⟩
        rw [hw]
        go_wp2_with fail
        go_loop [7, 8] (fun v i => ∃ f : Nat, f ≤ 8 ∧ i = .int .i64 f ∧ v = .int .i64 (pg os xss n f)) (fun _ i => 8 - (intOf i).toNat)
        case atStart => exact ⟨0, by omega, rfl, rfl⟩
        case round =>
          obtain ⟨f, hf, rfl, rfl⟩ := hrel
          by_cases hf8 : f < 8
          · obtain ⟨b, off, A', c', xs, rfl, hb1, hb2, hx, hc, hi, hcap⟩ := (h.keepNo hkp3).at_ (k := f) (by omega)
            obtain ⟨bo, offo, o, rfl, hbo1, hbo2, ho, hco⟩ := (ho_.keepNo hkp3).at_ (k := f) (by omega)
            have h6 := Hv.out.2.1 xs (List.mem_of_getElem? hx)
            have h6a : xs.length ≤ 6 := Nat.le_of_eq h6
            have h6b : 6 ≤ xs.length := Nat.le_of_eq h6.symm
            have Hx := Lib.hid hx; have Ho := Lib.hid ho; have H6 := Lib.hid h6
            obtain ⟨bx0, bxf, bxl⟩ := Hbox3.out
            clear hx ho h6
            go_wp2_with fail
            go_loop [7, 9] (fun v i => ∃ k : Nat, k ≤ 6 ∧ i = .int .i64 k ∧ v = .int .i64 (pgk os xss f xs k n)) (fun _ i => 6 - (intOf i).toNat)
            case atStart => exact ⟨0, by omega, rfl, by rw [pgk_zero]⟩
            case round =>
              obtain ⟨k, hk, rfl, rfl⟩ := hrel
              by_cases hk6 : k < 6
              · obtain ⟨b1, off1, x, rfl, hb11, hb12, hxk, hc1⟩ := hi.at_ (k := k) (by omega)
                have Hs := Lib.hid (pgk_succ (os := os) (xss := xss) (f := f) hxk n)
                clear hxk
                have hbd := pgk_le (os := os) (k := k) Hv.out.2.1 Hx.out hf8 n
                have hadd : IntKind.i64.wrap ((pgk os xss f xs k n : Int) + 1) = (pgk os xss f xs k n : Int) + 1 := IntWalk.i64_in _ (by omega)
                by_cases he : o = (n : Int)
                · have hbe : (o == (n : Int)) = true := by simpa using he
                  by_cases hx0 : 0 ≤ x
                  · have Hs' := Lib.hid (show pgk os xss f xs (k + 1) n = pgk os xss f xs k n + 1 by rw [Hs.out, if_pos ⟨by rw [Ho.out, he], hx0⟩])
                    clear he
                    go_wp2_with fail
                    go_round
                    case rel => exact ⟨k + 1, by omega, by go_num, by rw [Hs'.out]; go_num⟩
                    case measure => simp [intOf]; omega
                  · have Hs' := Lib.hid (show pgk os xss f xs (k + 1) n = pgk os xss f xs k n by rw [Hs.out, if_neg (fun hh => hx0 hh.2)]; rfl)
                    clear he
                    go_wp2_with fail
                    go_round
                    case rel => exact ⟨k + 1, by omega, by go_num, by rw [Hs'.out]⟩
                    case measure => simp [intOf]; omega
                · have hbe : (o == (n : Int)) = false := by simpa using he
                  have Hs' := Lib.hid (show pgk os xss f xs (k + 1) n = pgk os xss f xs k n by rw [Hs.out, if_neg (fun hh => he (by have := hh.1; rw [Ho.out] at this; injection this))]; rfl)
                  clear he
                  go_wp2_with fail
                  go_round
                  case rel => exact ⟨k + 1, by omega, by go_num, by rw [Hs'.out]⟩
                  case measure => simp [intOf]; omega
              · obtain rfl : k = 6 := by omega
                go_wp2_with fail
                go_round
                case rel => exact ⟨f + 1, by omega, by go_num, by rw [← pgk_row Hx.out n, H6.out]⟩
                case measure => simp [intOf]; omega
          · obtain rfl : f = 8 := by omega
            clear hsz3
            go_wp2_with (at_builtin; (refine wpList_appI _ rfl _ _ rfl (w.heap.size + 1) w3.heap.size A2 c2 (pl os xss n) (congrArg (fun m => Value.slice A2 m c2) (pl_len os xss n)).symm (hown3.keepNo ((Kp.refl _ _).alloc _)) _ _ _ _ [(pg os xss n 8 : Int)] rfl (ints_lit _ _ _) (by simp [pl_len]; omega) (by simp; have := hkp3.size; omega) ?_; intro A4 c4 w4 ho4 hk4))
            have hsz := hkp3.size
            have kA : Kp No w3 (w3.alloc (.cells #[.int .i64 (pg os xss n 8)] 3)) := (Kp.refl _ _).alloc _
            go_roundw
            case rel => exact ⟨n + 1, A4, c4, by omega, by go_num, by rw [pl_len], by rw [pl_succ]; exact ho4, (Hbox3.out.keepNo kA).keep hk4 (fun e => by have := e.1; omega), (hkp3.trans kA).also hk4 (fun i hi e => by have := e.1; omega)⟩
            case measure => simp [intOf]; omega
      · obtain rfl : n = 4 := by omega
        go_wp2_with fail
        go_ret
        rw [Hp.out]
        exact ⟨A2, c2, rfl, hown.wide (by omega) (Nat.le_refl _) (Nat.le_refl _), hkp⟩
  · have Hn := Lib.hid (show ownerPages xss os = [] by simp only [ownerPages, hall]; rfl)
    go_wp2_with fail
    go_loopw [5, 6] (fun v i wr => i = .int .i64 0 ∧ v = .slice (some ⟨w.heap.size + 1, 0, none⟩) 0 0 ∧ OwnI wr (w.heap.size + 1) wr.heap.size (some ⟨w.heap.size + 1, 0, none⟩) 0 [] ∧ BoxT wr w.heap.size A xss.length c ∧ Kp No w wr) (fun _ i _ => 4 - (intOf i).toNat)
    case atStart => exact ⟨rfl, rfl, oa, hbx, ka⟩
    case round =>
      clear oa hbx ka
      obtain ⟨rfl, rfl, hown, hbox, hkp⟩ := hrel
      obtain ⟨bx0, bxf, bxl⟩ := hbox
      go_wp2_with fail
      refine (tableValid_spec _ _ _ _ _ _ (h.keepNo hkp) hs hr).mono ?_
      rintro e w3 ⟨rfl, k3⟩
      have hkp3 := hkp.trans k3
      have hown3 := hown.keepNo k3
      have hsz3 := k3.size
      clear hkp hown bx0 bxf bxl
      cases hv : tableB xss
      · go_wp2_with fail
        go_ret
        rw [Hn.out]
        exact ⟨_, 0, rfl, hown3.wide (by omega) hsz3 (Nat.le_refl _), hkp3⟩
      · have hw : ownersValid os = false := by
          cases hw : ownersValid os with
          | false => rfl
          | true => rw [hv, hw] at hall; exact absurd rfl hall
        go_wp2_with fail
        refine (ownersValid_spec _ _ _ _ _ _ (ho_.keepNo hkp3) hos).mono ?_
        rintro e w' ⟨rfl, rfl⟩
        rw [hw]
        go_wp2_with fail
        go_ret
        rw [Hn.out]
        exact ⟨_, 0, rfl, hown3.wide (by omega) hsz3 (Nat.le_refl _), hkp3⟩
end Go.Proofs.Ytagcdpnbkfoeaaa
