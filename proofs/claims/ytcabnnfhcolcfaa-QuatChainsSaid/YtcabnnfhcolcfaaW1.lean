/- Walks of the limbs: trim, cmp, word, Of. -/
import Derived.Test.YtcabnnfhcolcfaaMem
import Derived.Lib.Hide
import Derived.Deep.QuietTactic
import Derived.BigQuiet
namespace Go.Proofs.Ytcabnnfhcolcfaa
set_option linter.unusedSimpArgs false
set_option linter.unusedVariables false
open Go.RowKit

/-- What trim tells: the slice cut to its normal limbs, of no more room. -/
def Strip (w : World) (A : Option Addr) (n : Nat) (xs : List Int) (v : Value) : Prop := ∃ m ys, v = .slice A m m ∧ (m ≤ n ∧ m ≤ 9223372036854775807) ∧ Rd w A m ys ∧ Norm ys ∧ lv ys = lv xs
theorem Strip.nat {w : World} {A : Option Addr} {n : Nat} {xs : List Int} {v : Value} (h : Strip w A n xs v) : NatAt w v (lv xs) := by
  obtain ⟨m, ys, e, hm, hr, hn, hv⟩ := h
  exact ⟨A, m, m, ys, e, ⟨Nat.le_refl _, hm.2⟩, hr, hn, hv⟩

set_option maxHeartbeats 400000 in
theorem trim_any (A : Option Addr) (n c : Nat) (xs : List Int) (w : World) (hc : n ≤ c) (hm : c ≤ 9223372036854775807) (hr : Rd w A n xs) (ho : Okl xs) :
    Calls Try.prog 134 #[.slice A n c] w (Ret w (Strip w A n xs)) := by
  have HR := Lib.hid hr
  have HO := Lib.hid ho
  clear hr ho
  go_enter Try.func134, Try.ntmps134
  go_wp2
  go_loop [3] (fun v => ∃ m : Nat, m ≤ n ∧ v = .int .i64 m ∧ Hid (∀ j, m ≤ j → j < xs.length → lim xs j = 0)) (fun v => (intOf v).toNat)
  case atStart => exact ⟨n, by omega, rfl, Lib.hid fun j h1 h2 => by have := HR.out.1; omega⟩
  case round =>
    obtain ⟨m, hmn, rfl, HZ⟩ := hrel
    by_cases h0 : 0 < m
    · obtain ⟨ad, rfl, hcell⟩ := HR.out.at_ (m - 1) (by omega)
      have hb := HO.out.at_ (m - 1)
      go_wp2
      · have h1 : (lim xs (m - 1) == 0) = true := by assumption
        go_round
        case rel => exact ⟨m - 1, by omega, by go_num, Lib.hid fun j h2 h3 => by
          rcases Nat.lt_or_ge j m with h4 | h4
          · obtain rfl : j = m - 1 := by omega
            exact eq_of_beq h1
          · exact HZ.out j h4 h3⟩
        case measure => simp [intOf]; omega
      · have h1 : (lim xs (m - 1) == 0) = false := by assumption
        go_ret
        have h2 := strip_ok HO.out (m := m) (by rw [HR.out.1]; exact hmn) HZ.out (fun _ e => by rw [e] at h1; cases h1)
        exact Ret.mk ⟨m, _, rfl, ⟨hmn, by omega⟩, HR.out.take hmn, h2⟩
    · obtain rfl : m = 0 := by omega
      go_wp2
      go_ret
      have h2 := strip_ok HO.out (m := 0) (by omega) HZ.out (fun h => absurd h (by omega))
      exact Ret.mk ⟨0, _, rfl, ⟨hmn, by omega⟩, HR.out.take hmn, h2⟩

/-! ### a world in which some orders have been drawn -/
structure Drawn (w w' : World) : Prop where mk :: (out : ∃ n, w' = w.drewN n)
theorem Drawn.refl (w : World) : Drawn w w := ⟨⟨0, rfl⟩⟩
theorem Drawn.step {w w' : World} (h : Drawn w w') (n : Nat) : Drawn w (w'.drewN n) := by
  obtain ⟨m, rfl⟩ := h
  exact ⟨⟨m + n, World.drewN_drewN ..⟩⟩
theorem Drawn.below {w w' : World} (h : Drawn w w') : Below w.heap.size w w' := by
  obtain ⟨n, rfl⟩ := h
  exact below_drewN' (Below.refl _ _) n
theorem Rd.drawn {w w1 : World} {A : Option Addr} {n : Nat} {xs : List Int} (h : Rd w A n xs) (hb : Drawn w w1) : Rd w1 A n xs := h.below hb.below

/-! ### cmp -/
theorem lv_cmp_aux (xs ys : List Int) (hx : Okl xs) (hy : Okl ys) (hl : xs.length = ys.length) (i : Nat) (hi : i < xs.length) (he : ∀ j, i < j → j < xs.length → lim xs j = lim ys j) (hlt : lim xs i < lim ys i) : lv xs < lv ys := by
  have e1 : xs.drop (i + 1) = ys.drop (i + 1) := by
    refine List.ext_getElem (by simp [hl]) fun k h1 h2 => ?_
    have := he (i + 1 + k) (by omega) (by simp at h1; omega)
    unfold lim at this
    rw [List.getD_eq_getElem?_getD, List.getD_eq_getElem?_getD, List.getElem?_eq_getElem (by simp at h1; omega), List.getElem?_eq_getElem (by simp at h1; omega)] at this
    simpa using this
  have h1 := lv_take_drop xs (i + 1) (by omega)
  have h2 := lv_take_drop ys (i + 1) (by omega)
  rw [lv_take_succ xs i hi] at h1
  rw [lv_take_succ ys i (by omega)] at h2
  have h3 := lv_lt (hx.take i)
  have h4 := lv_nonneg (hy.take i)
  rw [List.length_take, Nat.min_eq_left (by omega)] at h3
  rw [e1] at h1
  have h5 := Int.mul_le_mul_of_nonneg_left (show lim xs i + 1 ≤ lim ys i by omega) (Int.le_of_lt (pow_pos64 i))
  rw [Int.mul_add, Int.mul_one] at h5
  omega
theorem lv_len_lt {xs ys : List Int} (hx : Norm xs) (hy : Norm ys) (hl : xs.length < ys.length) : lv xs < lv ys := by
  have h1 := lv_lt hx.1
  have h2 := hy.ge (by rintro rfl; simp at hl)
  have h3 := pow_mono64 (show xs.length ≤ ys.length - 1 by omega)
  omega
def cmpI (a b : Int) : Int := if a < b then -1 else if b < a then 1 else 0

set_option maxHeartbeats 400000 in
theorem cmp_any (va vb : Value) (a b : Int) (w : World) (ha : NatAt w va a) (hb : NatAt w vb b) (hla : Sm a) (hlb : Sm b) :
    Calls Try.prog 121 #[va, vb] w fun e w' => e = .returned (.int .i64 (cmpI a b)) ∧ Drawn w w' := by
  obtain ⟨A, n, c, xs, rfl, hc, hr, hn, hv⟩ := ha
  obtain ⟨B, m, d, ys, rfl, hd, hs, hm, hu⟩ := hb
  have h1 : n ≤ 1099511627777 := by rw [← hr.1]; exact hn.len hv hla
  have h2 : m ≤ 1099511627777 := by rw [← hs.1]; exact hm.len hu hlb
  clear hla hlb
  have HR := Lib.hid hr
  have HN := Lib.hid hn
  have HV := Lib.hid hv
  have HS := Lib.hid hs
  have HM := Lib.hid hm
  have HU := Lib.hid hu
  clear hr hn hv hs hm hu hc hd
  by_cases hlt : n < m
  · have h3 : a < b := by rw [← HV.out, ← HU.out]; exact lv_len_lt HN.out HM.out (by rw [HR.out.1, HS.out.1]; exact hlt)
    have h4 : cmpI a b = -1 := by unfold cmpI; rw [if_pos h3]
    rw [h4]; clear h3 h4
    go_enter Try.func121, Try.ntmps121
    go_wp2
    go_ret
    exact ⟨rfl, Drawn.refl _⟩
  by_cases hgt : m < n
  · have h3 : b < a := by rw [← HV.out, ← HU.out]; exact lv_len_lt HM.out HN.out (by rw [HR.out.1, HS.out.1]; exact hgt)
    have h4 : cmpI a b = 1 := by unfold cmpI; rw [if_neg (by omega), if_pos h3]
    rw [h4]; clear h3 h4
    go_enter Try.func121, Try.ntmps121
    go_wp2
    go_ret
    exact ⟨rfl, Drawn.refl _⟩
  obtain rfl : n = m := by omega
  clear hlt hgt
  have HD := Lib.hid (Drawn.refl w)
  go_enter Try.func121, Try.ntmps121
  go_wp2
  go_loopw [5] (fun v wr => ∃ k : Nat, k ≤ n ∧ v = .int .i64 ((k : Int) - 1) ∧ Hid (∀ j, k ≤ j → j < n → lim xs j = lim ys j) ∧ Hid (Drawn w wr)) (fun v _ => (intOf v + 1).toNat)
  case atStart => exact ⟨n, by omega, rfl, Lib.hid fun j h1 h2 => by omega, Lib.hid (Drawn.refl _)⟩
  case round =>
    obtain ⟨k, hk, rfl, HZ, HW⟩ := hrel
    by_cases h0 : 1 ≤ k
    · obtain ⟨ad, rfl, hca⟩ := (HR.out.drawn HW.out).at_ (k - 1) (by omega)
      obtain ⟨bd, rfl, hcb⟩ := (HS.out.drawn HW.out).at_ (k - 1) (by omega)
      have hba := HN.out.1.at_ (k - 1)
      have hbb := HM.out.1.at_ (k - 1)
      by_cases c1 : lim xs (k - 1) < lim ys (k - 1)
      · have h3 : a < b := by
          rw [← HV.out, ← HU.out]
          exact lv_cmp_aux xs ys HN.out.1 HM.out.1 (by rw [HR.out.1, HS.out.1]) (k - 1) (by have := HR.out.1; omega) (fun j h1 h2 => HZ.out j (by omega) (by have := HR.out.1; omega)) c1
        have h4 : cmpI a b = -1 := by unfold cmpI; rw [if_pos h3]
        have H4 := Lib.hid h4
        clear h3 h4
        go_wp2
        go_quiet (fail)
        go_wp2
        go_ret
        exact ⟨by rw [H4.out]; rfl, HW.out.step _⟩
      by_cases c2 : lim ys (k - 1) < lim xs (k - 1)
      · have h3 : b < a := by
          rw [← HV.out, ← HU.out]
          exact lv_cmp_aux ys xs HM.out.1 HN.out.1 (by rw [HR.out.1, HS.out.1]) (k - 1) (by have := HS.out.1; omega) (fun j h1 h2 => (HZ.out j (by omega) (by have := HS.out.1; omega)).symm) c2
        have h4 : cmpI a b = 1 := by unfold cmpI; rw [if_neg (by omega), if_pos h3]
        have H4 := Lib.hid h4
        clear h3 h4
        go_wp2
        go_quiet (fail)
        go_wp2
        go_quiet (fail)
        go_wp2
        go_ret
        exact ⟨by rw [H4.out]; rfl, (HW.out.step _).step _⟩
      go_wp2
      go_quiet (fail)
      go_wp2
      go_quiet (fail)
      go_wp2
      go_roundw
      case rel => exact ⟨k - 1, by omega, by go_num, Lib.hid fun j h1 h2 => by
        rcases Nat.lt_or_ge j k with h4 | h4
        · obtain rfl : j = k - 1 := by omega
          omega
        · exact HZ.out j h4 h2, Lib.hid (HW.out.step _)⟩
      case measure => simp [intOf]; omega
    · obtain rfl : k = 0 := by omega
      have h3 : a = b := by
        rw [← HV.out, ← HU.out]
        congr 1
        refine List.ext_getElem (by rw [HR.out.1, HS.out.1]) fun j h1 h2 => ?_
        have := HZ.out j (by omega) (by have := HR.out.1; omega)
        unfold lim at this
        rwa [List.getD_eq_getElem?_getD, List.getD_eq_getElem?_getD, List.getElem?_eq_getElem h1, List.getElem?_eq_getElem h2] at this
      have h4 : cmpI a b = 0 := by unfold cmpI; rw [if_neg (by omega), if_neg (by omega)]
      have H4 := Lib.hid h4
      clear h3 h4
      go_wp2
      go_ret
      exact ⟨by rw [H4.out]; rfl, HW.out⟩
end Go.Proofs.Ytcabnnfhcolcfaa
