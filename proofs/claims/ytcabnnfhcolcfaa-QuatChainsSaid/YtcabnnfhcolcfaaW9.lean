/- The walk of mul: the halves. -/
import Derived.Test.YtcabnnfhcolcfaaW8
import Derived.Deep.RegionHeld3
namespace Go.Proofs.Ytcabnnfhcolcfaa
set_option linter.unusedSimpArgs false
set_option linter.unusedVariables false
open Go.RowKit

theorem Norm.drop {xs : List Int} (h : Norm xs) (n : Nat) : Norm (xs.drop n) := by
  refine ⟨h.1.drop n, fun hn => ?_⟩
  have hx : xs ≠ [] := by rintro rfl; simp at hn
  have := h.2 hx
  rwa [List.getLast_drop]
theorem lv_drop {xs : List Int} (h : Okl xs) {n : Nat} (hn : n ≤ xs.length) : lv (xs.drop n) = lv xs / 18446744073709551616 ^ n ∧ lv (xs.take n) = lv xs % 18446744073709551616 ^ n := by
  have e1 := lv_take_drop xs n hn
  have e2 := lv_lt (h.take n)
  have e3 := lv_nonneg (h.take n)
  rw [List.length_take, Nat.min_eq_left hn] at e2
  have hp := pow_pos64 n
  rw [e1]
  refine ⟨?_, ?_⟩
  · rw [Int.add_mul_ediv_left _ _ (by omega), Int.ediv_eq_zero_of_lt e3 e2]; omega
  · rw [Int.add_mul_emod_self_left]; exact (Int.emod_eq_of_lt e3 e2).symm
theorem lv_small {xs : List Int} (h : Okl xs) {n : Nat} (hn : xs.length ≤ n) : lv xs / 18446744073709551616 ^ n = 0 ∧ lv xs % 18446744073709551616 ^ n = lv xs := by
  have e1 := lv_lt h
  have e2 := lv_nonneg h
  have e3 := pow_mono64 hn
  exact ⟨Int.ediv_eq_zero_of_lt e2 (by omega), Int.emod_eq_of_lt e2 (by omega)⟩

set_option maxHeartbeats 400000 in
theorem low_any (va : Value) (a : Int) (n : Nat) (p : Nat) (w : World) (ha : NatAt w va a) (hc : w.cell? ⟨p, 0, none⟩ = some (.int .i64 n)) (hn : n ≤ 1099511627777) (hla : Sm a) :
    Calls Try.prog 137 #[va, .pointer (some ⟨p, 0, none⟩)] w (RetB w fun v w' => NatAt w' v (a % 18446744073709551616 ^ n)) := by
  obtain ⟨A, l, c, xs, rfl, hc0, hr, hx, hv⟩ := ha
  have h1 : l ≤ 1099511627777 := by rw [← hr.1]; exact hx.len hv hla
  obtain ⟨m, hm⟩ : ∃ m : Nat, min (n : Int) (l : Int) = m := ⟨min n l, by omega⟩
  have hml : m ≤ l := by omega
  have hmn : m ≤ n := by omega
  have HT := Lib.hid (trim_any A m m (xs.take m) w (Nat.le_refl _) (by omega) (hr.take hml) (hx.1.take m))
  have e : lv (xs.take m) = a % 18446744073709551616 ^ n := by
    rw [← hv]
    by_cases hle : n ≤ l
    · obtain rfl : m = n := by omega
      exact (lv_drop hx.1 (by rw [hr.1]; exact hle)).2
    · obtain rfl : m = l := by omega
      rw [List.take_of_length_le (by rw [hr.1]; omega)]
      exact (lv_small hx.1 (by rw [hr.1]; omega)).2.symm
  have E := Lib.hid e
  clear hr hx hv e hla
  go_enter Try.func137, Try.ntmps137
  go_wp2_with ((go_at_call 134); (refine (HT.out).mono ?_); rintro e w' ⟨⟨v, rfl, hv⟩, rfl⟩)
  go_ret
  rw [← E.out]
  exact RetB.mk hv.nat (Below.refl _ _)
set_option maxHeartbeats 400000 in
theorem high_any (va : Value) (a : Int) (n : Nat) (p : Nat) (w : World) (ha : NatAt w va a) (hc : w.cell? ⟨p, 0, none⟩ = some (.int .i64 n)) (hn : n ≤ 1099511627777) (hla : Sm a) :
    Calls Try.prog 138 #[va, .pointer (some ⟨p, 0, none⟩)] w (RetB w fun v w' => NatAt w' v (a / 18446744073709551616 ^ n)) := by
  obtain ⟨A, l, c, xs, rfl, hc0, hr, hx, hv⟩ := ha
  have h1 : l ≤ 1099511627777 := by rw [← hr.1]; exact hx.len hv hla
  obtain ⟨m, hm⟩ : ∃ m : Nat, min (n : Int) (l : Int) = m := ⟨min n l, by omega⟩
  by_cases hle : n < l
  · obtain rfl : m = n := by omega
    have HN := Lib.hid (show NatAt w (.slice (A.map (fun x => x.add m)) (l - m) (c - m)) (a / 18446744073709551616 ^ m) from
      ⟨_, _, _, xs.drop m, rfl, ⟨by omega, by omega⟩, hr.drop hle, hx.drop m, by rw [← hv]; exact (lv_drop hx.1 (by rw [hr.1]; omega)).1⟩)
    clear hr hx hv hla
    go_enter Try.func138, Try.ntmps138
    go_wp2
    go_ret
    exact RetB.mk HN.out (Below.refl _ _)
  · obtain rfl : m = l := by omega
    have e : a / 18446744073709551616 ^ n = 0 := by rw [← hv]; exact (lv_small hx.1 (by rw [hr.1]; omega)).1
    have E := Lib.hid e
    clear hr hx hv hla e
    go_enter Try.func138, Try.ntmps138
    go_wp2
    all_goals go_ret
    all_goals rw [E.out]
    all_goals exact RetB.mk (by simp; exact NatAt.zero _ _ _ (by omega)) (Below.refl _ _)
end Go.Proofs.Ytcabnnfhcolcfaa
