/- math/bits: Div64. -/
import Derived.Test.YtcabnnfhcolcfaaW6
import Derived.Test.YtcabnnfhcolcfaaB1
namespace Go.Proofs.Ytcabnnfhcolcfaa
set_option linter.unusedSimpArgs false
set_option linter.unusedVariables false
open Go.RowKit

/-- A digit of the quotient: u 2^32 + d over y. -/
structure Dig (y u d q r : Int) : Prop where
  hq : 0 ≤ q
  hr : 0 ≤ r
  e : q * (y / 4294967296) + r = u
  ge : (u * 4294967296 + d) / y ≤ q
theorem Dig.bound {y u d : Int} (hy : 9223372036854775808 ≤ y ∧ y < 18446744073709551616) (hu : 0 ≤ u ∧ u < y) (hd : 0 ≤ d ∧ d < 4294967296) : 0 ≤ (u * 4294967296 + d) / y ∧ (u * 4294967296 + d) / y < 4294967296 := by
  refine ⟨Int.ediv_nonneg (by omega) (by omega), Int.ediv_lt_of_lt_mul (by omega) ?_⟩
  omega
theorem Dig.down {y u d q r : Int} (hy : 9223372036854775808 ≤ y ∧ y < 18446744073709551616) (hu : 0 ≤ u ∧ u < y) (hd : 0 ≤ d ∧ d < 4294967296) (h : Dig y u d q r)
    (hc : 4294967296 ≤ q ∨ 4294967296 * r + d < q * (y % 4294967296)) : Dig y u d (q - 1) (r + y / 4294967296) := by
  have hb := Dig.bound hy hu hd
  have hlt : (u * 4294967296 + d) / y < q := by
    rcases hc with hc | hc
    · omega
    · refine Int.ediv_lt_of_lt_mul (by omega) ?_
      have e1 := Int.emod_add_mul_ediv y 4294967296
      have e2 : q * y = q * (y % 4294967296) + 4294967296 * (q * (y / 4294967296)) := by
        calc q * y = q * (y % 4294967296 + 4294967296 * (y / 4294967296)) := by rw [e1]
          _ = _ := by grind
      have e3 := h.e
      rw [e2]
      omega
  exact ⟨by omega, by have := h.hr; omega, by have := h.e; rw [Int.sub_mul]; omega, by omega⟩
theorem Dig.done {y u d q r : Int} (hy : 9223372036854775808 ≤ y ∧ y < 18446744073709551616) (hu : 0 ≤ u ∧ u < y) (hd : 0 ≤ d ∧ d < 4294967296) (h : Dig y u d q r)
    (hc : q * (y % 4294967296) ≤ 4294967296 * r + d) : q = (u * 4294967296 + d) / y := by
  have h1 : q ≤ (u * 4294967296 + d) / y := by
    refine Int.le_ediv_of_mul_le (by omega) ?_
    have e1 := Int.emod_add_mul_ediv y 4294967296
    have e2 : q * y = q * (y % 4294967296) + 4294967296 * (q * (y / 4294967296)) := by
      calc q * y = q * (y % 4294967296 + 4294967296 * (y / 4294967296)) := by rw [e1]
        _ = _ := by grind
    have e3 := h.e
    rw [e2]
    omega
  have := h.ge
  omega
theorem Dig.broke {y u d q r : Int} (hy : 9223372036854775808 ≤ y ∧ y < 18446744073709551616) (hu : 0 ≤ u ∧ u < y) (hd : 0 ≤ d ∧ d < 4294967296) (h : Dig y u d q r)
    (hq : q ≤ 4294967296) (hr : 4294967296 ≤ r) : q = (u * 4294967296 + d) / y := by
  refine Dig.done hy hu hd h ?_
  have h0 := h.hq
  have h1 : q * (y % 4294967296) ≤ q * 4294967296 := Int.mul_le_mul_of_nonneg_left (by omega) h0
  omega
theorem Dig.start {y u d : Int} (hy : 9223372036854775808 ≤ y ∧ y < 18446744073709551616) (hu : 0 ≤ u ∧ u < y) (hd : 0 ≤ d ∧ d < 4294967296) :
    Dig y u d (u / (y / 4294967296)) (u % (y / 4294967296)) ∧ u / (y / 4294967296) ≤ 4294967297 := by
  have hb := Dig.bound hy hu hd
  have ha : 2147483648 ≤ y / 4294967296 ∧ y / 4294967296 < 4294967296 := by omega
  have e1 := Int.emod_add_mul_ediv u (y / 4294967296)
  have e2 := Int.emod_nonneg u (show y / 4294967296 ≠ 0 by omega)
  have e3 := Int.emod_lt_of_pos u (show 0 < y / 4294967296 by omega)
  refine ⟨⟨Int.ediv_nonneg hu.1 (by omega), e2, by rw [Int.mul_comm]; omega, ?_⟩, ?_⟩
  · -- the guess is not too low
    refine Int.le_ediv_of_mul_le (by omega) ?_
    have e4 : (u * 4294967296 + d) / y * y ≤ u * 4294967296 + d := Int.ediv_mul_le _ (by omega)
    have e5 : (u * 4294967296 + d) / y * (y / 4294967296 * 4294967296) ≤ (u * 4294967296 + d) / y * y := Int.mul_le_mul_of_nonneg_left (by omega) hb.1
    have e6 : (u * 4294967296 + d) / y * (y / 4294967296 * 4294967296) = (u * 4294967296 + d) / y * (y / 4294967296) * 4294967296 := by grind
    omega
  · refine Int.le_of_lt_add_one (Int.ediv_lt_of_lt_mul (by omega) ?_)
    omega
theorem bitLen_zero : Lib.bitLen 0 = 0 := by decide +kernel
theorem bitLen_spec : ∀ x : Nat, 0 < x → x < 18446744073709551616 → 2 ^ (Lib.bitLen x - 1) ≤ x ∧ x < 2 ^ Lib.bitLen x ∧ 0 < Lib.bitLen x := by
  intro x
  induction x using Nat.strongRecOn with
  | ind x ih =>
    intro h0 h1
    have e := Lib.bitLen_half x (by omega) h1
    rcases Nat.lt_or_ge x 2 with h2 | h2
    · have : x = 1 := by omega
      subst this
      rw [e, bitLen_zero]; decide
    · obtain ⟨a, b, c⟩ := ih (x / 2) (by omega) (by omega) (by omega)
      have p1 : 2 ^ (1 + Lib.bitLen (x / 2)) = 2 * 2 ^ Lib.bitLen (x / 2) := by rw [Nat.pow_add]
      have p2 : 2 ^ (1 + Lib.bitLen (x / 2) - 1) = 2 * 2 ^ (Lib.bitLen (x / 2) - 1) := by
        rw [show 1 + Lib.bitLen (x / 2) - 1 = 1 + (Lib.bitLen (x / 2) - 1) by omega, Nat.pow_add]
      rw [e, p1, p2]
      omega
set_option maxRecDepth 10000 in
/-- How far a limb is shifted to have its highest bit 1. -/
theorem lz_spec (y : Int) (h0 : 0 < y) (h1 : y < 18446744073709551616) : ∃ s : Nat, 64 - (Lib.bitLen y.toNat : Int) = s ∧ s < 64 ∧ 9223372036854775808 ≤ y * 2 ^ s ∧ y * 2 ^ s < 18446744073709551616 := by
  obtain ⟨a, b, c⟩ := bitLen_spec y.toNat (by omega) (by omega)
  have l : Lib.bitLen y.toNat ≤ 64 := Lib.bitLen_le y.toNat 64 (by omega) (by omega)
  obtain ⟨n, rfl⟩ := Int.eq_ofNat_of_zero_le (Int.le_of_lt h0)
  simp only [Int.toNat_natCast] at a b c l ⊢
  refine ⟨64 - Lib.bitLen n, by omega, by omega, ?_, ?_⟩
  · have e1 : 2 ^ (Lib.bitLen n - 1) * 2 ^ (64 - Lib.bitLen n) = 9223372036854775808 := by
      rw [← Nat.pow_add, show Lib.bitLen n - 1 + (64 - Lib.bitLen n) = 63 by omega]
    have := Nat.mul_le_mul_right (2 ^ (64 - Lib.bitLen n)) a
    have e2 : (9223372036854775808 : Nat) ≤ n * 2 ^ (64 - Lib.bitLen n) := by omega
    have e3 : ((9223372036854775808 : Nat) : Int) ≤ ((n * 2 ^ (64 - Lib.bitLen n) : Nat) : Int) := Int.ofNat_le.2 e2
    rw [Int.natCast_mul, Int.natCast_pow] at e3
    exact e3
  · have e1 : 2 ^ Lib.bitLen n * 2 ^ (64 - Lib.bitLen n) = 18446744073709551616 := by
      rw [← Nat.pow_add, show Lib.bitLen n + (64 - Lib.bitLen n) = 64 by omega]
    have := (Nat.mul_lt_mul_right (Nat.two_pow_pos (64 - Lib.bitLen n))).2 b
    have e2 : n * 2 ^ (64 - Lib.bitLen n) < 18446744073709551616 := by omega
    have e3 : ((n * 2 ^ (64 - Lib.bitLen n) : Nat) : Int) < ((18446744073709551616 : Nat) : Int) := Int.ofNat_lt.2 e2
    rw [Int.natCast_mul, Int.natCast_pow] at e3
    exact e3

set_option maxHeartbeats 400000 in
set_option maxRecDepth 100000 in
theorem div64_low (lo y : Int) (w : World) (hl : 0 ≤ lo ∧ lo < 18446744073709551616) (hy : 0 < y ∧ y < 18446744073709551616) :
    Calls Try.prog 145 #[.int .u64 0, .int .u64 lo, .int .u64 y] w fun e w' => e = .returned (.tuple #[.int .u64 (lo / y), .int .u64 (lo % y)]) ∧ Drawn w w' := by
  have h0 : (y == 0) = false := by rw [beq_eq_false_iff_ne]; omega
  have h1 : (y != 0) = true := by rw [bne_iff_ne]; omega
  go_enter Try.func145, Try.ntmps145
  go_wp2
  go_quiet (fail)
  go_wp2
  go_ret2
  exact ⟨rfl, (Drawn.refl _).step _⟩

/-- The numbers that Div64 makes of a limb y shifted by s, and of hi, lo. -/
theorem div64_parts {hi lo y : Int} {s : Nat} (hs : s < 64) (hh : 0 < hi ∧ hi < y) (hl : 0 ≤ lo ∧ lo < 18446744073709551616) (hn1 : 9223372036854775808 ≤ y * 2 ^ s) (hn2 : y * 2 ^ s < 18446744073709551616) :
    ∃ U L, bits .or .u64 (IntKind.u64.wrap (hi * 2 ^ s)) (lo / 2 ^ (64 - s)) = U ∧ IntKind.u64.wrap (lo * 2 ^ s) = L ∧ 0 ≤ U ∧ U < y * 2 ^ s ∧ 0 ≤ L ∧ L < 18446744073709551616 ∧ U * 18446744073709551616 + L = (hi * 18446744073709551616 + lo) * 2 ^ s := by
  have hp := pow2_pos s
  have h1 : hi * 2 ^ s < y * 2 ^ s := Int.mul_lt_mul_of_pos_right hh.2 hp
  have h2 : 0 ≤ hi * 2 ^ s := Int.mul_nonneg (by omega) (by omega)
  obtain ⟨m, e1, m0, m1, e2, q0, q1⟩ := shl_parts (x := lo) hs hl
  have hw : IntKind.u64.wrap (hi * 2 ^ s) = 2 ^ s * hi := by rw [wrap_u64, Int.mul_comm]; rw [Int.mul_comm] at h1 h2; omega
  have hlt : 2 ^ s * hi + lo / 2 ^ (64 - s) < y * 2 ^ s := by
    have h3 : (hi + 1) * 2 ^ s ≤ y * 2 ^ s := Int.mul_le_mul_of_nonneg_right (by omega) (by omega)
    have h4 : (hi + 1) * 2 ^ s = 2 ^ s * hi + 2 ^ s := by grind
    omega
  have hpm : 0 ≤ 2 ^ s * hi := by rw [Int.mul_comm]; exact h2
  refine ⟨2 ^ s * hi + lo / 2 ^ (64 - s), 2 ^ s * m, ?_, e1, by omega, hlt, Int.mul_nonneg (by omega) m0, ?_, ?_⟩
  · rw [hw, u64_or _ _ hpm (by omega) q0 (by omega)]
    obtain ⟨h', rfl⟩ := Int.eq_ofNat_of_zero_le (show 0 ≤ hi by omega)
    obtain ⟨q', e3⟩ := Int.eq_ofNat_of_zero_le q0
    rw [e3]
    rw [e3] at q1
    have e : ((2 : Int) ^ s * (h' : Int)) = ((2 ^ s * h' : Nat) : Int) := by simp
    rw [e, Int.toNat_natCast, Int.toNat_natCast, nat_join s (2 ^ s * h') q' (by simp) (by exact_mod_cast q1)]
    simp
  · have hpq := pq64 hs
    have := Int.mul_lt_mul_of_pos_left m1 hp
    rw [hpq] at this
    exact this
  · have hpq := pq64 hs
    have e3 : (hi * 18446744073709551616 + lo) * 2 ^ s = (hi * 18446744073709551616 + (2 ^ (64 - s) * (lo / 2 ^ (64 - s)) + m)) * 2 ^ s := by rw [← e2]
    have e4 : (hi * 18446744073709551616 + (2 ^ (64 - s) * (lo / 2 ^ (64 - s)) + m)) * 2 ^ s = hi * 18446744073709551616 * 2 ^ s + (2 ^ s * 2 ^ (64 - s)) * (lo / 2 ^ (64 - s)) + 2 ^ s * m := by grind
    rw [e3, e4, hpq]
    grind
theorem and_mask (a : Int) (h0 : 0 ≤ a) (h1 : a < 18446744073709551616) : bits .and .u64 a 4294967295 = a % 4294967296 := by
  obtain ⟨a, rfl⟩ := Int.eq_ofNat_of_zero_le h0
  rw [mul_mask a (by omega)]
  rfl

/-- What stands behind a digit: the rest, in wrapping arithmetic. -/
theorem dig_rest {Y u d q : Int} (hY : 9223372036854775808 ≤ Y ∧ Y < 18446744073709551616) (hu : 0 ≤ u ∧ u < Y) (hd : 0 ≤ d ∧ d < 4294967296) (e : q = (u * 4294967296 + d) / Y) :
    ∃ V, IntKind.u64.wrap (IntKind.u64.wrap (IntKind.u64.wrap (u * 4294967296) + d) - IntKind.u64.wrap (q * Y)) = V ∧ 0 ≤ V ∧ V < Y ∧ u * 4294967296 + d = q * Y + V ∧ 0 ≤ q ∧ q < 4294967296 := by
  have hb := Dig.bound hY hu hd
  have e1 := Int.emod_add_mul_ediv (u * 4294967296 + d) Y
  have e2 := Int.emod_nonneg (u * 4294967296 + d) (show Y ≠ 0 by omega)
  have e3 := Int.emod_lt_of_pos (u * 4294967296 + d) (show 0 < Y by omega)
  rw [← e] at hb e1
  have e4 : Y * q = q * Y := Int.mul_comm _ _
  refine ⟨(u * 4294967296 + d) % Y, ?_, e2, e3, by omega, hb.1, hb.2⟩
  simp only [wrap_u64]
  omega
theorem dig_guess {Y V a l0 : Int} (hY : 9223372036854775808 ≤ Y ∧ Y < 18446744073709551616) (hV : 0 ≤ V ∧ V < Y) (hd : 0 ≤ l0 ∧ l0 < 4294967296) (ea : Y / 4294967296 = a) (ha : 2147483648 ≤ a ∧ a < 4294967296) :
    ∃ q r, V / a = q ∧ (0 ≤ q ∧ q ≤ 4294967297) ∧ (0 ≤ r ∧ r < 4294967296) ∧ (0 ≤ q * a ∧ q * a ≤ V) ∧ V - q * a = r ∧ Dig Y V l0 q r := by
  obtain ⟨dg, dq⟩ := Dig.start hY hV hd
  rw [ea] at dg dq
  have h1 := dg.e
  rw [ea] at h1
  have h2 := dg.hq
  have h3 := dg.hr
  have h4 := Int.emod_lt_of_pos V (show 0 < a by omega)
  have h5 := Int.mul_nonneg h2 (show 0 ≤ a by omega)
  exact ⟨V / a, V % a, rfl, ⟨h2, dq⟩, ⟨h3, by omega⟩, ⟨h5, by omega⟩, by omega, dg⟩
theorem div64_fin {hi lo y Y U L V R d e l1 l0 : Int} {s : Nat} (h1 : U * 18446744073709551616 + L = (hi * 18446744073709551616 + lo) * 2 ^ s) (h2 : L = l1 * 4294967296 + l0) (h3 : U * 4294967296 + l1 = d * Y + V) (h4 : V * 4294967296 + l0 = e * Y + R) (hR : 0 ≤ R ∧ R < Y) (hY : y * 2 ^ s = Y) (hy : 0 < y) :
    (hi * 18446744073709551616 + lo) / y = d * 4294967296 + e ∧ (hi * 18446744073709551616 + lo) % y = R / 2 ^ s := by
  have hp := pow2_pos s
  obtain ⟨N, hN⟩ : ∃ N, hi * 18446744073709551616 + lo = N := ⟨_, rfl⟩
  rw [hN] at h1 ⊢
  have e1 : N * 2 ^ s = (d * 4294967296 + e) * y * 2 ^ s + R := by
    have : (d * 4294967296 + e) * y * 2 ^ s = (d * 4294967296 + e) * Y := by rw [← hY]; grind
    rw [this]
    have : (d * 4294967296 + e) * Y = d * Y * 4294967296 + e * Y := by grind
    omega
  have e2 : R = (N - (d * 4294967296 + e) * y) * 2 ^ s := by rw [Int.sub_mul]; omega
  obtain ⟨M, hM⟩ : ∃ M, N - (d * 4294967296 + e) * y = M := ⟨_, rfl⟩
  rw [hM] at e2
  have e3 : R / 2 ^ s = M := by rw [e2]; exact Int.mul_ediv_cancel _ (by omega)
  have m0 : 0 ≤ M := by rw [← e3]; exact Int.ediv_nonneg hR.1 (by omega)
  have m1 : M < y := by
    refine Int.not_le.1 fun h => ?_
    have := Int.mul_le_mul_of_nonneg_right h (Int.le_of_lt hp)
    omega
  rw [e3]
  have e4 : N = M + y * (d * 4294967296 + e) := by rw [Int.mul_comm y]; omega
  rw [e4]
  exact ⟨by rw [Int.add_mul_ediv_left _ _ (by omega), Int.ediv_eq_zero_of_lt m0 m1]; omega, by rw [Int.add_mul_emod_self_left]; exact Int.emod_eq_of_lt m0 m1⟩

set_option maxHeartbeats 1000000 in
set_option maxRecDepth 100000 in
theorem div64_high (hi lo y : Int) (w : World) (hh : 0 < hi ∧ hi < y) (hl : 0 ≤ lo ∧ lo < 18446744073709551616) (hy : y < 18446744073709551616) :
    Calls Try.prog 145 #[.int .u64 hi, .int .u64 lo, .int .u64 y] w fun e w' => e = .returned (.tuple #[.int .u64 ((hi * 18446744073709551616 + lo) / y), .int .u64 ((hi * 18446744073709551616 + lo) % y)]) ∧ w = w' := by
  obtain ⟨s, hs, hs2, hn1, hn2⟩ := lz_spec y (by omega) hy
  have hz := lz64_any y
  rw [hs] at hz
  have HZ := Lib.hid hz
  obtain ⟨U, L, eU, eL, U0, U1, L0, L1, eUL⟩ := div64_parts hs2 hh hl hn1 hn2
  have EUL := Lib.hid eUL
  clear hz hs eUL
  obtain ⟨Y, eY⟩ : ∃ Y, y * 2 ^ s = Y := ⟨_, rfl⟩
  have EY := Lib.hid eY
  rw [eY] at hn1 hn2 U1
  have eb := and_mask Y (by omega) hn2
  obtain ⟨b, eb2⟩ : ∃ b, Y % 4294967296 = b := ⟨_, rfl⟩
  rw [eb2] at eb
  obtain ⟨a, ea⟩ : ∃ a, Y / 4294967296 = a := ⟨_, rfl⟩
  have EA := Lib.hid ea
  have EB := Lib.hid eb2
  have hb : 0 ≤ b ∧ b < 4294967296 := by omega
  have ha : 2147483648 ≤ a ∧ a < 4294967296 := by omega
  have el := and_mask L L0 L1
  obtain ⟨l0, el2⟩ : ∃ l0, L % 4294967296 = l0 := ⟨_, rfl⟩
  rw [el2] at el
  obtain ⟨l1, el3⟩ : ∃ l1, L / 4294967296 = l1 := ⟨_, rfl⟩
  have hl0 : 0 ≤ l0 ∧ l0 < 4294967296 := by omega
  have hl1 : 0 ≤ l1 ∧ l1 < 4294967296 := by omega
  have HL := Lib.hid (show L = l1 * 4294967296 + l0 by omega)
  obtain ⟨dg, dq⟩ := Dig.start ⟨hn1, hn2⟩ ⟨U0, U1⟩ hl1
  rw [ea] at dg dq
  obtain ⟨q, eq⟩ : ∃ q, U / a = q := ⟨_, rfl⟩
  obtain ⟨r, er⟩ : ∃ r, U % a = r := ⟨_, rfl⟩
  rw [eq, er] at dg
  rw [eq] at dq
  have hq0 := dg.hq
  have hr0 : 0 ≤ r ∧ r < a := by rw [← er]; exact ⟨Int.emod_nonneg _ (by omega), Int.emod_lt_of_pos _ (by omega)⟩
  have hqa : q * a + r = U := by have := dg.e; rw [ea] at this; exact this
  have hqb : 0 ≤ q * a ∧ q * a ≤ U := ⟨Int.mul_nonneg hq0 (by omega), by omega⟩
  have esub : U - q * a = r := by omega
  have DG := Lib.hid dg
  clear dg hqa er eb2 el2
  go_enter Try.func145, Try.ntmps145
  go_wp2_with (go_at_call 140; (refine (HZ.out _ (by omega) (by omega)).mono ?_); rintro e w' ⟨rfl, rfl⟩)
  clear HZ
  go_loop [15, 16] (fun v u => ∃ q r : Int, v = .int .u64 q ∧ u = .int .u64 r ∧ Hid (Dig Y U l1 q r) ∧ (0 ≤ q ∧ q ≤ 4294967297) ∧ (0 ≤ r ∧ r < 4294967296)) (fun v _ => (intOf v).toNat)
  case atStart => exact ⟨q, r, by rw [eq], rfl, DG, by omega, by omega⟩
  case round =>
    clear eq dq hq0 hr0 hqb esub DG
    obtain ⟨x, z, rfl, rfl, HD, hx, hz⟩ := hrel
    by_cases c1 : 4294967296 ≤ x
    · have hd := HD.out.down ⟨hn1, hn2⟩ ⟨U0, U1⟩ hl1 (.inl c1)
      have HD2 := Lib.hid (show Dig Y U l1 (x - 1) (z + a) by rw [← EA.out]; exact hd)
      clear hd
      by_cases c2 : 4294967296 ≤ z + a
      · have hdig := HD2.out.broke ⟨hn1, hn2⟩ ⟨U0, U1⟩ hl1 (by omega) c2
        obtain ⟨V, eV, V0, V1, eV2, d0, d1⟩ := dig_rest ⟨hn1, hn2⟩ ⟨U0, U1⟩ hl1 hdig
        obtain ⟨d, hd⟩ : ∃ d, x - 1 = d := ⟨_, rfl⟩
        rw [hd] at eV eV2 d0 d1
        have HV1 := Lib.hid eV2
        have hV : 0 ≤ V ∧ V < Y := ⟨V0, V1⟩
        obtain ⟨q2, r2, eq2, hq2, hr2, hqa2, er2, dg2⟩ := dig_guess ⟨hn1, hn2⟩ hV hl0 EA.out ha
        have DG2 := Lib.hid dg2
        clear hdig eV2 dg2
        go_wp2
        go_loop [18, 16] (fun v u => ∃ q r : Int, v = .int .u64 q ∧ u = .int .u64 r ∧ Hid (Dig Y V l0 q r) ∧ (0 ≤ q ∧ q ≤ 4294967297) ∧ (0 ≤ r ∧ r < 4294967296)) (fun v _ => (intOf v).toNat)
        case atStart => exact ⟨q2, r2, by first | rfl | rw [eq2], by first | rfl | rw [er2], DG2, hq2, hr2⟩
        case round =>
          clear eq2 hq2 hr2 hqa2 er2 DG2
          obtain ⟨m, n, rfl, rfl, HD, hm, hn⟩ := hrel
          by_cases c1 : 4294967296 ≤ m
          · have hd := HD.out.down ⟨hn1, hn2⟩ hV hl0 (.inl c1)
            have HD2 := Lib.hid (show Dig Y V l0 (m - 1) (n + a) by rw [← EA.out]; exact hd)
            clear hd
            by_cases c2 : 4294967296 ≤ n + a
            · have hdig := HD2.out.broke ⟨hn1, hn2⟩ hV hl0 (by omega) c2
              obtain ⟨R, eR, R0, R1, eR2, e0, e1⟩ := dig_rest ⟨hn1, hn2⟩ hV hl0 hdig
              obtain ⟨e, he⟩ : ∃ e, m - 1 = e := ⟨_, rfl⟩
              rw [he] at eR eR2 e0 e1
              have HF := Lib.hid (div64_fin EUL.out HL.out HV1.out eR2 ⟨R0, R1⟩ EY.out (by omega))
              clear hdig eR2
              go_wp2
              go_ret2
              exact ⟨by rw [HF.out.1, HF.out.2]; first | rfl | simp [he], rfl⟩
            · go_wp2
              go_round
              case rel => exact ⟨_, _, rfl, rfl, HD2, by omega, by omega⟩
              case measure => simp [intOf]; omega
          · have hxb : 0 ≤ m * b ∧ m * b < 18446744073709551616 := by
              refine ⟨Int.mul_nonneg hm.1 hb.1, ?_⟩
              have := Int.mul_le_mul_of_nonneg_left (show b ≤ 4294967295 by omega) hm.1
              omega
            by_cases c3 : 4294967296 * n + l0 < m * b
            · have hd := HD.out.down ⟨hn1, hn2⟩ hV hl0 (.inr (by rw [EB.out]; exact c3))
              have HD2 := Lib.hid (show Dig Y V l0 (m - 1) (n + a) by rw [← EA.out]; exact hd)
              clear hd
              have hx1 : 1 ≤ m := by
                rcases Int.le_iff_lt_or_eq.1 hm.1 with h | h
                · omega
                · rw [← h] at c3; simp at c3; omega
              by_cases c2 : 4294967296 ≤ n + a
              · have hdig := HD2.out.broke ⟨hn1, hn2⟩ hV hl0 (by omega) c2
                obtain ⟨R, eR, R0, R1, eR2, e0, e1⟩ := dig_rest ⟨hn1, hn2⟩ hV hl0 hdig
                obtain ⟨e, he⟩ : ∃ e, m - 1 = e := ⟨_, rfl⟩
                rw [he] at eR eR2 e0 e1
                have HF := Lib.hid (div64_fin EUL.out HL.out HV1.out eR2 ⟨R0, R1⟩ EY.out (by omega))
                clear hdig eR2
                go_wp2
                go_ret2
                exact ⟨by rw [HF.out.1, HF.out.2]; first | rfl | simp [he], rfl⟩
              · go_wp2
                go_round
                case rel => exact ⟨_, _, rfl, rfl, HD2, by omega, by omega⟩
                case measure => simp [intOf]; omega
            · have hdig := HD.out.done ⟨hn1, hn2⟩ hV hl0 (by rw [EB.out]; omega)
              obtain ⟨R, eR, R0, R1, eR2, e0, e1⟩ := dig_rest ⟨hn1, hn2⟩ hV hl0 hdig
              have HF := Lib.hid (div64_fin EUL.out HL.out HV1.out eR2 ⟨R0, R1⟩ EY.out (by omega))
              clear hdig eR2
              go_wp2
              go_ret2
              exact ⟨by rw [HF.out.1, HF.out.2]; first | rfl | simp, rfl⟩

      · go_wp2
        go_round
        case rel => exact ⟨_, _, rfl, rfl, HD2, by omega, by omega⟩
        case measure => simp [intOf]; omega
    · have hxb : 0 ≤ x * b ∧ x * b < 18446744073709551616 := by
        refine ⟨Int.mul_nonneg hx.1 hb.1, ?_⟩
        have := Int.mul_le_mul_of_nonneg_left (show b ≤ 4294967295 by omega) hx.1
        omega
      by_cases c3 : 4294967296 * z + l1 < x * b
      · have hd := HD.out.down ⟨hn1, hn2⟩ ⟨U0, U1⟩ hl1 (.inr (by rw [EB.out]; exact c3))
        have HD2 := Lib.hid (show Dig Y U l1 (x - 1) (z + a) by rw [← EA.out]; exact hd)
        clear hd
        have hx1 : 1 ≤ x := by
          rcases Int.le_iff_lt_or_eq.1 hx.1 with h | h
          · omega
          · rw [← h] at c3; simp at c3; omega
        by_cases c2 : 4294967296 ≤ z + a
        · have hdig := HD2.out.broke ⟨hn1, hn2⟩ ⟨U0, U1⟩ hl1 (by omega) c2
          obtain ⟨V, eV, V0, V1, eV2, d0, d1⟩ := dig_rest ⟨hn1, hn2⟩ ⟨U0, U1⟩ hl1 hdig
          obtain ⟨d, hd⟩ : ∃ d, x - 1 = d := ⟨_, rfl⟩
          rw [hd] at eV eV2 d0 d1
          have HV1 := Lib.hid eV2
          have hV : 0 ≤ V ∧ V < Y := ⟨V0, V1⟩
          obtain ⟨q2, r2, eq2, hq2, hr2, hqa2, er2, dg2⟩ := dig_guess ⟨hn1, hn2⟩ hV hl0 EA.out ha
          have DG2 := Lib.hid dg2
          clear hdig eV2 dg2
          go_wp2
          go_loop [18, 16] (fun v u => ∃ q r : Int, v = .int .u64 q ∧ u = .int .u64 r ∧ Hid (Dig Y V l0 q r) ∧ (0 ≤ q ∧ q ≤ 4294967297) ∧ (0 ≤ r ∧ r < 4294967296)) (fun v _ => (intOf v).toNat)
          case atStart => exact ⟨q2, r2, by first | rfl | rw [eq2], by first | rfl | rw [er2], DG2, hq2, hr2⟩
          case round =>
            clear eq2 hq2 hr2 hqa2 er2 DG2
            obtain ⟨m, n, rfl, rfl, HD, hm, hn⟩ := hrel
            by_cases c1 : 4294967296 ≤ m
            · have hd := HD.out.down ⟨hn1, hn2⟩ hV hl0 (.inl c1)
              have HD2 := Lib.hid (show Dig Y V l0 (m - 1) (n + a) by rw [← EA.out]; exact hd)
              clear hd
              by_cases c2 : 4294967296 ≤ n + a
              · have hdig := HD2.out.broke ⟨hn1, hn2⟩ hV hl0 (by omega) c2
                obtain ⟨R, eR, R0, R1, eR2, e0, e1⟩ := dig_rest ⟨hn1, hn2⟩ hV hl0 hdig
                obtain ⟨e, he⟩ : ∃ e, m - 1 = e := ⟨_, rfl⟩
                rw [he] at eR eR2 e0 e1
                have HF := Lib.hid (div64_fin EUL.out HL.out HV1.out eR2 ⟨R0, R1⟩ EY.out (by omega))
                clear hdig eR2
                go_wp2
                go_ret2
                exact ⟨by rw [HF.out.1, HF.out.2]; first | rfl | simp [he], rfl⟩
              · go_wp2
                go_round
                case rel => exact ⟨_, _, rfl, rfl, HD2, by omega, by omega⟩
                case measure => simp [intOf]; omega
            · have hxb : 0 ≤ m * b ∧ m * b < 18446744073709551616 := by
                refine ⟨Int.mul_nonneg hm.1 hb.1, ?_⟩
                have := Int.mul_le_mul_of_nonneg_left (show b ≤ 4294967295 by omega) hm.1
                omega
              by_cases c3 : 4294967296 * n + l0 < m * b
              · have hd := HD.out.down ⟨hn1, hn2⟩ hV hl0 (.inr (by rw [EB.out]; exact c3))
                have HD2 := Lib.hid (show Dig Y V l0 (m - 1) (n + a) by rw [← EA.out]; exact hd)
                clear hd
                have hx1 : 1 ≤ m := by
                  rcases Int.le_iff_lt_or_eq.1 hm.1 with h | h
                  · omega
                  · rw [← h] at c3; simp at c3; omega
                by_cases c2 : 4294967296 ≤ n + a
                · have hdig := HD2.out.broke ⟨hn1, hn2⟩ hV hl0 (by omega) c2
                  obtain ⟨R, eR, R0, R1, eR2, e0, e1⟩ := dig_rest ⟨hn1, hn2⟩ hV hl0 hdig
                  obtain ⟨e, he⟩ : ∃ e, m - 1 = e := ⟨_, rfl⟩
                  rw [he] at eR eR2 e0 e1
                  have HF := Lib.hid (div64_fin EUL.out HL.out HV1.out eR2 ⟨R0, R1⟩ EY.out (by omega))
                  clear hdig eR2
                  go_wp2
                  go_ret2
                  exact ⟨by rw [HF.out.1, HF.out.2]; first | rfl | simp [he], rfl⟩
                · go_wp2
                  go_round
                  case rel => exact ⟨_, _, rfl, rfl, HD2, by omega, by omega⟩
                  case measure => simp [intOf]; omega
              · have hdig := HD.out.done ⟨hn1, hn2⟩ hV hl0 (by rw [EB.out]; omega)
                obtain ⟨R, eR, R0, R1, eR2, e0, e1⟩ := dig_rest ⟨hn1, hn2⟩ hV hl0 hdig
                have HF := Lib.hid (div64_fin EUL.out HL.out HV1.out eR2 ⟨R0, R1⟩ EY.out (by omega))
                clear hdig eR2
                go_wp2
                go_ret2
                exact ⟨by rw [HF.out.1, HF.out.2]; first | rfl | simp, rfl⟩

        · go_wp2
          go_round
          case rel => exact ⟨_, _, rfl, rfl, HD2, by omega, by omega⟩
          case measure => simp [intOf]; omega
      · have hdig := HD.out.done ⟨hn1, hn2⟩ ⟨U0, U1⟩ hl1 (by rw [EB.out]; omega)
        obtain ⟨V, eV, V0, V1, eV2, d0, d1⟩ := dig_rest ⟨hn1, hn2⟩ ⟨U0, U1⟩ hl1 hdig
        have HV1 := Lib.hid eV2
        have hV : 0 ≤ V ∧ V < Y := ⟨V0, V1⟩
        obtain ⟨q2, r2, eq2, hq2, hr2, hqa2, er2, dg2⟩ := dig_guess ⟨hn1, hn2⟩ hV hl0 EA.out ha
        have DG2 := Lib.hid dg2
        clear hdig eV2 dg2
        go_wp2
        go_loop [18, 16] (fun v u => ∃ q r : Int, v = .int .u64 q ∧ u = .int .u64 r ∧ Hid (Dig Y V l0 q r) ∧ (0 ≤ q ∧ q ≤ 4294967297) ∧ (0 ≤ r ∧ r < 4294967296)) (fun v _ => (intOf v).toNat)
        case atStart => exact ⟨q2, r2, by first | rfl | rw [eq2], by first | rfl | rw [er2], DG2, hq2, hr2⟩
        case round =>
          clear eq2 hq2 hr2 hqa2 er2 DG2
          obtain ⟨m, n, rfl, rfl, HD, hm, hn⟩ := hrel
          by_cases c1 : 4294967296 ≤ m
          · have hd := HD.out.down ⟨hn1, hn2⟩ hV hl0 (.inl c1)
            have HD2 := Lib.hid (show Dig Y V l0 (m - 1) (n + a) by rw [← EA.out]; exact hd)
            clear hd
            by_cases c2 : 4294967296 ≤ n + a
            · have hdig := HD2.out.broke ⟨hn1, hn2⟩ hV hl0 (by omega) c2
              obtain ⟨R, eR, R0, R1, eR2, e0, e1⟩ := dig_rest ⟨hn1, hn2⟩ hV hl0 hdig
              obtain ⟨e, he⟩ : ∃ e, m - 1 = e := ⟨_, rfl⟩
              rw [he] at eR eR2 e0 e1
              have HF := Lib.hid (div64_fin EUL.out HL.out HV1.out eR2 ⟨R0, R1⟩ EY.out (by omega))
              clear hdig eR2
              go_wp2
              go_ret2
              exact ⟨by rw [HF.out.1, HF.out.2]; first | rfl | simp [he], rfl⟩
            · go_wp2
              go_round
              case rel => exact ⟨_, _, rfl, rfl, HD2, by omega, by omega⟩
              case measure => simp [intOf]; omega
          · have hxb : 0 ≤ m * b ∧ m * b < 18446744073709551616 := by
              refine ⟨Int.mul_nonneg hm.1 hb.1, ?_⟩
              have := Int.mul_le_mul_of_nonneg_left (show b ≤ 4294967295 by omega) hm.1
              omega
            by_cases c3 : 4294967296 * n + l0 < m * b
            · have hd := HD.out.down ⟨hn1, hn2⟩ hV hl0 (.inr (by rw [EB.out]; exact c3))
              have HD2 := Lib.hid (show Dig Y V l0 (m - 1) (n + a) by rw [← EA.out]; exact hd)
              clear hd
              have hx1 : 1 ≤ m := by
                rcases Int.le_iff_lt_or_eq.1 hm.1 with h | h
                · omega
                · rw [← h] at c3; simp at c3; omega
              by_cases c2 : 4294967296 ≤ n + a
              · have hdig := HD2.out.broke ⟨hn1, hn2⟩ hV hl0 (by omega) c2
                obtain ⟨R, eR, R0, R1, eR2, e0, e1⟩ := dig_rest ⟨hn1, hn2⟩ hV hl0 hdig
                obtain ⟨e, he⟩ : ∃ e, m - 1 = e := ⟨_, rfl⟩
                rw [he] at eR eR2 e0 e1
                have HF := Lib.hid (div64_fin EUL.out HL.out HV1.out eR2 ⟨R0, R1⟩ EY.out (by omega))
                clear hdig eR2
                go_wp2
                go_ret2
                exact ⟨by rw [HF.out.1, HF.out.2]; first | rfl | simp [he], rfl⟩
              · go_wp2
                go_round
                case rel => exact ⟨_, _, rfl, rfl, HD2, by omega, by omega⟩
                case measure => simp [intOf]; omega
            · have hdig := HD.out.done ⟨hn1, hn2⟩ hV hl0 (by rw [EB.out]; omega)
              obtain ⟨R, eR, R0, R1, eR2, e0, e1⟩ := dig_rest ⟨hn1, hn2⟩ hV hl0 hdig
              have HF := Lib.hid (div64_fin EUL.out HL.out HV1.out eR2 ⟨R0, R1⟩ EY.out (by omega))
              clear hdig eR2
              go_wp2
              go_ret2
              exact ⟨by rw [HF.out.1, HF.out.2]; first | rfl | simp, rfl⟩

theorem div64_any (hi lo y : Int) (w : World) (hh : 0 ≤ hi ∧ hi < y) (hl : 0 ≤ lo ∧ lo < 18446744073709551616) (hy : y < 18446744073709551616) :
    Calls Try.prog 145 #[.int .u64 hi, .int .u64 lo, .int .u64 y] w fun e w' => e = .returned (.tuple #[.int .u64 ((hi * 18446744073709551616 + lo) / y), .int .u64 ((hi * 18446744073709551616 + lo) % y)]) ∧ Drawn w w' := by
  rcases Int.le_iff_lt_or_eq.1 hh.1 with h | h
  · exact (div64_high hi lo y w ⟨h, hh.2⟩ hl hy).mono fun _ _ ⟨a, b⟩ => ⟨a, b ▸ Drawn.refl _⟩
  · subst h
    have := div64_low lo y w hl ⟨by omega, hy⟩
    simpa using this
end Go.Proofs.Ytcabnnfhcolcfaa
