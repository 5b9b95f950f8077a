/- math/bits: Mul64, Add64, Sub64, Len64, LeadingZeros64. -/
import Derived.Test.YtcabnnfhcolcfaaW1
import Derived.Lib.Mul64
import Derived.Laws.Bits64b
import Derived.Laws.Externs
import Derived.Lib.BitFns
import Derived.Lib.Strings
import Derived.Lib.Slices
import Derived.Lib.Small
import Derived.Lib.Walk
namespace Go.Proofs.Ytcabnnfhcolcfaa
set_option linter.unusedSimpArgs false
set_option linter.unusedVariables false
open Go.RowKit

/-! ### Add64, Sub64: the model's own -/
theorem run_add (x y c : Int) (hx : 0 ≤ x) (hy : 0 ≤ y) (hc0 : 0 ≤ c) (hc : c ≤ 1) (w : World) :
    (callFunc 144 #[.int .u64 x, .int .u64 y, .int .u64 c]).run Try.prog w = .ok (.value (.tuple #[.int .u64 ((x + y + c) % 18446744073709551616), .int .u64 ((x + y + c) / 18446744073709551616)])) w := by
  rw [run_callFunc_extern Try.func144 (by kernel_rfl) (by kernel_rfl) (by kernel_rfl) (e := add64Entry) (by kernel_rfl), run_add64 x y c hx hy hc0 hc]
  rfl
def subEntry : Array Value → Sem Value := fun args => do
  let (x, y, b) ← Extern.MathBitsCarry.three "Sub64" args
  pure (Extern.MathBitsCarry.pair ((x + Extern.MathBitsCarry.m64 - y - b) % Extern.MathBitsCarry.m64) (if x < y + b then 1 else 0))
theorem run_sub (x y c : Int) (hx : 0 ≤ x) (hx2 : x < 18446744073709551616) (hy : 0 ≤ y) (hy2 : y < 18446744073709551616) (hc0 : 0 ≤ c) (hc : c ≤ 1) (w : World) :
    (callFunc 146 #[.int .u64 x, .int .u64 y, .int .u64 c]).run Try.prog w = .ok (.value (.tuple #[.int .u64 ((x - y - c) % 18446744073709551616), .int .u64 (if x < y + c then 1 else 0)])) w := by
  obtain ⟨x, rfl⟩ := Int.eq_ofNat_of_zero_le hx
  obtain ⟨y, rfl⟩ := Int.eq_ofNat_of_zero_le hy
  obtain ⟨c, rfl⟩ := Int.eq_ofNat_of_zero_le hc0
  have hc' : c = 0 ∨ c = 1 := by omega
  have key : (subEntry #[.int .u64 x, .int .u64 y, .int .u64 c]).run Try.prog w =
      .ok (.tuple #[.int .u64 (((x + 18446744073709551616 - y - c) % 18446744073709551616 : Nat) : Int), .int .u64 ((if x < y + c then 1 else 0 : Nat) : Int)]) w := by
    rcases hc' with rfl | rfl <;> rfl
  rw [run_callFunc_extern Try.func146 (by kernel_rfl) (by kernel_rfl) (by kernel_rfl) (e := subEntry) (by kernel_rfl), key]
  have e1 : (((x + 18446744073709551616 - y - c) % 18446744073709551616 : Nat) : Int) = ((x : Int) - y - c) % 18446744073709551616 := by omega
  have e2 : ((if x < y + c then 1 else 0 : Nat) : Int) = if (x : Int) < (y : Int) + (c : Int) then 1 else 0 := by
    by_cases h : x < y + c
    · rw [if_pos h, if_pos (by omega)]; rfl
    · rw [if_neg h, if_neg (by omega)]; rfl
  rw [e1, e2]
  rfl

/-! ### Mul64 -/
theorem mul_mask (a : Nat) (ha : a < 18446744073709551616) : bits .and .u64 (a : Int) 4294967295 = ((a % 4294967296 : Nat) : Int) := by
  have h := bits_and_u64_nat a 4294967295 ha (by omega)
  have e : a &&& 4294967295 = a % 4294967296 := Nat.and_two_pow_sub_one_eq_mod a 32
  rw [e] at h
  exact h
theorem mul_div (a : Nat) : (a : Int) / 4294967296 = ((a / 4294967296 : Nat) : Int) := by omega
theorem mul_mul (a b : Nat) : (a : Int) * (b : Int) = ((a * b : Nat) : Int) := (Int.natCast_mul a b).symm
theorem mul_add (a b : Nat) : (a : Int) + (b : Int) = ((a + b : Nat) : Int) := (Int.natCast_add a b).symm
theorem mul_wrap (a : Nat) (ha : a < 18446744073709551616) : IntKind.u64.wrap (a : Int) = (a : Int) := by rw [wrap_u64]; omega
theorem mul_wrapM (a : Nat) : IntKind.u64.wrap (a : Int) = ((a % 18446744073709551616 : Nat) : Int) := by rw [wrap_u64]; omega
set_option maxHeartbeats 1000000 in
theorem mul64_nat (x y : Nat) (hx : x < 18446744073709551616) (hy : y < 18446744073709551616) (w : World) :
    Calls Try.prog 143 #[.int .u64 x, .int .u64 y] w fun e w' => e = .returned (.tuple #[.int .u64 ((x * y / 18446744073709551616 : Nat) : Int), .int .u64 ((x * y % 18446744073709551616 : Nat) : Int)]) ∧ w = w' := by
  obtain ⟨bd, bt, bw, hhi⟩ := Lib.mul64_hi x y hx hy
  have ba := Lib.half_mul_le (a := x / 4294967296) (b := y / 4294967296) (by omega) (by omega)
  have bb := Lib.half_mul_le (a := x / 4294967296) (b := y % 4294967296) (by omega) (by omega)
  have bc := Lib.half_mul_le (a := x % 4294967296) (b := y / 4294967296) (by omega) (by omega)
  have ba' : x / 4294967296 * (y / 4294967296) < 18446744073709551616 := by omega
  have bb' : x / 4294967296 * (y % 4294967296) < 18446744073709551616 := by omega
  have bc' : x % 4294967296 * (y / 4294967296) < 18446744073709551616 := by omega
  have bh1 : x / 4294967296 * (y / 4294967296) + (x / 4294967296 * (y % 4294967296) + x % 4294967296 * (y % 4294967296) / 4294967296) / 4294967296 < 18446744073709551616 := by omega
  have bh : x / 4294967296 * (y / 4294967296) + (x / 4294967296 * (y % 4294967296) + x % 4294967296 * (y % 4294967296) / 4294967296) / 4294967296 + ((x / 4294967296 * (y % 4294967296) + x % 4294967296 * (y % 4294967296) / 4294967296) % 4294967296 + x % 4294967296 * (y / 4294967296)) / 4294967296 < 18446744073709551616 := by omega
  go_enter Try.func143, Try.ntmps143
  go_wp2
  simp only [mul_mask x hx, mul_mask y hy, mul_div, mul_mul, mul_add, mul_wrap _ bd, mul_wrap _ bb', mul_wrap _ bt, mul_mask _ bt, mul_wrap _ bc', mul_wrap _ bw, mul_wrap _ ba', mul_wrap _ bh1, mul_wrap _ bh, mul_wrapM (x * y)]
  rw [hhi]
  go_ret2
  exact ⟨rfl, rfl⟩
theorem mul64_any (x y : Int) (hx : 0 ≤ x ∧ x < 18446744073709551616) (hy : 0 ≤ y ∧ y < 18446744073709551616) (w : World) :
    Calls Try.prog 143 #[.int .u64 x, .int .u64 y] w fun e w' => e = .returned (.tuple #[.int .u64 (x * y / 18446744073709551616), .int .u64 (x * y % 18446744073709551616)]) ∧ w = w' := by
  obtain ⟨x, rfl⟩ := Int.eq_ofNat_of_zero_le hx.1
  obtain ⟨y, rfl⟩ := Int.eq_ofNat_of_zero_le hy.1
  exact mul64_nat x y (by omega) (by omega) w

/-! ### Len64 -/
theorem tab_at (i : Int) (h0 : 0 ≤ i) (h1 : i ≤ 255) (h : i.toNat < Lib.len8tab.size) : ((Lib.len8tab[i.toNat]'h).toNat : Int) = (Lib.bitLen i.toNat : Int) := by
  rw [← Lib.len8_of i h0 h1]
  simp [Lib.len8, h]
theorem len_way0 (x : Int) (h0 : 72057594037927936 ≤ x) (h1 : x < 18446744073709551616) (h : (x / 4294967296 / 65536 / 256).toNat < Lib.len8tab.size) : wrap64 (56 + wrap64 (Lib.len8tab[(x / 4294967296 / 65536 / 256).toNat]'h).toNat) = ↑(Lib.bitLen x.toNat) := by
  rw [tab_at (x / 4294967296 / 65536 / 256) (by omega) (by omega)]
  have e : (x / 4294967296 / 65536 / 256).toNat = x.toNat / 72057594037927936 := by omega
  have l := Lib.bitLen_le8' (x / 4294967296 / 65536 / 256) (by omega) (by omega)
  have s := Lib.bitLen_shift56 x.toNat (by omega) (by omega)
  rw [e] at l ⊢
  unfold wrap64
  omega
theorem len_way1 (x : Int) (h0 : 281474976710656 ≤ x) (h1 : x < 72057594037927936) (h : (x / 4294967296 / 65536).toNat < Lib.len8tab.size) : wrap64 (48 + wrap64 (Lib.len8tab[(x / 4294967296 / 65536).toNat]'h).toNat) = ↑(Lib.bitLen x.toNat) := by
  rw [tab_at (x / 4294967296 / 65536) (by omega) (by omega)]
  have e : (x / 4294967296 / 65536).toNat = x.toNat / 281474976710656 := by omega
  have l := Lib.bitLen_le8' (x / 4294967296 / 65536) (by omega) (by omega)
  have s := Lib.bitLen_shift48 x.toNat (by omega) (by omega)
  rw [e] at l ⊢
  unfold wrap64
  omega
theorem len_way2 (x : Int) (h0 : 1099511627776 ≤ x) (h1 : x < 281474976710656) (h : (x / 4294967296 / 256).toNat < Lib.len8tab.size) : wrap64 (40 + wrap64 (Lib.len8tab[(x / 4294967296 / 256).toNat]'h).toNat) = ↑(Lib.bitLen x.toNat) := by
  rw [tab_at (x / 4294967296 / 256) (by omega) (by omega)]
  have e : (x / 4294967296 / 256).toNat = x.toNat / 1099511627776 := by omega
  have l := Lib.bitLen_le8' (x / 4294967296 / 256) (by omega) (by omega)
  have s := Lib.bitLen_shift40 x.toNat (by omega) (by omega)
  rw [e] at l ⊢
  unfold wrap64
  omega
theorem len_way3 (x : Int) (h0 : 4294967296 ≤ x) (h1 : x < 1099511627776) (h : (x / 4294967296).toNat < Lib.len8tab.size) : wrap64 (32 + wrap64 (Lib.len8tab[(x / 4294967296).toNat]'h).toNat) = ↑(Lib.bitLen x.toNat) := by
  rw [tab_at (x / 4294967296) (by omega) (by omega)]
  have e : (x / 4294967296).toNat = x.toNat / 4294967296 := by omega
  have l := Lib.bitLen_le8' (x / 4294967296) (by omega) (by omega)
  have s := Lib.bitLen_shift32 x.toNat (by omega) (by omega)
  rw [e] at l ⊢
  unfold wrap64
  omega
theorem len_way4 (x : Int) (h0 : 16777216 ≤ x) (h1 : x < 4294967296) (h : (x / 65536 / 256).toNat < Lib.len8tab.size) : wrap64 (24 + wrap64 (Lib.len8tab[(x / 65536 / 256).toNat]'h).toNat) = ↑(Lib.bitLen x.toNat) := by
  rw [tab_at (x / 65536 / 256) (by omega) (by omega)]
  have e : (x / 65536 / 256).toNat = x.toNat / 16777216 := by omega
  have l := Lib.bitLen_le8' (x / 65536 / 256) (by omega) (by omega)
  have s := Lib.bitLen_shift24 x.toNat (by omega) (by omega)
  rw [e] at l ⊢
  unfold wrap64
  omega
theorem len_way5 (x : Int) (h0 : 65536 ≤ x) (h1 : x < 16777216) (h : (x / 65536).toNat < Lib.len8tab.size) : wrap64 (16 + wrap64 (Lib.len8tab[(x / 65536).toNat]'h).toNat) = ↑(Lib.bitLen x.toNat) := by
  rw [tab_at (x / 65536) (by omega) (by omega)]
  have e : (x / 65536).toNat = x.toNat / 65536 := by omega
  have l := Lib.bitLen_le8' (x / 65536) (by omega) (by omega)
  have s := Lib.bitLen_shift16 x.toNat (by omega) (by omega)
  rw [e] at l ⊢
  unfold wrap64
  omega
theorem len_way6 (x : Int) (h0 : 256 ≤ x) (h1 : x < 65536) (h : (x / 256).toNat < Lib.len8tab.size) : wrap64 (8 + wrap64 (Lib.len8tab[(x / 256).toNat]'h).toNat) = ↑(Lib.bitLen x.toNat) := by
  rw [tab_at (x / 256) (by omega) (by omega)]
  have e : (x / 256).toNat = x.toNat / 256 := by omega
  have l := Lib.bitLen_le8' (x / 256) (by omega) (by omega)
  have s := Lib.bitLen_shift8 x.toNat (by omega) (by omega)
  rw [e] at l ⊢
  unfold wrap64
  omega
theorem len_way7 (x : Int) (h0 : 0 ≤ x) (h1 : x < 256) (h : (x).toNat < Lib.len8tab.size) : wrap64 (wrap64 (Lib.len8tab[(x).toNat]'h).toNat) = ↑(Lib.bitLen x.toNat) := by
  rw [tab_at (x) (by omega) (by omega)]
  have e : (x).toNat = x.toNat := by omega
  have l := Lib.bitLen_le8' (x) (by omega) (by omega)
  rw [e] at l ⊢
  unfold wrap64
  omega
set_option maxHeartbeats 4000000 in
set_option maxRecDepth 100000 in
theorem len64_any (x : Int) (w : World) (h0 : 0 ≤ x) (h1 : x ≤ 18446744073709551615) :
    Calls Try.prog 142 #[.int .u64 x] w fun e w' => e = .returned (.int .i64 (Lib.bitLen x.toNat)) ∧ w = w' := by
  have hsz : (Lib.len8tab.size : Int) = 256 := by rw [Lib.len8tab_size]; rfl
  go_enter Try.func142, Try.ntmps142
  go_wp2
  all_goals (go_ret; refine ⟨congrArg Ending.returned (congrArg (Value.int IntKind.i64) ?_), rfl⟩)
  all_goals first
    | exact len_way0 x (by omega) (by omega) _
    | exact len_way1 x (by omega) (by omega) _
    | exact len_way2 x (by omega) (by omega) _
    | exact len_way3 x (by omega) (by omega) _
    | exact len_way4 x (by omega) (by omega) _
    | exact len_way5 x (by omega) (by omega) _
    | exact len_way6 x (by omega) (by omega) _
    | exact len_way7 x (by omega) (by omega) _
set_option maxHeartbeats 400000 in
theorem lz64_any (x : Int) (w : World) (h0 : 0 ≤ x) (h1 : x ≤ 18446744073709551615) :
    Calls Try.prog 140 #[.int .u64 x] w fun e w' => e = .returned (.int .i64 (64 - (Lib.bitLen x.toNat : Int))) ∧ w = w' := by
  have l : Lib.bitLen x.toNat ≤ 64 := Lib.bitLen_le x.toNat 64 (by omega) (by omega)
  go_enter Try.func140, Try.ntmps140
  go_wp2_with (go_at_call 142; (refine (len64_any x _ h0 h1).mono ?_); rintro e w' ⟨rfl, rfl⟩)
  go_ret
  exact ⟨rfl, rfl⟩
end Go.Proofs.Ytcabnnfhcolcfaa
