/- The walk of left. The walk of right. -/
import Derived.Test.YtcabnnfhcolcfaaW3
import Derived.RegionTactic
import Derived.Laws.BitsAllLaws
namespace Go.Proofs.Ytcabnnfhcolcfaa
set_option linter.unusedSimpArgs false
set_option linter.unusedVariables false
open Go.RowKit

/-- A magnitude of no more room than it takes. -/
def CapAt (w : World) (v : Value) (m : Int) : Prop := ∃ A n xs, v = .slice A n n ∧ n ≤ 9223372036854775807 ∧ Rd w A n xs ∧ Norm xs ∧ lv xs = m
theorem CapAt.nat {w : World} {v : Value} {m : Int} (h : CapAt w v m) : NatAt w v m := by
  obtain ⟨A, n, xs, e, hc, hr, hn, hv⟩ := h
  exact ⟨A, n, n, xs, e, ⟨Nat.le_refl _, hc⟩, hr, hn, hv⟩
theorem Strip.cap {w : World} {A : Option Addr} {n : Nat} {xs : List Int} {v : Value} (h : Strip w A n xs v) : CapAt w v (lv xs) := by
  obtain ⟨m, ys, e, hc, hr, hn, hv⟩ := h
  exact ⟨A, m, ys, e, hc.2, hr, hn, hv⟩
def LeftInv (w wr : World) (n q r k : Nat) (xs zs : List Int) : Prop :=
  Own wr w.heap.size zs ∧ zs.length = xs.length + q + 1 ∧ Okl zs ∧ lim zs (k + q) < 2 ^ r ∧ lv (zs.take (k + q + 1)) = 2 ^ n * lv (xs.take k) ∧ Below w.heap.size w wr

theorem pq64 {r : Nat} (hr : r < 64) : (2 : Int) ^ r * 2 ^ (64 - r) = 18446744073709551616 := by
  rw [← Int.pow_add, show r + (64 - r) = 64 by omega]; rfl
/-- A limb shifted left by r, cut in two. -/
theorem shl_parts {x : Int} {r : Nat} (hr : r < 64) (hx : 0 ≤ x ∧ x < 18446744073709551616) :
    ∃ m, IntKind.u64.wrap (x * 2 ^ r) = 2 ^ r * m ∧ 0 ≤ m ∧ m < 2 ^ (64 - r) ∧ x = 2 ^ (64 - r) * (x / 2 ^ (64 - r)) + m ∧ 0 ≤ x / 2 ^ (64 - r) ∧ x / 2 ^ (64 - r) < 2 ^ r := by
  have hp := pow2_pos r
  have hq := pow2_pos (64 - r)
  have hpq := pq64 hr
  have h1 := Int.emod_add_mul_ediv x (2 ^ (64 - r))
  have h2 := Int.emod_nonneg x (show (2 : Int) ^ (64 - r) ≠ 0 by omega)
  have h3 := Int.emod_lt_of_pos x hq
  refine ⟨x % 2 ^ (64 - r), ?_, h2, h3, by omega, Int.ediv_nonneg hx.1 (by omega), ?_⟩
  · rw [wrap_u64, ← hpq, Int.mul_comm x, Int.mul_emod_mul_of_pos _ _ hp]
  · refine Int.ediv_lt_of_lt_mul hq ?_
    rw [hpq]; exact hx.2
theorem or_parts {a x : Int} {r : Nat} (hr : r < 64) (hx : 0 ≤ x ∧ x < 18446744073709551616) (ha : 0 ≤ a ∧ a < 2 ^ r) :
    ∃ s, bits .or .u64 a (IntKind.u64.wrap (x * 2 ^ r)) = s ∧ 0 ≤ s ∧ s < 18446744073709551616 ∧ s + 18446744073709551616 * (x / 2 ^ (64 - r)) = a + 2 ^ r * x ∧ 0 ≤ x / 2 ^ (64 - r) ∧ x / 2 ^ (64 - r) < 2 ^ r := by
  obtain ⟨m, h1, h2, h3, h4, h5, h6⟩ := shl_parts hr hx
  have hp := pow2_pos r
  have hpq := pq64 hr
  have hlim : 2 ^ r * m + 2 ^ r ≤ 18446744073709551616 := by
    rw [← hpq]
    have := Int.mul_le_mul_of_nonneg_left (show m + 1 ≤ 2 ^ (64 - r) by omega) (Int.le_of_lt hp)
    rw [Int.mul_add, Int.mul_one] at this
    exact this
  have hpm := Int.mul_nonneg (Int.le_of_lt hp) h2
  rw [h1]
  refine ⟨a + 2 ^ r * m, ?_, by omega, by omega, ?_, h5, h6⟩
  · rw [u64_or _ _ ha.1 (by omega) hpm (by omega)]
    obtain ⟨a', rfl⟩ := Int.eq_ofNat_of_zero_le ha.1
    obtain ⟨m', rfl⟩ := Int.eq_ofNat_of_zero_le h2
    have e : ((2 : Int) ^ r * (m' : Int)) = ((2 ^ r * m' : Nat) : Int) := by simp
    rw [e, Int.toNat_natCast, Int.toNat_natCast, Nat.or_comm, nat_join r (2 ^ r * m') a' (by simp) (by have := ha.2; exact_mod_cast this)]
    simp [Int.add_comm]
  · rw [← hpq]
    have : (2 : Int) ^ r * x = 2 ^ r * (2 ^ (64 - r) * (x / 2 ^ (64 - r)) + m) := by rw [← h4]
    rw [this]
    grind
theorem LeftInv.step {w wr : World} {n q r k : Nat} {xs zs : List Int} (h : LeftInv w wr n q r k xs zs) (hk : k < xs.length) (ho : Okl xs) (hr : r < 64) (hq : n = 64 * q + r) :
    LeftInv w (((wr.setCell ⟨w.heap.size, k + q, none⟩ (.int .u64 (bits .or .u64 (lim zs (k + q)) (IntKind.u64.wrap (lim xs k * 2 ^ r))))).setCell ⟨w.heap.size, k + q + 1, none⟩ (.int .u64 (lim xs k / 2 ^ (64 - r)))).drew) n q r (k + 1) xs
      ((zs.set (k + q) (bits .or .u64 (lim zs (k + q)) (IntKind.u64.wrap (lim xs k * 2 ^ r)))).set (k + q + 1) (lim xs k / 2 ^ (64 - r))) := by
  obtain ⟨h1, h2, h3, h4, h5, h6⟩ := h
  obtain ⟨s, e, s0, s1, s2, s3, s4⟩ := or_parts hr (ho.at_ k) ⟨(h3.at_ (k + q)).1, h4⟩
  rw [e]
  have hp64 : (2 : Int) ^ r ≤ 18446744073709551616 := pow2_mono (show r ≤ 64 by omega)
  refine ⟨((h1.set_ (k + q) s (by omega)).set_ (k + q + 1) _ (by simp; omega)).drew, by simpa using h2, (h3.set_ _ ⟨s0, s1⟩).set_ _ ⟨s3, by omega⟩, ?_, ?_, ((h6.setCell (Nat.le_refl _) _).setCell (Nat.le_refl _) _).drew⟩
  · rw [show k + 1 + q = k + q + 1 by omega, lim_set_same (by simp; omega)]; exact s4
  · rw [show k + 1 + q + 1 = (k + q + 1) + 1 by omega, lv_take_set _ _ (by simp; omega), lv_take_set _ _ (by omega), lv_take_succ' xs k]
    rw [lv_take_succ' zs (k + q)] at h5
    have e5 : (18446744073709551616 : Int) ^ (k + q + 1) = 18446744073709551616 ^ (k + q) * 18446744073709551616 := Int.pow_succ _ _
    have e6 : (2 : Int) ^ n = 18446744073709551616 ^ q * 2 ^ r := by rw [hq, Int.pow_add, pow64_eq]
    have e7 : (18446744073709551616 : Int) ^ (k + q) = 18446744073709551616 ^ k * 18446744073709551616 ^ q := Int.pow_add _ _ _
    rw [e6] at h5 ⊢
    rw [e5]
    have : lv (zs.take (k + q)) + 18446744073709551616 ^ (k + q) * s + 18446744073709551616 ^ (k + q) * 18446744073709551616 * (lim xs k / 2 ^ (64 - r)) = lv (zs.take (k + q)) + 18446744073709551616 ^ (k + q) * (s + 18446744073709551616 * (lim xs k / 2 ^ (64 - r))) := by grind
    rw [this, s2, e7]
    rw [e7] at h5
    grind

set_option maxHeartbeats 400000 in
set_option maxRecDepth 100000 in
theorem left_some (A : Option Addr) (l c n q r : Nat) (xs : List Int) (w : World) (hr : Rd w A l xs) (ho : Okl xs) (h0 : 0 < l) (hl : l ≤ 1099511627777) (hn : n ≤ 70368744177664) (hq : n = 64 * q + r) (hr2 : r < 64) :
    Calls Try.prog 122 #[.slice A l c, .int .i64 n] w (RetB w fun v w' => CapAt w' v (2 ^ n * lv xs)) := by
  obtain rfl := hr.1
  have HR := Lib.hid hr
  have HO := Lib.hid ho
  have HQ := Lib.hid hq
  have HNN := Lib.hid hn
  clear hr ho hn
  have hmk : ∀ W : World, (Instr.makeSlice 79 (.int .i64 ((xs.length : Int) + (q : Int) + 1)) (.int .i64 ((xs.length : Int) + (q : Int) + 1))).run Try.prog W = .ok (.slice (some ⟨W.heap.size, 0, none⟩) (xs.length + q + 1) (xs.length + q + 1)) (W.alloc (.cells (madeCells #[.int .u64 0] (xs.length + q + 1)) 101)) := make64 (xs.length + q + 1) (by have := HNN.out; omega)
  have hd : (n : Int) / 64 = q := by omega
  have hm : (n : Int) % 64 = r := by omega
  have hqb : q ≤ 1099511627776 := by have := HNN.out; omega
  clear hq
  go_enter Try.func122, Try.ntmps122
  go_wp2
  clear hmk
  go_loopw [20] (fun iv wr => ∃ (k : Nat) (zs : List Int), k ≤ xs.length ∧ iv = .int .i64 k ∧ Hid (LeftInv w wr n q r k xs zs)) (fun v _ => xs.length - (intOf v).toNat)
  case atStart => exact ⟨0, List.replicate (xs.length + q + 1) 0, by omega, rfl, Lib.hid ⟨Own.made _ _, by simp, Okl.zeros _, by rw [lim_zeros]; exact pow2_pos r, by rw [List.take_replicate, lv_zeros]; simp [lv], (Below.refl _ _).alloc (Nat.le_refl _) _⟩⟩
  case round =>
    obtain ⟨k, zs, hk, rfl, HI⟩ := hrel
    by_cases hkn : k < xs.length
    · obtain ⟨ad, rfl, hca⟩ := (HR.out.below HI.out.2.2.2.2.2).at_ k hkn
      have hcz := HI.out.1.cell (k + q) (by have := HI.out.2.1; omega)
      have hcz2 := HI.out.1.cell (k + q + 1) (by have := HI.out.2.1; omega)
      have hfz := HI.out.1.frozen (k + q)
      have hfz2 := HI.out.1.frozen (k + q + 1)
      have hbx := HO.out.at_ k
      go_wp2
      go_region
      go_wp2
      go_roundw
      case rel => exact ⟨k + 1, _, by omega, by go_num, Lib.hid (HI.out.step hkn HO.out hr2 HQ.out)⟩
      case measure => simp [intOf]; omega
    · obtain rfl : k = xs.length := by omega
      obtain ⟨g1, g2, g3, g4, g5, g6⟩ := HI.out
      have hl : lv zs = 2 ^ n * lv xs := by
        rw [List.take_of_length_le (by omega), List.take_of_length_le (by omega)] at g5
        exact g5
      have HL := Lib.hid hl
      have HT := Lib.hid (trim_any (some ⟨w.heap.size, 0, none⟩) (xs.length + q + 1) (xs.length + q + 1) zs wr (Nat.le_refl _) (by omega) (g1.rd g2) g3)
      have HB := Lib.hid g6
      clear g1 g2 g3 g4 g5 g6 hl
      go_wp2_with ((go_at_call 134); (refine (HT.out).mono ?_); rintro e w' ⟨⟨v, rfl, hv⟩, rfl⟩)
      go_ret
      rw [← HL.out]
      exact RetB.mk hv.cap HB.out
set_option maxHeartbeats 400000 in
set_option maxRecDepth 100000 in
theorem left_none (A : Option Addr) (c : Nat) (n : Int) (w : World) :
    Calls Try.prog 122 #[.slice A 0 c, .int .i64 n] w (RetB w fun v w' => CapAt w' v 0) := by
  go_enter Try.func122, Try.ntmps122
  go_wp2
  go_ret
  exact RetB.mk ⟨none, 0, [], rfl, by omega, Rd.nil _ _, Norm.nil, rfl⟩ (Below.refl _ _)
theorem left_cap (va : Value) (a : Int) (n : Nat) (w : World) (ha : NatAt w va a) (hla : Sm a) (hn : n ≤ 70368744177664) :
    Calls Try.prog 122 #[va, .int .i64 n] w (RetB w fun v w' => CapAt w' v (2 ^ n * a)) := by
  obtain ⟨A, l, c, xs, rfl, hc, hr, hx, hv⟩ := ha
  have h1 : l ≤ 1099511627777 := by rw [← hr.1]; exact hx.len hv hla
  rcases Nat.eq_zero_or_pos l with rfl | h0
  · obtain rfl := List.eq_nil_of_length_eq_zero hr.1
    obtain rfl : a = 0 := hv.symm
    rw [Int.mul_zero]
    exact left_none A c n w
  · rw [← hv]
    exact left_some A l c n (n / 64) (n % 64) xs w hr hx.1 h0 h1 hn (by omega) (by omega)
theorem left_any (va : Value) (a : Int) (n : Nat) (w : World) (ha : NatAt w va a) (hla : Sm a) (hn : n ≤ 70368744177664) :
    Calls Try.prog 122 #[va, .int .i64 n] w (RetB w fun v w' => NatAt w' v (2 ^ n * a)) :=
  (left_cap va a n w ha hla hn).mono fun _ _ ⟨⟨v, e, h⟩, hb⟩ => ⟨⟨v, e, h.nat⟩, hb⟩
end Go.Proofs.Ytcabnnfhcolcfaa
namespace Go.Proofs.Ytcabnnfhcolcfaa
set_option linter.unusedSimpArgs false
set_option linter.unusedVariables false
open Go.RowKit

set_option maxHeartbeats 400000 in
set_option maxRecDepth 100000 in
theorem right_low (A : Option Addr) (l c n q : Nat) (w : World) (hq : (n : Int) / 64 = q) (h : l ≤ q) (hc : l ≤ c) (hqb : q ≤ 1099511627776) :
    Calls Try.prog 120 #[.slice A l c, .int .i64 n] w (RetB w fun v w' => CapAt w' v 0) := by
  go_enter Try.func120, Try.ntmps120
  go_wp2
  go_ret
  exact RetB.mk ⟨none, 0, [], rfl, by omega, Rd.nil _ _, Norm.nil, rfl⟩ (Below.refl _ _)

/-- A limb shifted right by r, and the next one's low bits above it. -/
theorem shr_parts {a b : Int} {r : Nat} (hr : r < 64) (ha : 0 ≤ a ∧ a < 18446744073709551616) (hb : 0 ≤ b ∧ b < 18446744073709551616) :
    ∃ s, bits .or .u64 (a / 2 ^ r) (IntKind.u64.wrap (b * 2 ^ (64 - r))) = s ∧ 0 ≤ s ∧ s < 18446744073709551616 ∧ 2 ^ r * s + a % 2 ^ r = a + 18446744073709551616 * (b % 2 ^ r) := by
  have hp := pow2_pos r
  have hq := pow2_pos (64 - r)
  have hpq := pq64 hr
  have hw : IntKind.u64.wrap (b * 2 ^ (64 - r)) = 2 ^ (64 - r) * (b % 2 ^ r) := by
    rw [wrap_u64, ← hpq, Int.mul_comm b, Int.mul_comm (2 ^ r), Int.mul_emod_mul_of_pos _ _ hq]
  have h1 := Int.emod_nonneg b (show (2 : Int) ^ r ≠ 0 by omega)
  have h2 := Int.emod_lt_of_pos b hp
  have h3 : 0 ≤ a / 2 ^ r := Int.ediv_nonneg ha.1 (by omega)
  have h4 : a / 2 ^ r < 2 ^ (64 - r) := Int.ediv_lt_of_lt_mul hp (by rw [Int.mul_comm, hpq]; exact ha.2)
  have hlim : 2 ^ (64 - r) * (b % 2 ^ r) + 2 ^ (64 - r) ≤ 18446744073709551616 := by
    rw [← hpq]
    have := Int.mul_le_mul_of_nonneg_left (show b % 2 ^ r + 1 ≤ 2 ^ r by omega) (Int.le_of_lt hq)
    rw [Int.mul_add, Int.mul_one, Int.mul_comm (2 ^ (64 - r)) (2 ^ r)] at this
    exact this
  have hpm := Int.mul_nonneg (Int.le_of_lt hq) h1
  rw [hw]
  refine ⟨a / 2 ^ r + 2 ^ (64 - r) * (b % 2 ^ r), ?_, by omega, by omega, ?_⟩
  · rw [u64_or _ _ h3 (by omega) hpm (by omega)]
    obtain ⟨a', e1⟩ := Int.eq_ofNat_of_zero_le h3
    obtain ⟨m', e2⟩ := Int.eq_ofNat_of_zero_le h1
    rw [e1, e2]
    rw [e1] at h4
    have e : ((2 : Int) ^ (64 - r) * (m' : Int)) = ((2 ^ (64 - r) * m' : Nat) : Int) := by simp
    rw [e, Int.toNat_natCast, Int.toNat_natCast, Nat.or_comm, nat_join (64 - r) (2 ^ (64 - r) * m') a' (by simp) (by exact_mod_cast h4)]
    simp [Int.add_comm]
  · have h5 := Int.emod_add_mul_ediv a (2 ^ r)
    have h6 : (2 : Int) ^ r * (a / 2 ^ r + 2 ^ (64 - r) * (b % 2 ^ r)) = 2 ^ r * (a / 2 ^ r) + (2 ^ r * 2 ^ (64 - r)) * (b % 2 ^ r) := by grind
    rw [h6, hpq]
    omega
theorem shr_last {a : Int} {r : Nat} (ha : 0 ≤ a ∧ a < 18446744073709551616) : 0 ≤ a / 2 ^ r ∧ a / 2 ^ r < 18446744073709551616 ∧ 2 ^ r * (a / 2 ^ r) + a % 2 ^ r = a := by
  have hp := pow2_pos r
  have h5 := Int.emod_add_mul_ediv a (2 ^ r)
  refine ⟨Int.ediv_nonneg ha.1 (by omega), ?_, by omega⟩
  have := Int.ediv_le_self (2 ^ r) ha.1
  omega
def RightInv (w wr : World) (g r k : Nat) (ys zs : List Int) : Prop :=
  Own wr g zs ∧ w.heap.size ≤ g ∧ zs.length = ys.length ∧ Okl zs ∧ zs.drop k = ys.drop k ∧ 2 ^ r * lv (zs.take k) + lim ys 0 % 2 ^ r = lv (ys.take k) + 18446744073709551616 ^ k * (lim ys k % 2 ^ r) ∧ Below w.heap.size w wr
theorem RightInv.step {w wr wr' : World} {g r k : Nat} {ys zs : List Int} (h : RightInv w wr g r k ys zs) (hk : k < ys.length) (s : Int) (hs : 0 ≤ s ∧ s < 18446744073709551616) (e : 2 ^ r * s + lim ys k % 2 ^ r = lim ys k + 18446744073709551616 * (lim ys (k + 1) % 2 ^ r))
    (ho : Own wr' g (zs.set k s)) (hb : Below w.heap.size w wr') :
    RightInv w wr' g r (k + 1) ys (zs.set k s) := by
  obtain ⟨h1, h2, h3, h4, h5, h6, h7⟩ := h
  refine ⟨ho, h2, by simpa using h3, h4.set_ k hs, ?_, ?_, hb⟩
  · rw [drop_set_lt]
    have := congrArg (List.drop 1) h5
    simpa [List.drop_drop] using this
  · rw [lv_take_set zs k (by omega), lv_take_succ', Int.pow_succ]
    have e2 : 2 ^ r * (lv (zs.take k) + 18446744073709551616 ^ k * s) + lim ys 0 % 2 ^ r = 2 ^ r * lv (zs.take k) + lim ys 0 % 2 ^ r + 18446744073709551616 ^ k * (2 ^ r * s) := by grind
    have e3 : 2 ^ r * s = lim ys k + 18446744073709551616 * (lim ys (k + 1) % 2 ^ r) - lim ys k % 2 ^ r := by omega
    rw [e2, h6, e3]
    grind

set_option maxHeartbeats 400000 in
set_option maxRecDepth 100000 in
theorem right_some (A : Option Addr) (l c n q r : Nat) (xs : List Int) (w : World) (hr : Rd w A l xs) (ho : Okl xs) (hl : l ≤ 1099511627777) (hn : n ≤ 70368744177664) (hq : n = 64 * q + r) (hr2 : r < 64) (hlq : q < l) (hlc : l ≤ c) (hcm : c ≤ 9223372036854775807) :
    Calls Try.prog 120 #[.slice A l c, .int .i64 n] w (RetB w fun v w' => CapAt w' v (lv xs / 2 ^ n)) := by
  obtain rfl := hr.1
  have HR := Lib.hid hr
  have HO := Lib.hid ho
  have HQ := Lib.hid hq
  have hd : (n : Int) / 64 = q := by omega
  have hm : (n : Int) % 64 = r := by omega
  clear hr ho hq
  obtain ⟨ys, hys⟩ : ∃ ys, ys = xs.drop q := ⟨_, rfl⟩
  have HYS := Lib.hid hys
  have hyl : ys.length = xs.length - q := by rw [hys]; simp
  have HY := Lib.hid (show Okl ys by rw [hys]; exact HO.out.drop q)
  have HC := Lib.hid (clone_any (A.map (fun x => x.add q)) (xs.length - q) (c - q) ys w (by rw [hys]; exact HR.out.drop hlq) (by omega))
  have hyb : ys.length ≤ 1099511627777 := by omega
  have hyp : 0 < ys.length := by omega
  clear hys hyl
  go_enter Try.func120, Try.ntmps120
  go_wp2_with ((go_at_call 124); (refine (HC.out).mono ?_); rintro e w1 ⟨⟨v, rfl, hrow⟩, hb1⟩; (rcases hrow.slice with ⟨rfl, hnil⟩ | ⟨g, c1, rfl⟩))
  · rw [hnil] at hyp
    simp at hyp
  obtain ⟨hown, hge, _, hc1, hc2⟩ := hrow.own
  have HB1 := Lib.hid hb1
  have HI0 := Lib.hid (show RightInv w w1 g r 0 ys ys from ⟨hown, hge, rfl, HY.out, rfl, by simp [lv], hb1⟩)
  clear hb1 HC hrow hown
  go_loopw [19] (fun iv wr => ∃ (k : Nat) (zs : List Int), k ≤ ys.length ∧ iv = .int .i64 k ∧ Hid (RightInv w wr g r k ys zs)) (fun v _ => ys.length - (intOf v).toNat)
  case atStart => exact ⟨0, ys, by omega, rfl, HI0⟩
  case round =>
    obtain ⟨k, zs, hk, rfl, HI⟩ := hrel
    by_cases hkn : k < ys.length
    · have hcz := HI.out.1.cell k (by have := HI.out.2.2.1; omega)
      have hfz := HI.out.1.frozen k
      have hlz : lim zs k = lim ys k := lim_of_drop HI.out.2.2.2.2.1
      rw [hlz] at hcz
      clear hlz
      have hbx := HY.out.at_ k
      by_cases hk1 : k + 1 < ys.length
      · have hcz2 := HI.out.1.cell (k + 1) (by have := HI.out.2.2.1; omega)
        have hlz : lim zs (k + 1) = lim ys (k + 1) := by
          have := congrArg (List.drop 1) HI.out.2.2.2.2.1
          rw [List.drop_drop, List.drop_drop] at this
          exact lim_of_drop this
        rw [hlz] at hcz2
        clear hlz
        have hby := HY.out.at_ (k + 1)
        obtain ⟨s, es, hs0, hs1, hs2⟩ := shr_parts hr2 hbx hby
        have ES := Lib.hid es
        have HS := Lib.hid hs2
        clear es hs2
        go_wp2
        go_region
        go_wp2
        rw [ES.out]
        go_roundw
        case rel => exact ⟨k + 1, zs.set k s, by omega, by go_num, Lib.hid (HI.out.step hkn s ⟨hs0, hs1⟩ HS.out
          (by
            have := (((HI.out.1.set_ k (lim ys k / 2 ^ r) (by have := HI.out.2.2.1; omega)).set_ k s (by have := HI.out.2.2.1; simp; omega))).drew
            rwa [List.set_set] at this)
          (((HI.out.2.2.2.2.2.2.setCell HI.out.2.1 _).setCell HI.out.2.1 _).drew))⟩
        case measure => simp [intOf]; omega
      · have hz := lim_end (xs := ys) (n := k + 1) (by omega)
        have HZ := Lib.hid hz
        clear hz
        go_wp2
        go_roundw
        case rel => exact ⟨k + 1, zs.set k (lim ys k / 2 ^ r), by omega, by go_num, Lib.hid (HI.out.step hkn _ ⟨(shr_last hbx).1, (shr_last hbx).2.1⟩ (by rw [HZ.out]; have := (shr_last (r := r) hbx).2.2; simp; omega)
          (HI.out.1.set_ k _ (by have := HI.out.2.2.1; omega))
          (HI.out.2.2.2.2.2.2.setCell HI.out.2.1 _))⟩
        case measure => simp [intOf]; omega
    · obtain rfl : k = ys.length := by omega
      obtain ⟨g1, g2, g3, g4, g5, g6, g7⟩ := HI.out
      have hl : lv zs = lv xs / 2 ^ n := by
        rw [List.take_of_length_le (by omega), List.take_of_length_le (by omega), lim_end (n := ys.length) (by omega)] at g6
        have e1 := lv_take_drop xs q (by omega)
        rw [← HYS.out] at e1
        have e2 : (2 : Int) ^ n = 18446744073709551616 ^ q * 2 ^ r := by rw [HQ.out, Int.pow_add, pow64_eq]
        have e3 := lv_lt (HO.out.take q)
        have e4 := lv_nonneg (HO.out.take q)
        rw [List.length_take, Nat.min_eq_left (by omega)] at e3
        have hp := pow2_pos r
        have hq := pow_pos64 q
        have e5 := Int.emod_nonneg (lim ys 0) (show (2 : Int) ^ r ≠ 0 by omega)
        have e6 := Int.emod_lt_of_pos (lim ys 0) hp
        have e7 : lv xs / 18446744073709551616 ^ q = lv ys := by
          rw [e1, Int.add_mul_ediv_left _ _ (by omega), Int.ediv_eq_zero_of_lt e4 e3]; omega
        rw [e2, ← Int.ediv_ediv_of_nonneg (by omega), e7]
        have e8 : lv ys = lim ys 0 % 2 ^ r + 2 ^ r * lv zs := by simp at g6; omega
        rw [e8, Int.add_mul_ediv_left _ _ (by omega), Int.ediv_eq_zero_of_lt e5 e6]; omega
      have HL := Lib.hid hl
      have HT := Lib.hid (trim_any (some ⟨g, 0, none⟩) ys.length c1 zs wr hc1 hc2 (g1.rd g3) g4)
      have HB := Lib.hid g7
      clear g1 g2 g3 g4 g5 g6 g7 hl
      go_wp2_with ((go_at_call 134); (refine (HT.out).mono ?_); rintro e w' ⟨⟨v, rfl, hv⟩, rfl⟩)
      go_ret
      rw [← HL.out]
      exact RetB.mk hv.cap HB.out
theorem right_any (va : Value) (a : Int) (n : Nat) (w : World) (ha : NatAt w va a) (hla : Sm a) (hn : n ≤ 70368744177664) :
    Calls Try.prog 120 #[va, .int .i64 n] w (RetB w fun v w' => NatAt w' v (a / 2 ^ n)) := by
  obtain ⟨A, l, c, xs, rfl, hc, hr, hx, hv⟩ := ha
  have h1 : l ≤ 1099511627777 := by rw [← hr.1]; exact hx.len hv hla
  have hnat : ∀ {e w'}, RetB w (fun v w' => CapAt w' v (a / 2 ^ n)) e w' → RetB w (fun v w' => NatAt w' v (a / 2 ^ n)) e w' := fun ⟨⟨v, e, h⟩, hb⟩ => ⟨⟨v, e, h.nat⟩, hb⟩
  rcases Nat.lt_or_ge (n / 64) l with h | h
  · have := right_some A l c n (n / 64) (n % 64) xs w hr hx.1 h1 hn (by omega) (by omega) h hc.1 hc.2
    rw [hv] at this
    exact this.mono fun _ _ => hnat
  · have e : a / 2 ^ n = 0 := by
      refine Int.ediv_eq_zero_of_lt (by rw [← hv]; exact lv_nonneg hx.1) ?_
      have h2 := lv_lt hx.1
      rw [hv, pow64_eq, hr.1] at h2
      have h3 := pow2_mono (show 64 * l ≤ n by omega)
      omega
    rw [e] at hnat ⊢
    exact (right_low A l c n (n / 64) w (by omega) h hc.1 (by omega)).mono fun _ _ => hnat
end Go.Proofs.Ytcabnnfhcolcfaa
