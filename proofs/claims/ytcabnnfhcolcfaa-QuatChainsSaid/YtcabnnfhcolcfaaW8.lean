/- The walk of schoolbook. -/
import Derived.Test.YtcabnnfhcolcfaaW6
import Derived.Test.YtcabnnfhcolcfaaB1
namespace Go.Proofs.Ytcabnnfhcolcfaa
set_option linter.unusedSimpArgs false
set_option linter.unusedVariables false
open Go.RowKit

/-- A limb by a limb, and two limbs more. -/
theorem mac_step {x y z c : Int} (hx : 0 ≤ x ∧ x < 18446744073709551616) (hy : 0 ≤ y ∧ y < 18446744073709551616) (hz : 0 ≤ z ∧ z < 18446744073709551616) (hc : 0 ≤ c ∧ c < 18446744073709551616) :
    ∃ h1 l1 l2 o1 l3 o2 : Int, (∀ w, Calls Try.prog 143 #[.int .u64 x, .int .u64 y] w fun e w' => e = .returned (.tuple #[.int .u64 h1, .int .u64 l1]) ∧ w = w') ∧
      (∀ w, (callFunc 144 #[.int .u64 l1, .int .u64 c, .int .u64 0]).run Try.prog w = .ok (.value (.tuple #[.int .u64 l2, .int .u64 o1])) w) ∧
      (∀ w, (callFunc 144 #[.int .u64 z, .int .u64 l2, .int .u64 0]).run Try.prog w = .ok (.value (.tuple #[.int .u64 l3, .int .u64 o2])) w) ∧
      (0 ≤ h1 + o1 ∧ h1 + o1 < 18446744073709551616) ∧ (0 ≤ h1 + o1 + o2 ∧ h1 + o1 + o2 < 18446744073709551616) ∧ (0 ≤ l3 ∧ l3 < 18446744073709551616) ∧ l3 + 18446744073709551616 * (h1 + o1 + o2) = z + x * y + c := by
  have hp0 : 0 ≤ x * y := Int.mul_nonneg hx.1 hy.1
  have hp1 : x * y ≤ 18446744073709551615 * 18446744073709551615 := Int.mul_le_mul (by omega) (by omega) hy.1 (by omega)
  obtain ⟨p, hp⟩ : ∃ p, x * y = p := ⟨_, rfl⟩
  have hm := mul64_any x y hx hy
  rw [hp] at hm hp0 hp1
  refine ⟨p / 18446744073709551616, p % 18446744073709551616, (p % 18446744073709551616 + c) % 18446744073709551616, (p % 18446744073709551616 + c) / 18446744073709551616,
    (z + (p % 18446744073709551616 + c) % 18446744073709551616) % 18446744073709551616, (z + (p % 18446744073709551616 + c) % 18446744073709551616) / 18446744073709551616, hm, fun w => ?_, fun w => ?_, by omega, by omega, by omega, by omega⟩
  · rw [run_add _ _ _ (by omega) hc.1 (by omega) (by omega)]; simp only [Int.add_zero]
  · rw [run_add _ _ _ hz.1 (by omega) (by omega) (by omega)]; simp only [Int.add_zero]

def MulOut (w wr : World) (i : Nat) (xs ys zs : List Int) : Prop :=
  Own wr w.heap.size zs ∧ zs.length = xs.length + ys.length ∧ Okl zs ∧ (∀ j, i + ys.length ≤ j → lim zs j = 0) ∧ lv zs = lv (xs.take i) * lv ys ∧ Below w.heap.size w wr
def MulIn (w wr : World) (i k : Nat) (cr : Int) (xs ys zs : List Int) : Prop :=
  Own wr w.heap.size zs ∧ zs.length = xs.length + ys.length ∧ Okl zs ∧ (∀ j, i + ys.length ≤ j → lim zs j = 0) ∧
    lv zs + 18446744073709551616 ^ (i + k) * cr = lv (xs.take i) * lv ys + 18446744073709551616 ^ i * (lim xs i * lv (ys.take k)) ∧ (0 ≤ cr ∧ cr < 18446744073709551616) ∧ Below w.heap.size w wr
theorem MulIn.step {w wr : World} {i k : Nat} {cr : Int} {xs ys zs : List Int} (h : MulIn w wr i k cr xs ys zs) (hi : i < xs.length) (hk : k < ys.length) (s c' : Int) (hs : 0 ≤ s ∧ s < 18446744073709551616) (hc : 0 ≤ c' ∧ c' < 18446744073709551616)
    (e : s + 18446744073709551616 * c' = lim zs (i + k) + lim xs i * lim ys k + cr) : MulIn w (wr.setCell ⟨w.heap.size, i + k, none⟩ (.int .u64 s)) i (k + 1) c' xs ys (zs.set (i + k) s) := by
  obtain ⟨h1, h2, h3, h4, h5, h6, h7⟩ := h
  refine ⟨h1.set_ _ _ (by omega), by simpa using h2, h3.set_ _ hs, fun j hj => by rw [lim_set_ne (by omega)]; exact h4 j hj, ?_, hc, h7.setCell (Nat.le_refl _) _⟩
  rw [lv_set _ _ (by omega), lv_take_succ', ← Nat.add_assoc, Int.pow_succ]
  have e2 : lv zs + 18446744073709551616 ^ (i + k) * (s - lim zs (i + k)) + 18446744073709551616 ^ (i + k) * 18446744073709551616 * c' = lv zs + 18446744073709551616 ^ (i + k) * cr + 18446744073709551616 ^ (i + k) * (lim xs i * lim ys k) := by
    have : lv zs + 18446744073709551616 ^ (i + k) * (s - lim zs (i + k)) + 18446744073709551616 ^ (i + k) * 18446744073709551616 * c' = lv zs + 18446744073709551616 ^ (i + k) * ((s + 18446744073709551616 * c') - lim zs (i + k)) := by grind
    rw [this, e]
    grind
  rw [e2, h5, Int.pow_add]
  grind
theorem MulIn.close {w wr : World} {i : Nat} {cr : Int} {xs ys zs : List Int} (h : MulIn w wr i ys.length cr xs ys zs) (hi : i < xs.length) : MulOut w (wr.setCell ⟨w.heap.size, i + ys.length, none⟩ (.int .u64 cr)) (i + 1) xs ys (zs.set (i + ys.length) cr) := by
  obtain ⟨h1, h2, h3, h4, h5, h6, h7⟩ := h
  refine ⟨h1.set_ _ _ (by omega), by simpa using h2, h3.set_ _ h6, fun j hj => by rw [lim_set_ne (by omega)]; exact h4 j (by omega), ?_, h7.setCell (Nat.le_refl _) _⟩
  rw [lv_set _ _ (by omega), h4 _ (Nat.le_refl _), lv_take_succ']
  rw [List.take_of_length_le (Nat.le_refl _)] at h5
  have : lv zs + 18446744073709551616 ^ (i + ys.length) * (cr - 0) = lv zs + 18446744073709551616 ^ (i + ys.length) * cr := by rw [Int.sub_zero]
  rw [this, h5]
  grind

set_option maxHeartbeats 1000000 in
set_option maxRecDepth 100000 in
theorem schoolbook_raw (A B : Option Addr) (n m c d : Nat) (xs ys : List Int) (w : World) (hr : Rd w A n xs) (hs : Rd w B m ys) (hn : Okl xs) (hm : Okl ys) (h1 : n ≤ 1099511627777) (h2 : m ≤ 1099511627777) :
    Calls Try.prog 136 #[.slice A n c, .slice B m d] w (RetB w fun v w' => CapAt w' v (lv xs * lv ys)) := by
  obtain rfl := hr.1
  obtain rfl := hs.1
  have HR := Lib.hid hr
  have HS := Lib.hid hs
  have HN := Lib.hid hn
  have HM := Lib.hid hm
  clear hr hs hn hm
  have hmk : ∀ W : World, (Instr.makeSlice 79 (.int .i64 ((xs.length : Int) + (ys.length : Int))) (.int .i64 ((xs.length : Int) + (ys.length : Int)))).run Try.prog W = .ok (.slice (some ⟨W.heap.size, 0, none⟩) (xs.length + ys.length) (xs.length + ys.length)) (W.alloc (.cells (madeCells #[.int .u64 0] (xs.length + ys.length)) 101)) := make64 (xs.length + ys.length) (by omega)
  go_enter Try.func136, Try.ntmps136
  go_wp2
  clear hmk
  go_loopw [23] (fun iv wr => ∃ (i : Nat) (zs : List Int), i ≤ xs.length ∧ iv = .int .i64 i ∧ Hid (MulOut w wr i xs ys zs)) (fun v _ => xs.length - (intOf v).toNat)
  case atStart => exact ⟨0, List.replicate (xs.length + ys.length) 0, by omega, rfl, Lib.hid ⟨Own.made _ _, by simp, Okl.zeros _, fun j _ => lim_zeros _ _, by rw [lv_zeros]; simp [lv], (Below.refl _ _).alloc (Nat.le_refl _) _⟩⟩
  case round =>
    obtain ⟨i, zs, hi, rfl, HI⟩ := hrel
    by_cases hin : i < xs.length
    · obtain ⟨ad, rfl, hca⟩ := (HR.out.below HI.out.2.2.2.2.2).at_ i hin
      obtain ⟨wo, rfl⟩ : ∃ wo : World, wo = wr := ⟨_, rfl⟩
      go_wp2
      go_loopw [9, 43] (fun cv iv wr => ∃ (k : Nat) (cr : Int) (zs : List Int), k ≤ ys.length ∧ iv = .int .i64 k ∧ cv = .int .u64 cr ∧ Hid (MulIn w wr i k cr xs ys zs)) (fun _ v _ => ys.length - (intOf v).toNat)
      case atStart => exact ⟨0, 0, zs, by omega, rfl, rfl, Lib.hid ⟨HI.out.1, HI.out.2.1, HI.out.2.2.1, HI.out.2.2.2.1, by rw [HI.out.2.2.2.2.1]; simp [lv], by omega, HI.out.2.2.2.2.2⟩⟩
      case round =>
        clear HI zs
        obtain ⟨k, cr, zs, hk, rfl, rfl, HI⟩ := hrel
        by_cases hkn : k < ys.length
        · obtain ⟨bd, rfl, hcb⟩ := (HS.out.below HI.out.2.2.2.2.2.2).at_ k hkn
          have hcz := HI.out.1.cell (i + k) (by have := HI.out.2.1; omega)
          have hfz := HI.out.1.frozen (i + k)
          obtain ⟨h1, l1, l2, o1, l3, o2, hm1, ha1, ha2, b1, b2, b3, e⟩ := mac_step (HN.out.at_ i) (HM.out.at_ k) (HI.out.2.2.1.at_ (i + k)) HI.out.2.2.2.2.2.1
          have HE := Lib.hid e
          have HM1 := Lib.hid hm1
          clear e hm1
          go_wp2_with (go_at_call 143; (refine (HM1.out _).mono ?_); rintro e w' ⟨rfl, rfl⟩)
          go_roundw
          case rel => exact ⟨k + 1, _, _, by omega, by go_num, rfl, Lib.hid (HI.out.step hin hkn l3 (h1 + o1 + o2) b3 b2 HE.out)⟩
          case measure => simp [intOf]; omega
        · obtain rfl : k = ys.length := by omega
          have hcz := HI.out.1.cell (i + ys.length) (by have := HI.out.2.1; omega)
          have hfz := HI.out.1.frozen (i + ys.length)
          go_wp2
          go_roundw
          case rel => exact ⟨i + 1, _, by omega, by go_num, Lib.hid (HI.out.close hin)⟩
          case measure => simp [intOf]; omega
    · obtain rfl : i = xs.length := by omega
      obtain ⟨g1, g2, g3, g4, g5, g6⟩ := HI.out
      rw [List.take_of_length_le (Nat.le_refl _)] at g5
      have HL := Lib.hid g5
      have HT := Lib.hid (trim_any (some ⟨w.heap.size, 0, none⟩) (xs.length + ys.length) (xs.length + ys.length) zs wr (Nat.le_refl _) (by omega) (g1.rd g2) g3)
      have HB := Lib.hid g6
      clear g1 g2 g3 g4 g5 g6
      go_wp2_with ((go_at_call 134); (refine (HT.out).mono ?_); rintro e w' ⟨⟨v, rfl, hv⟩, rfl⟩)
      go_ret
      rw [← HL.out]
      exact RetB.mk hv.cap HB.out
theorem schoolbook_any (va vb : Value) (a b : Int) (w : World) (ha : NatAt w va a) (hb : NatAt w vb b) (hla : Sm a) (hlb : Sm b) :
    Calls Try.prog 136 #[va, vb] w (RetB w fun v w' => NatAt w' v (a * b)) := by
  obtain ⟨A, n, c, xs, rfl, hc, hr, hn, hv⟩ := ha
  obtain ⟨B, m, d, ys, rfl, hd, hs, hm, hu⟩ := hb
  have h1 : n ≤ 1099511627777 := by rw [← hr.1]; exact hn.len hv hla
  have h2 : m ≤ 1099511627777 := by rw [← hs.1]; exact hm.len hu hlb
  rw [← hv, ← hu]
  exact (schoolbook_raw A B n m c d xs ys w hr hs hn.1 hm.1 h1 h2).mono fun _ _ ⟨⟨v, e, h⟩, hb⟩ => ⟨⟨v, e, h.nat⟩, hb⟩
end Go.Proofs.Ytcabnnfhcolcfaa
