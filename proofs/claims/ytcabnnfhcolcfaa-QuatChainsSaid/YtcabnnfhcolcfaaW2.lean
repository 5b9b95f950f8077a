/- The walk of add. -/
import Derived.Test.YtcabnnfhcolcfaaW1
import Derived.IntWalk
namespace Go.Proofs.Ytcabnnfhcolcfaa
set_option linter.unusedSimpArgs false
set_option linter.unusedVariables false
open Go.RowKit

theorem u64_over (a : Int) (h : 18446744073709551616 ≤ a) (h2 : a < 36893488147419103232) : IntKind.u64.wrap a = a - 18446744073709551616 := by
  simp only [IntKind.wrap]; simp [IntKind.bits, IntKind.signed]; omega
def AddInv (w wr : World) (n k : Nat) (cr : Int) (xs ys zs : List Int) : Prop :=
  Own wr w.heap.size zs ∧ zs.length = n + 1 ∧ Okl zs ∧ (0 ≤ cr ∧ cr ≤ 1) ∧ lv (zs.take k) + 18446744073709551616 ^ k * cr = lv (xs.take k) + lv (ys.take k) ∧ Below w.heap.size w wr

theorem AddInv.step {w wr : World} {n k : Nat} {cr : Int} {xs ys zs : List Int} (h : AddInv w wr n k cr xs ys zs) (hk : k < n) (s c' : Int) (hs : 0 ≤ s ∧ s < 18446744073709551616) (hc : 0 ≤ c' ∧ c' ≤ 1) (e : s + 18446744073709551616 * c' = lim xs k + lim ys k + cr) :
    AddInv w (wr.setCell ⟨w.heap.size, k, none⟩ (.int .u64 s)) n (k + 1) c' xs ys (zs.set k s) := by
  obtain ⟨h1, h2, h3, h4, h5, h6⟩ := h
  refine ⟨h1.set_ k s (by omega), by simpa using h2, h3.set_ k hs, hc, ?_, h6.setCell (Nat.le_refl _) _⟩
  rw [lv_take_set zs k (by omega), lv_take_succ', lv_take_succ', Int.pow_succ]
  have : lv (zs.take k) + 18446744073709551616 ^ k * s + 18446744073709551616 ^ k * 18446744073709551616 * c' = lv (zs.take k) + 18446744073709551616 ^ k * (s + 18446744073709551616 * c') := by grind
  rw [this, e]
  grind

set_option maxHeartbeats 400000 in
theorem add_le (A B : Option Addr) (n m c d : Nat) (xs ys : List Int) (w : World) (hr : Rd w A n xs) (hs : Rd w B m ys) (hn : Norm xs) (hm : Norm ys) (hle : m ≤ n) (h1 : n ≤ 1099511627777) :
    Calls Try.prog 123 #[.slice A n c, .slice B m d] w (RetB w fun v w' => NatAt w' v (lv xs + lv ys)) := by
  have HR := Lib.hid hr
  have HS := Lib.hid hs
  have HN := Lib.hid hn
  have HM := Lib.hid hm
  clear hr hs hn hm
  have hmk : ∀ W : World, (Instr.makeSlice 79 (.int .i64 ((n : Int) + 1)) (.int .i64 ((n : Int) + 1))).run Try.prog W = .ok (.slice (some ⟨W.heap.size, 0, none⟩) (n + 1) (n + 1)) (W.alloc (.cells (madeCells #[.int .u64 0] (n + 1)) 101)) := make64 (n + 1) (by omega)
  go_enter Try.func123, Try.ntmps123
  go_wp2
  clear hmk
  go_loopw [6, 23] (fun cv iv wr => ∃ (k : Nat) (cr : Int) (zs : List Int), k ≤ n ∧ iv = .int .i64 k ∧ cv = .int .u64 cr ∧ Hid (AddInv w wr n k cr xs ys zs)) (fun _ v _ => n - (intOf v).toNat)
  case atStart => exact ⟨0, 0, List.replicate (n + 1) 0, by omega, rfl, rfl, Lib.hid ⟨Own.made _ _, by simp, Okl.zeros _, by omega, by simp [lv], (Below.refl _ _).alloc (Nat.le_refl _) _⟩⟩
  case round =>
    obtain ⟨k, cr, zs, hk, rfl, rfl, HI⟩ := hrel
    by_cases hkn : k < n
    · obtain ⟨ad, rfl, hca⟩ := (HR.out.below HI.out.2.2.2.2.2).at_ k hkn
      have hcz := HI.out.1.cell k (by have := HI.out.2.1; omega)
      have hfz := HI.out.1.frozen k
      have hbx := HN.out.1.at_ k
      have hcr := HI.out.2.2.2.1
      by_cases hkm : k < m
      · obtain ⟨bd, rfl, hcb⟩ := (HS.out.below HI.out.2.2.2.2.2).at_ k hkm
        have hby := HM.out.1.at_ k
        by_cases c1 : lim xs k + cr < 18446744073709551616
        · by_cases c2 : lim xs k + cr + lim ys k < 18446744073709551616
          · go_wp2
            go_roundw
            case rel => exact ⟨k + 1, 0, _, by omega, by go_num, rfl, Lib.hid (HI.out.step hkn _ 0 (by omega) (by omega) (by omega))⟩
            case measure => simp [intOf]; omega
          · have hw := u64_over (lim xs k + cr + lim ys k) (by omega) (by omega)
            go_wp2
            go_roundw
            case rel => exact ⟨k + 1, 1, _, by omega, by go_num, rfl, Lib.hid (HI.out.step hkn _ 1 (by omega) (by omega) (by omega))⟩
            case measure => simp [intOf]; omega
        · have hw := u64_over (lim xs k + cr) (by omega) (by omega)
          have h0 : lim xs k + cr - 18446744073709551616 = 0 := by omega
          rw [h0] at hw
          clear h0
          go_wp2
          go_roundw
          case rel => exact ⟨k + 1, 1, _, by omega, by go_num, rfl, Lib.hid (HI.out.step hkn _ 1 (by omega) (by omega) (by omega))⟩
          case measure => simp [intOf]; omega
      · have hby : lim ys k = 0 := lim_end (by have := HS.out.1; omega)
        have HY := Lib.hid hby
        clear hby
        by_cases c1 : lim xs k + cr < 18446744073709551616
        · go_wp2
          go_roundw
          case rel => exact ⟨k + 1, 0, _, by omega, by go_num, rfl, Lib.hid (HI.out.step hkn _ 0 (by omega) (by omega) (by rw [HY.out]; omega))⟩
          case measure => simp [intOf]; omega
        · have hw := u64_over (lim xs k + cr) (by omega) (by omega)
          go_wp2
          go_roundw
          case rel => exact ⟨k + 1, 1, _, by omega, by go_num, rfl, Lib.hid (HI.out.step hkn _ 1 (by omega) (by omega) (by rw [HY.out]; omega))⟩
          case measure => simp [intOf]; omega
    · obtain rfl : k = n := by omega
      have hcz := HI.out.1.cell k (by have := HI.out.2.1; omega)
      have hfz := HI.out.1.frozen k
      have hcr := HI.out.2.2.2.1
      obtain ⟨g1, g2, g3, g4, g5, g6⟩ := HI.out
      have hl : lv (zs.set k cr) = lv xs + lv ys := by
        have e := lv_take_set zs k (by omega) cr
        rw [List.take_of_length_le (by simp; omega), g5, List.take_of_length_le (by have := HR.out.1; omega), List.take_of_length_le (by have := HS.out.1; omega)] at e
        exact e
      have HL := Lib.hid hl
      have HT := trim_any (some ⟨w.heap.size, 0, none⟩) (k + 1) (k + 1) (zs.set k cr) (wr.setCell ⟨w.heap.size, k, none⟩ (.int .u64 cr)) (Nat.le_refl _) (by omega) ((g1.set_ k cr (by omega)).rd (by simpa using g2)) (g3.set_ k (by omega))
      have HT := Lib.hid HT
      have HB := Lib.hid (Below.setCell g6 (p := ⟨w.heap.size, k, none⟩) (Nat.le_refl _) (.int .u64 cr))
      clear g1 g2 g3 g4 g5 g6 hl
      go_wp2_with ((go_at_call 134); (refine (HT.out).mono ?_); rintro e w' ⟨⟨v, rfl, hv⟩, rfl⟩)
      go_ret
      rw [← HL.out]
      exact RetB.mk hv.nat HB.out
set_option maxHeartbeats 400000 in
theorem add_gt (A B : Option Addr) (n m c d : Nat) (xs ys : List Int) (w : World) (hr : Rd w A n xs) (hs : Rd w B m ys) (hn : Norm xs) (hm : Norm ys) (hle : m < n) (h1 : n ≤ 1099511627777) :
    Calls Try.prog 123 #[.slice B m d, .slice A n c] w (RetB w fun v w' => NatAt w' v (lv xs + lv ys)) := by
  have HR := Lib.hid hr
  have HS := Lib.hid hs
  have HN := Lib.hid hn
  have HM := Lib.hid hm
  clear hr hs hn hm
  have hmk : ∀ W : World, (Instr.makeSlice 79 (.int .i64 ((n : Int) + 1)) (.int .i64 ((n : Int) + 1))).run Try.prog W = .ok (.slice (some ⟨W.heap.size, 0, none⟩) (n + 1) (n + 1)) (W.alloc (.cells (madeCells #[.int .u64 0] (n + 1)) 101)) := make64 (n + 1) (by omega)
  go_enter Try.func123, Try.ntmps123
  go_wp2
  clear hmk
  go_loopw [6, 23] (fun cv iv wr => ∃ (k : Nat) (cr : Int) (zs : List Int), k ≤ n ∧ iv = .int .i64 k ∧ cv = .int .u64 cr ∧ Hid (AddInv w wr n k cr xs ys zs)) (fun _ v _ => n - (intOf v).toNat)
  case atStart => exact ⟨0, 0, List.replicate (n + 1) 0, by omega, rfl, rfl, Lib.hid ⟨Own.made _ _, by simp, Okl.zeros _, by omega, by simp [lv], (Below.refl _ _).alloc (Nat.le_refl _) _⟩⟩
  case round =>
    obtain ⟨k, cr, zs, hk, rfl, rfl, HI⟩ := hrel
    by_cases hkn : k < n
    · obtain ⟨ad, rfl, hca⟩ := (HR.out.below HI.out.2.2.2.2.2).at_ k hkn
      have hcz := HI.out.1.cell k (by have := HI.out.2.1; omega)
      have hfz := HI.out.1.frozen k
      have hbx := HN.out.1.at_ k
      have hcr := HI.out.2.2.2.1
      by_cases hkm : k < m
      · obtain ⟨bd, rfl, hcb⟩ := (HS.out.below HI.out.2.2.2.2.2).at_ k hkm
        have hby := HM.out.1.at_ k
        by_cases c1 : lim xs k + cr < 18446744073709551616
        · by_cases c2 : lim xs k + cr + lim ys k < 18446744073709551616
          · go_wp2
            go_roundw
            case rel => exact ⟨k + 1, 0, _, by omega, by go_num, rfl, Lib.hid (HI.out.step hkn _ 0 (by omega) (by omega) (by omega))⟩
            case measure => simp [intOf]; omega
          · have hw := u64_over (lim xs k + cr + lim ys k) (by omega) (by omega)
            go_wp2
            go_roundw
            case rel => exact ⟨k + 1, 1, _, by omega, by go_num, rfl, Lib.hid (HI.out.step hkn _ 1 (by omega) (by omega) (by omega))⟩
            case measure => simp [intOf]; omega
        · have hw := u64_over (lim xs k + cr) (by omega) (by omega)
          have h0 : lim xs k + cr - 18446744073709551616 = 0 := by omega
          rw [h0] at hw
          clear h0
          go_wp2
          go_roundw
          case rel => exact ⟨k + 1, 1, _, by omega, by go_num, rfl, Lib.hid (HI.out.step hkn _ 1 (by omega) (by omega) (by omega))⟩
          case measure => simp [intOf]; omega
      · have hby : lim ys k = 0 := lim_end (by have := HS.out.1; omega)
        have HY := Lib.hid hby
        clear hby
        by_cases c1 : lim xs k + cr < 18446744073709551616
        · go_wp2
          go_roundw
          case rel => exact ⟨k + 1, 0, _, by omega, by go_num, rfl, Lib.hid (HI.out.step hkn _ 0 (by omega) (by omega) (by rw [HY.out]; omega))⟩
          case measure => simp [intOf]; omega
        · have hw := u64_over (lim xs k + cr) (by omega) (by omega)
          go_wp2
          go_roundw
          case rel => exact ⟨k + 1, 1, _, by omega, by go_num, rfl, Lib.hid (HI.out.step hkn _ 1 (by omega) (by omega) (by rw [HY.out]; omega))⟩
          case measure => simp [intOf]; omega
    · obtain rfl : k = n := by omega
      have hcz := HI.out.1.cell k (by have := HI.out.2.1; omega)
      have hfz := HI.out.1.frozen k
      have hcr := HI.out.2.2.2.1
      obtain ⟨g1, g2, g3, g4, g5, g6⟩ := HI.out
      have hl : lv (zs.set k cr) = lv xs + lv ys := by
        have e := lv_take_set zs k (by omega) cr
        rw [List.take_of_length_le (by simp; omega), g5, List.take_of_length_le (by have := HR.out.1; omega), List.take_of_length_le (by have := HS.out.1; omega)] at e
        exact e
      have HL := Lib.hid hl
      have HT := trim_any (some ⟨w.heap.size, 0, none⟩) (k + 1) (k + 1) (zs.set k cr) (wr.setCell ⟨w.heap.size, k, none⟩ (.int .u64 cr)) (Nat.le_refl _) (by omega) ((g1.set_ k cr (by omega)).rd (by simpa using g2)) (g3.set_ k (by omega))
      have HT := Lib.hid HT
      have HB := Lib.hid (Below.setCell g6 (p := ⟨w.heap.size, k, none⟩) (Nat.le_refl _) (.int .u64 cr))
      clear g1 g2 g3 g4 g5 g6 hl
      go_wp2_with ((go_at_call 134); (refine (HT.out).mono ?_); rintro e w' ⟨⟨v, rfl, hv⟩, rfl⟩)
      go_ret
      rw [← HL.out]
      exact RetB.mk hv.nat HB.out

theorem add_any (va vb : Value) (a b : Int) (w : World) (ha : NatAt w va a) (hb : NatAt w vb b) (hla : Sm a) (hlb : Sm b) :
    Calls Try.prog 123 #[va, vb] w (RetB w fun v w' => NatAt w' v (a + b)) := by
  obtain ⟨A, n, c, xs, rfl, hc, hr, hn, hv⟩ := ha
  obtain ⟨B, m, d, ys, rfl, hd, hs, hm, hu⟩ := hb
  have h1 : n ≤ 1099511627777 := by rw [← hr.1]; exact hn.len hv hla
  have h2 : m ≤ 1099511627777 := by rw [← hs.1]; exact hm.len hu hlb
  by_cases hle : m ≤ n
  · rw [← hv, ← hu]; exact add_le A B n m c d xs ys w hr hs hn hm hle h1
  · rw [← hv, ← hu, Int.add_comm]; exact add_gt B A m n d c ys xs w hs hr hm hn (by omega) h2
end Go.Proofs.Ytcabnnfhcolcfaa
