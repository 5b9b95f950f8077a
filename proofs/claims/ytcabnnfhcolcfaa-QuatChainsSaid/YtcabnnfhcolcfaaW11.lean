/- The walk of divWord. The walk of step: a limb of a quotient. The walk of step. -/
import Derived.Test.YtcabnnfhcolcfaaW8
import Derived.Test.YtcabnnfhcolcfaaB2
namespace Go.Proofs.Ytcabnnfhcolcfaa
set_option linter.unusedSimpArgs false
set_option linter.unusedVariables false
open Go.RowKit

theorem lv_drop_succ (xs : List Int) (k : Nat) : lv (xs.drop k) = lim xs k + 18446744073709551616 * lv (xs.drop (k + 1)) := by
  rcases Nat.lt_or_ge k xs.length with h | h
  · rw [List.drop_eq_getElem_cons h]
    simp [lv, lim, List.getD_eq_getElem?_getD, List.getElem?_eq_getElem h]
  · rw [List.drop_eq_nil_of_le h, List.drop_eq_nil_of_le (by omega), lim_end h]
    rfl
def DivWInv (w wr : World) (k : Nat) (rest b : Int) (xs zs : List Int) : Prop :=
  Own wr w.heap.size zs ∧ zs.length = xs.length ∧ Okl zs ∧ (0 ≤ rest ∧ rest < b) ∧ lv (xs.drop k) = b * lv (zs.drop k) + rest ∧ Below w.heap.size w wr
theorem DivWInv.step {w wr wr' : World} {k : Nat} {rest b : Int} {xs zs : List Int} (h : DivWInv w wr (k + 1) rest b xs zs) (hk : k < xs.length) (hb : 0 < b ∧ b < 18446744073709551616) (ho : Okl xs)
    (hw : Own wr' w.heap.size (zs.set k ((rest * 18446744073709551616 + lim xs k) / b))) (hbl : Below w.heap.size w wr') :
    DivWInv w wr' k ((rest * 18446744073709551616 + lim xs k) % b) b xs (zs.set k ((rest * 18446744073709551616 + lim xs k) / b)) := by
  obtain ⟨h1, h2, h3, h4, h5, h6⟩ := h
  have hx := ho.at_ k
  have q0 : 0 ≤ (rest * 18446744073709551616 + lim xs k) / b := Int.ediv_nonneg (by omega) (by omega)
  have q1 : (rest * 18446744073709551616 + lim xs k) / b < 18446744073709551616 := by
    refine Int.ediv_lt_of_lt_mul hb.1 ?_
    have : (rest + 1) * 18446744073709551616 ≤ b * 18446744073709551616 := Int.mul_le_mul_of_nonneg_right (by omega) (by omega)
    omega
  refine ⟨hw, by simpa using h2, h3.set_ _ ⟨q0, q1⟩, ⟨Int.emod_nonneg _ (by omega), Int.emod_lt_of_pos _ hb.1⟩, ?_, hbl⟩
  rw [lv_drop_succ xs k, lv_drop_succ (zs.set k _) k, lim_set_same (by omega), drop_set_lt, h5]
  have e := Int.emod_add_mul_ediv (rest * 18446744073709551616 + lim xs k) b
  generalize (rest * 18446744073709551616 + lim xs k) % b = r at *
  generalize (rest * 18446744073709551616 + lim xs k) / b = q at *
  grind
/-- What divWord tells. -/
def DivW (a b : Int) (v : Value) (w' : World) : Prop := ∃ u, v = .tuple #[u, .int .u64 (a % b)] ∧ NatAt w' u (a / b)

set_option maxHeartbeats 1000000 in
set_option maxRecDepth 100000 in
theorem divWord_any (va : Value) (a b : Int) (w : World) (ha : NatAt w va a) (hla : Sm a) (hb : 0 < b ∧ b < 18446744073709551616) :
    Calls Try.prog 139 #[va, .int .u64 b] w (RetB w (DivW a b)) := by
  obtain ⟨A, n, c, xs, rfl, hc, hr, hn, hv⟩ := ha
  have h1 : n ≤ 1099511627777 := by rw [← hr.1]; exact hn.len hv hla
  obtain rfl := hr.1
  have HR := Lib.hid hr
  have HN := Lib.hid hn
  have HV := Lib.hid hv
  clear hr hn hv hla hc
  have hmk : ∀ W : World, (Instr.makeSlice 79 (.int .i64 (xs.length : Int)) (.int .i64 (xs.length : Int))).run Try.prog W = .ok (.slice (some ⟨W.heap.size, 0, none⟩) xs.length xs.length) (W.alloc (.cells (madeCells #[.int .u64 0] xs.length) 101)) := make64 xs.length (by omega)
  go_enter Try.func139, Try.ntmps139
  go_wp2
  clear hmk
  go_loopw [7, 8] (fun rv iv wr => ∃ (k : Nat) (rest : Int) (zs : List Int), k ≤ xs.length ∧ iv = .int .i64 ((k : Int) - 1) ∧ rv = .int .u64 rest ∧ Hid (DivWInv w wr k rest b xs zs)) (fun _ v _ => (intOf v + 1).toNat)
  case atStart => exact ⟨xs.length, 0, List.replicate xs.length 0, by omega, rfl, rfl, Lib.hid ⟨Own.made _ _, by simp, Okl.zeros _, by omega, by rw [List.drop_length, List.drop_eq_nil_of_le (by simp)]; simp [lv], (Below.refl _ _).alloc (Nat.le_refl _) _⟩⟩
  case round =>
    obtain ⟨k, rest, zs, hk, rfl, rfl, HI⟩ := hrel
    by_cases hk1 : 1 ≤ k
    · obtain ⟨k, rfl⟩ : ∃ m, k = m + 1 := ⟨k - 1, by omega⟩
      obtain ⟨ad, rfl, hca⟩ := (HR.out.below HI.out.2.2.2.2.2).at_ k (by omega)
      have hcz := HI.out.1.cell k (by have := HI.out.2.1; omega)
      have hfz := HI.out.1.frozen k
      have HD := Lib.hid (div64_any rest (lim xs k) b wr HI.out.2.2.2.1 (HN.out.1.at_ k) hb.2)
      go_wp2_with (go_at_call 145; (refine HD.out.mono ?_); rintro e w' ⟨rfl, ⟨nd, rfl⟩⟩)
      go_roundw
      case rel => exact ⟨k, _, _, by omega, rfl, rfl, Lib.hid (HI.out.step (by omega) hb HN.out.1 ((HI.out.1.drewN nd).set_ k _ (by have := HI.out.2.1; omega)) ((below_drewN' HI.out.2.2.2.2.2 nd).setCell (Nat.le_refl _) _))⟩
      case measure => (simp [intOf] <;> omega)
    · obtain rfl : k = 0 := by omega
      obtain ⟨g1, g2, g3, g4, g5, g6⟩ := HI.out
      have e : a / b = lv zs ∧ a % b = rest := by
        rw [List.drop_zero, List.drop_zero, HV.out] at g5
        rw [g5, Int.add_comm]
        exact ⟨by rw [Int.add_mul_ediv_left _ _ (by omega), Int.ediv_eq_zero_of_lt g4.1 g4.2]; omega, by rw [Int.add_mul_emod_self_left]; exact Int.emod_eq_of_lt g4.1 g4.2⟩
      have E := Lib.hid e
      have HT := Lib.hid (trim_any (some ⟨w.heap.size, 0, none⟩) xs.length xs.length zs wr (Nat.le_refl _) (by omega) (g1.rd g2) g3)
      have HB := Lib.hid g6
      clear g1 g2 g3 g4 g5 g6 e
      go_wp2_with ((go_at_call 134); (refine (HT.out).mono ?_); rintro e w' ⟨⟨v, rfl, hv⟩, rfl⟩)
      go_ret2
      exact RetB.mk ⟨v, by rw [E.out.2]; rfl, by rw [E.out.1]; exact hv.nat⟩ HB.out
end Go.Proofs.Ytcabnnfhcolcfaa
namespace Go.Proofs.Ytcabnnfhcolcfaa
set_option linter.unusedSimpArgs false
set_option linter.unusedVariables false
open Go.RowKit

/-! ### a part of a row of one's own -/
def Mid (w : World) (g : Nat) (pre xs post : List Int) : Prop := Own w g (pre ++ (xs ++ post))
theorem lim_mid (pre xs post : List Int) (i : Nat) (hi : i < xs.length) : lim (pre ++ (xs ++ post)) (pre.length + i) = lim xs i := by
  simp [lim, List.getD_eq_getElem?_getD, List.getElem?_append_right, List.getElem?_append_left hi]
theorem set_mid (pre xs post : List Int) (i : Nat) (hi : i < xs.length) (x : Int) : (pre ++ (xs ++ post)).set (pre.length + i) x = pre ++ (xs.set i x ++ post) := by
  rw [List.set_append_right _ _ (by omega), show pre.length + i - pre.length = i by omega, List.set_append_left _ _ hi]
theorem Mid.cell {w : World} {g : Nat} {pre xs post : List Int} (h : Mid w g pre xs post) (i : Nat) (hi : i < xs.length) : w.cell? ⟨g, pre.length + i, none⟩ = some (.int .u64 (lim xs i)) := by
  rw [Own.cell h _ (by simp; omega), lim_mid _ _ _ _ hi]
theorem Mid.frozen {w : World} {g : Nat} {pre xs post : List Int} (h : Mid w g pre xs post) (i : Nat) : w.frozen? ⟨g, i, none⟩ = false := Own.frozen h i
theorem Mid.set_ {w : World} {g : Nat} {pre xs post : List Int} (h : Mid w g pre xs post) (i : Nat) (hi : i < xs.length) (x : Int) : Mid (w.setCell ⟨g, pre.length + i, none⟩ (.int .u64 x)) g pre (xs.set i x) post := by
  have := Own.set_ h (pre.length + i) x (by simp; omega)
  rwa [set_mid _ _ _ _ hi] at this
theorem Mid.drewN {w : World} {g : Nat} {pre xs post : List Int} (h : Mid w g pre xs post) (n : Nat) : Mid (w.drewN n) g pre xs post := Own.drewN h n
theorem Mid.drew {w : World} {g : Nat} {pre xs post : List Int} (h : Mid w g pre xs post) : Mid w.drew g pre xs post := h
/-- Only block g has turned, and new ones may be. -/
def OnlyG (w w' : World) (g : Nat) : Prop := w.grownBy w' (some g)
theorem OnlyG.refl (w : World) (g : Nat) : OnlyG w w g := World.grownBy.refl w _
theorem OnlyG.set_ {w w' : World} {g : Nat} (h : OnlyG w w' g) (i : Nat) (u : Value) : OnlyG w (w'.setCell ⟨g, i, none⟩ u) g :=
  ⟨h.os, h.tape, h.output, by simpa [World.setCell] using h.size, fun k hk hne => (Below.heap_setCell w' ⟨g, i, none⟩ u k (fun e => hne (by rw [e]))).trans (h.block k hk hne)⟩
theorem OnlyG.drewN {w w' : World} {g : Nat} (h : OnlyG w w' g) (n : Nat) : OnlyG w (w'.drewN n) g := ⟨h.os, h.tape, h.output, h.size, h.block⟩
theorem OnlyG.drew {w w' : World} {g : Nat} (h : OnlyG w w' g) : OnlyG w w'.drew g := ⟨h.os, h.tape, h.output, h.size, h.block⟩
/-- What lies elsewhere is read as before. -/
theorem Rd.only {w w' : World} {g : Nat} {A : Option Addr} {n : Nat} {xs : List Int} (h : Rd w A n xs) (ho : OnlyG w w' g) (hne : ∀ ad, A = some ad → 0 < n → ad.block ≠ g) : Rd w' A n xs :=
  ⟨h.1, fun hn => by
    obtain ⟨ad, e, hc⟩ := h.2 hn
    refine ⟨ad, e, fun j hj => ?_⟩
    have h1 := hc j hj
    have hb : (ad.add j).block = ad.block := by unfold Addr.add; split <;> rfl
    have hlt := World.block_lt_of_cell? w _ h1
    rw [World.cell?_of_block (ho.block _ hlt (by rw [hb]; intro e2; injection e2 with e2; exact hne ad e hn e2))]
    exact h1⟩

/-! ### the numbers -/
/-- While the guess times y is taken from x. -/
structure Sub1 (xs0 ys : List Int) (q : Int) (k : Nat) (br cr : Int) (xs : List Int) : Prop where
  ok : Okl xs
  len : xs.length = xs0.length
  br0 : 0 ≤ br ∧ br ≤ 1
  cr0 : 0 ≤ cr ∧ cr < 18446744073709551616
  rest : xs.drop k = xs0.drop k
  e : lv (xs.take k) - 18446744073709551616 ^ k * (br + cr) = lv (xs0.take k) - q * lv (ys.take k)
theorem Sub1.at_ {xs0 ys : List Int} {q : Int} {k : Nat} {br cr : Int} {xs : List Int} (h : Sub1 xs0 ys q k br cr xs) : lim xs k = lim xs0 k := lim_of_drop h.rest
theorem Sub1.step {xs0 ys : List Int} {q : Int} {k : Nat} {br cr : Int} {xs : List Int} (h : Sub1 xs0 ys q k br cr xs) (hk : k < xs0.length) (s b' c' : Int) (hs : 0 ≤ s ∧ s < 18446744073709551616) (hb : 0 ≤ b' ∧ b' ≤ 1) (hc : 0 ≤ c' ∧ c' < 18446744073709551616)
    (e : s - 18446744073709551616 * (b' + c') = lim xs0 k - br - (q * lim ys k + cr)) : Sub1 xs0 ys q (k + 1) b' c' (xs.set k s) := by
  refine ⟨h.ok.set_ _ hs, by simpa using h.len, hb, hc, ?_, ?_⟩
  · rw [drop_set_lt]
    have := congrArg (List.drop 1) h.rest
    simpa [List.drop_drop] using this
  · rw [lv_take_set _ _ (by rw [h.len]; exact hk), lv_take_succ', lv_take_succ', Int.pow_succ]
    have e1 := h.e
    have e2 : lv (xs.take k) + 18446744073709551616 ^ k * s - 18446744073709551616 ^ k * 18446744073709551616 * (b' + c') = lv (xs.take k) + 18446744073709551616 ^ k * (s - 18446744073709551616 * (b' + c')) := by grind
    rw [e2, e]
    grind
/-- While y is given back. -/
structure Add1 (xs0 ys : List Int) (k : Nat) (ov : Int) (xs : List Int) : Prop where
  ok : Okl xs
  len : xs.length = xs0.length
  ov0 : 0 ≤ ov ∧ ov ≤ 1
  rest : xs.drop k = xs0.drop k
  e : lv (xs.take k) + 18446744073709551616 ^ k * ov = lv (xs0.take k) + lv (ys.take k)
theorem Add1.at_ {xs0 ys : List Int} {k : Nat} {ov : Int} {xs : List Int} (h : Add1 xs0 ys k ov xs) : lim xs k = lim xs0 k := lim_of_drop h.rest
theorem Add1.step {xs0 ys : List Int} {k : Nat} {ov : Int} {xs : List Int} (h : Add1 xs0 ys k ov xs) (hk : k < xs0.length) (s o' : Int) (hs : 0 ≤ s ∧ s < 18446744073709551616) (ho : 0 ≤ o' ∧ o' ≤ 1)
    (e : s + 18446744073709551616 * o' = lim xs0 k + lim ys k + ov) : Add1 xs0 ys (k + 1) o' (xs.set k s) := by
  refine ⟨h.ok.set_ _ hs, by simpa using h.len, ho, ?_, ?_⟩
  · rw [drop_set_lt]
    have := congrArg (List.drop 1) h.rest
    simpa [List.drop_drop] using this
  · rw [lv_take_set _ _ (by rw [h.len]; exact hk), lv_take_succ', lv_take_succ', Int.pow_succ]
    have e1 := h.e
    have e2 : lv (xs.take k) + 18446744073709551616 ^ k * s + 18446744073709551616 ^ k * 18446744073709551616 * o' = lv (xs.take k) + 18446744073709551616 ^ k * (s + 18446744073709551616 * o') := by grind
    rw [e2, e]
    grind
/-- A guess that is not too low, and what is left of x. -/
structure Guess (X Y : Int) (n : Nat) (q br : Int) (xs : List Int) : Prop where
  ok : Okl xs
  len : xs.length = n + 1
  br0 : 0 ≤ br ∧ br ≤ 1
  q0 : 0 ≤ q ∧ q < 18446744073709551616
  ge : X / Y ≤ q
  e : lv xs - 18446744073709551616 ^ (n + 1) * br = X - q * Y
theorem Guess.lower {X Y : Int} {n : Nat} {q br : Int} {xs : List Int} (h : Guess X Y n q br xs) (hX : 0 ≤ X) (hY : 0 < Y) (hb : br = 1) : 1 ≤ q ∧ X / Y ≤ q - 1 := by
  have h1 := lv_lt h.ok
  rw [h.len] at h1
  have h2 := h.e
  rw [hb] at h2
  have h3 : X / Y < q := Int.ediv_lt_of_lt_mul hY (by omega)
  have h4 : 0 ≤ X / Y := Int.ediv_nonneg hX (by omega)
  exact ⟨by omega, by omega⟩
theorem Guess.fin {X Y : Int} {n : Nat} {q : Int} {xs : List Int} (h : Guess X Y n q 0 xs) (hY : 0 < Y) : q = X / Y ∧ lv xs = X % Y := by
  have h1 := lv_nonneg h.ok
  have h2 := h.e
  rw [Int.mul_zero] at h2
  have h3 : q ≤ X / Y := Int.le_ediv_of_mul_le hY (by omega)
  have h4 := h.ge
  have h5 := Int.emod_add_mul_ediv X Y
  have h6 : q = X / Y := by omega
  refine ⟨h6, ?_⟩
  rw [← h6, Int.mul_comm] at h5
  omega
theorem guess_ge {xs ys : List Int} {n : Nat} {X Y : Int} (hx : Okl xs) (hy : Okl ys) (hxl : xs.length = n + 1) (hyl : ys.length = n) (hn : 0 < n) (hX : lv xs = X) (hY : lv ys = Y) (htop : 0 < lim ys (n - 1)) :
    X / Y * lim ys (n - 1) ≤ lim xs n * 18446744073709551616 + lim xs (n - 1) := by
  obtain ⟨m, rfl⟩ : ∃ m, n = m + 1 := ⟨n - 1, by omega⟩
  simp only [Nat.add_sub_cancel] at *
  have hp := pow_pos64 m
  have y1 : lv ys = lv (ys.take m) + 18446744073709551616 ^ m * lim ys m := by
    have := lv_take_succ' ys m
    rwa [List.take_of_length_le (by omega)] at this
  have x1 : lv xs = lv (xs.take m) + 18446744073709551616 ^ m * (lim xs (m + 1) * 18446744073709551616 + lim xs m) := by
    have h1 := lv_take_succ' xs (m + 1)
    rw [List.take_of_length_le (by omega), lv_take_succ', Int.pow_succ] at h1
    rw [h1]; grind
  have y2 := lv_nonneg (hy.take m)
  have x2 := lv_lt (hx.take m)
  rw [List.length_take, Nat.min_eq_left (by omega)] at x2
  have hYpos : 0 < Y := by
    have := Int.mul_le_mul_of_nonneg_left (show 1 ≤ lim ys m by omega) (Int.le_of_lt hp)
    omega
  have hX0 : 0 ≤ X := by rw [← hX]; exact lv_nonneg hx
  have q0 : 0 ≤ X / Y := Int.ediv_nonneg hX0 (by omega)
  have h1 : X / Y * Y ≤ X := Int.ediv_mul_le _ (by omega)
  have h2 : X / Y * (18446744073709551616 ^ m * lim ys m) ≤ X / Y * Y := Int.mul_le_mul_of_nonneg_left (by omega) q0
  refine Int.not_lt.1 fun hlt => ?_
  have h3 : 18446744073709551616 ^ m * (lim xs (m + 1) * 18446744073709551616 + lim xs m + 1) ≤ 18446744073709551616 ^ m * (X / Y * lim ys m) := Int.mul_le_mul_of_nonneg_left (by omega) (Int.le_of_lt hp)
  have h4 : X / Y * (18446744073709551616 ^ m * lim ys m) = 18446744073709551616 ^ m * (X / Y * lim ys m) := by grind
  rw [Int.mul_add, Int.mul_one] at h3
  omega
end Go.Proofs.Ytcabnnfhcolcfaa
namespace Go.Proofs.Ytcabnnfhcolcfaa
set_option linter.unusedSimpArgs false
set_option linter.unusedVariables false
open Go.RowKit

theorem msb_step {q y x b c : Int} (hq : 0 ≤ q ∧ q < 18446744073709551616) (hy : 0 ≤ y ∧ y < 18446744073709551616) (hx : 0 ≤ x ∧ x < 18446744073709551616) (hb : 0 ≤ b ∧ b ≤ 1) (hc : 0 ≤ c ∧ c < 18446744073709551616) :
    ∃ h1 l1 l2 o1 x' b' : Int, (∀ w, Calls Try.prog 143 #[.int .u64 q, .int .u64 y] w fun e w' => e = .returned (.tuple #[.int .u64 h1, .int .u64 l1]) ∧ w = w') ∧
      (∀ w, (callFunc 144 #[.int .u64 l1, .int .u64 c, .int .u64 0]).run Try.prog w = .ok (.value (.tuple #[.int .u64 l2, .int .u64 o1])) w) ∧
      (∀ w, (callFunc 146 #[.int .u64 x, .int .u64 l2, .int .u64 b]).run Try.prog w = .ok (.value (.tuple #[.int .u64 x', .int .u64 b'])) w) ∧
      (0 ≤ h1 + o1 ∧ h1 + o1 < 18446744073709551616) ∧ (0 ≤ x' ∧ x' < 18446744073709551616) ∧ (0 ≤ b' ∧ b' ≤ 1) ∧ x' - 18446744073709551616 * (b' + (h1 + o1)) = x - b - (q * y + c) := by
  have hp0 : 0 ≤ q * y := Int.mul_nonneg hq.1 hy.1
  have hp1 : q * y ≤ 18446744073709551615 * 18446744073709551615 := Int.mul_le_mul (by omega) (by omega) hy.1 (by omega)
  obtain ⟨p, hp⟩ : ∃ p, q * y = p := ⟨_, rfl⟩
  have hm := mul64_any q y hq hy
  rw [hp] at hm hp0 hp1
  obtain ⟨b', hb'⟩ : ∃ b' : Int, (if x < (p % 18446744073709551616 + c) % 18446744073709551616 + b then (1 : Int) else 0) = b' := ⟨_, rfl⟩
  refine ⟨p / 18446744073709551616, p % 18446744073709551616, (p % 18446744073709551616 + c) % 18446744073709551616, (p % 18446744073709551616 + c) / 18446744073709551616,
    (x - (p % 18446744073709551616 + c) % 18446744073709551616 - b) % 18446744073709551616, b', hm, fun w => ?_, fun w => ?_, by omega, by omega, by split at hb' <;> omega, ?_⟩
  · rw [run_add _ _ _ (by omega) hc.1 (by omega) (by omega)]; simp only [Int.add_zero]
  · rw [run_sub _ _ _ hx.1 hx.2 (by omega) (by omega) hb.1 hb.2, hb']
  · rw [hp]; split at hb' <;> omega
theorem sub_step {x c b : Int} (hx : 0 ≤ x ∧ x < 18446744073709551616) (hb : 0 ≤ b ∧ b ≤ 1) (hc : 0 ≤ c ∧ c < 18446744073709551616) :
    ∃ x' b' : Int, (∀ w, (callFunc 146 #[.int .u64 x, .int .u64 c, .int .u64 b]).run Try.prog w = .ok (.value (.tuple #[.int .u64 x', .int .u64 b'])) w) ∧
      (0 ≤ x' ∧ x' < 18446744073709551616) ∧ (0 ≤ b' ∧ b' ≤ 1) ∧ x' - 18446744073709551616 * b' = x - c - b := by
  obtain ⟨b', hb'⟩ : ∃ b' : Int, (if x < c + b then (1 : Int) else 0) = b' := ⟨_, rfl⟩
  refine ⟨(x - c - b) % 18446744073709551616, b', fun w => ?_, by omega, by split at hb' <;> omega, by split at hb' <;> omega⟩
  rw [run_sub _ _ _ hx.1 hx.2 hc.1 hc.2 hb.1 hb.2, hb']
theorem add_step {x y c : Int} (hx : 0 ≤ x ∧ x < 18446744073709551616) (hy : 0 ≤ y ∧ y < 18446744073709551616) (hc : 0 ≤ c ∧ c ≤ 1) :
    ∃ x' c' : Int, (∀ w, (callFunc 144 #[.int .u64 x, .int .u64 y, .int .u64 c]).run Try.prog w = .ok (.value (.tuple #[.int .u64 x', .int .u64 c'])) w) ∧
      (0 ≤ x' ∧ x' < 18446744073709551616) ∧ (0 ≤ c' ∧ c' ≤ 1) ∧ x' + 18446744073709551616 * c' = x + y + c :=
  ⟨(x + y + c) % 18446744073709551616, (x + y + c) / 18446744073709551616, fun w => run_add _ _ _ hx.1 hy.1 hc.1 hc.2 w, by omega, by omega, by omega⟩

/-- A quiet call behind another quiet region. -/
theorem quiet_more {P : Program} {f : FuncId} {args : Array Value} {w : World} {a n : Nat} {v : Value} (h : Calls P f args (w.drewN (a + n)) fun e w' => e = .returned v ∧ Drawn (w.drewN (a + n)) w') :
    Calls P f args (w.drewN (a + n)) fun e w'' => e = .returned v ∧ ∃ m, w'' = w.drewN (a + m) :=
  h.mono fun _ _ ⟨he, ⟨m, hm⟩⟩ => ⟨he, n + m, by rw [hm, World.drewN_drewN, Nat.add_assoc]⟩
/-- What step leaves: x is the rest, nothing else has turned. -/
def StepP (w : World) (g : Nat) (pre post : List Int) (n : Nat) (X Y : Int) (v : Value) (w' : World) : Prop :=
  v = .int .u64 (X / Y) ∧ OnlyG w w' g ∧ ∃ xs, Mid w' g pre xs post ∧ Okl xs ∧ xs.length = n + 1 ∧ lv xs = X % Y
def Post (P : Value → World → Prop) (e : Ending) (w' : World) : Prop := ∃ v, e = .returned v ∧ P v w'
def Loop1 (w wr : World) (g : Nat) (pre post xs0 ys : List Int) (q : Int) (k : Nat) (br cr : Int) (xs : List Int) : Prop := Mid wr g pre xs post ∧ OnlyG w wr g ∧ Sub1 xs0 ys q k br cr xs
def Loop2 (w wr : World) (g : Nat) (pre post : List Int) (X Y : Int) (n : Nat) (q br : Int) (xs : List Int) : Prop := Mid wr g pre xs post ∧ OnlyG w wr g ∧ Guess X Y n q br xs
def Loop3 (w wr : World) (g : Nat) (pre post xs0 ys : List Int) (k : Nat) (ov : Int) (xs : List Int) : Prop := Mid wr g pre xs post ∧ OnlyG w wr g ∧ Add1 xs0 ys k ov xs

set_option maxHeartbeats 2000000 in
set_option maxRecDepth 100000 in
theorem step_any (g n : Nat) (B : Option Addr) (d : Nat) (pre xs0 post ys : List Int) (X Y : Int) (w : World) (hm : Mid w g pre xs0 post) (ho : Okl xs0) (hl : xs0.length = n + 1) (hX : lv xs0 = X) (hr : Rd w B n ys) (hy : Okl ys) (hY : lv ys = Y) (hne : ∀ ad, B = some ad → 0 < n → ad.block ≠ g)
    (hn0 : 0 < n) (hn1 : n ≤ 1099511627778) (htop : 9223372036854775808 ≤ lim ys (n - 1)) (hlt : X < 18446744073709551616 * Y) :
    Calls Try.prog 141 #[.slice (some ⟨g, pre.length, none⟩) (n + 1) (n + 1), .slice B n d] w (Post (StepP w g pre post n X Y)) := by
  have HM := Lib.hid hm
  have HO := Lib.hid ho
  have HL := Lib.hid hl
  have HX := Lib.hid hX
  have HR := Lib.hid hr
  have HY := Lib.hid hy
  have HYV := Lib.hid hY
  have HNE := Lib.hid hne
  have HG := Lib.hid (guess_ge ho hy hl hr.1 hn0 hX hY (by omega))
  have hxn := hm.cell n (by omega)
  have hxm := hm.cell (n - 1) (by omega)
  have hbx := ho.at_ n
  have hbm := ho.at_ (n - 1)
  have hby := hy.at_ (n - 1)
  obtain ⟨bd, rfl, hcy⟩ := hr.at_ (n - 1) (by omega)
  clear hm ho hl hX hr hy hY hne
  have hY0 : 0 < Y := by
    have h1 := lv_take_succ' ys (n - 1)
    rw [List.take_of_length_le (by rw [HR.out.1]; omega), HYV.out] at h1
    have h2 := lv_nonneg (HY.out.take (n - 1))
    have h3 := Int.mul_le_mul_of_nonneg_left (show 1 ≤ lim ys (n - 1) by omega) (Int.le_of_lt (pow_pos64 (n - 1)))
    have h4 := pow_pos64 (n - 1)
    omega
  have HYP := Lib.hid hY0
  have hqb : 0 ≤ X / Y ∧ X / Y < 18446744073709551616 := ⟨Int.ediv_nonneg (by rw [← HX.out]; exact lv_nonneg HO.out) (by omega), Int.ediv_lt_of_lt_mul hY0 hlt⟩
  have HQB := Lib.hid hqb
  clear hY0 hqb hlt
  by_cases hc : lim xs0 n < lim ys (n - 1)
  · have HD := Lib.hid (fun (w : World) => div64_any (lim xs0 n) (lim xs0 (n - 1)) (lim ys (n - 1)) w ⟨hbx.1, hc⟩ hbm hby.2)
    obtain ⟨q, hq⟩ : ∃ q, (lim xs0 n * 18446744073709551616 + lim xs0 (n - 1)) / lim ys (n - 1) = q := ⟨_, rfl⟩
    have hgq : X / Y ≤ q ∧ (0 ≤ q ∧ q < 18446744073709551616) := by
      rw [← hq]
      refine ⟨Int.le_ediv_of_mul_le (by omega) HG.out, Int.ediv_nonneg (by omega) (by omega), Int.ediv_lt_of_lt_mul (by omega) ?_⟩
      have : (lim xs0 n + 1) * 18446744073709551616 ≤ lim ys (n - 1) * 18446744073709551616 := Int.mul_le_mul_of_nonneg_right (by omega) (by omega)
      omega
    go_enter Try.func141, Try.ntmps141
    go_wp2
    go_quiet (fail)
    go_wp2
    go_quiet ((go_at_call 145; refine quiet_more (HD.out _)))
    go_wp2
    clear hq HD HQB
    have HGQ := Lib.hid hgq
    clear hgq
    go_wp2
    go_loopw [7, 8, 46] (fun bv cv iv wr => ∃ (k : Nat) (br cr : Int) (xs : List Int), k ≤ n ∧ iv = .int .i64 k ∧ bv = .int .u64 br ∧ cv = .int .u64 cr ∧ Hid (Loop1 w wr g pre post xs0 ys q k br cr xs)) (fun _ _ v _ => n - (intOf v).toNat)
    case atStart => exact ⟨0, 0, 0, xs0, by omega, rfl, rfl, rfl, Lib.hid ⟨(HM.out.drewN _).drewN _, ((OnlyG.refl _ _).drewN _).drewN _, HO.out, rfl, by omega, by omega, rfl, by simp [lv]⟩⟩
    case round =>
      obtain ⟨k, br, cr, xs, hk, rfl, rfl, rfl, HI⟩ := hrel
      by_cases hkn : k < n
      · obtain ⟨bd', hbd, hcb⟩ := (HR.out.only HI.out.2.1 HNE.out).at_ k hkn
        obtain rfl : bd = bd' := Option.some.inj hbd
        clear hbd
        have hlx := HI.out.2.2.at_
        have hcz := HI.out.1.cell k (by rw [HI.out.2.2.len, HL.out]; omega)
        rw [hlx] at hcz
        clear hlx
        have hfz := HI.out.1.frozen (pre.length + k)
        obtain ⟨h1, l1, l2, o1, x', b', hm1, ha1, hs1, b1, b2, b3, e⟩ := msb_step HGQ.out.2 (HY.out.at_ k) (HO.out.at_ k) HI.out.2.2.br0 HI.out.2.2.cr0
        have HE := Lib.hid e
        have HM1 := Lib.hid hm1
        clear e hm1
        go_wp2_with (go_at_call 143; (refine (HM1.out _).mono ?_); rintro e w' ⟨rfl, rfl⟩)
        go_roundw
        case rel => exact ⟨k + 1, b', h1 + o1, xs.set k x', by omega, by go_num, rfl, rfl, Lib.hid ⟨HI.out.1.set_ k (by rw [HI.out.2.2.len, HL.out]; omega) x', HI.out.2.1.set_ _ _, HI.out.2.2.step (by rw [HL.out]; omega) x' b' (h1 + o1) b2 b3 b1 HE.out⟩⟩
        case measure => (simp [intOf] <;> omega)
      · obtain rfl : k = n := by omega
        have hlx := HI.out.2.2.at_
        have hcz := HI.out.1.cell k (by rw [HI.out.2.2.len, HL.out]; omega)
        rw [hlx] at hcz
        clear hlx
        have hfz := HI.out.1.frozen (pre.length + k)
        obtain ⟨x', b', hs1, b2, b3, e⟩ := sub_step (HO.out.at_ k) HI.out.2.2.br0 HI.out.2.2.cr0
        have hg : Guess X Y k q b' (xs.set k x') := by
          have h1 := HI.out.2.2.step (by rw [HL.out]; omega) x' b' 0 b2 b3 (by omega) (by rw [lim_end (xs := ys) (by rw [HR.out.1]; omega)]; omega)
          refine ⟨h1.ok, by rw [h1.len, HL.out], b3, HGQ.out.2, HGQ.out.1, ?_⟩
          have h2 := h1.e
          rw [List.take_of_length_le (by rw [h1.len, HL.out]; omega), List.take_of_length_le (by rw [HL.out]; omega), List.take_of_length_le (by rw [HR.out.1]; omega), HX.out, HYV.out, Int.add_zero] at h2
          exact h2
        have HG0 := Lib.hid (show Loop2 w (wr.setCell ⟨g, pre.length + k, none⟩ (.int .u64 x')) g pre post X Y k q b' (xs.set k x') from
          ⟨HI.out.1.set_ k (by rw [HI.out.2.2.len, HL.out]; omega) x', HI.out.2.1.set_ _ _, hg⟩)
        clear hg e hbx hbm hby hcy hxn hxm
        go_wp2
        clear HI hcz hfz hs1
        go_loopw [6, 7] (fun qv bv wr => ∃ (q br : Int) (xs : List Int), qv = .int .u64 q ∧ bv = .int .u64 br ∧ (0 ≤ br ∧ br ≤ 1) ∧ (0 ≤ q ∧ q < 18446744073709551616) ∧ Hid (Loop2 w wr g pre post X Y k q br xs)) (fun v _ _ => (intOf v).toNat)
        case atStart => exact ⟨_, _, _, rfl, rfl, b3, HGQ.out.2, HG0⟩
        case round =>
          clear HG0 b2 b3
          obtain ⟨q, br, xs, rfl, rfl, hbr, hq, HI⟩ := hrel
          by_cases hb1 : br = 1
          · subst hb1
            have hlow := HI.out.2.2.lower (by rw [← HX.out]; exact lv_nonneg HO.out) HYP.out rfl
            have hq1 := hlow.1
            have HLO := Lib.hid hlow.2
            clear hlow
            have HXS := Lib.hid (show Okl xs from HI.out.2.2.ok)
            have HXL := Lib.hid (show xs.length = k + 1 from HI.out.2.2.len)
            go_wp2
            go_loopw [13, 99] (fun ov iv wr2 => ∃ (m : Nat) (o : Int) (zs : List Int), m ≤ k ∧ iv = .int .i64 m ∧ ov = .int .u64 o ∧ Hid (Loop3 w wr2 g pre post xs ys m o zs)) (fun _ v _ => k - (intOf v).toNat)
            case atStart => exact ⟨0, 0, xs, by omega, rfl, rfl, Lib.hid ⟨HI.out.1, HI.out.2.1, HXS.out, rfl, by omega, rfl, by simp [lv]⟩⟩
            case round =>
              obtain ⟨m, o, zs, hmk, rfl, rfl, HJ⟩ := hrel
              by_cases hm1 : m < k
              · obtain ⟨bd', hbd, hcb⟩ := (HR.out.only HJ.out.2.1 HNE.out).at_ m hm1
                obtain rfl : bd = bd' := Option.some.inj hbd
                clear hbd
                have hlx := HJ.out.2.2.at_
                have hcz := HJ.out.1.cell m (by rw [HJ.out.2.2.len, HXL.out]; omega)
                rw [hlx] at hcz
                clear hlx
                have hfz := HJ.out.1.frozen (pre.length + m)
                obtain ⟨x', c', ha1, b2, b3, e⟩ := add_step (HXS.out.at_ m) (HY.out.at_ m) HJ.out.2.2.ov0
                have HE := Lib.hid e
                clear e
                go_wp2
                go_region
                go_wp2
                go_roundw
                case rel => exact ⟨m + 1, c', zs.set m x', by omega, by go_num, rfl, Lib.hid ⟨(HJ.out.1.set_ m (by rw [HJ.out.2.2.len, HXL.out]; omega) x').drew, (HJ.out.2.1.set_ _ _).drew, HJ.out.2.2.step (by rw [HXL.out]; omega) x' c' b2 b3 HE.out⟩⟩
                case measure => (simp [intOf] <;> omega)
              · obtain rfl : m = k := by omega
                have hlx := HJ.out.2.2.at_
                have hcz := HJ.out.1.cell m (by rw [HJ.out.2.2.len, HXL.out]; omega)
                rw [hlx] at hcz
                clear hlx
                have hfz := HJ.out.1.frozen (pre.length + m)
                obtain ⟨x', c', ha1, b2, b3, e⟩ := add_step (y := 0) (HXS.out.at_ m) (by omega) HJ.out.2.2.ov0
                have hg : Guess X Y m (q - 1) (1 - c') (zs.set m x') := by
                  have h1 := HJ.out.2.2.step (by rw [HXL.out]; omega) x' c' b2 b3 (by rw [lim_end (xs := ys) (by rw [HR.out.1]; omega)]; omega)
                  refine ⟨h1.ok, by rw [h1.len, HXL.out], by omega, by omega, HLO.out, ?_⟩
                  have h2 := h1.e
                  have h3 := HI.out.2.2.e
                  rw [List.take_of_length_le (by rw [h1.len, HXL.out]; omega), List.take_of_length_le (by rw [HXL.out]; omega), List.take_of_length_le (by rw [HR.out.1]; omega), HYV.out] at h2
                  rw [Int.sub_mul, Int.one_mul, Int.mul_sub, Int.mul_one]
                  rw [Int.mul_one] at h3
                  omega
                have HG1 := Lib.hid hg
                clear hg e
                go_wp2
                go_roundw
                case rel => exact ⟨q - 1, 1 - c', zs.set m x', rfl, rfl, by omega, by omega, Lib.hid ⟨HJ.out.1.set_ m (by rw [HJ.out.2.2.len, HXL.out]; omega) x', HJ.out.2.1.set_ _ _, HG1.out⟩⟩
                case measure => (simp [intOf] <;> omega)
          · obtain rfl : br = 0 := by omega
            have hf := HI.out.2.2.fin HYP.out
            have HF := Lib.hid hf
            clear hf
            go_wp2
            go_ret
            exact ⟨_, rfl, by rw [← HF.out.1]; rfl, HI.out.2.1, xs, HI.out.1, HI.out.2.2.ok, HI.out.2.2.len, HF.out.2⟩
  · have hgq : X / Y ≤ 18446744073709551615 ∧ (0 ≤ (18446744073709551615 : Int) ∧ (18446744073709551615 : Int) < 18446744073709551616) := by
      have := HQB.out.2
      omega
    go_enter Try.func141, Try.ntmps141
    go_wp2
    go_quiet (fail)
    have HGQ := Lib.hid hgq
    clear hgq
    go_wp2
    go_loopw [7, 8, 46] (fun bv cv iv wr => ∃ (k : Nat) (br cr : Int) (xs : List Int), k ≤ n ∧ iv = .int .i64 k ∧ bv = .int .u64 br ∧ cv = .int .u64 cr ∧ Hid (Loop1 w wr g pre post xs0 ys 18446744073709551615 k br cr xs)) (fun _ _ v _ => n - (intOf v).toNat)
    case atStart => exact ⟨0, 0, 0, xs0, by omega, rfl, rfl, rfl, Lib.hid ⟨HM.out.drewN _, (OnlyG.refl _ _).drewN _, HO.out, rfl, by omega, by omega, rfl, by simp [lv]⟩⟩
    case round =>
      obtain ⟨k, br, cr, xs, hk, rfl, rfl, rfl, HI⟩ := hrel
      by_cases hkn : k < n
      · obtain ⟨bd', hbd, hcb⟩ := (HR.out.only HI.out.2.1 HNE.out).at_ k hkn
        obtain rfl : bd = bd' := Option.some.inj hbd
        clear hbd
        have hlx := HI.out.2.2.at_
        have hcz := HI.out.1.cell k (by rw [HI.out.2.2.len, HL.out]; omega)
        rw [hlx] at hcz
        clear hlx
        have hfz := HI.out.1.frozen (pre.length + k)
        obtain ⟨h1, l1, l2, o1, x', b', hm1, ha1, hs1, b1, b2, b3, e⟩ := msb_step HGQ.out.2 (HY.out.at_ k) (HO.out.at_ k) HI.out.2.2.br0 HI.out.2.2.cr0
        have HE := Lib.hid e
        have HM1 := Lib.hid hm1
        clear e hm1
        go_wp2_with (go_at_call 143; (refine (HM1.out _).mono ?_); rintro e w' ⟨rfl, rfl⟩)
        go_roundw
        case rel => exact ⟨k + 1, b', h1 + o1, xs.set k x', by omega, by go_num, rfl, rfl, Lib.hid ⟨HI.out.1.set_ k (by rw [HI.out.2.2.len, HL.out]; omega) x', HI.out.2.1.set_ _ _, HI.out.2.2.step (by rw [HL.out]; omega) x' b' (h1 + o1) b2 b3 b1 HE.out⟩⟩
        case measure => (simp [intOf] <;> omega)
      · obtain rfl : k = n := by omega
        have hlx := HI.out.2.2.at_
        have hcz := HI.out.1.cell k (by rw [HI.out.2.2.len, HL.out]; omega)
        rw [hlx] at hcz
        clear hlx
        have hfz := HI.out.1.frozen (pre.length + k)
        obtain ⟨x', b', hs1, b2, b3, e⟩ := sub_step (HO.out.at_ k) HI.out.2.2.br0 HI.out.2.2.cr0
        have hg : Guess X Y k 18446744073709551615 b' (xs.set k x') := by
          have h1 := HI.out.2.2.step (by rw [HL.out]; omega) x' b' 0 b2 b3 (by omega) (by rw [lim_end (xs := ys) (by rw [HR.out.1]; omega)]; omega)
          refine ⟨h1.ok, by rw [h1.len, HL.out], b3, HGQ.out.2, HGQ.out.1, ?_⟩
          have h2 := h1.e
          rw [List.take_of_length_le (by rw [h1.len, HL.out]; omega), List.take_of_length_le (by rw [HL.out]; omega), List.take_of_length_le (by rw [HR.out.1]; omega), HX.out, HYV.out, Int.add_zero] at h2
          exact h2
        have HG0 := Lib.hid (show Loop2 w (wr.setCell ⟨g, pre.length + k, none⟩ (.int .u64 x')) g pre post X Y k 18446744073709551615 b' (xs.set k x') from
          ⟨HI.out.1.set_ k (by rw [HI.out.2.2.len, HL.out]; omega) x', HI.out.2.1.set_ _ _, hg⟩)
        clear hg e hbx hbm hby hcy hxn hxm
        go_wp2
        clear HI hcz hfz hs1
        go_loopw [6, 7] (fun qv bv wr => ∃ (q br : Int) (xs : List Int), qv = .int .u64 q ∧ bv = .int .u64 br ∧ (0 ≤ br ∧ br ≤ 1) ∧ (0 ≤ q ∧ q < 18446744073709551616) ∧ Hid (Loop2 w wr g pre post X Y k q br xs)) (fun v _ _ => (intOf v).toNat)
        case atStart => exact ⟨_, _, _, rfl, rfl, b3, HGQ.out.2, HG0⟩
        case round =>
          clear HG0 b2 b3
          obtain ⟨q, br, xs, rfl, rfl, hbr, hq, HI⟩ := hrel
          by_cases hb1 : br = 1
          · subst hb1
            have hlow := HI.out.2.2.lower (by rw [← HX.out]; exact lv_nonneg HO.out) HYP.out rfl
            have hq1 := hlow.1
            have HLO := Lib.hid hlow.2
            clear hlow
            have HXS := Lib.hid (show Okl xs from HI.out.2.2.ok)
            have HXL := Lib.hid (show xs.length = k + 1 from HI.out.2.2.len)
            go_wp2
            go_loopw [13, 99] (fun ov iv wr2 => ∃ (m : Nat) (o : Int) (zs : List Int), m ≤ k ∧ iv = .int .i64 m ∧ ov = .int .u64 o ∧ Hid (Loop3 w wr2 g pre post xs ys m o zs)) (fun _ v _ => k - (intOf v).toNat)
            case atStart => exact ⟨0, 0, xs, by omega, rfl, rfl, Lib.hid ⟨HI.out.1, HI.out.2.1, HXS.out, rfl, by omega, rfl, by simp [lv]⟩⟩
            case round =>
              obtain ⟨m, o, zs, hmk, rfl, rfl, HJ⟩ := hrel
              by_cases hm1 : m < k
              · obtain ⟨bd', hbd, hcb⟩ := (HR.out.only HJ.out.2.1 HNE.out).at_ m hm1
                obtain rfl : bd = bd' := Option.some.inj hbd
                clear hbd
                have hlx := HJ.out.2.2.at_
                have hcz := HJ.out.1.cell m (by rw [HJ.out.2.2.len, HXL.out]; omega)
                rw [hlx] at hcz
                clear hlx
                have hfz := HJ.out.1.frozen (pre.length + m)
                obtain ⟨x', c', ha1, b2, b3, e⟩ := add_step (HXS.out.at_ m) (HY.out.at_ m) HJ.out.2.2.ov0
                have HE := Lib.hid e
                clear e
                go_wp2
                go_region
                go_wp2
                go_roundw
                case rel => exact ⟨m + 1, c', zs.set m x', by omega, by go_num, rfl, Lib.hid ⟨(HJ.out.1.set_ m (by rw [HJ.out.2.2.len, HXL.out]; omega) x').drew, (HJ.out.2.1.set_ _ _).drew, HJ.out.2.2.step (by rw [HXL.out]; omega) x' c' b2 b3 HE.out⟩⟩
                case measure => (simp [intOf] <;> omega)
              · obtain rfl : m = k := by omega
                have hlx := HJ.out.2.2.at_
                have hcz := HJ.out.1.cell m (by rw [HJ.out.2.2.len, HXL.out]; omega)
                rw [hlx] at hcz
                clear hlx
                have hfz := HJ.out.1.frozen (pre.length + m)
                obtain ⟨x', c', ha1, b2, b3, e⟩ := add_step (y := 0) (HXS.out.at_ m) (by omega) HJ.out.2.2.ov0
                have hg : Guess X Y m (q - 1) (1 - c') (zs.set m x') := by
                  have h1 := HJ.out.2.2.step (by rw [HXL.out]; omega) x' c' b2 b3 (by rw [lim_end (xs := ys) (by rw [HR.out.1]; omega)]; omega)
                  refine ⟨h1.ok, by rw [h1.len, HXL.out], by omega, by omega, HLO.out, ?_⟩
                  have h2 := h1.e
                  have h3 := HI.out.2.2.e
                  rw [List.take_of_length_le (by rw [h1.len, HXL.out]; omega), List.take_of_length_le (by rw [HXL.out]; omega), List.take_of_length_le (by rw [HR.out.1]; omega), HYV.out] at h2
                  rw [Int.sub_mul, Int.one_mul, Int.mul_sub, Int.mul_one]
                  rw [Int.mul_one] at h3
                  omega
                have HG1 := Lib.hid hg
                clear hg e
                go_wp2
                go_roundw
                case rel => exact ⟨q - 1, 1 - c', zs.set m x', rfl, rfl, by omega, by omega, Lib.hid ⟨HJ.out.1.set_ m (by rw [HJ.out.2.2.len, HXL.out]; omega) x', HJ.out.2.1.set_ _ _, HG1.out⟩⟩
                case measure => (simp [intOf] <;> omega)
          · obtain rfl : br = 0 := by omega
            have hf := HI.out.2.2.fin HYP.out
            have HF := Lib.hid hf
            clear hf
            go_wp2
            go_ret
            exact ⟨_, rfl, by rw [← HF.out.1]; rfl, HI.out.2.1, xs, HI.out.1, HI.out.2.2.ok, HI.out.2.2.len, HF.out.2⟩
end Go.Proofs.Ytcabnnfhcolcfaa
