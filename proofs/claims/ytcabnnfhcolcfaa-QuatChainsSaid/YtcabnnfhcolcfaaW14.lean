/- The walk of div: the numbers. The walk of div. The walk of div: the long way. The walks of the whole numbers' small functions. The walks of Add, Sub, Mul. The walks of Left, Power, Cmp, Even, Small. -/
import Derived.Test.YtcabnnfhcolcfaaW11
import Derived.Test.YtcabnnfhcolcfaaW10
import Derived.ArgAppend
namespace Go.Proofs.Ytcabnnfhcolcfaa
set_option linter.unusedSimpArgs false
set_option linter.unusedVariables false
open Go.RowKit

theorem wpList_app64_grow {W : World} {l : Nat} {xs : List Int} {A : Option Addr} {x0 : Int} {ad : Addr} {ops : Array Oper} {rest : List Oper} {o : Oper} {a : Act} {Q : Exit → Act → World → Prop} (hgd : o.guard = none) (s x : Operand)
    (ho : o.op = .call { callee := .builtin .append, args := #[s, x], argTypes := #[79, 79] }) (hs : a.eval s = .slice A l l) (hx : a.eval x = .slice (some ad) 1 1)
    (hr : Rd W A l xs) (hA : A ≠ none) (hc : W.cell? ad = some (.int .u64 x0)) (hl : l ≤ 17592186044415)
    (hk : ∀ v' W', Row W' W.heap.size v' (xs ++ [x0]) → W.grownBy W' none → wpList Try.prog ops Q rest (a.put o.dst v') W') : wpList Try.prog ops Q (o :: rest) a W := by
  obtain ⟨i0, hi, hzz⟩ := Option.map_eq_some_iff.1 info64
  simp only [Prod.mk.injEq] at hzz
  obtain ⟨hz0, hz1, hz2⟩ := hzz
  refine wpList_append_grows W hgd s x _ ho 101 i0 (.int .u64 0) 1 8 Try.underlying79 hi hz0 hz1 hz2 rfl (by omega) A l l (vals xs) hs (fun h => absurd h hA) (by rw [vals_length, hr.1]; omega) ?_ ad 1 1 [.int .u64 x0] hx rfl ?_ ?_ (by omega) (by simp only [maxLen]; omega) (by omega) ?_
  · intro b hb j u hu
    have hj : j < xs.length := by
      rcases Nat.lt_or_ge j xs.length with h | h
      · exact h
      · rw [List.getElem?_eq_none (by rw [vals_length]; exact h)] at hu; cases hu
    obtain ⟨ad', h', hcell⟩ := hr.2 (by have := hr.1; omega)
    rw [hb] at h'
    have h' := Option.some.inj h'
    subst h'
    rw [vals_at xs j hj] at hu
    rw [← hu]
    exact hcell j (by have := hr.1; omega)
  · intro j u hu
    rcases Nat.eq_zero_or_pos j with rfl | hj
    · simp at hu
      rw [← hu, show ad.add 0 = ad by unfold Addr.add; simp]
      exact hc
    · rw [List.getElem?_eq_none (by simp; omega)] at hu; cases hu
  · intro u hu; simp at hu; rw [hu]; rfl
  · intro v' w' hown hg
    refine hk v' w' ?_ hg
    unfold Row
    rw [vals_append, List.length_append, hr.1]
    exact hown

/-- While the quotient's limbs are found, from the highest. -/
structure DivInv (A B : Int) (m lx k : Nat) (xs qs : List Int) : Prop where
  okx : Okl xs
  okq : Okl qs
  lenx : xs.length = lx
  lenq : qs.length = lx - m
  e : A = B * (18446744073709551616 ^ k * lv (qs.drop k)) + lv xs
  lt : lv (xs.drop k) < B
theorem zeros_of_lt {xs : List Int} (h : Okl xs) {m : Nat} (hlt : lv xs < 18446744073709551616 ^ m) : lv (xs.drop m) = 0 := by
  rcases Nat.lt_or_ge m xs.length with hm | hm
  · have e := lv_take_drop xs m (by omega)
    have h1 := lv_nonneg (h.take m)
    have h2 := lv_nonneg (h.drop m)
    have hp := pow_pos64 m
    refine Classical.byContradiction fun hne => ?_
    have := Int.mul_le_mul_of_nonneg_left (show 1 ≤ lv (xs.drop m) by omega) (Int.le_of_lt hp)
    omega
  · rw [List.drop_eq_nil_of_le hm]; rfl
/-- The part of x that is divided next. -/
theorem DivInv.part {A B : Int} {m lx k : Nat} {xs qs : List Int} (h : DivInv A B m lx (k + 1) xs qs) (hB : B < 18446744073709551616 ^ m) (hk : k + m + 1 ≤ lx) :
    lv ((xs.drop k).take (m + 1)) = lv (xs.drop k) ∧ lv (xs.drop k) < 18446744073709551616 * B ∧ lv (xs.drop (k + m + 1)) = 0 ∧ 0 ≤ lv (xs.drop k) := by
  have h1 := lv_drop_succ xs k
  have hx := h.okx.at_ k
  have h2 := h.lt
  have h3 : lv ((xs.drop (k + 1)).drop m) = 0 := zeros_of_lt (h.okx.drop _) (by omega)
  rw [List.drop_drop] at h3
  have e := lv_take_drop (xs.drop k) (m + 1) (by rw [List.length_drop, h.lenx]; omega)
  rw [List.drop_drop, show k + (m + 1) = k + 1 + m by omega, h3, Int.mul_zero, Int.add_zero] at e
  exact ⟨e.symm, by omega, by rw [show k + m + 1 = k + 1 + m by omega]; exact h3, lv_nonneg (h.okx.drop k)⟩
theorem lv_zero_of {xs : List Int} (h : Okl xs) (e : lv xs = 0) : lv xs = 0 := e
theorem DivInv.step {A B : Int} {m lx k : Nat} {xs qs seg : List Int} (h : DivInv A B m lx (k + 1) xs qs) (hB0 : 0 < B) (hB : B < 18446744073709551616 ^ m) (hk : k + m + 1 ≤ lx) (hs : Okl seg) (hsl : seg.length = m + 1) (hsv : lv seg = lv (xs.drop k) % B) :
    DivInv A B m lx k (xs.take k ++ (seg ++ xs.drop (k + m + 1))) (qs.set k (lv (xs.drop k) / B)) := by
  obtain ⟨p1, p2, p3, p4⟩ := h.part hB hk
  have q0 : 0 ≤ lv (xs.drop k) / B := Int.ediv_nonneg p4 (by omega)
  have q1 : lv (xs.drop k) / B < 18446744073709551616 := Int.ediv_lt_of_lt_mul hB0 p2
  have hxl := h.lenx
  have hql := h.lenq
  have e2 := Int.emod_add_mul_ediv (lv (xs.drop k)) B
  have htl : (xs.take k).length = k := by rw [List.length_take]; omega
  have hd : (xs.take k ++ (seg ++ xs.drop (k + m + 1))).drop k = seg ++ xs.drop (k + m + 1) := by
    rw [List.drop_append_of_le_length (by omega), List.drop_eq_nil_of_le (by omega), List.nil_append]
  have hlv : lv (seg ++ xs.drop (k + m + 1)) = lv (xs.drop k) % B := by rw [lv_append, p3, hsv]; simp
  refine ⟨(h.okx.take k).append (hs.append (h.okx.drop _)), h.okq.set_ _ ⟨q0, q1⟩, ?_, by simpa using hql, ?_, ?_⟩
  · simp only [List.length_append, List.length_drop, hsl, htl]; omega
  · rw [lv_drop_succ (qs.set k _) k, lim_set_same (by omega), drop_set_lt, lv_append, hlv, htl]
    have e3 := h.e
    have e4 := lv_take_drop xs k (by omega)
    rw [Int.pow_succ] at e3
    rw [e3, e4]
    generalize lv (xs.drop k) % B = r at *
    generalize lv (xs.drop k) / B = q at *
    rw [← e2]
    grind
  · rw [hd, hlv]; exact Int.emod_lt_of_pos _ hB0
theorem DivInv.fin {A B : Int} {m lx : Nat} {xs qs : List Int} (h : DivInv A B m lx 0 xs qs) (hB0 : 0 < B) (hB : B < 18446744073709551616 ^ m) (hm : m ≤ lx) : lv qs = A / B ∧ lv (xs.take m) = A % B := by
  have h1 := h.e
  have h2 := h.lt
  rw [List.drop_zero] at h1 h2
  have h3 := lv_nonneg h.okx
  have h4 := zeros_of_lt h.okx (show lv xs < 18446744073709551616 ^ m by omega)
  have h5 := lv_take_drop xs m (by rw [h.lenx]; exact hm)
  rw [h4, Int.mul_zero, Int.add_zero] at h5
  rw [← h5]
  have e : A = lv xs + B * lv qs := by rw [h1]; simp; omega
  rw [e]
  exact ⟨by rw [Int.add_mul_ediv_left _ _ (by omega), Int.ediv_eq_zero_of_lt h3 h2]; omega, by rw [Int.add_mul_emod_self_left]; exact (Int.emod_eq_of_lt h3 h2).symm⟩
theorem DivInv.start {A B : Int} {m l : Nat} {xs : List Int} (hx : Okl xs) (hl : xs.length = l) (hv : lv xs = A) (hm : m ≤ l) (hB : 18446744073709551616 ^ (m - 1) ≤ B) (hm0 : 0 < m) :
    DivInv A B m (l + 1) (l + 1 - m) (xs ++ [0]) (List.replicate (l + 1 - m) 0) := by
  refine ⟨hx.append (Okl.mk (by omega) Okl.nil), Okl.zeros _, by simp [hl], by simp, ?_, ?_⟩
  · rw [List.drop_eq_nil_of_le (by simp), lv_append]
    simp [lv, hv]
  · have e : (xs ++ [(0 : Int)]).drop (l + 1 - m) = xs.drop (l + 1 - m) ++ [0] := by rw [List.drop_append_of_le_length (by omega)]
    rw [e, lv_append]
    have h1 := lv_lt (hx.drop (l + 1 - m))
    rw [List.length_drop, hl, show l - (l + 1 - m) = m - 1 by omega] at h1
    simp only [lv, Int.mul_zero, Int.add_zero]
    omega
end Go.Proofs.Ytcabnnfhcolcfaa
namespace Go.Proofs.Ytcabnnfhcolcfaa
set_option linter.unusedSimpArgs false
set_option linter.unusedVariables false
open Go.RowKit

/-- What div tells. -/
def DivP (a b : Int) (v : Value) (w' : World) : Prop := ∃ u r, v = .tuple #[u, r] ∧ NatAt w' u (a / b) ∧ NatAt w' r (a % b)
theorem Cloned.nat {w w' : World} {xs : List Int} {v : Value} (h : Cloned w xs v w') (hn : Norm xs) : NatAt w' v (lv xs) := by
  have h' : Row w' w.heap.size v xs := h
  rcases h'.slice with ⟨rfl, rfl⟩ | ⟨g, c, rfl⟩
  · exact NatAt.zero _ _ _ (by omega)
  · obtain ⟨h1, _, _, h2, h3⟩ := h'.own
    exact ⟨_, _, _, xs, rfl, ⟨h2, h3⟩, h1.rd rfl, hn, rfl⟩
set_option maxHeartbeats 1000000 in
set_option maxRecDepth 100000 in
theorem div_lt (va vb : Value) (a b : Int) (w : World) (ha : NatAt w va a) (hb : NatAt w vb b) (hla : Sm a) (hlb : Sm b) (hlt : a < b) :
    Calls Try.prog 131 #[va, vb] w (RetB w (DivP a b)) := by
  have HC := Lib.hid (cmp_any va vb a b w ha hb hla hlb)
  have h0 := ha.nonneg
  obtain ⟨A, n, c, xs, rfl, hc, hr, hn, hv⟩ := ha
  have h1 : n ≤ 1099511627777 := by rw [← hr.1]; exact hn.len hv hla
  have e : cmpI a b = -1 := by unfold cmpI; rw [if_pos hlt]
  rw [e] at HC
  have HD := Lib.hid (fun (k : Nat) => clone_any A n c xs (w.drewN k) hr h1)
  have HN := Lib.hid hn
  have HV := Lib.hid hv
  have HE := Lib.hid (show a / b = 0 ∧ a % b = a from ⟨Int.ediv_eq_zero_of_lt h0 hlt, Int.emod_eq_of_lt h0 hlt⟩)
  clear hr hn hv hb e
  go_enter Try.func131, Try.ntmps131
  go_wp2_with (first
    | (go_at_call 121; (refine (HC.out).mono ?_); rintro e w' ⟨rfl, ⟨nd, rfl⟩⟩)
    | (go_at_call 124; (refine (HD.out _).mono ?_); rintro e w1 ⟨⟨v, rfl, hcl⟩, hb1⟩))
  go_ret2
  exact RetB.mk ⟨.slice none 0 0, v, rfl, by rw [HE.out.1]; exact NatAt.zero _ _ _ (by omega), by rw [HE.out.2, ← HV.out]; exact Cloned.nat hcl HN.out⟩ (below_after hb1 (below_drewN' (Below.refl _ _) _) (by simp))

set_option maxHeartbeats 1000000 in
set_option maxRecDepth 100000 in
theorem div_one (va : Value) (B : Option Addr) (d : Nat) (y a b : Int) (w : World) (ha : NatAt w va a) (hb : NatAt w (.slice B 1 d) b) (hr : Rd w B 1 [y]) (hla : Sm a) (hlb : Sm b) (hy : b = y) (hb0 : 0 < b ∧ b < 18446744073709551616) (hle : b ≤ a) :
    Calls Try.prog 131 #[va, .slice B 1 d] w (RetB w (DivP a b)) := by
  have HC := Lib.hid (cmp_any va _ a b w ha hb hla hlb)
  obtain ⟨A, n, c, rfl, HA⟩ := ha.open_
  have HD := Lib.hid (fun (k : Nat) => divWord_any _ a b (w.drewN k) (ha.drewN k) hla hb0)
  have hcmp : ¬ cmpI a b < 0 := by unfold cmpI; split <;> (try split) <;> omega
  obtain ⟨bd, rfl, hcb⟩ := hr.at_ 0 (by omega)
  have hcb : w.cell? bd = some (.int .u64 b) := by
    have : lim [y] 0 = b := by rw [hy]; rfl
    rw [this] at hcb
    rwa [show bd.add 0 = bd by unfold Addr.add; simp] at hcb
  have hm0 : 0 ≤ a % b := Int.emod_nonneg _ (by omega)
  have hm1 : a % b < b := Int.emod_lt_of_pos _ (by omega)
  clear hr hb hla hlb hy ha
  go_enter Try.func131, Try.ntmps131
  go_wp2_with (first
    | (go_at_call 121; (refine (HC.out).mono ?_); rintro e w' ⟨rfl, ⟨nd, rfl⟩⟩)
    | (go_at_call 139; (refine (HD.out _).mono ?_); rintro e w1 ⟨⟨v, rfl, ⟨u, rfl, hu⟩⟩, hb1⟩)
    | (go_at_call 97; (refine (word_any _ _ hm0 (by omega)).mono ?_); rintro e w2 ⟨⟨v, rfl, hv⟩, hb2⟩))
  go_ret2
  exact RetB.mk ⟨u, v, rfl, hu.below hb2, hv⟩ (below_after hb2 (below_after hb1 (below_drewN' (Below.refl _ _) _) (by simp)) (by have := hb1.size; simpa using this))
end Go.Proofs.Ytcabnnfhcolcfaa
namespace Go.Proofs.Ytcabnnfhcolcfaa
set_option linter.unusedSimpArgs false
set_option linter.unusedVariables false
open Go.RowKit

theorem Norm.length_eq {xs : List Int} (h : Norm xs) {m : Nat} (h0 : 0 < m) (h1 : 18446744073709551616 ^ (m - 1) ≤ lv xs) (h2 : lv xs < 18446744073709551616 ^ m) : xs.length = m := by
  have h3 := h.length_le h2
  have h4 := lv_lt h.1
  refine Classical.byContradiction fun hne => ?_
  have := pow_mono64 (show xs.length ≤ m - 1 by omega)
  omega
/-- The shifted divisor. -/
theorem shift_spec {ys : List Int} {m s : Nat} {b : Int} (hy : Okl ys) (hl : ys.length = m) (h0 : 0 < m) (hv : lv ys = b) (hs : s < 64) (h1 : 9223372036854775808 ≤ lim ys (m - 1) * 2 ^ s) (h2 : lim ys (m - 1) * 2 ^ s < 18446744073709551616) :
    9223372036854775808 * 18446744073709551616 ^ (m - 1) ≤ 2 ^ s * b ∧ 2 ^ s * b < 18446744073709551616 ^ m := by
  obtain ⟨n, rfl⟩ : ∃ n, m = n + 1 := ⟨m - 1, by omega⟩
  simp only [Nat.add_sub_cancel] at *
  have e1 := lv_take_succ' ys n
  rw [List.take_of_length_le (by omega), hv] at e1
  have e2 := lv_nonneg (hy.take n)
  have e3 := lv_lt (hy.take n)
  rw [List.length_take, Nat.min_eq_left (by omega)] at e3
  have hp := pow2_pos s
  have hq := pow2_pos (64 - s)
  have hpq := pq64 hs
  have h64 := pow_pos64 n
  have ht : lim ys n + 1 ≤ 2 ^ (64 - s) := by
    refine Int.not_lt.1 fun h => ?_
    have := Int.mul_le_mul_of_nonneg_right (show 2 ^ (64 - s) ≤ lim ys n by omega) (Int.le_of_lt hp)
    rw [Int.mul_comm (2 ^ (64 - s)), hpq] at this
    omega
  rw [e1]
  refine ⟨?_, ?_⟩
  · have i1 := Int.mul_le_mul_of_nonneg_right h1 (Int.le_of_lt h64)
    have i2 := Int.mul_nonneg (Int.le_of_lt hp) e2
    have i3 : 2 ^ s * (lv (ys.take n) + 18446744073709551616 ^ n * lim ys n) = 2 ^ s * lv (ys.take n) + lim ys n * 2 ^ s * 18446744073709551616 ^ n := by grind
    omega
  · have i1 : lv (ys.take n) + 18446744073709551616 ^ n * lim ys n + 1 ≤ 18446744073709551616 ^ n * 2 ^ (64 - s) := by
      have := Int.mul_le_mul_of_nonneg_left ht (Int.le_of_lt h64)
      rw [Int.mul_add, Int.mul_one] at this
      omega
    have i2 := Int.mul_le_mul_of_nonneg_left i1 (Int.le_of_lt hp)
    rw [Int.mul_add, Int.mul_one] at i2
    have i3 : (2 : Int) ^ s * (18446744073709551616 ^ n * 2 ^ (64 - s)) = 18446744073709551616 ^ n * (2 ^ s * 2 ^ (64 - s)) := by grind
    rw [hpq] at i3
    rw [Int.pow_succ]
    omega
theorem mul_div_shift {a b : Int} (s : Nat) (hb : 0 < b) : 2 ^ s * a / (2 ^ s * b) = a / b ∧ (2 ^ s * a % (2 ^ s * b)) / 2 ^ s = a % b := by
  have hp := pow2_pos s
  refine ⟨Int.mul_ediv_mul_of_pos _ _ hp, ?_⟩
  rw [Int.mul_emod_mul_of_pos _ _ hp]
  exact Int.mul_ediv_cancel_left _ (by omega)

theorem len_shift {xl xs : List Int} {l la s : Nat} {a : Int} (hn : Norm xl) (hl : xl.length = l) (hv : lv xl = 2 ^ s * a) (hg : 18446744073709551616 ^ (xs.length - 1) ≤ lv xs) (hx2 : lv xs < 18446744073709551616 ^ la) (hxl : xs.length = la) (hxv : lv xs = a) (ha : 0 < a) (hs : s < 64) (hla : la ≤ 1099511627777) : la ≤ l ∧ l ≤ 1099511627779 := by
  have hp := pow2_pos s
  have h1 : a ≤ 2 ^ s * a := by
    have := Int.mul_le_mul_of_nonneg_right (show (1 : Int) ≤ 2 ^ s by omega) (Int.le_of_lt ha)
    omega
  have h2 := lv_lt hn.1
  rw [hl, hv] at h2
  refine ⟨?_, ?_⟩
  · refine Classical.byContradiction fun hne => ?_
    have := pow_mono64 (show l ≤ la - 1 by omega)
    rw [hxl, hxv] at hg
    omega
  · rw [← hl]
    refine Nat.le_trans (hn.length_le (n := la + 1) ?_) (by omega)
    rw [hv, Int.pow_succ]
    have h3 : (2 : Int) ^ s ≤ 18446744073709551616 := pow2_mono (show s ≤ 64 by omega)
    have h4 := Int.mul_le_mul_of_nonneg_right h3 (Int.le_of_lt ha)
    omega
/-- What is held while the limbs of the quotient are found: x in block g, the quotient in block q; y is read in an elder world. -/
structure DivL (w wy wr : World) (g q : Nat) (A B : Int) (m lx k : Nat) (xs qs : List Int) : Prop where
  ox : Own wr g xs
  oq : Own wr q qs
  b0 : Below w.heap.size w wr
  b1 : Below wy.heap.size wy wr
  gw : w.heap.size ≤ g ∧ w.heap.size ≤ q ∧ wy.heap.size ≤ g ∧ wy.heap.size ≤ q
  ne : g ≠ q
  inv : DivInv A B m lx k xs qs

set_option maxHeartbeats 2000000 in
set_option maxRecDepth 100000 in
theorem div_long (A B : Option Addr) (la m c d : Nat) (xs ys : List Int) (a b : Int) (w : World) (hA : Rd w A la xs) (hB : Rd w B m ys) (hx : Norm xs) (hy : Norm ys) (hxv : lv xs = a) (hyv : lv ys = b) (hla : Sm a) (hlb : Sm b) (hm : 2 ≤ m) (hm2 : m ≤ 1099511627776) (hle : b ≤ a) (hca : la ≤ c ∧ c ≤ 9223372036854775807) (hcb : m ≤ d ∧ d ≤ 9223372036854775807) :
    Calls Try.prog 131 #[.slice A la c, .slice B m d] w (RetB w (DivP a b)) := by
  have nA : NatAt w (.slice A la c) a := ⟨A, la, c, xs, rfl, hca, hA, hx, hxv⟩
  have nB : NatAt w (.slice B m d) b := ⟨B, m, d, ys, rfl, hcb, hB, hy, hyv⟩
  have HC := Lib.hid (cmp_any _ _ a b w nA nB hla hlb)
  have hcmp : ¬ cmpI a b < 0 := by unfold cmpI; split <;> (try split) <;> omega
  have l1 : la ≤ 1099511627777 := by rw [← hA.1]; exact hx.len hxv hla
  have l2 : m ≤ 1099511627777 := by rw [← hB.1]; exact hy.len hyv hlb
  have hml : m ≤ la := by
    rcases Nat.lt_or_ge la m with h | h
    · have := lv_len_lt hx hy (by rw [hA.1, hB.1]; exact h)
      omega
    · exact h
  have ht0 : lim ys (m - 1) ≠ 0 := by
    have := hy.2 (by rintro rfl; have := hB.1; simp at this; omega)
    rw [List.getLast_eq_getElem] at this
    unfold lim
    rw [List.getD_eq_getElem?_getD, List.getElem?_eq_getElem (by rw [hB.1]; omega)]
    simpa [hB.1] using this
  have htb := hy.1.at_ (m - 1)
  obtain ⟨s, hs, hs2, hn1, hn2⟩ := lz_spec (lim ys (m - 1)) (by omega) htb.2
  have hz := lz64_any (lim ys (m - 1))
  rw [hs] at hz
  have HZ := Lib.hid hz
  obtain ⟨t1, t2⟩ := shift_spec hy.1 hB.1 (by omega) hyv hs2 hn1 hn2
  obtain ⟨bd, rfl, hcy⟩ := hB.at_ (m - 1) (by omega)
  have HLB := Lib.hid (fun (k : Nat) => left_cap _ b s (w.drewN k) (nB.drewN k) hlb (by omega))
  have HLA := Lib.hid (fun (w' : World) (h : NatAt w' (.slice A la c) a) => left_cap _ a s w' h hla (by omega))
  have HNA := Lib.hid nA
  have HT := Lib.hid (And.intro t1 t2)
  have ha0 : 0 < a := by
    have := hy.ge (by rintro rfl; have := hB.1; simp at this; omega)
    have := pow_pos64 (ys.length - 1)
    omega
  have hb0 : 0 < b := by
    have := hy.ge (by rintro rfl; have := hB.1; simp at this; omega)
    have := pow_pos64 (ys.length - 1)
    omega
  have HXG := Lib.hid (hx.ge (by rintro rfl; have := hA.1; simp at this; omega))
  have HXL := Lib.hid (show xs.length = la from hA.1)
  have HXV := Lib.hid hxv
  have HAB := Lib.hid (And.intro ha0 hb0)
  have HDIV := Lib.hid (mul_div_shift (a := a) s hb0)
  have HX2 := Lib.hid (show lv xs < 18446744073709551616 ^ la by rw [← hA.1]; exact lv_lt hx.1)
  clear hz hs hA hB hx hy hxv hyv hla hlb nA nB t1 t2 ha0 hb0 ht0
  go_enter Try.func131, Try.ntmps131
  go_wp2_with (first
    | (go_at_call 121; (refine (HC.out).mono ?_); rintro e w' ⟨rfl, ⟨nd, rfl⟩⟩)
    | (go_at_call 140; (refine (HZ.out _ htb.1 (by omega)).mono ?_); rintro e w' ⟨rfl, rfl⟩)
    | (go_at_call 122; (with_reducible refine (HLB.out _).mono ?_); rintro e w1 ⟨⟨v, rfl, ⟨Ay, my, yl, rfl, hmy, hry, hny, hvy⟩⟩, hb1⟩)
    | (go_at_call 122; (with_reducible refine (HLA.out _ ?_).mono ?_); (· exact (HNA.out.drewN _).below hb1); rintro e w2 ⟨⟨v, rfl, ⟨Ax, l, xl, rfl, hl, hrx, hnx, hvx⟩⟩, hb2⟩;
       (have hlx : la ≤ l ∧ l ≤ 1099511627779 := len_shift hnx hrx.1 hvx HXG.out HX2.out HXL.out HXV.out HAB.out.1 hs2 l1))
    | (at_builtin; (refine wpList_app64_grow (xs := xl) (x0 := 0) (ad := ⟨w2.heap.size, 0, none⟩) rfl (.tmp 44) (.tmp 45) rfl rfl rfl ?_ ?_ ?_ ?_ ?_); (· exact hrx.below ((Below.refl _ _).alloc (Nat.le_refl _) _)); (· intro h0; obtain ⟨ad, h1, _⟩ := hrx.2 (by omega); rw [h0] at h1; cases h1); (· go_simp); (· omega); intro v4 w4 hrow hg4;
       (rcases hrow.slice with ⟨_, h0⟩ | ⟨g, cx, rfl⟩); (· simp at h0)))
  obtain rfl := hrx.1
  obtain ⟨hown, hge, _, hcx, hcx2⟩ := hrow.own
  have hmy2 := hny.length_eq (m := m) (by omega) (by rw [hvy]; have := HT.out.1; have := pow_pos64 (m - 1); omega) (by rw [hvy]; exact HT.out.2)
  obtain rfl : m = my := by rw [← hry.1]; exact hmy2.symm
  have hbw2 := below_after hb2 (below_after hb1 (below_drewN' (Below.refl w.heap.size w) nd) (by simp)) (by have := hb1.size; simpa using this)
  have hb24 : Below w2.heap.size w2 w4 := ((Below.refl w2.heap.size w2).alloc (Nat.le_refl _) _).grown hg4 (by simp) (fun k hk => by cases hk)
  have hg2 : w2.heap.size ≤ g := by simp at hge; omega
  have hsz : w.heap.size ≤ w2.heap.size := hbw2.size
  have hbw4 := below_after hb24 hbw2 hsz
  have HOWN := Lib.hid hown
  have HB4 := Lib.hid hbw4
  have HB24 := Lib.hid hb24
  have HGL := Lib.hid (show g < w4.heap.size from hown.lt)
  have HSZ := Lib.hid (show w2.heap.size ≤ w4.heap.size from hb24.size)
  have HRY := Lib.hid (hry.below hb2)
  have HNY := Lib.hid hny
  have HVY := Lib.hid hvy
  have HS := Lib.hid (DivInv.start (m := m) hnx.1 rfl hvx (by omega) (show 18446744073709551616 ^ (m - 1) ≤ 2 ^ s * b by have := HT.out.1; have := pow_pos64 (m - 1); omega) (by omega))
  have hcx : xl.length + 1 ≤ cx := by simpa using hcx
  have htop : 9223372036854775808 ≤ lim yl (m - 1) := by
    have h1 := lv_take_succ' yl (m - 1)
    rw [List.take_of_length_le (by omega), hvy] at h1
    have h2 := lv_lt (hny.1.take (m - 1))
    rw [List.length_take, Nat.min_eq_left (by omega)] at h2
    have h3 := HT.out.1
    have h4 := pow_pos64 (m - 1)
    refine Int.not_lt.1 fun h => ?_
    have h5 := Int.mul_le_mul_of_nonneg_left (show lim yl (m - 1) + 1 ≤ 9223372036854775808 by omega) (Int.le_of_lt h4)
    rw [Int.mul_add, Int.mul_one] at h5
    omega
  have HTOP := Lib.hid htop
  clear htop
  clear hrow hown hb1 hb2 hry hny hvy hnx hvx hrx hmy2 hbw2 hb24 hbw4 hg4 hge HC HLA HLB HZ HXG HX2 HNA
  go_loopw [10] (fun v wr => v = .slice (some ⟨g, 0, none⟩) (xl.length + 1) cx ∧ wr = w4) (fun _ _ => 0)
  case atStart => exact ⟨by simp, rfl⟩
  case round =>
    obtain ⟨rfl, rfl⟩ := hrel
    obtain ⟨wo, rfl⟩ : ∃ wo : World, wo = wr := ⟨_, rfl⟩
    have hmk : ∀ W : World, (Instr.makeSlice 79 (.int .i64 ((xl.length : Int) + 1 - (m : Int))) (.int .i64 ((xl.length : Int) + 1 - (m : Int)))).run Try.prog W = .ok (.slice (some ⟨W.heap.size, 0, none⟩) (xl.length + 1 - m) (xl.length + 1 - m)) (W.alloc (.cells (madeCells #[.int .u64 0] (xl.length + 1 - m)) 101)) := by
      have e : (xl.length : Int) + 1 - (m : Int) = ((xl.length + 1 - m : Nat) : Int) := by omega
      rw [e]; exact make64 (xl.length + 1 - m) (by omega)
    go_wp2
    clear hmk
    have HD0 := Lib.hid (show DivL w w2 (wo.alloc (.cells (madeCells #[.int .u64 0] (xl.length + 1 - m)) 101)) g wo.heap.size (2 ^ s * a) (2 ^ s * b) m (xl.length + 1) (xl.length + 1 - m) (xl ++ [0]) (List.replicate (xl.length + 1 - m) 0) from
      ⟨HOWN.out.alloc _, Own.made _ _, HB4.out.alloc (by have := HSZ.out; omega) _, HB24.out.alloc HSZ.out _, ⟨by omega, by have := HSZ.out; omega, by omega, HSZ.out⟩, by have := HGL.out; omega, HS.out⟩)
    clear HS HOWN HB24
    go_loopw [11] (fun iv wr => ∃ (k : Nat) (zs qs : List Int), k ≤ xl.length + 1 - m ∧ iv = .int .i64 ((k : Int) - 1) ∧ Hid (DivL w w2 wr g wo.heap.size (2 ^ s * a) (2 ^ s * b) m (xl.length + 1) k zs qs)) (fun v _ => (intOf v + 1).toNat)
    case atStart => exact ⟨xl.length + 1 - m, _, _, by omega, rfl, HD0⟩
    case round =>
      clear HD0
      obtain ⟨k, zs, qs, hk, rfl, HI⟩ := hrel
      by_cases hk1 : 1 ≤ k
      · obtain ⟨k, rfl⟩ : ∃ j, k = j + 1 := ⟨k - 1, by omega⟩
        have hp := HI.out.inv.part HT.out.2 (by omega)
        have htl : (zs.take k).length = k := by rw [List.length_take, HI.out.inv.lenx]; omega
        have hsl : ((zs.drop k).take (m + 1)).length = m + 1 := by rw [List.length_take, List.length_drop, HI.out.inv.lenx]; omega
        have hsplit : zs.take k ++ ((zs.drop k).take (m + 1) ++ zs.drop (k + m + 1)) = zs := by
          rw [show zs.drop (k + m + 1) = (zs.drop k).drop (m + 1) by rw [List.drop_drop]; congr 1, List.take_append_drop, List.take_append_drop]
        have hmid : Mid wr g (zs.take k) ((zs.drop k).take (m + 1)) (zs.drop (k + m + 1)) := by
          unfold Mid; rw [hsplit]; exact HI.out.ox
        have HST := step_any g m Ay m (zs.take k) ((zs.drop k).take (m + 1)) (zs.drop (k + m + 1)) yl (lv (zs.drop k)) (2 ^ s * b) wr hmid ((HI.out.inv.okx.drop k).take _) hsl hp.1 (HRY.out.below HI.out.b1) HNY.out.1 HVY.out
          (fun ad h1 h2 => by
            obtain ⟨ad', h3, h4⟩ := HRY.out.at_ 0 (by omega)
            rw [h1] at h3
            have h3 := Option.some.inj h3
            subst h3
            have h5 := World.block_lt_of_cell? w2 _ h4
            have h6 : (ad.add 0).block = ad.block := by unfold Addr.add; simp
            rw [h6] at h5
            have := HI.out.gw.2.2.1
            omega) (by omega) (by omega) HTOP.out hp.2.1
        rw [htl, show m + 1 = k + m + 1 - k by omega] at HST
        have HST := Lib.hid HST
        have hqz := HI.out.oq.cell k (by rw [HI.out.inv.lenq]; omega)
        have hqf := HI.out.oq.frozen k
        have hne := HI.out.ne
        clear hmid hsplit hsl htl hp
        have hkc : k + m + 1 ≤ cx := by omega
        go_wp2_with ((go_at_call 141; (refine (HST.out).mono ?_); rintro e w5 ⟨v, rfl, ⟨rfl, hog, seg, hmid, hsok, hsl, hsv⟩⟩; (have hown5 : Own w5 wo.heap.size qs := HI.out.oq.of_block (hog.block _ HI.out.oq.lt (by intro e; injection e with e; omega))); (have hqz := hown5.cell k (by rw [HI.out.inv.lenq]; omega)); (have hqf := hown5.frozen k); (have HO5 := Lib.hid hown5); (have HG5 := Lib.hid hog); (have HM5 := Lib.hid hmid); (have HS5 := Lib.hid (And.intro hsok (And.intro hsl hsv))); clear hown5 hog hmid hsok hsl hsv))
        go_roundw
        case rel => exact ⟨k, _, _, by omega, rfl, Lib.hid ⟨Own.far HM5.out (by simpa using HI.out.ne) _, HO5.out.set_ k _ (by rw [HI.out.inv.lenq]; omega), (HI.out.b0.grown HG5.out HI.out.b0.size (fun j hj => by cases hj; exact HI.out.gw.1)).setCell HI.out.gw.2.1 _,
          (HI.out.b1.grown HG5.out HI.out.b1.size (fun j hj => by cases hj; exact HI.out.gw.2.2.1)).setCell HI.out.gw.2.2.2 _, HI.out.gw, HI.out.ne, HI.out.inv.step (by have := HT.out.1; have := pow_pos64 (m - 1); omega) HT.out.2 (by omega) HS5.out.1 HS5.out.2.1 HS5.out.2.2⟩⟩
        case measure => (simp [intOf] <;> omega)
      · obtain rfl : k = 0 := by omega
        have hf := HI.out.inv.fin (by have := HT.out.1; have := pow_pos64 (m - 1); omega) HT.out.2 (by omega)
        have HF := Lib.hid hf
        have hq := HI.out.inv.okq
        have hqa : 0 ≤ 2 ^ s * a % (2 ^ s * b) := Int.emod_nonneg _ (by have := HT.out.1; have := pow_pos64 (m - 1); omega)
        have hqs : Sm (2 ^ s * a % (2 ^ s * b)) := Sm.limbs m (by omega) hqa (by have := Int.emod_lt_of_pos (2 ^ s * a) (show 0 < 2 ^ s * b by have := HT.out.1; have := pow_pos64 (m - 1); omega); have := HT.out.2; omega)
        have HQS := Lib.hid hqs
        have HRQ := Lib.hid (HI.out.oq.rd HI.out.inv.lenq)
        have HRX := Lib.hid ((HI.out.ox.rd HI.out.inv.lenx).take (m := m) (by omega))
        have HT1 := Lib.hid (fun (W : World) (h : Rd W (some ⟨wo.heap.size, 0, none⟩) (xl.length + 1 - m) qs) => trim_any _ _ (xl.length + 1 - m) qs W (Nat.le_refl _) (by omega) h hq)
        have HT2 := Lib.hid (fun (W : World) (h : Rd W (some ⟨g, 0, none⟩) m (zs.take m)) => trim_any _ _ m (zs.take m) W (Nat.le_refl _) (by omega) h (HI.out.inv.okx.take m))
        have HR := Lib.hid (fun (v : Value) (W : World) (h : NatAt W v (2 ^ s * a % (2 ^ s * b))) => right_any v _ s W h HQS.out (by omega))
        have HBW := Lib.hid HI.out.b0
        have hmc : m ≤ cx := by omega
        clear hf hq hqa hqs
        go_wp2
        go_region_held3 (fun _ => True) (trivial) (first
          | (go_at_call 134; (with_reducible refine (HT1.out _ ?_).mono ?_); (· first | exact HRQ.out.drew | exact HRQ.out.drew.below (by assumption)); rintro e w' ⟨⟨v1, rfl, hv1⟩, rfl⟩; (have hn1 := hv1.nat); clear hv1)
          | (go_at_call 134; (with_reducible refine (HT2.out _ ?_).mono ?_); (· first | exact HRX.out.drew | exact HRX.out.drew.below (by assumption)); rintro e w' ⟨⟨v2, rfl, hv2⟩, rfl⟩; (have hn2 := hv2.nat); rw [HF.out.2] at hn2; clear hv2)
          | (go_at_call 120; (with_reducible refine (HR.out _ _ ?_).mono ?_); (· exact hn2); rintro e w7 ⟨⟨v3, rfl, hv3⟩, hb7⟩))
        go_wp2
        go_ret2
        refine RetB.mk ⟨v1, v3, rfl, ?_, by rw [← HDIV.out.2]; exact hv3⟩ ?_
        · rw [← HDIV.out.1, ← HF.out.1]
          first | exact hn1 | exact hn1.below (by assumption)
        · exact below_after hb7 HBW.out.drew (by exact HBW.out.size)
theorem div_any (va vb : Value) (a b : Int) (w : World) (ha : NatAt w va a) (hb : NatAt w vb b) (hla : Sm a) (hlb : Sl b) (hb0 : 0 < b) :
    Calls Try.prog 131 #[va, vb] w (RetB w (DivP a b)) := by
  by_cases hlt : a < b
  · exact div_lt va vb a b w ha hb hla hlb.sm hlt
  have ha2 := ha
  have hb2 := hb
  obtain ⟨A, n, c, xs, rfl, hc, hr, hn, hv⟩ := ha
  obtain ⟨B, m, d, ys, rfl, hd, hs, hm, hu⟩ := hb
  by_cases h1 : m = 1
  · subst h1
    match ys, hs.1 with
    | [y], _ =>
      have hy : b = y := by rw [← hu]; simp [lv]
      exact div_one _ B d y a b w ha2 hb2 hs hla hlb.sm hy ⟨hb0, by have := hm.1 y (by simp); omega⟩ (by omega)
  · have hm0 : 0 < m := by
      rcases Nat.eq_zero_or_pos m with h0 | h0
      · subst h0
        have := List.eq_nil_of_length_eq_zero hs.1
        subst this
        simp [lv] at hu; omega
      · exact h0
    have hm2 : m ≤ 549755813888 := by
      obtain ⟨p, hp, _, h2⟩ := hlb
      obtain ⟨K, hK⟩ : ∃ K, K = 549755813888 := ⟨_, rfl⟩
      rw [← hK, ← hs.1]
      refine hm.length_le ?_
      rw [hu, pow64_eq]
      exact Int.lt_of_lt_of_le h2 (pow2_mono (by omega))
    exact div_long A B n m c d xs ys a b w hr hs hn hm hv hu hla hlb.sm (by omega) (by omega) (by omega) hc hd
end Go.Proofs.Ytcabnnfhcolcfaa
namespace Go.Proofs.Ytcabnnfhcolcfaa
set_option linter.unusedSimpArgs false
set_option linter.unusedVariables false
open Go.RowKit

theorem clone_nat (v : Value) (m : Int) (w : World) (hv : NatAt w v m) (hs : Sm m) :
    Calls Try.prog 124 #[v] w (RetB w fun r w' => NatAt w' r m) := by
  obtain ⟨A, n, c, xs, rfl, hc, hr, hn, hv⟩ := hv
  have h1 : n ≤ 1099511627777 := by rw [← hr.1]; exact hn.len hv hs
  refine (clone_any A n c xs w hr h1).mono ?_
  rintro e w' ⟨⟨v, rfl, hrow⟩, hb⟩
  refine RetB.mk ?_ hb
  rcases hrow.slice with ⟨rfl, rfl⟩ | ⟨g, c, rfl⟩
  · exact ⟨none, 0, 0, [], rfl, by omega, Rd.nil _ _, Norm.nil, hv⟩
  · obtain ⟨h2, _, h3, h4, h5⟩ := hrow.own
    exact ⟨_, _, _, xs, rfl, ⟨h4, h5⟩, h2.rd rfl, hn, hv⟩
theorem kcell {W w1 : World} (hb : Below W.heap.size W w1) {b o : Nat} (h : b < W.heap.size) : w1.cell? ⟨b, o, none⟩ = W.cell? ⟨b, o, none⟩ := hb.cell (p := ⟨b, o, none⟩) h
theorem Sm.neg {m : Int} (h : Sm m) : Sm (-m) := by
  obtain ⟨p, hp, h1, h2⟩ := h
  exact ⟨p, hp, by omega, by omega⟩
theorem Sl.neg {m : Int} (h : Sl m) : Sl (-m) := by
  obtain ⟨p, hp, h1, h2⟩ := h
  exact ⟨p, hp, by omega, by omega⟩
/-- 'Of' at a sign that is told as a proposition. -/
theorem of_to (neg : Bool) (v : Value) (m i : Int) (w : World) (hv : NatAt w v m) (hs : Sm m) (hi : (if neg then -m else m) = i) :
    Calls Try.prog 96 #[.bool neg, v] w (RetB w fun r w' => IntAt w' r i) := by
  subst hi; exact of_any neg v m w hv hs
theorem one_any (w : World) : Calls Try.prog 78 #[] w (RetB w fun r w' => IntAt w' r 1) := by
  go_enter Try.func78, Try.ntmps78
  go_wp2_with (first
    | (go_at_call 50; (refine (from_any 1 _ (by omega) (by omega)).mono ?_); rintro e w1 ⟨⟨v1, rfl, hv1⟩, hb1⟩; (obtain ⟨hc1, hf1⟩ := bcell hb1); (have hs1 := hb1.size); (try simp at hs1); (have hz1_0 : w.heap.size < w1.heap.size := by omega); (obtain ⟨A1, n1, c1, rfl, HN1⟩ := hv1.open_); clear hv1))
  refine bodyPost_ret (v := .agg #[.bool (decide ((1 : Int) < 0)), .slice A1 n1 c1]) (by simp [results, Try.results78, go_sem, *]) rfl ?_
  refine RetB.mk (IntAt.put (by simpa using HN1.out) (u0 := .bool false) (by go_simp) (by simp) (u1 := .slice none 0 0) (by go_simp) (by simp) (by simp)) (by repeat (first | (with_reducible assumption) | exact Below.refl _ _ | (with_reducible refine Below.setCell ?_ (by first | (simp; done) | (simp; omega) | omega) _) | (with_reducible refine Below.alloc ?_ (by first | (simp; done) | (simp; omega) | omega) _) | (with_reducible refine below_drewN' ?_ _) | (with_reducible refine Below.drew ?_) | (refine below_after (by with_reducible assumption) ?_ (by first | (simp; done) | (simp; omega) | omega))))
theorem zero_any (v : Value) (i : Int) (w : World) (hv : IntAt w v i) : Calls Try.prog 68 #[v] w (RetB w fun r w' => r = .bool (decide (i = 0))) := by
  obtain ⟨A, n, c, rfl, HN⟩ := hv.open_
  clear hv
  have h0 : n = 0 ↔ i = 0 := by
    obtain ⟨A', n', c', xs, e, hc, hr, hn, hv⟩ := HN.out
    cases e
    have := NatAt.len_pos hr hn hv
    omega
  have H0 := Lib.hid h0
  clear h0
  go_enter Try.func68, Try.ntmps68
  go_wp2
  go_ret
  refine RetB.mk ?_ (by repeat (first | (with_reducible assumption) | exact Below.refl _ _ | (with_reducible refine Below.setCell ?_ (by first | (simp; done) | (simp; omega) | omega) _) | (with_reducible refine Below.alloc ?_ (by first | (simp; done) | (simp; omega) | omega) _) | (with_reducible refine below_drewN' ?_ _) | (with_reducible refine Below.drew ?_) | (refine below_after (by with_reducible assumption) ?_ (by first | (simp; done) | (simp; omega) | omega))))
  have := H0.out
  by_cases h : i = 0 <;> simp_all
set_option maxHeartbeats 400000 in
theorem neg_any (v : Value) (i : Int) (w : World) (hv : IntAt w v i) (hs : Sm i) : Calls Try.prog 86 #[v] w (RetB w fun r w' => IntAt w' r (-i)) := by
  obtain ⟨A, n, c, rfl, HN⟩ := hv.open_
  clear hv
  have HC := Lib.hid (fun (W : World) (h : NatAt W (.slice A n c) i.natAbs) => clone_nat _ _ W h hs.natAbs)
  have HO := Lib.hid (fun (v : Value) (W : World) (h : NatAt W v i.natAbs) => of_to (!decide (i < 0)) v i.natAbs (-i) W h hs.natAbs (by by_cases h : i < 0 <;> simp [h] <;> omega))
  clear hs
  go_enter Try.func86, Try.ntmps86
  go_wp2
  go_region_held3 (fun w' => w'.cell? ⟨w.heap.size, 0, none⟩ = some (.bool (decide (i < 0))) ∧ w'.cell? ⟨w.heap.size, 1, none⟩ = some (.slice A n c)) (((repeat' (with_reducible apply And.intro)) <;> (first | (with_reducible assumption) | (go_split_ands; (repeat (with_reducible refine (World.cell?_setCell_far _ _ _ _ ?_).trans ?_; (· first | (dsimp only; omega) | (simp; done) | (simp; omega)))); (with_reducible assumption)) | (go_split_ands; (first | (with_reducible assumption) | go_simp); done) | (with_reducible refine (kcell (by assumption) ?_).trans ?_; (· exact (by first | (with_reducible assumption) | omega | (simp; done) | (simp; omega))); (· first | (with_reducible assumption) | (go_split_ands; with_reducible assumption))) | (go_split_ands; (repeat (first | (with_reducible assumption) | (with_reducible refine (World.cell?_setCell_far _ _ _ _ ?_).trans ?_; (· first | (dsimp only; omega) | (simp; done) | (simp; omega))) | (with_reducible refine alloc_swap (o := ?_) ?_ ?_ _; rotate_left 1; (· first | (dsimp only; omega) | (simp; done) | (simp; omega)); (· with_reducible assumption); (all_goals skip)) | (with_reducible refine alloc_keep ?_ _) | (with_reducible refine (kcell (by assumption) ?_).trans ?_; (· exact (by first | (with_reducible assumption) | omega | (simp; done) | (simp; omega)))))); done) | fail))) (first
    | (go_at_call 124; (with_reducible refine (HC.out _ ?_).mono ?_); (· exact (by repeat (first | (with_reducible assumption) | (with_reducible exact HN.out) | (with_reducible refine NatAt.alloc ?_ _) | (with_reducible refine NatAt.drewN ?_ _) | (with_reducible refine NatAt.drew ?_) | (refine NatAt.stored ?_ (u0 := _) (by go_simp) (by simp) _) | (refine NatAt.below ?_ (by with_reducible assumption))))); rintro e w1 ⟨⟨v1, rfl, hv1⟩, hb1⟩; (obtain ⟨hc1, hf1⟩ := bcell hb1); (have hs1 := hb1.size); (try simp at hs1); (have hz1_0 : w.heap.size < w1.heap.size := by omega); (have hz1_1 : w.heap.size + 1 < w1.heap.size := by omega))
    | (go_at_call 96; (with_reducible refine (HO.out _ _ ?_).mono ?_); (· assumption); rintro e w2 ⟨⟨v2, rfl, hv2⟩, hb2⟩; (obtain ⟨hc2, hf2⟩ := bcell hb2); (have hs2 := hb2.size); (try simp at hs2); (have hz2_0 : w.heap.size < w2.heap.size := by omega); (have hz2_1 : w.heap.size + 1 < w2.heap.size := by omega); (obtain ⟨A2, n2, c2, rfl, HN2⟩ := hv2.open_); clear hv2))
  go_wp2
  (((try (rename_i hH; clear hH)); (have e0 : w2.cell? ⟨w.heap.size + 1, 0, none⟩ = some (.bool false) := by go_simp); (have e1 : w2.cell? ⟨w.heap.size + 1, 1, none⟩ = some (.slice none 0 0) := by go_simp); (refine bodyPost_ret (v := .agg #[.bool (decide (0 < i)), .slice A2 n2 c2]) (by simp [results, Try.results86, go_sem, e0, e1]) rfl ?_); (refine RetB.mk (IntAt.put (i := -i) (u0 := .bool false) (u1 := .slice none 0 0) (by simpa using HN2.out) e0 (by simp) e1 (by simp) (by first | rfl | (simp; done) | (simp; omega))) ?_); (exact (by repeat (first | (with_reducible assumption) | exact Below.refl _ _ | (with_reducible refine Below.setCell ?_ (by first | (simp; done) | (simp; omega) | omega) _) | (with_reducible refine Below.alloc ?_ (by first | (simp; done) | (simp; omega) | omega) _) | (with_reducible refine below_drewN' ?_ _) | (with_reducible refine Below.drew ?_) | (refine below_after (by with_reducible assumption) ?_ (by first | (simp; done) | (simp; omega) | omega)))))))
end Go.Proofs.Ytcabnnfhcolcfaa
namespace Go.Proofs.Ytcabnnfhcolcfaa
set_option linter.unusedSimpArgs false
set_option linter.unusedVariables false
open Go.RowKit

theorem Sl.add {a b : Int} (h : Sl a) (k : Sl b) : Sm (a + b) := by
  obtain ⟨p, hp, h1, h2⟩ := h
  obtain ⟨q, hq, k1, k2⟩ := k
  refine ⟨max p q + 1, by omega, ?_, ?_⟩ <;>
  · have := pow2_mono (show p ≤ max p q by omega)
    have := pow2_mono (show q ≤ max p q by omega)
    rw [Int.pow_succ]
    omega
theorem Sl.mul {a b : Int} (h : Sl a) (k : Sl b) (ha : 0 ≤ a) (hb : 0 ≤ b) : Sm (a * b) := by
  obtain ⟨p, hp, h1, h2⟩ := h
  obtain ⟨q, hq, k1, k2⟩ := k
  have h0 := Int.mul_nonneg ha hb
  have hp2 := pow2_pos (p + q)
  refine ⟨p + q, by omega, by omega, ?_⟩
  have hq := pow2_pos q
  have h4 : a * b ≤ a * 2 ^ q := Int.mul_le_mul_of_nonneg_left (by omega) ha
  have h5 : a * 2 ^ q < 2 ^ p * 2 ^ q := Int.mul_lt_mul_of_pos_right h2 hq
  rw [Int.pow_add]
  omega
theorem Sm.le {a b : Int} (h : Sm b) (ha : 0 ≤ a) (hb : a ≤ b) : Sm a := by
  obtain ⟨p, hp, h1, h2⟩ := h
  have := pow2_pos p
  exact ⟨p, hp, by omega, by omega⟩
theorem below_drewN2 (w : World) (n : Nat) : Below w.heap.size w (w.drewN n) := below_drewN' (Below.refl _ _) n
theorem cmp_nat (va vb : Value) (a b : Int) (w : World) (ha : NatAt w va a) (hb : NatAt w vb b) (hla : Sm a) (hlb : Sm b) :
    Calls Try.prog 121 #[va, vb] w (RetB w fun v w' => v = .int .i64 (cmpI a b)) := by
  refine (cmp_any va vb a b w ha hb hla hlb).mono ?_
  rintro e w' ⟨rfl, ⟨nd, rfl⟩⟩
  exact RetB.mk rfl (below_drewN2 w nd)
set_option maxHeartbeats 1000000 in
theorem add_same (sa : Bool) (A B : Option Addr) (n c m d : Nat) (x y s : Int) (w : World) (hx : NatAt w (.slice A n c) x) (hy : NatAt w (.slice B m d) y) (hlx : Sl x) (hly : Sl y) (hs : (if sa then -(x + y) else x + y) = s) :
    Calls Try.prog 94 #[.agg #[.bool sa, .slice A n c], .agg #[.bool sa, .slice B m d]] w (RetB w fun r w' => IntAt w' r s) := by
  have HX := Lib.hid hx
  have HY := Lib.hid hy
  have HC := Lib.hid (fun (W : World) (h : NatAt W (.slice A n c) x) (h2 : NatAt W (.slice B m d) y) => add_any _ _ _ _ W h h2 hlx.sm hly.sm)
  have HO := Lib.hid (fun (v : Value) (W : World) (h : NatAt W v (x + y)) => of_to sa v (x + y) s W h (hlx.add hly) hs)
  clear hlx hly hs hx hy
  go_enter Try.func94, Try.ntmps94
  go_wp2
  go_region_held3 (fun w' => w'.cell? ⟨w.heap.size, 0, none⟩ = some (.bool (sa)) ∧ w'.cell? ⟨w.heap.size, 1, none⟩ = some (.slice A n c) ∧ w'.cell? ⟨w.heap.size + 1, 0, none⟩ = some (.bool (sa)) ∧ w'.cell? ⟨w.heap.size + 1, 1, none⟩ = some (.slice B m d)) (((repeat' (with_reducible apply And.intro)) <;> (first | (with_reducible assumption) | (go_split_ands; (repeat (with_reducible refine (World.cell?_setCell_far _ _ _ _ ?_).trans ?_; (· first | (dsimp only; omega) | (simp; done) | (simp; omega)))); (with_reducible assumption)) | (go_split_ands; (first | (with_reducible assumption) | go_simp); done) | (with_reducible refine (kcell (by assumption) ?_).trans ?_; (· exact (by first | (with_reducible assumption) | omega | (simp; done) | (simp; omega))); (· first | (with_reducible assumption) | (go_split_ands; with_reducible assumption))) | (go_split_ands; (repeat (first | (with_reducible assumption) | (with_reducible refine (World.cell?_setCell_far _ _ _ _ ?_).trans ?_; (· first | (dsimp only; omega) | (simp; done) | (simp; omega))) | (with_reducible refine alloc_swap (o := ?_) ?_ ?_ _; rotate_left 1; (· first | (dsimp only; omega) | (simp; done) | (simp; omega)); (· with_reducible assumption); (all_goals skip)) | (with_reducible refine alloc_keep ?_ _) | (with_reducible refine (kcell (by assumption) ?_).trans ?_; (· exact (by first | (with_reducible assumption) | omega | (simp; done) | (simp; omega)))))); done) | fail))) (first
    | (go_at_call 123; (with_reducible refine (HC.out _ ?_ ?_).mono ?_); (· exact (by repeat (first | (with_reducible assumption) | (with_reducible exact HX.out) | (with_reducible refine NatAt.alloc ?_ _) | (with_reducible refine NatAt.drewN ?_ _) | (with_reducible refine NatAt.drew ?_) | (refine NatAt.stored ?_ (u0 := _) (by go_simp) (by simp) _) | (refine NatAt.below ?_ (by with_reducible assumption))))); (· exact (by repeat (first | (with_reducible assumption) | (with_reducible exact HY.out) | (with_reducible refine NatAt.alloc ?_ _) | (with_reducible refine NatAt.drewN ?_ _) | (with_reducible refine NatAt.drew ?_) | (refine NatAt.stored ?_ (u0 := _) (by go_simp) (by simp) _) | (refine NatAt.below ?_ (by with_reducible assumption))))); rintro e w1 ⟨⟨v1, rfl, hv1⟩, hb1⟩; (obtain ⟨hc1, hf1⟩ := bcell hb1); (have hs1 := hb1.size); (try simp at hs1); (have hz1_0 : w.heap.size < w1.heap.size := by omega); (have hz1_1 : w.heap.size + 1 < w1.heap.size := by omega); (have hz1_2 : w.heap.size + 2 < w1.heap.size := by omega))
    | (go_at_call 96; (with_reducible refine (HO.out _ _ ?_).mono ?_); (· assumption); rintro e w2 ⟨⟨v2, rfl, hv2⟩, hb2⟩; (obtain ⟨hc2, hf2⟩ := bcell hb2); (have hs2 := hb2.size); (try simp at hs2); (have hz2_0 : w.heap.size < w2.heap.size := by omega); (have hz2_1 : w.heap.size + 1 < w2.heap.size := by omega); (have hz2_2 : w.heap.size + 2 < w2.heap.size := by omega); (obtain ⟨A2, n2, c2, rfl, HN2⟩ := hv2.open_); clear hv2))
  go_wp2
  (((try (rename_i hH; clear hH)); (have e0 : w2.cell? ⟨w.heap.size + 2, 0, none⟩ = some (.bool false) := by go_simp); (have e1 : w2.cell? ⟨w.heap.size + 2, 1, none⟩ = some (.slice none 0 0) := by go_simp); (refine bodyPost_ret (v := .agg #[.bool (decide (s < 0)), .slice A2 n2 c2]) (by simp [results, Try.results94, go_sem, e0, e1]) rfl ?_); (refine RetB.mk (IntAt.put (i := s) (u0 := .bool false) (u1 := .slice none 0 0) (by simpa using HN2.out) e0 (by simp) e1 (by simp) (by first | rfl | (simp; done) | (simp; omega))) ?_); (exact (by repeat (first | (with_reducible assumption) | exact Below.refl _ _ | (with_reducible refine Below.setCell ?_ (by first | (simp; done) | (simp; omega) | omega) _) | (with_reducible refine Below.alloc ?_ (by first | (simp; done) | (simp; omega) | omega) _) | (with_reducible refine below_drewN' ?_ _) | (with_reducible refine Below.drew ?_) | (refine below_after (by with_reducible assumption) ?_ (by first | (simp; done) | (simp; omega) | omega)))))))
set_option maxHeartbeats 2000000 in
theorem add_diff (A B : Option Addr) (n c m d : Nat) (x y s : Int) (w : World) (hx : NatAt w (.slice A n c) x) (hy : NatAt w (.slice B m d) y) (hlx : Sl x) (hly : Sl y) (sa sb : Bool) (hne : (sa == sb) = false) (hs : (if sa then y - x else x - y) = s) :
    Calls Try.prog 94 #[.agg #[.bool sa, .slice A n c], .agg #[.bool sb, .slice B m d]] w (RetB w fun r w' => IntAt w' r s) := by
  have HX := Lib.hid hx
  have HY := Lib.hid hy
  have hx0 := hx.nonneg
  have hy0 := hy.nonneg
  have HCMP := Lib.hid (fun (W : World) (h : NatAt W (.slice A n c) x) (h2 : NatAt W (.slice B m d) y) => cmp_nat _ _ _ _ W h h2 hlx.sm hly.sm)
  by_cases hlt : x < y
  · have hcmp : cmpI x y < 0 := by unfold cmpI; split <;> (try split) <;> omega
    have HC := Lib.hid (fun (W : World) (h : NatAt W (.slice A n c) x) (h2 : NatAt W (.slice B m d) y) => sub_any _ _ _ _ W h2 h hly.sm (by omega))
    have HO := Lib.hid (fun (v : Value) (W : World) (h : NatAt W v (y - x)) => of_to sb v (y - x) s W h (hly.sm.le (by omega) (by omega)) (by cases sa <;> cases sb <;> simp_all <;> omega))
    clear hlx hly hs hx hy hx0 hy0 hlt
    go_enter Try.func94, Try.ntmps94
    go_wp2_with (go_at_call 121; (with_reducible refine (HCMP.out _ ?_ ?_).mono ?_); (· exact (by repeat (first | (with_reducible assumption) | (with_reducible exact HX.out) | (with_reducible refine NatAt.alloc ?_ _) | (with_reducible refine NatAt.drewN ?_ _) | (with_reducible refine NatAt.drew ?_) | (refine NatAt.stored ?_ (u0 := _) (by go_simp) (by simp) _) | (refine NatAt.below ?_ (by with_reducible assumption))))); (· exact (by repeat (first | (with_reducible assumption) | (with_reducible exact HY.out) | (with_reducible refine NatAt.alloc ?_ _) | (with_reducible refine NatAt.drewN ?_ _) | (with_reducible refine NatAt.drew ?_) | (refine NatAt.stored ?_ (u0 := _) (by go_simp) (by simp) _) | (refine NatAt.below ?_ (by with_reducible assumption))))); rintro e w0 ⟨⟨v0, rfl, rfl⟩, hb0⟩; (obtain ⟨hc0, hf0⟩ := bcell hb0); (have hs0 := hb0.size); (try simp at hs0); (have hz0_0 : w.heap.size < w0.heap.size := by omega); (have hz0_1 : w.heap.size + 1 < w0.heap.size := by omega); (have hz0_2 : w.heap.size + 2 < w0.heap.size := by omega))
    clear hcmp hne
    have z0 : w0.cell? ⟨w.heap.size, 0, none⟩ = some (.bool sa) := by go_simp
    have z1 : w0.cell? ⟨w.heap.size, 1, none⟩ = some (.slice A n c) := by go_simp
    have z2 : w0.cell? ⟨w.heap.size + 1, 0, none⟩ = some (.bool sb) := by go_simp
    have z3 : w0.cell? ⟨w.heap.size + 1, 1, none⟩ = some (.slice B m d) := by go_simp
    have z4 : w0.cell? ⟨w.heap.size + 2, 0, none⟩ = some (.bool false) := by go_simp
    have z5 : w0.cell? ⟨w.heap.size + 2, 1, none⟩ = some (.slice none 0 0) := by go_simp
    have z6 : w0.frozen? ⟨w.heap.size + 2, 0, none⟩ = false := by go_simp
    have z7 : w0.frozen? ⟨w.heap.size + 2, 1, none⟩ = false := by go_simp
    go_region_held3 (fun w' => w'.cell? ⟨w.heap.size, 0, none⟩ = some (.bool (sb)) ∧ w'.cell? ⟨w.heap.size, 1, none⟩ = some (.slice B m d) ∧ w'.cell? ⟨w.heap.size + 1, 0, none⟩ = some (.bool (sa)) ∧ w'.cell? ⟨w.heap.size + 1, 1, none⟩ = some (.slice A n c)) (((repeat' (with_reducible apply And.intro)) <;> (first | (with_reducible assumption) | (go_split_ands; (repeat (with_reducible refine (World.cell?_setCell_far _ _ _ _ ?_).trans ?_; (· first | (dsimp only; omega) | (simp; done) | (simp; omega)))); (with_reducible assumption)) | (go_split_ands; (first | (with_reducible assumption) | go_simp); done) | (with_reducible refine (kcell (by assumption) ?_).trans ?_; (· exact (by first | (with_reducible assumption) | omega | (simp; done) | (simp; omega))); (· first | (with_reducible assumption) | (go_split_ands; with_reducible assumption))) | (go_split_ands; (repeat (first | (with_reducible assumption) | (with_reducible refine (World.cell?_setCell_far _ _ _ _ ?_).trans ?_; (· first | (dsimp only; omega) | (simp; done) | (simp; omega))) | (with_reducible refine alloc_swap (o := ?_) ?_ ?_ _; rotate_left 1; (· first | (dsimp only; omega) | (simp; done) | (simp; omega)); (· with_reducible assumption); (all_goals skip)) | (with_reducible refine alloc_keep ?_ _) | (with_reducible refine (kcell (by assumption) ?_).trans ?_; (· exact (by first | (with_reducible assumption) | omega | (simp; done) | (simp; omega)))))); done) | fail))) (first
      | (go_at_call 129; (with_reducible refine (HC.out _ ?_ ?_).mono ?_); (· exact (HX.out).below (by repeat (first | (with_reducible assumption) | exact Below.refl _ _ | (with_reducible refine Below.setCell ?_ (by first | (simp; done) | (simp; omega) | omega) _) | (with_reducible refine Below.alloc ?_ (by first | (simp; done) | (simp; omega) | omega) _) | (with_reducible refine below_drewN' ?_ _) | (with_reducible refine Below.drew ?_) | (refine below_after (by with_reducible assumption) ?_ (by first | (simp; done) | (simp; omega) | omega))))); (· exact (HY.out).below (by repeat (first | (with_reducible assumption) | exact Below.refl _ _ | (with_reducible refine Below.setCell ?_ (by first | (simp; done) | (simp; omega) | omega) _) | (with_reducible refine Below.alloc ?_ (by first | (simp; done) | (simp; omega) | omega) _) | (with_reducible refine below_drewN' ?_ _) | (with_reducible refine Below.drew ?_) | (refine below_after (by with_reducible assumption) ?_ (by first | (simp; done) | (simp; omega) | omega))))); rintro e w1 ⟨⟨v1, rfl, hv1⟩, hb1⟩; (obtain ⟨hc1, hf1⟩ := bcell hb1); (have hs1 := hb1.size); (try simp at hs1); (have hz1_0 : w.heap.size < w1.heap.size := by omega); (have hz1_1 : w.heap.size + 1 < w1.heap.size := by omega); (have hz1_2 : w.heap.size + 2 < w1.heap.size := by omega); ((have r1_cell0 : w1.cell? ⟨w.heap.size + 2, 0, none⟩ = some (.bool false) := (hc1 _ _ (by first | (simp; done) | (simp; omega) | omega)).trans (by first | (with_reducible assumption) | (go_simp; done))); (have r1_cell1 : w1.cell? ⟨w.heap.size + 2, 1, none⟩ = some (.slice none 0 0) := (hc1 _ _ (by first | (simp; done) | (simp; omega) | omega)).trans (by first | (with_reducible assumption) | (go_simp; done))); (have r1_frozen0 : w1.frozen? ⟨w.heap.size + 2, 0, none⟩ = false := (hf1 _ _ (by first | (simp; done) | (simp; omega) | omega)).trans (by first | (with_reducible assumption) | (go_simp; done))); (have r1_frozen1 : w1.frozen? ⟨w.heap.size + 2, 1, none⟩ = false := (hf1 _ _ (by first | (simp; done) | (simp; omega) | omega)).trans (by first | (with_reducible assumption) | (go_simp; done)))))
      | (go_at_call 96; (with_reducible refine (HO.out _ _ ?_).mono ?_); (· assumption); rintro e w2 ⟨⟨v2, rfl, hv2⟩, hb2⟩; (obtain ⟨hc2, hf2⟩ := bcell hb2); (have hs2 := hb2.size); (try simp at hs2); (have hz2_0 : w.heap.size < w2.heap.size := by omega); (have hz2_1 : w.heap.size + 1 < w2.heap.size := by omega); (have hz2_2 : w.heap.size + 2 < w2.heap.size := by omega); (obtain ⟨A2, n2, c2, rfl, HN2⟩ := hv2.open_); clear hv2; ((have r2_cell0 : w2.cell? ⟨w.heap.size + 2, 0, none⟩ = some (.bool false) := (hc2 _ _ (by first | (simp; done) | (simp; omega) | omega)).trans (by first | (with_reducible assumption) | (go_simp; done))); (have r2_cell1 : w2.cell? ⟨w.heap.size + 2, 1, none⟩ = some (.slice none 0 0) := (hc2 _ _ (by first | (simp; done) | (simp; omega) | omega)).trans (by first | (with_reducible assumption) | (go_simp; done))); (have r2_frozen0 : w2.frozen? ⟨w.heap.size + 2, 0, none⟩ = false := (hf2 _ _ (by first | (simp; done) | (simp; omega) | omega)).trans (by first | (with_reducible assumption) | (go_simp; done))); (have r2_frozen1 : w2.frozen? ⟨w.heap.size + 2, 1, none⟩ = false := (hf2 _ _ (by first | (simp; done) | (simp; omega) | omega)).trans (by first | (with_reducible assumption) | (go_simp; done))))))
    go_wp2
    (((try (rename_i hH; clear hH)); (have e0 : w2.cell? ⟨w.heap.size + 2, 0, none⟩ = some (.bool false) := by go_simp); (have e1 : w2.cell? ⟨w.heap.size + 2, 1, none⟩ = some (.slice none 0 0) := by go_simp); (refine bodyPost_ret (v := .agg #[.bool (decide (s < 0)), .slice A2 n2 c2]) (by simp [results, Try.results94, go_sem, e0, e1]) rfl ?_); (refine RetB.mk (IntAt.put (i := s) (u0 := .bool false) (u1 := .slice none 0 0) (by simpa using HN2.out) e0 (by simp) e1 (by simp) (by first | rfl | (simp; done) | (simp; omega))) ?_); (exact (by repeat (first | (with_reducible assumption) | exact Below.refl _ _ | (with_reducible refine Below.setCell ?_ (by first | (simp; done) | (simp; omega) | omega) _) | (with_reducible refine Below.alloc ?_ (by first | (simp; done) | (simp; omega) | omega) _) | (with_reducible refine below_drewN' ?_ _) | (with_reducible refine Below.drew ?_) | (refine below_after (by with_reducible assumption) ?_ (by first | (simp; done) | (simp; omega) | omega)))))))
  · have hcmp : ¬ cmpI x y < 0 := by unfold cmpI; split <;> (try split) <;> omega
    have HC := Lib.hid (fun (W : World) (h : NatAt W (.slice A n c) x) (h2 : NatAt W (.slice B m d) y) => sub_any _ _ _ _ W h h2 hlx.sm (by omega))
    have HO := Lib.hid (fun (v : Value) (W : World) (h : NatAt W v (x - y)) => of_to sa v (x - y) s W h (hlx.sm.le (by omega) (by omega)) (by cases sa <;> simp_all <;> omega))
    clear hlx hly hs hx hy hx0 hy0 hlt
    go_enter Try.func94, Try.ntmps94
    go_wp2_with (go_at_call 121; (with_reducible refine (HCMP.out _ ?_ ?_).mono ?_); (· exact (by repeat (first | (with_reducible assumption) | (with_reducible exact HX.out) | (with_reducible refine NatAt.alloc ?_ _) | (with_reducible refine NatAt.drewN ?_ _) | (with_reducible refine NatAt.drew ?_) | (refine NatAt.stored ?_ (u0 := _) (by go_simp) (by simp) _) | (refine NatAt.below ?_ (by with_reducible assumption))))); (· exact (by repeat (first | (with_reducible assumption) | (with_reducible exact HY.out) | (with_reducible refine NatAt.alloc ?_ _) | (with_reducible refine NatAt.drewN ?_ _) | (with_reducible refine NatAt.drew ?_) | (refine NatAt.stored ?_ (u0 := _) (by go_simp) (by simp) _) | (refine NatAt.below ?_ (by with_reducible assumption))))); rintro e w0 ⟨⟨v0, rfl, rfl⟩, hb0⟩; (obtain ⟨hc0, hf0⟩ := bcell hb0); (have hs0 := hb0.size); (try simp at hs0); (have hz0_0 : w.heap.size < w0.heap.size := by omega); (have hz0_1 : w.heap.size + 1 < w0.heap.size := by omega); (have hz0_2 : w.heap.size + 2 < w0.heap.size := by omega))
    clear hcmp hne
    have z0 : w0.cell? ⟨w.heap.size, 0, none⟩ = some (.bool sa) := by go_simp
    have z1 : w0.cell? ⟨w.heap.size, 1, none⟩ = some (.slice A n c) := by go_simp
    have z2 : w0.cell? ⟨w.heap.size + 1, 0, none⟩ = some (.bool sb) := by go_simp
    have z3 : w0.cell? ⟨w.heap.size + 1, 1, none⟩ = some (.slice B m d) := by go_simp
    have z4 : w0.cell? ⟨w.heap.size + 2, 0, none⟩ = some (.bool false) := by go_simp
    have z5 : w0.cell? ⟨w.heap.size + 2, 1, none⟩ = some (.slice none 0 0) := by go_simp
    have z6 : w0.frozen? ⟨w.heap.size + 2, 0, none⟩ = false := by go_simp
    have z7 : w0.frozen? ⟨w.heap.size + 2, 1, none⟩ = false := by go_simp
    go_region_held3 (fun w' => w'.cell? ⟨w.heap.size, 0, none⟩ = some (.bool (sa)) ∧ w'.cell? ⟨w.heap.size, 1, none⟩ = some (.slice A n c) ∧ w'.cell? ⟨w.heap.size + 1, 0, none⟩ = some (.bool (sb)) ∧ w'.cell? ⟨w.heap.size + 1, 1, none⟩ = some (.slice B m d)) (((repeat' (with_reducible apply And.intro)) <;> (first | (with_reducible assumption) | (go_split_ands; (repeat (with_reducible refine (World.cell?_setCell_far _ _ _ _ ?_).trans ?_; (· first | (dsimp only; omega) | (simp; done) | (simp; omega)))); (with_reducible assumption)) | (go_split_ands; (first | (with_reducible assumption) | go_simp); done) | (with_reducible refine (kcell (by assumption) ?_).trans ?_; (· exact (by first | (with_reducible assumption) | omega | (simp; done) | (simp; omega))); (· first | (with_reducible assumption) | (go_split_ands; with_reducible assumption))) | (go_split_ands; (repeat (first | (with_reducible assumption) | (with_reducible refine (World.cell?_setCell_far _ _ _ _ ?_).trans ?_; (· first | (dsimp only; omega) | (simp; done) | (simp; omega))) | (with_reducible refine alloc_swap (o := ?_) ?_ ?_ _; rotate_left 1; (· first | (dsimp only; omega) | (simp; done) | (simp; omega)); (· with_reducible assumption); (all_goals skip)) | (with_reducible refine alloc_keep ?_ _) | (with_reducible refine (kcell (by assumption) ?_).trans ?_; (· exact (by first | (with_reducible assumption) | omega | (simp; done) | (simp; omega)))))); done) | fail))) (first
      | (go_at_call 129; (with_reducible refine (HC.out _ ?_ ?_).mono ?_); (· exact (HX.out).below (by repeat (first | (with_reducible assumption) | exact Below.refl _ _ | (with_reducible refine Below.setCell ?_ (by first | (simp; done) | (simp; omega) | omega) _) | (with_reducible refine Below.alloc ?_ (by first | (simp; done) | (simp; omega) | omega) _) | (with_reducible refine below_drewN' ?_ _) | (with_reducible refine Below.drew ?_) | (refine below_after (by with_reducible assumption) ?_ (by first | (simp; done) | (simp; omega) | omega))))); (· exact (HY.out).below (by repeat (first | (with_reducible assumption) | exact Below.refl _ _ | (with_reducible refine Below.setCell ?_ (by first | (simp; done) | (simp; omega) | omega) _) | (with_reducible refine Below.alloc ?_ (by first | (simp; done) | (simp; omega) | omega) _) | (with_reducible refine below_drewN' ?_ _) | (with_reducible refine Below.drew ?_) | (refine below_after (by with_reducible assumption) ?_ (by first | (simp; done) | (simp; omega) | omega))))); rintro e w1 ⟨⟨v1, rfl, hv1⟩, hb1⟩; (obtain ⟨hc1, hf1⟩ := bcell hb1); (have hs1 := hb1.size); (try simp at hs1); (have hz1_0 : w.heap.size < w1.heap.size := by omega); (have hz1_1 : w.heap.size + 1 < w1.heap.size := by omega); (have hz1_2 : w.heap.size + 2 < w1.heap.size := by omega); ((have r1_cell0 : w1.cell? ⟨w.heap.size + 2, 0, none⟩ = some (.bool false) := (hc1 _ _ (by first | (simp; done) | (simp; omega) | omega)).trans (by first | (with_reducible assumption) | (go_simp; done))); (have r1_cell1 : w1.cell? ⟨w.heap.size + 2, 1, none⟩ = some (.slice none 0 0) := (hc1 _ _ (by first | (simp; done) | (simp; omega) | omega)).trans (by first | (with_reducible assumption) | (go_simp; done))); (have r1_frozen0 : w1.frozen? ⟨w.heap.size + 2, 0, none⟩ = false := (hf1 _ _ (by first | (simp; done) | (simp; omega) | omega)).trans (by first | (with_reducible assumption) | (go_simp; done))); (have r1_frozen1 : w1.frozen? ⟨w.heap.size + 2, 1, none⟩ = false := (hf1 _ _ (by first | (simp; done) | (simp; omega) | omega)).trans (by first | (with_reducible assumption) | (go_simp; done)))))
      | (go_at_call 96; (with_reducible refine (HO.out _ _ ?_).mono ?_); (· assumption); rintro e w2 ⟨⟨v2, rfl, hv2⟩, hb2⟩; (obtain ⟨hc2, hf2⟩ := bcell hb2); (have hs2 := hb2.size); (try simp at hs2); (have hz2_0 : w.heap.size < w2.heap.size := by omega); (have hz2_1 : w.heap.size + 1 < w2.heap.size := by omega); (have hz2_2 : w.heap.size + 2 < w2.heap.size := by omega); (obtain ⟨A2, n2, c2, rfl, HN2⟩ := hv2.open_); clear hv2; ((have r2_cell0 : w2.cell? ⟨w.heap.size + 2, 0, none⟩ = some (.bool false) := (hc2 _ _ (by first | (simp; done) | (simp; omega) | omega)).trans (by first | (with_reducible assumption) | (go_simp; done))); (have r2_cell1 : w2.cell? ⟨w.heap.size + 2, 1, none⟩ = some (.slice none 0 0) := (hc2 _ _ (by first | (simp; done) | (simp; omega) | omega)).trans (by first | (with_reducible assumption) | (go_simp; done))); (have r2_frozen0 : w2.frozen? ⟨w.heap.size + 2, 0, none⟩ = false := (hf2 _ _ (by first | (simp; done) | (simp; omega) | omega)).trans (by first | (with_reducible assumption) | (go_simp; done))); (have r2_frozen1 : w2.frozen? ⟨w.heap.size + 2, 1, none⟩ = false := (hf2 _ _ (by first | (simp; done) | (simp; omega) | omega)).trans (by first | (with_reducible assumption) | (go_simp; done))))))
    go_wp2
    (((try (rename_i hH; clear hH)); (have e0 : w2.cell? ⟨w.heap.size + 2, 0, none⟩ = some (.bool false) := by go_simp); (have e1 : w2.cell? ⟨w.heap.size + 2, 1, none⟩ = some (.slice none 0 0) := by go_simp); (refine bodyPost_ret (v := .agg #[.bool (decide (s < 0)), .slice A2 n2 c2]) (by simp [results, Try.results94, go_sem, e0, e1]) rfl ?_); (refine RetB.mk (IntAt.put (i := s) (u0 := .bool false) (u1 := .slice none 0 0) (by simpa using HN2.out) e0 (by simp) e1 (by simp) (by first | rfl | (simp; done) | (simp; omega))) ?_); (exact (by repeat (first | (with_reducible assumption) | exact Below.refl _ _ | (with_reducible refine Below.setCell ?_ (by first | (simp; done) | (simp; omega) | omega) _) | (with_reducible refine Below.alloc ?_ (by first | (simp; done) | (simp; omega) | omega) _) | (with_reducible refine below_drewN' ?_ _) | (with_reducible refine Below.drew ?_) | (refine below_after (by with_reducible assumption) ?_ (by first | (simp; done) | (simp; omega) | omega)))))))
theorem add_int (va vb : Value) (a b s : Int) (w : World) (ha : IntAt w va a) (hb : IntAt w vb b) (hla : Sl a) (hlb : Sl b) (hs : a + b = s) :
    Calls Try.prog 94 #[va, vb] w (RetB w fun r w' => IntAt w' r s) := by
  obtain ⟨A, n, c, rfl, HA⟩ := ha.open_
  obtain ⟨B, m, d, rfl, HB⟩ := hb.open_
  by_cases h : decide (a < 0) = decide (b < 0)
  · have := add_same (decide (a < 0)) A B n c m d _ _ s w HA.out HB.out hla.natAbs hlb.natAbs (by
      by_cases h1 : a < 0 <;> by_cases h2 : b < 0 <;> simp_all <;> omega)
    rw [← h]; exact this
  · exact add_diff A B n c m d _ _ s w HA.out HB.out hla.natAbs hlb.natAbs _ _ (by simpa using h) (by
      by_cases h1 : a < 0 <;> by_cases h2 : b < 0 <;> simp_all <;> omega)
set_option maxHeartbeats 1000000 in
theorem sub_int (va vb : Value) (a b s : Int) (w : World) (ha : IntAt w va a) (hb : IntAt w vb b) (hla : Sl a) (hlb : Sl b) (hs : a - b = s) :
    Calls Try.prog 93 #[va, vb] w (RetB w fun r w' => IntAt w' r s) := by
  obtain ⟨A, n, c, rfl, HA⟩ := ha.open_
  obtain ⟨B, m, d, rfl, HB⟩ := hb.open_
  have HO := Lib.hid (fun (v : Value) (W : World) (h : NatAt W v b.natAbs) => of_to (!decide (b < 0)) v b.natAbs (-b) W h hlb.natAbs.sm (by by_cases h : b < 0 <;> simp [h] <;> omega))
  have HS := Lib.hid (fun (v u : Value) (W : World) (h : IntAt W v a) (k : IntAt W u (-b)) => add_int v u a (-b) s W h k hla hlb.neg (by omega))
  have HIA := Lib.hid ha
  clear hla hlb hs ha hb
  go_enter Try.func93, Try.ntmps93
  go_wp2
  go_region_held3 (fun w' => w'.cell? ⟨w.heap.size, 0, none⟩ = some (.bool (decide (a < 0))) ∧ w'.cell? ⟨w.heap.size, 1, none⟩ = some (.slice A n c) ∧ w'.cell? ⟨w.heap.size + 1, 0, none⟩ = some (.bool (decide (b < 0))) ∧ w'.cell? ⟨w.heap.size + 1, 1, none⟩ = some (.slice B m d)) (((repeat' (with_reducible apply And.intro)) <;> (first | (with_reducible assumption) | (go_split_ands; (repeat (with_reducible refine (World.cell?_setCell_far _ _ _ _ ?_).trans ?_; (· first | (dsimp only; omega) | (simp; done) | (simp; omega)))); (with_reducible assumption)) | (go_split_ands; (first | (with_reducible assumption) | go_simp); done) | (with_reducible refine (kcell (by assumption) ?_).trans ?_; (· exact (by first | (with_reducible assumption) | omega | (simp; done) | (simp; omega))); (· first | (with_reducible assumption) | (go_split_ands; with_reducible assumption))) | (go_split_ands; (repeat (first | (with_reducible assumption) | (with_reducible refine (World.cell?_setCell_far _ _ _ _ ?_).trans ?_; (· first | (dsimp only; omega) | (simp; done) | (simp; omega))) | (with_reducible refine alloc_swap (o := ?_) ?_ ?_ _; rotate_left 1; (· first | (dsimp only; omega) | (simp; done) | (simp; omega)); (· with_reducible assumption); (all_goals skip)) | (with_reducible refine alloc_keep ?_ _) | (with_reducible refine (kcell (by assumption) ?_).trans ?_; (· exact (by first | (with_reducible assumption) | omega | (simp; done) | (simp; omega)))))); done) | fail))) (first
    | (go_at_call 96; (with_reducible refine (HO.out _ _ ?_).mono ?_); (· exact (by repeat (first | (with_reducible assumption) | (with_reducible exact HB.out) | (with_reducible refine NatAt.alloc ?_ _) | (with_reducible refine NatAt.drewN ?_ _) | (with_reducible refine NatAt.drew ?_) | (refine NatAt.stored ?_ (u0 := _) (by go_simp) (by simp) _) | (refine NatAt.below ?_ (by with_reducible assumption))))); rintro e w1 ⟨⟨v1, rfl, hv1⟩, hb1⟩; (obtain ⟨hc1, hf1⟩ := bcell hb1); (have hs1 := hb1.size); (try simp at hs1); (have hz1_0 : w.heap.size < w1.heap.size := by omega); (have hz1_1 : w.heap.size + 1 < w1.heap.size := by omega); (have hz1_2 : w.heap.size + 2 < w1.heap.size := by omega))
    | (go_at_call 94; (with_reducible refine (HS.out _ _ _ ?_ ?_).mono ?_); (· exact (by repeat (first | (with_reducible assumption) | (with_reducible exact HIA.out) | (with_reducible refine IntAt.alloc ?_ _) | (with_reducible refine IntAt.drewN ?_ _) | (with_reducible refine IntAt.drew ?_) | (refine IntAt.stored ?_ (u0 := _) (by go_simp) (by simp) _) | (refine IntAt.below ?_ (by with_reducible assumption))))); (· assumption); rintro e w2 ⟨⟨v2, rfl, hv2⟩, hb2⟩; (obtain ⟨hc2, hf2⟩ := bcell hb2); (have hs2 := hb2.size); (try simp at hs2); (have hz2_0 : w.heap.size < w2.heap.size := by omega); (have hz2_1 : w.heap.size + 1 < w2.heap.size := by omega); (have hz2_2 : w.heap.size + 2 < w2.heap.size := by omega); (obtain ⟨A2, n2, c2, rfl, HN2⟩ := hv2.open_); clear hv2))
  go_wp2
  (((try (rename_i hH; clear hH)); (have e0 : w2.cell? ⟨w.heap.size + 2, 0, none⟩ = some (.bool false) := by go_simp); (have e1 : w2.cell? ⟨w.heap.size + 2, 1, none⟩ = some (.slice none 0 0) := by go_simp); (refine bodyPost_ret (v := .agg #[.bool (decide (s < 0)), .slice A2 n2 c2]) (by simp [results, Try.results93, go_sem, e0, e1]) rfl ?_); (refine RetB.mk (IntAt.put (i := s) (u0 := .bool false) (u1 := .slice none 0 0) (by simpa using HN2.out) e0 (by simp) e1 (by simp) (by first | rfl | (simp; done) | (simp; omega))) ?_); (exact (by repeat (first | (with_reducible assumption) | exact Below.refl _ _ | (with_reducible refine Below.setCell ?_ (by first | (simp; done) | (simp; omega) | omega) _) | (with_reducible refine Below.alloc ?_ (by first | (simp; done) | (simp; omega) | omega) _) | (with_reducible refine below_drewN' ?_ _) | (with_reducible refine Below.drew ?_) | (refine below_after (by with_reducible assumption) ?_ (by first | (simp; done) | (simp; omega) | omega)))))))
theorem mul_sign (a b s : Int) (hs : a * b = s) : (if (!(decide (a < 0) == decide (b < 0))) = true then -((a.natAbs : Int) * b.natAbs) else (a.natAbs : Int) * b.natAbs) = s := by
  by_cases h1 : a < 0 <;> by_cases h2 : b < 0 <;> simp [h1, h2]
  · rw [show (a.natAbs : Int) = -a by omega, show (b.natAbs : Int) = -b by omega]; grind
  · rw [show (a.natAbs : Int) = -a by omega, show (b.natAbs : Int) = b by omega]; grind
  · rw [show (a.natAbs : Int) = a by omega, show (b.natAbs : Int) = -b by omega]; grind
  · rw [show (a.natAbs : Int) = a by omega, show (b.natAbs : Int) = b by omega]; exact hs
set_option maxHeartbeats 1000000 in
theorem mul_int (va vb : Value) (a b s : Int) (w : World) (ha : IntAt w va a) (hb : IntAt w vb b) (hla : Sl a) (hlb : Sl b) (hs : a * b = s) :
    Calls Try.prog 108 #[va, vb] w (RetB w fun r w' => IntAt w' r s) := by
  obtain ⟨A, n, c, rfl, HA⟩ := ha.open_
  obtain ⟨B, m, d, rfl, HB⟩ := hb.open_
  have HC := Lib.hid (fun (W : World) (h : NatAt W (.slice A n c) a.natAbs) (h2 : NatAt W (.slice B m d) b.natAbs) => mul_any _ _ _ _ W h h2 hla.natAbs hlb.natAbs)
  have HO := Lib.hid (fun (v : Value) (W : World) (h : NatAt W v (a.natAbs * b.natAbs)) => of_to (!(decide (a < 0) == decide (b < 0))) v _ s W h (hla.natAbs.mul hlb.natAbs (by omega) (by omega)) (by
    exact mul_sign a b s hs))
  clear hla hlb hs ha hb
  go_enter Try.func108, Try.ntmps108
  go_wp2
  go_region_held3 (fun w' => w'.cell? ⟨w.heap.size, 0, none⟩ = some (.bool (decide (a < 0))) ∧ w'.cell? ⟨w.heap.size, 1, none⟩ = some (.slice A n c) ∧ w'.cell? ⟨w.heap.size + 1, 0, none⟩ = some (.bool (decide (b < 0))) ∧ w'.cell? ⟨w.heap.size + 1, 1, none⟩ = some (.slice B m d)) (((repeat' (with_reducible apply And.intro)) <;> (first | (with_reducible assumption) | (go_split_ands; (repeat (with_reducible refine (World.cell?_setCell_far _ _ _ _ ?_).trans ?_; (· first | (dsimp only; omega) | (simp; done) | (simp; omega)))); (with_reducible assumption)) | (go_split_ands; (first | (with_reducible assumption) | go_simp); done) | (with_reducible refine (kcell (by assumption) ?_).trans ?_; (· exact (by first | (with_reducible assumption) | omega | (simp; done) | (simp; omega))); (· first | (with_reducible assumption) | (go_split_ands; with_reducible assumption))) | (go_split_ands; (repeat (first | (with_reducible assumption) | (with_reducible refine (World.cell?_setCell_far _ _ _ _ ?_).trans ?_; (· first | (dsimp only; omega) | (simp; done) | (simp; omega))) | (with_reducible refine alloc_swap (o := ?_) ?_ ?_ _; rotate_left 1; (· first | (dsimp only; omega) | (simp; done) | (simp; omega)); (· with_reducible assumption); (all_goals skip)) | (with_reducible refine alloc_keep ?_ _) | (with_reducible refine (kcell (by assumption) ?_).trans ?_; (· exact (by first | (with_reducible assumption) | omega | (simp; done) | (simp; omega)))))); done) | fail))) (first
    | (go_at_call 130; (with_reducible refine (HC.out _ ?_ ?_).mono ?_); (· exact (by repeat (first | (with_reducible assumption) | (with_reducible exact HA.out) | (with_reducible refine NatAt.alloc ?_ _) | (with_reducible refine NatAt.drewN ?_ _) | (with_reducible refine NatAt.drew ?_) | (refine NatAt.stored ?_ (u0 := _) (by go_simp) (by simp) _) | (refine NatAt.below ?_ (by with_reducible assumption))))); (· exact (by repeat (first | (with_reducible assumption) | (with_reducible exact HB.out) | (with_reducible refine NatAt.alloc ?_ _) | (with_reducible refine NatAt.drewN ?_ _) | (with_reducible refine NatAt.drew ?_) | (refine NatAt.stored ?_ (u0 := _) (by go_simp) (by simp) _) | (refine NatAt.below ?_ (by with_reducible assumption))))); rintro e w1 ⟨⟨v1, rfl, hv1⟩, hb1⟩; (obtain ⟨hc1, hf1⟩ := bcell hb1); (have hs1 := hb1.size); (try simp at hs1); (have hz1_0 : w.heap.size < w1.heap.size := by omega); (have hz1_1 : w.heap.size + 1 < w1.heap.size := by omega); (have hz1_2 : w.heap.size + 2 < w1.heap.size := by omega))
    | (go_at_call 96; (with_reducible refine (HO.out _ _ ?_).mono ?_); (· assumption); rintro e w2 ⟨⟨v2, rfl, hv2⟩, hb2⟩; (obtain ⟨hc2, hf2⟩ := bcell hb2); (have hs2 := hb2.size); (try simp at hs2); (have hz2_0 : w.heap.size < w2.heap.size := by omega); (have hz2_1 : w.heap.size + 1 < w2.heap.size := by omega); (have hz2_2 : w.heap.size + 2 < w2.heap.size := by omega); (obtain ⟨A2, n2, c2, rfl, HN2⟩ := hv2.open_); clear hv2))
  go_wp2
  (((try (rename_i hH; clear hH)); (have e0 : w2.cell? ⟨w.heap.size + 2, 0, none⟩ = some (.bool false) := by go_simp); (have e1 : w2.cell? ⟨w.heap.size + 2, 1, none⟩ = some (.slice none 0 0) := by go_simp); (refine bodyPost_ret (v := .agg #[.bool (decide (s < 0)), .slice A2 n2 c2]) (by simp [results, Try.results108, go_sem, e0, e1]) rfl ?_); (refine RetB.mk (IntAt.put (i := s) (u0 := .bool false) (u1 := .slice none 0 0) (by simpa using HN2.out) e0 (by simp) e1 (by simp) (by first | rfl | (simp; done) | (simp; omega))) ?_); (exact (by repeat (first | (with_reducible assumption) | exact Below.refl _ _ | (with_reducible refine Below.setCell ?_ (by first | (simp; done) | (simp; omega) | omega) _) | (with_reducible refine Below.alloc ?_ (by first | (simp; done) | (simp; omega) | omega) _) | (with_reducible refine below_drewN' ?_ _) | (with_reducible refine Below.drew ?_) | (refine below_after (by with_reducible assumption) ?_ (by first | (simp; done) | (simp; omega) | omega)))))))
end Go.Proofs.Ytcabnnfhcolcfaa
namespace Go.Proofs.Ytcabnnfhcolcfaa
set_option linter.unusedSimpArgs false
set_option linter.unusedVariables false
open Go.RowKit

theorem left_sign (a s : Int) (n : Nat) (hs : a * 2 ^ n = s) : (if decide (a < 0) = true then -(2 ^ n * (a.natAbs : Int)) else 2 ^ n * (a.natAbs : Int)) = s := by
  by_cases h1 : a < 0 <;> simp [h1]
  · rw [show (a.natAbs : Int) = -a by omega]; grind
  · rw [show (a.natAbs : Int) = a by omega]; grind
theorem left_nn (a s : Int) (n : Nat) (hs : a * 2 ^ n = s) : 2 ^ n * (a.natAbs : Int) = s.natAbs := by
  subst hs
  rw [Int.natAbs_mul, Int.natAbs_pow]
  simp [Int.mul_comm]
set_option maxHeartbeats 1000000 in
theorem Left_any (va : Value) (a s k : Int) (n : Nat) (w : World) (hk : k = n) (ha : IntAt w va a) (hla : Sm a) (hls : Sm s) (hn : n ≤ 70368744177664) (hs : a * 2 ^ n = s) :
    Calls Try.prog 89 #[va, .int .i64 k] w (RetB w fun r w' => IntAt w' r s) := by
  subst hk
  obtain ⟨A, n1, c1, rfl, HA⟩ := ha.open_
  have HC := Lib.hid (fun (W : World) (h : NatAt W (.slice A n1 c1) a.natAbs) => left_any _ _ n W h hla.natAbs hn)
  have HO := Lib.hid (fun (v : Value) (W : World) (h : NatAt W v (2 ^ n * a.natAbs)) => of_to (decide (a < 0)) v _ s W h (by rw [left_nn a s n hs]; exact hls.natAbs) (left_sign a s n hs))
  clear hla hls hs ha
  go_enter Try.func89, Try.ntmps89
  go_wp2
  go_region_held3 (fun w' => w'.cell? ⟨w.heap.size, 0, none⟩ = some (.bool (decide (a < 0))) ∧ w'.cell? ⟨w.heap.size, 1, none⟩ = some (.slice A n1 c1)) (((repeat' (with_reducible apply And.intro)) <;> (first | (with_reducible assumption) | (go_split_ands; (repeat (with_reducible refine (World.cell?_setCell_far _ _ _ _ ?_).trans ?_; (· first | (dsimp only; omega) | (simp; done) | (simp; omega)))); (with_reducible assumption)) | (go_split_ands; (first | (with_reducible assumption) | go_simp); done) | (with_reducible refine (kcell (by assumption) ?_).trans ?_; (· exact (by first | (with_reducible assumption) | omega | (simp; done) | (simp; omega))); (· first | (with_reducible assumption) | (go_split_ands; with_reducible assumption))) | (go_split_ands; (repeat (first | (with_reducible assumption) | (with_reducible refine (World.cell?_setCell_far _ _ _ _ ?_).trans ?_; (· first | (dsimp only; omega) | (simp; done) | (simp; omega))) | (with_reducible refine alloc_swap (o := ?_) ?_ ?_ _; rotate_left 1; (· first | (dsimp only; omega) | (simp; done) | (simp; omega)); (· with_reducible assumption); (all_goals skip)) | (with_reducible refine alloc_keep ?_ _) | (with_reducible refine (kcell (by assumption) ?_).trans ?_; (· exact (by first | (with_reducible assumption) | omega | (simp; done) | (simp; omega)))))); done) | fail))) (first
    | (go_at_call 122; (with_reducible refine (HC.out _ ?_).mono ?_); (· exact (HA.out).below (by repeat (first | (with_reducible assumption) | exact Below.refl _ _ | (with_reducible refine Below.setCell ?_ (by first | (simp; done) | (simp; omega) | omega) _) | (with_reducible refine Below.alloc ?_ (by first | (simp; done) | (simp; omega) | omega) _) | (with_reducible refine below_drewN' ?_ _) | (with_reducible refine Below.drew ?_) | (refine below_after (by with_reducible assumption) ?_ (by first | (simp; done) | (simp; omega) | omega))))); rintro e w1 ⟨⟨v1, rfl, hv1⟩, hb1⟩; (obtain ⟨hc1, hf1⟩ := bcell hb1); (have hs1 := hb1.size); (try simp at hs1); (have hz1_0 : w.heap.size < w1.heap.size := by omega); (have hz1_1 : w.heap.size + 1 < w1.heap.size := by omega); ((have r1_cell0 : w1.cell? ⟨w.heap.size + 1, 0, none⟩ = some (.bool false) := (hc1 _ _ (by first | (simp; done) | (simp; omega) | omega)).trans (by first | (with_reducible assumption) | (go_simp; done))); (have r1_cell1 : w1.cell? ⟨w.heap.size + 1, 1, none⟩ = some (.slice none 0 0) := (hc1 _ _ (by first | (simp; done) | (simp; omega) | omega)).trans (by first | (with_reducible assumption) | (go_simp; done))); (have r1_frozen0 : w1.frozen? ⟨w.heap.size + 1, 0, none⟩ = false := (hf1 _ _ (by first | (simp; done) | (simp; omega) | omega)).trans (by first | (with_reducible assumption) | (go_simp; done))); (have r1_frozen1 : w1.frozen? ⟨w.heap.size + 1, 1, none⟩ = false := (hf1 _ _ (by first | (simp; done) | (simp; omega) | omega)).trans (by first | (with_reducible assumption) | (go_simp; done)))))
    | (go_at_call 96; (with_reducible refine (HO.out _ _ ?_).mono ?_); (· assumption); rintro e w2 ⟨⟨v2, rfl, hv2⟩, hb2⟩; (obtain ⟨hc2, hf2⟩ := bcell hb2); (have hs2 := hb2.size); (try simp at hs2); (have hz2_0 : w.heap.size < w2.heap.size := by omega); (have hz2_1 : w.heap.size + 1 < w2.heap.size := by omega); (obtain ⟨A2, n2, c2, rfl, HN2⟩ := hv2.open_); clear hv2; ((have r2_cell0 : w2.cell? ⟨w.heap.size + 1, 0, none⟩ = some (.bool false) := (hc2 _ _ (by first | (simp; done) | (simp; omega) | omega)).trans (by first | (with_reducible assumption) | (go_simp; done))); (have r2_cell1 : w2.cell? ⟨w.heap.size + 1, 1, none⟩ = some (.slice none 0 0) := (hc2 _ _ (by first | (simp; done) | (simp; omega) | omega)).trans (by first | (with_reducible assumption) | (go_simp; done))); (have r2_frozen0 : w2.frozen? ⟨w.heap.size + 1, 0, none⟩ = false := (hf2 _ _ (by first | (simp; done) | (simp; omega) | omega)).trans (by first | (with_reducible assumption) | (go_simp; done))); (have r2_frozen1 : w2.frozen? ⟨w.heap.size + 1, 1, none⟩ = false := (hf2 _ _ (by first | (simp; done) | (simp; omega) | omega)).trans (by first | (with_reducible assumption) | (go_simp; done))))))
  go_wp2
  (((try (rename_i hH; clear hH)); (have e0 : w2.cell? ⟨w.heap.size + 1, 0, none⟩ = some (.bool false) := by go_simp); (have e1 : w2.cell? ⟨w.heap.size + 1, 1, none⟩ = some (.slice none 0 0) := by go_simp); (refine bodyPost_ret (v := .agg #[.bool (decide (s < 0)), .slice A2 n2 c2]) (by simp [results, Try.results89, go_sem, e0, e1]) rfl ?_); (refine RetB.mk (IntAt.put (i := s) (u0 := .bool false) (u1 := .slice none 0 0) (by simpa using HN2.out) e0 (by simp) e1 (by simp) (by first | rfl | (simp; done) | (simp; omega))) ?_); (exact (by repeat (first | (with_reducible assumption) | exact Below.refl _ _ | (with_reducible refine Below.setCell ?_ (by first | (simp; done) | (simp; omega) | omega) _) | (with_reducible refine Below.alloc ?_ (by first | (simp; done) | (simp; omega) | omega) _) | (with_reducible refine below_drewN' ?_ _) | (with_reducible refine Below.drew ?_) | (refine below_after (by with_reducible assumption) ?_ (by first | (simp; done) | (simp; omega) | omega)))))))
theorem Sm.pow2 (n : Nat) (hn : n < 70368744177664) : Sm (2 ^ n) := by
  have := pow2_pos n
  exact ⟨n + 1, by omega, by rw [Int.pow_succ]; omega, by rw [Int.pow_succ]; omega⟩
theorem Sl.pow2 (n : Nat) (hn : n < 35184372088832) : Sl (2 ^ n) := by
  have := pow2_pos n
  exact ⟨n + 1, by omega, by rw [Int.pow_succ]; omega, by rw [Int.pow_succ]; omega⟩
theorem Sm.i64 {i : Int} (h : -9223372036854775808 ≤ i) (h2 : i ≤ 9223372036854775807) : Sm i := Sm.word (by omega) (by omega)
theorem Sl.word {m : Int} (h : -18446744073709551616 ≤ m) (h2 : m ≤ 18446744073709551616) : Sl m := ⟨65, by omega, by omega, by omega⟩
theorem power_any (n : Nat) (k : Int) (w : World) (hk : k = n) (hn : n < 70368744177664) :
    Calls Try.prog 63 #[.int .i64 k] w (RetB w fun r w' => IntAt w' r (2 ^ n)) := by
  subst hk
  obtain ⟨s, hs⟩ : ∃ s, s = (2 : Int) ^ n := ⟨_, rfl⟩
  rw [← hs]
  have HL := Lib.hid (fun (v : Value) (W : World) (h : IntAt W v 1) => Left_any v 1 s n n W rfl h (Sm.word (by omega) (by omega)) (by rw [hs]; exact Sm.pow2 n hn) (by omega) (by rw [hs]; omega))
  clear hs
  go_enter Try.func63, Try.ntmps63
  go_wp2_with (first
    | (go_at_call 78; (refine (one_any _).mono ?_); rintro e w1 ⟨⟨v1, rfl, hv1⟩, hb1⟩; (obtain ⟨hc1, hf1⟩ := bcell hb1); (have hs1 := hb1.size); (try simp at hs1); (have hz1_0 : w.heap.size < w1.heap.size := by omega))
    | (go_at_call 89; (refine (HL.out _ _ hv1).mono ?_); rintro e w2 ⟨⟨v2, rfl, hv2⟩, hb2⟩; (obtain ⟨hc2, hf2⟩ := bcell hb2); (have hs2 := hb2.size); (try simp at hs2); (have hz2_0 : w.heap.size < w2.heap.size := by omega); (obtain ⟨A2, n2, c2, rfl, HN2⟩ := hv2.open_); clear hv2))
  (((try (rename_i hH; clear hH)); (have e0 : w2.cell? ⟨w.heap.size, 0, none⟩ = some (.bool false) := by go_simp); (have e1 : w2.cell? ⟨w.heap.size, 1, none⟩ = some (.slice none 0 0) := by go_simp); (refine bodyPost_ret (v := .agg #[.bool (decide (s < 0)), .slice A2 n2 c2]) (by simp [results, Try.results63, go_sem, e0, e1]) rfl ?_); (refine RetB.mk (IntAt.put (i := s) (u0 := .bool false) (u1 := .slice none 0 0) (by simpa using HN2.out) e0 (by simp) e1 (by simp) (by first | rfl | (simp; done) | (simp; omega))) ?_); (exact (by repeat (first | (with_reducible assumption) | exact Below.refl _ _ | (with_reducible refine Below.setCell ?_ (by first | (simp; done) | (simp; omega) | omega) _) | (with_reducible refine Below.alloc ?_ (by first | (simp; done) | (simp; omega) | omega) _) | (with_reducible refine below_drewN' ?_ _) | (with_reducible refine Below.drew ?_) | (refine below_after (by with_reducible assumption) ?_ (by first | (simp; done) | (simp; omega) | omega)))))))
theorem cmp_abs1 (a b : Int) (h : 0 ≤ a) (k : 0 ≤ b) : cmpI (a.natAbs : Int) b.natAbs = cmpI a b := by
  rw [show (a.natAbs : Int) = a by omega, show (b.natAbs : Int) = b by omega]
theorem cmp_abs2 (a b : Int) (h : a < 0) (k : b < 0) : cmpI (b.natAbs : Int) a.natAbs = cmpI a b := by
  rw [show (a.natAbs : Int) = -a by omega, show (b.natAbs : Int) = -b by omega]
  unfold cmpI; split <;> (try split) <;> (try split) <;> (try split) <;> omega
set_option maxHeartbeats 1000000 in
theorem Cmp_any (va vb : Value) (a b : Int) (w : World) (ha : IntAt w va a) (hb : IntAt w vb b) (hla : Sm a) (hlb : Sm b) :
    Calls Try.prog 90 #[va, vb] w (RetB w fun v w' => v = .int .i64 (cmpI a b)) := by
  obtain ⟨A, n, c, rfl, HA⟩ := ha.open_
  obtain ⟨B, m, d, rfl, HB⟩ := hb.open_
  have HC1 := Lib.hid (fun (W : World) (h : NatAt W (.slice A n c) a.natAbs) (h2 : NatAt W (.slice B m d) b.natAbs) => cmp_nat _ _ _ _ W h h2 hla.natAbs hlb.natAbs)
  have HC2 := Lib.hid (fun (W : World) (h : NatAt W (.slice A n c) a.natAbs) (h2 : NatAt W (.slice B m d) b.natAbs) => cmp_nat _ _ _ _ W h2 h hlb.natAbs hla.natAbs)
  clear ha hb hla hlb
  by_cases h1 : a < 0 <;> by_cases h2 : b < 0
  · have HX := Lib.hid (cmp_abs2 a b h1 h2)
    go_enter Try.func90, Try.ntmps90
    go_wp2_with (go_at_call 121; (with_reducible refine (HC2.out _ ?_ ?_).mono ?_); (· exact (HA.out).below (by repeat (first | (with_reducible assumption) | exact Below.refl _ _ | (with_reducible refine Below.setCell ?_ (by first | (simp; done) | (simp; omega) | omega) _) | (with_reducible refine Below.alloc ?_ (by first | (simp; done) | (simp; omega) | omega) _) | (with_reducible refine below_drewN' ?_ _) | (with_reducible refine Below.drew ?_) | (refine below_after (by with_reducible assumption) ?_ (by first | (simp; done) | (simp; omega) | omega))))); (· exact (HB.out).below (by repeat (first | (with_reducible assumption) | exact Below.refl _ _ | (with_reducible refine Below.setCell ?_ (by first | (simp; done) | (simp; omega) | omega) _) | (with_reducible refine Below.alloc ?_ (by first | (simp; done) | (simp; omega) | omega) _) | (with_reducible refine below_drewN' ?_ _) | (with_reducible refine Below.drew ?_) | (refine below_after (by with_reducible assumption) ?_ (by first | (simp; done) | (simp; omega) | omega))))); rintro e w1 ⟨⟨v1, rfl, rfl⟩, hb1⟩; (obtain ⟨hc1, hf1⟩ := bcell hb1); (have hs1 := hb1.size); (try simp at hs1); (have hz1_0 : w.heap.size < w1.heap.size := by omega))
    refine bodyPost_ret (v := .int .i64 (cmpI (b.natAbs : Int) a.natAbs)) (by simp [results, Try.results90, go_sem]) rfl ?_
    exact RetB.mk (by first | rfl | rw [HX.out]) (by repeat (first | (with_reducible assumption) | exact Below.refl _ _ | (with_reducible refine Below.setCell ?_ (by first | (simp; done) | (simp; omega) | omega) _) | (with_reducible refine Below.alloc ?_ (by first | (simp; done) | (simp; omega) | omega) _) | (with_reducible refine below_drewN' ?_ _) | (with_reducible refine Below.drew ?_) | (refine below_after (by with_reducible assumption) ?_ (by first | (simp; done) | (simp; omega) | omega))))
  · have HX : cmpI a b = -1 := by unfold cmpI; rw [if_pos (by omega)]
    have HX := Lib.hid HX
    go_enter Try.func90, Try.ntmps90
    go_wp2
    refine bodyPost_ret (v := .int .i64 (-1)) (by simp [results, Try.results90, go_sem]) rfl ?_
    exact RetB.mk (by first | rfl | rw [HX.out]) (by repeat (first | (with_reducible assumption) | exact Below.refl _ _ | (with_reducible refine Below.setCell ?_ (by first | (simp; done) | (simp; omega) | omega) _) | (with_reducible refine Below.alloc ?_ (by first | (simp; done) | (simp; omega) | omega) _) | (with_reducible refine below_drewN' ?_ _) | (with_reducible refine Below.drew ?_) | (refine below_after (by with_reducible assumption) ?_ (by first | (simp; done) | (simp; omega) | omega))))
  · have HX : cmpI a b = 1 := by unfold cmpI; rw [if_neg (by omega), if_pos (by omega)]
    have HX := Lib.hid HX
    go_enter Try.func90, Try.ntmps90
    go_wp2
    refine bodyPost_ret (v := .int .i64 (1)) (by simp [results, Try.results90, go_sem]) rfl ?_
    exact RetB.mk (by first | rfl | rw [HX.out]) (by repeat (first | (with_reducible assumption) | exact Below.refl _ _ | (with_reducible refine Below.setCell ?_ (by first | (simp; done) | (simp; omega) | omega) _) | (with_reducible refine Below.alloc ?_ (by first | (simp; done) | (simp; omega) | omega) _) | (with_reducible refine below_drewN' ?_ _) | (with_reducible refine Below.drew ?_) | (refine below_after (by with_reducible assumption) ?_ (by first | (simp; done) | (simp; omega) | omega))))
  · have HX := Lib.hid (cmp_abs1 a b (by omega) (by omega))
    go_enter Try.func90, Try.ntmps90
    go_wp2_with (go_at_call 121; (with_reducible refine (HC1.out _ ?_ ?_).mono ?_); (· exact (HA.out).below (by repeat (first | (with_reducible assumption) | exact Below.refl _ _ | (with_reducible refine Below.setCell ?_ (by first | (simp; done) | (simp; omega) | omega) _) | (with_reducible refine Below.alloc ?_ (by first | (simp; done) | (simp; omega) | omega) _) | (with_reducible refine below_drewN' ?_ _) | (with_reducible refine Below.drew ?_) | (refine below_after (by with_reducible assumption) ?_ (by first | (simp; done) | (simp; omega) | omega))))); (· exact (HB.out).below (by repeat (first | (with_reducible assumption) | exact Below.refl _ _ | (with_reducible refine Below.setCell ?_ (by first | (simp; done) | (simp; omega) | omega) _) | (with_reducible refine Below.alloc ?_ (by first | (simp; done) | (simp; omega) | omega) _) | (with_reducible refine below_drewN' ?_ _) | (with_reducible refine Below.drew ?_) | (refine below_after (by with_reducible assumption) ?_ (by first | (simp; done) | (simp; omega) | omega))))); rintro e w1 ⟨⟨v1, rfl, rfl⟩, hb1⟩; (obtain ⟨hc1, hf1⟩ := bcell hb1); (have hs1 := hb1.size); (try simp at hs1); (have hz1_0 : w.heap.size < w1.heap.size := by omega))
    refine bodyPost_ret (v := .int .i64 (cmpI (a.natAbs : Int) b.natAbs)) (by simp [results, Try.results90, go_sem]) rfl ?_
    exact RetB.mk (by first | rfl | rw [HX.out]) (by repeat (first | (with_reducible assumption) | exact Below.refl _ _ | (with_reducible refine Below.setCell ?_ (by first | (simp; done) | (simp; omega) | omega) _) | (with_reducible refine Below.alloc ?_ (by first | (simp; done) | (simp; omega) | omega) _) | (with_reducible refine below_drewN' ?_ _) | (with_reducible refine Below.drew ?_) | (refine below_after (by with_reducible assumption) ?_ (by first | (simp; done) | (simp; omega) | omega))))
/-! ### the lowest limb -/
theorem lv_cons (x : Int) (xs : List Int) : lv (x :: xs) = x + 18446744073709551616 * lv xs := rfl
theorem NatAt.low {w : World} {A : Option Addr} {n c : Nat} {m : Int} (h : NatAt w (.slice A n c) m) (h0 : 0 < n) : ∃ (ad : Addr) (x : Int), A = some ad ∧ w.cell? ad = some (.int .u64 x) ∧ 0 ≤ x ∧ x < 18446744073709551616 ∧ (∃ q, m = x + 18446744073709551616 * q ∧ 0 ≤ q) ∧ (n = 1 → m = x) ∧ (1 < n → 18446744073709551616 ≤ m) := by
  obtain ⟨A', n', c', xs, e, hc, hr, hn, hv⟩ := h
  cases e
  obtain ⟨ad, rfl, hcell⟩ := hr.at_ 0 h0
  match xs, hr.1 with
  | [], hl => simp at hl; omega
  | x :: r, hl =>
    have h1 := hn.1 x (by simp)
    have ha : ad.add 0 = ad := by cases ad; unfold Addr.add; split <;> simp_all
    refine ⟨ad, x, rfl, by rw [ha] at hcell; simpa [lim] using hcell, h1.1, by have := h1.2; omega, ⟨lv r, by rw [← hv, lv_cons], lv_nonneg (fun y hy => hn.1 y (by simp [hy]))⟩, fun e => ?_, fun e => ?_⟩
    · have : r = [] := List.eq_nil_of_length_eq_zero (by simp at hl; omega)
      subst this
      rw [← hv, lv_cons]; simp [lv]
    · have := hn.ge (by simp)
      rw [hv] at this
      have h2 := pow_mono64 (show 1 ≤ (x :: r).length - 1 by simp at hl ⊢; omega)
      omega
theorem IntAt.len {w : World} {A : Option Addr} {n c : Nat} {i : Int} (h : NatAt w (.slice A n c) i.natAbs) : 0 < n ↔ i ≠ 0 := by
  obtain ⟨A', n', c', xs, e, hc, hr, hn, hv⟩ := h
  cases e
  have := NatAt.len_pos hr hn hv
  omega
def EvenP (i : Int) (v : Value) (_ : World) : Prop := v = .bool (decide (i % 2 = 0))
theorem even_any (v : Value) (i : Int) (w : World) (hv : IntAt w v i) :
    Calls Try.prog 119 #[v] w (RetB w (EvenP i)) := by
  obtain ⟨A, n, c, rfl, HN⟩ := hv.open_
  clear hv
  by_cases h0 : 0 < n
  · obtain ⟨ad, x, rfl, hcell, hx0, hx1, ⟨q, hq, _⟩, _⟩ := HN.out.low h0
    have hb := World.block_lt_of_cell? w _ hcell
    have e : x % 2 = 0 ↔ i % 2 = 0 := by omega
    have HE := Lib.hid e
    have hn0 : ¬ n = 0 := by omega
    clear e hq
    go_enter Try.func119, Try.ntmps119
    go_wp2
    refine bodyPost_ret (v := .bool (((n : Int) == 0) || (x % 2 == 0))) (by simp [results, Try.results119, go_sem]) rfl ?_
    exact RetB.mk (by unfold EvenP; have h := HE.out; by_cases k : i % 2 = 0 <;> simp_all) (by repeat (first | (with_reducible assumption) | exact Below.refl _ _ | (with_reducible refine Below.setCell ?_ (by first | (simp; done) | (simp; omega) | omega) _) | (with_reducible refine Below.alloc ?_ (by first | (simp; done) | (simp; omega) | omega) _) | (with_reducible refine below_drewN' ?_ _) | (with_reducible refine Below.drew ?_) | (refine below_after (by with_reducible assumption) ?_ (by first | (simp; done) | (simp; omega) | omega))))
  · have hi : i = 0 := by have := (IntAt.len HN.out); omega
    obtain rfl : n = 0 := by omega
    have HI := Lib.hid hi
    clear hi
    go_enter Try.func119, Try.ntmps119
    go_wp2
    refine bodyPost_ret (v := .bool true) (by simp [results, Try.results119, go_sem]) rfl ?_
    exact RetB.mk (by unfold EvenP; rw [HI.out]; rfl) (by repeat (first | (with_reducible assumption) | exact Below.refl _ _ | (with_reducible refine Below.setCell ?_ (by first | (simp; done) | (simp; omega) | omega) _) | (with_reducible refine Below.alloc ?_ (by first | (simp; done) | (simp; omega) | omega) _) | (with_reducible refine below_drewN' ?_ _) | (with_reducible refine Below.drew ?_) | (refine below_after (by with_reducible assumption) ?_ (by first | (simp; done) | (simp; omega) | omega))))
def SmallP (i : Int) (v : Value) (_ : World) : Prop := v = if -9223372036854775808 ≤ i ∧ i ≤ 9223372036854775807 then .tuple #[.int .i64 i, .bool true] else .tuple #[.int .i64 0, .bool false]
set_option maxHeartbeats 1000000 in
theorem small_any (v : Value) (i : Int) (w : World) (hv : IntAt w v i) (hs : Sm i) :
    Calls Try.prog 102 #[v] w (RetB w (SmallP i)) := by
  obtain ⟨A, n, c, rfl, HN⟩ := hv.open_
  have h1 : n ≤ 1099511627777 := by
    obtain ⟨A', n', c', xs, e, hc, hr, hn, hv⟩ := HN.out
    cases e
    rw [← hr.1]; exact hn.len hv hs.natAbs
  clear hv hs
  by_cases h0 : 0 < n
  · obtain ⟨ad, x, rfl, hcell, hx0, hx1, ⟨q, hq, hq0⟩, hn1, hn2⟩ := HN.out.low h0
    have hb := World.block_lt_of_cell? w _ hcell
    have hn0 : ¬ n = 0 := by omega
    by_cases h2 : 1 < n
    · have HP : SmallP i (.tuple #[.int .i64 0, .bool false]) w := by
        unfold SmallP; rw [if_neg]; have := hn2 h2; omega
      have HP := Lib.hid HP
      clear hn1 hn2 hq hq0
      go_enter Try.func102, Try.ntmps102
      go_wp2
      refine bodyPost_ret (v := .tuple #[.int .i64 0, .bool false]) (by simp [results, Try.results102, go_sem]) rfl ?_
      exact RetB.mk HP.out (by repeat (first | (with_reducible assumption) | exact Below.refl _ _ | (with_reducible refine Below.setCell ?_ (by first | (simp; done) | (simp; omega) | omega) _) | (with_reducible refine Below.alloc ?_ (by first | (simp; done) | (simp; omega) | omega) _) | (with_reducible refine below_drewN' ?_ _) | (with_reducible refine Below.drew ?_) | (refine below_after (by with_reducible assumption) ?_ (by first | (simp; done) | (simp; omega) | omega))))
    · obtain rfl : n = 1 := by omega
      have hx := hn1 rfl
      clear hn1 hn2 hq hq0 hn0 h0 h2
      by_cases hneg : i < 0
      · by_cases hle : x ≤ 9223372036854775808
        · have HW : IntKind.i64.wrap (IntKind.u64.wrap (-x)) = i := by
            rw [u64_under (-x) (by omega) (by omega)]
            simp only [IntKind.wrap_i64]
            omega
          have HP : SmallP i (.tuple #[.int .i64 i, .bool true]) w := by
            unfold SmallP; rw [if_pos]; omega
          have HP := Lib.hid HP
          have HX := Lib.hid hx
          clear hx
          go_enter Try.func102, Try.ntmps102
          go_wp2
          refine bodyPost_ret (v := .tuple #[.int .i64 i, .bool true]) (by simp [results, Try.results102, go_sem, HW]) rfl ?_
          exact RetB.mk HP.out (by repeat (first | (with_reducible assumption) | exact Below.refl _ _ | (with_reducible refine Below.setCell ?_ (by first | (simp; done) | (simp; omega) | omega) _) | (with_reducible refine Below.alloc ?_ (by first | (simp; done) | (simp; omega) | omega) _) | (with_reducible refine below_drewN' ?_ _) | (with_reducible refine Below.drew ?_) | (refine below_after (by with_reducible assumption) ?_ (by first | (simp; done) | (simp; omega) | omega))))
        · have HP : SmallP i (.tuple #[.int .i64 0, .bool false]) w := by
            unfold SmallP; rw [if_neg]; omega
          have HP := Lib.hid HP
          have HX := Lib.hid hx
          clear hx
          go_enter Try.func102, Try.ntmps102
          go_wp2
          refine bodyPost_ret (v := .tuple #[.int .i64 0, .bool false]) (by simp [results, Try.results102, go_sem]) rfl ?_
          exact RetB.mk HP.out (by repeat (first | (with_reducible assumption) | exact Below.refl _ _ | (with_reducible refine Below.setCell ?_ (by first | (simp; done) | (simp; omega) | omega) _) | (with_reducible refine Below.alloc ?_ (by first | (simp; done) | (simp; omega) | omega) _) | (with_reducible refine below_drewN' ?_ _) | (with_reducible refine Below.drew ?_) | (refine below_after (by with_reducible assumption) ?_ (by first | (simp; done) | (simp; omega) | omega))))
      · by_cases hle : x < 9223372036854775808
        · have HP : SmallP i (.tuple #[.int .i64 i, .bool true]) w := by
            unfold SmallP; rw [if_pos]; omega
          have HP := Lib.hid HP
          have hxi : x = i := by omega
          have HX := Lib.hid hxi
          clear hx hxi
          go_enter Try.func102, Try.ntmps102
          go_wp2
          refine bodyPost_ret (v := .tuple #[.int .i64 x, .bool true]) (by simp [results, Try.results102, go_sem]) rfl ?_
          exact RetB.mk (by rw [HX.out]; exact HP.out) (by repeat (first | (with_reducible assumption) | exact Below.refl _ _ | (with_reducible refine Below.setCell ?_ (by first | (simp; done) | (simp; omega) | omega) _) | (with_reducible refine Below.alloc ?_ (by first | (simp; done) | (simp; omega) | omega) _) | (with_reducible refine below_drewN' ?_ _) | (with_reducible refine Below.drew ?_) | (refine below_after (by with_reducible assumption) ?_ (by first | (simp; done) | (simp; omega) | omega))))
        · have HP : SmallP i (.tuple #[.int .i64 0, .bool false]) w := by
            unfold SmallP; rw [if_neg]; omega
          have HP := Lib.hid HP
          have HX := Lib.hid hx
          clear hx
          go_enter Try.func102, Try.ntmps102
          go_wp2
          refine bodyPost_ret (v := .tuple #[.int .i64 0, .bool false]) (by simp [results, Try.results102, go_sem]) rfl ?_
          exact RetB.mk HP.out (by repeat (first | (with_reducible assumption) | exact Below.refl _ _ | (with_reducible refine Below.setCell ?_ (by first | (simp; done) | (simp; omega) | omega) _) | (with_reducible refine Below.alloc ?_ (by first | (simp; done) | (simp; omega) | omega) _) | (with_reducible refine below_drewN' ?_ _) | (with_reducible refine Below.drew ?_) | (refine below_after (by with_reducible assumption) ?_ (by first | (simp; done) | (simp; omega) | omega))))
  · have hi : i = 0 := by have := (IntAt.len HN.out); omega
    obtain rfl : n = 0 := by omega
    have HP : SmallP i (.tuple #[.int .i64 0, .bool true]) w := by
      unfold SmallP; rw [hi]; rfl
    have HP := Lib.hid HP
    clear hi
    go_enter Try.func102, Try.ntmps102
    go_wp2
    refine bodyPost_ret (v := .tuple #[.int .i64 0, .bool true]) (by simp [results, Try.results102, go_sem]) rfl ?_
    exact RetB.mk HP.out (by repeat (first | (with_reducible assumption) | exact Below.refl _ _ | (with_reducible refine Below.setCell ?_ (by first | (simp; done) | (simp; omega) | omega) _) | (with_reducible refine Below.alloc ?_ (by first | (simp; done) | (simp; omega) | omega) _) | (with_reducible refine below_drewN' ?_ _) | (with_reducible refine Below.drew ?_) | (refine below_after (by with_reducible assumption) ?_ (by first | (simp; done) | (simp; omega) | omega))))
end Go.Proofs.Ytcabnnfhcolcfaa
