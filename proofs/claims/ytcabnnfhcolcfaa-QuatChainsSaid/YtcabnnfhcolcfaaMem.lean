/- What a slice of 64-bit limbs says: the words for memory, and the number that limbs make. -/
import Derived.Test.YtcabnnfhcolcfaaRows
import Derived.WalkKit
import Derived.WalkSpells
import Derived.WalkLawsBesides
import Derived.Laws.OwnMore
import Derived.Laws.Rows
import Derived.Laws.MakeOwn
import Derived.Deep.OwnRows
import Derived.Deep.Draws
namespace Go.Proofs.Ytcabnnfhcolcfaa
set_option linter.unusedSimpArgs false
set_option linter.unusedVariables false
open Go.RowKit

/-! ### limbs -/
def lv : List Int → Int
  | [] => 0
  | x :: xs => x + 18446744073709551616 * lv xs
/-- A limb; 0 beyond the last. -/
def lim (xs : List Int) (i : Nat) : Int := xs.getD i 0
def Okl (xs : List Int) : Prop := ∀ x ∈ xs, 0 ≤ x ∧ x < 18446744073709551616
def Norm (xs : List Int) : Prop := Okl xs ∧ ∀ h : xs ≠ [], xs.getLast h ≠ 0

theorem Okl.nil : Okl [] := fun x h => by cases h
theorem Okl.cons {x : Int} {xs : List Int} (h : Okl (x :: xs)) : (0 ≤ x ∧ x < 18446744073709551616) ∧ Okl xs := ⟨h x (by simp), fun y hy => h y (by simp [hy])⟩
theorem Okl.mk {x : Int} {xs : List Int} (h : 0 ≤ x ∧ x < 18446744073709551616) (k : Okl xs) : Okl (x :: xs) := fun y hy => by
  rcases List.mem_cons.1 hy with rfl | hy
  · exact h
  · exact k y hy
theorem Okl.append {xs ys : List Int} (h : Okl xs) (k : Okl ys) : Okl (xs ++ ys) := fun y hy => by
  rcases List.mem_append.1 hy with hy | hy
  · exact h y hy
  · exact k y hy
theorem Okl.take {xs : List Int} (h : Okl xs) (n : Nat) : Okl (xs.take n) := fun y hy => h y (List.mem_of_mem_take hy)
theorem Okl.drop {xs : List Int} (h : Okl xs) (n : Nat) : Okl (xs.drop n) := fun y hy => h y (List.mem_of_mem_drop hy)
theorem Okl.at_ {xs : List Int} (h : Okl xs) (i : Nat) : 0 ≤ lim xs i ∧ lim xs i < 18446744073709551616 := by
  unfold lim
  rw [List.getD_eq_getElem?_getD]
  rcases Nat.lt_or_ge i xs.length with hi | hi
  · rw [List.getElem?_eq_getElem hi]; exact h _ (List.getElem_mem hi)
  · rw [List.getElem?_eq_none hi]; simp
theorem Okl.set_ {xs : List Int} (h : Okl xs) (i : Nat) {x : Int} (hx : 0 ≤ x ∧ x < 18446744073709551616) : Okl (xs.set i x) := fun y hy => by
  rcases List.mem_or_eq_of_mem_set hy with hy | rfl
  · exact h y hy
  · exact hx
theorem Okl.zeros (n : Nat) : Okl (List.replicate n 0) := fun y hy => by rw [(List.mem_replicate.1 hy).2]; omega
theorem lv_nonneg {xs : List Int} (h : Okl xs) : 0 ≤ lv xs := by
  induction xs with
  | nil => simp [lv]
  | cons x xs ih => have := h.cons; have := ih this.2; simp only [lv]; omega
theorem lv_append (xs ys : List Int) : lv (xs ++ ys) = lv xs + 18446744073709551616 ^ xs.length * lv ys := by
  induction xs with
  | nil => simp [lv]
  | cons x xs ih => simp only [List.cons_append, lv, ih, List.length_cons, Int.pow_succ]; grind
theorem lv_zeros (n : Nat) : lv (List.replicate n 0) = 0 := by
  induction n with
  | zero => rfl
  | succ n ih => simp only [List.replicate_succ, lv, ih]; rfl
theorem pow_pos64 (n : Nat) : (0 : Int) < 18446744073709551616 ^ n := by
  induction n with
  | zero => decide
  | succ n ih => rw [Int.pow_succ]; omega
theorem lv_lt {xs : List Int} (h : Okl xs) : lv xs < 18446744073709551616 ^ xs.length := by
  induction xs with
  | nil => simp [lv]
  | cons x xs ih => have h1 := h.cons; have := ih h1.2; simp only [lv, List.length_cons, Int.pow_succ]; omega
theorem lv_take_drop (xs : List Int) (n : Nat) (h : n ≤ xs.length) : lv xs = lv (xs.take n) + 18446744073709551616 ^ n * lv (xs.drop n) := by
  have := lv_append (xs.take n) (xs.drop n)
  rwa [List.take_append_drop, List.length_take, Nat.min_eq_left h] at this
theorem lv_take_succ (xs : List Int) (n : Nat) (h : n < xs.length) : lv (xs.take (n + 1)) = lv (xs.take n) + 18446744073709551616 ^ n * lim xs n := by
  unfold lim
  rw [List.take_succ_eq_append_getElem h, lv_append, List.length_take, Nat.min_eq_left (by omega)]
  simp [lv, List.getD_eq_getElem?_getD, List.getElem?_eq_getElem h]
theorem lv_take_succ' (xs : List Int) (n : Nat) : lv (xs.take (n + 1)) = lv (xs.take n) + 18446744073709551616 ^ n * lim xs n := by
  rcases Nat.lt_or_ge n xs.length with h | h
  · exact lv_take_succ xs n h
  · rw [List.take_of_length_le (by omega), List.take_of_length_le (by omega)]
    simp [lim, List.getD_eq_getElem?_getD, List.getElem?_eq_none h]
theorem lim_set_same {xs : List Int} {n : Nat} (h : n < xs.length) (x : Int) : lim (xs.set n x) n = x := by simp [lim, List.getD_eq_getElem?_getD, h]
theorem lim_set_ne {xs : List Int} {n m : Nat} (h : n ≠ m) (x : Int) : lim (xs.set n x) m = lim xs m := by simp [lim, List.getD_eq_getElem?_getD, List.getElem?_set_ne h]
theorem lim_end {xs : List Int} {n : Nat} (h : xs.length ≤ n) : lim xs n = 0 := by simp [lim, List.getD_eq_getElem?_getD, List.getElem?_eq_none h]
theorem take_set_le (xs : List Int) (n : Nat) (x : Int) : (xs.set n x).take n = xs.take n := by
  refine List.ext_getElem? fun i => ?_
  simp only [List.getElem?_take]
  split
  · rw [List.getElem?_set_ne (by omega)]
  · rfl
/-- What a limb more leaves of the number so far. -/
theorem lv_take_set (xs : List Int) (n : Nat) (h : n < xs.length) (x : Int) : lv ((xs.set n x).take (n + 1)) = lv (xs.take n) + 18446744073709551616 ^ n * x := by
  rw [lv_take_succ', take_set_le, lim_set_same h]
theorem lv_set (xs : List Int) (n : Nat) (h : n < xs.length) (x : Int) : lv (xs.set n x) = lv xs + 18446744073709551616 ^ n * (x - lim xs n) := by
  unfold lim
  induction xs generalizing n with
  | nil => simp at h
  | cons y ys ih =>
    cases n with
    | zero => simp [lv]; omega
    | succ n =>
      have := ih n (by simpa using h)
      simp only [List.set_cons_succ, lv, this, List.getD_cons_succ, Int.pow_succ]
      grind
/-- The top limb of a normal number that is not 0. -/
theorem Norm.ge {xs : List Int} (h : Norm xs) (hn : xs ≠ []) : (18446744073709551616 : Int) ^ (xs.length - 1) ≤ lv xs := by
  have e := List.dropLast_concat_getLast hn
  have h1 := h.2 hn
  have h2 := h.1 _ (List.getLast_mem hn)
  have hl : Okl xs.dropLast := fun y hy => h.1 y ((List.dropLast_sublist xs).subset hy)
  have h3 := lv_nonneg hl
  rw [← e, lv_append]
  simp only [lv, List.length_append, List.length_dropLast, List.length_cons, List.length_nil, Int.mul_zero, Int.add_zero, Nat.add_sub_cancel]
  have := Int.mul_le_mul_of_nonneg_left (show 1 ≤ xs.getLast hn by omega) (Int.le_of_lt (pow_pos64 (xs.length - 1)))
  omega
theorem Norm.nil : Norm [] := ⟨Okl.nil, fun h => absurd rfl h⟩
theorem Norm.zero_iff {xs : List Int} (h : Norm xs) : lv xs = 0 ↔ xs = [] := by
  constructor
  · intro e
    refine Classical.byContradiction fun hn => ?_
    have := h.ge hn
    have := pow_pos64 (xs.length - 1)
    omega
  · rintro rfl; rfl
/-- One number has one normal row of limbs. -/
theorem lv_inj : ∀ {xs ys : List Int}, Okl xs → Okl ys → xs.length = ys.length → lv xs = lv ys → xs = ys
  | [], [], _, _, _, _ => rfl
  | x :: xs, y :: ys, hx, hy, hl, he => by
    have h1 := hx.cons
    have h2 := hy.cons
    simp only [lv] at he
    have e1 : x = y := by omega
    have e2 : lv xs = lv ys := by omega
    rw [e1, lv_inj h1.2 h2.2 (by simpa using hl) e2]
theorem pow_mono64 {m n : Nat} (h : m ≤ n) : (18446744073709551616 : Int) ^ m ≤ 18446744073709551616 ^ n := by
  obtain ⟨k, rfl⟩ := Nat.exists_eq_add_of_le h
  rw [Int.pow_add]
  have := Int.mul_le_mul_of_nonneg_left (show (1 : Int) ≤ 18446744073709551616 ^ k by have := pow_pos64 k; omega) (Int.le_of_lt (pow_pos64 m))
  omega
theorem Norm.length_le {xs : List Int} (h : Norm xs) {n : Nat} (hl : lv xs < 18446744073709551616 ^ n) : xs.length ≤ n := by
  refine Classical.byContradiction fun hn => ?_
  have hne : xs ≠ [] := by rintro rfl; simp at hn
  have h1 := h.ge hne
  have h2 := pow_mono64 (show n ≤ xs.length - 1 by omega)
  omega
theorem Norm.inj {xs ys : List Int} (h : Norm xs) (k : Norm ys) (e : lv xs = lv ys) : xs = ys := by
  have h1 := k.length_le (n := xs.length) (by rw [← e]; exact lv_lt h.1)
  have h2 := h.length_le (n := ys.length) (by rw [e]; exact lv_lt k.1)
  exact lv_inj h.1 k.1 (by omega) e

theorem wrap_u64 (n : Int) : IntKind.u64.wrap n = n % 18446744073709551616 := by simp [IntKind.wrap, IntKind.bits, IntKind.signed]
/-! ### memory -/
/-- The slice at A, of length n, reads as these words. -/
def Rd (w : World) (A : Option Addr) (n : Nat) (xs : List Int) : Prop :=
  xs.length = n ∧ (0 < n → ∃ ad, A = some ad ∧ ∀ j, j < n → w.cell? (ad.add j) = some (.int .u64 (lim xs j)))
theorem Rd.nil (w : World) (A : Option Addr) : Rd w A 0 [] := ⟨rfl, fun h => absurd h (by omega)⟩
theorem Rd.at_ {w : World} {A : Option Addr} {n : Nat} {xs : List Int} (h : Rd w A n xs) (i : Nat) (hi : i < n) : ∃ ad, A = some ad ∧ w.cell? (ad.add i) = some (.int .u64 (lim xs i)) := by
  obtain ⟨ad, e, hc⟩ := h.2 (by omega)
  exact ⟨ad, e, hc i hi⟩
theorem cell_below {w w1 : World} (h : Below w.heap.size w w1) {a : Addr} {v : Value} (hc : w.cell? a = some v) : w1.cell? a = some v := (h.cell (World.block_lt_of_cell? w a hc)).trans hc
theorem Rd.below {w w1 : World} {A : Option Addr} {n : Nat} {xs : List Int} (h : Rd w A n xs) (hb : Below w.heap.size w w1) : Rd w1 A n xs :=
  ⟨h.1, fun hn => by
    obtain ⟨ad, e, hc⟩ := h.2 hn
    exact ⟨ad, e, fun j hj => cell_below hb (hc j hj)⟩⟩
theorem Rd.drew {w : World} {A : Option Addr} {n : Nat} {xs : List Int} (h : Rd w A n xs) : Rd w.drew A n xs := h
theorem Rd.take {w : World} {A : Option Addr} {n : Nat} {xs : List Int} (h : Rd w A n xs) {m : Nat} (hm : m ≤ n) : Rd w A m (xs.take m) :=
  ⟨by rw [List.length_take, h.1]; omega, fun h0 => by
    obtain ⟨ad, e, hc⟩ := h.2 (by omega)
    refine ⟨ad, e, fun j hj => ?_⟩
    rw [hc j (by omega)]
    simp [lim, List.getD_eq_getElem?_getD, hj]⟩

theorem add_of_add (a : Addr) (i j : Nat) : (a.add i).add j = a.add (i + j) := by
  unfold Addr.add
  by_cases hi : i = 0 <;> by_cases hj : j = 0 <;> simp [hi, hj, Nat.add_assoc]
theorem Rd.drop {w : World} {A : Option Addr} {n : Nat} {xs : List Int} (h : Rd w A n xs) {m : Nat} (hm : m < n) : Rd w (A.map (fun x => x.add m)) (n - m) (xs.drop m) :=
  ⟨by rw [List.length_drop, h.1], fun h0 => by
    obtain ⟨ad, rfl, hc⟩ := h.2 (by omega)
    refine ⟨ad.add m, rfl, fun j hj => ?_⟩
    rw [add_of_add, hc _ (by omega)]
    simp [lim, List.getD_eq_getElem?_getD]⟩

/-- A magnitude: a slice that reads as the normal limbs of m. -/
def NatAt (w : World) (v : Value) (m : Int) : Prop := ∃ A n c xs, v = .slice A n c ∧ (n ≤ c ∧ c ≤ 9223372036854775807) ∧ Rd w A n xs ∧ Norm xs ∧ lv xs = m
/-- A whole number in memory. -/
def IntAt (w : World) (v : Value) (i : Int) : Prop := ∃ mag, v = .agg #[.bool (decide (i < 0)), mag] ∧ NatAt w mag i.natAbs
theorem NatAt.below {w w1 : World} {v : Value} {m : Int} (h : NatAt w v m) (hb : Below w.heap.size w w1) : NatAt w1 v m := by
  obtain ⟨A, n, c, xs, e, hc, hr, hn, hv⟩ := h
  exact ⟨A, n, c, xs, e, hc, hr.below hb, hn, hv⟩
theorem IntAt.below {w w1 : World} {v : Value} {m : Int} (h : IntAt w v m) (hb : Below w.heap.size w w1) : IntAt w1 v m := by
  obtain ⟨mag, e, hm⟩ := h
  exact ⟨mag, e, hm.below hb⟩
/-- A store where no word lies leaves what is read. -/
theorem Rd.stored {w : World} {A : Option Addr} {n : Nat} {xs : List Int} (h : Rd w A n xs) {p : Addr} {u0 : Value} (hc : w.cell? p = some u0) (hne : ∀ x, u0 ≠ .int .u64 x) (u : Value) : Rd (w.setCell p u) A n xs :=
  ⟨h.1, fun hn => by
    obtain ⟨ad, e, hcell⟩ := h.2 hn
    refine ⟨ad, e, fun j hj => ?_⟩
    have h1 := hcell j hj
    rw [World.cell?_setCell_other w p _ u (fun e => by subst e; rw [hc] at h1; exact hne _ (Option.some.inj h1))]
    exact h1⟩
theorem NatAt.stored {w : World} {v : Value} {m : Int} (h : NatAt w v m) {p : Addr} {u0 : Value} (hc : w.cell? p = some u0) (hne : ∀ x, u0 ≠ .int .u64 x) (u : Value) : NatAt (w.setCell p u) v m := by
  obtain ⟨A, n, c, xs, e, hc', hr, hn, hv⟩ := h
  exact ⟨A, n, c, xs, e, hc', hr.stored hc hne u, hn, hv⟩
theorem IntAt.stored {w : World} {v : Value} {m : Int} (h : IntAt w v m) {p : Addr} {u0 : Value} (hc : w.cell? p = some u0) (hne : ∀ x, u0 ≠ .int .u64 x) (u : Value) : IntAt (w.setCell p u) v m := by
  obtain ⟨mag, e, hm⟩ := h
  exact ⟨mag, e, hm.stored hc hne u⟩
theorem NatAt.alloc {w : World} {v : Value} {m : Int} (h : NatAt w v m) (o : Obj) : NatAt (w.alloc o) v m := h.below ((Below.refl _ _).alloc (Nat.le_refl _) _)
theorem IntAt.alloc {w : World} {v : Value} {m : Int} (h : IntAt w v m) (o : Obj) : IntAt (w.alloc o) v m := h.below ((Below.refl _ _).alloc (Nat.le_refl _) _)
theorem NatAt.drew {w : World} {v : Value} {m : Int} (h : NatAt w v m) : NatAt w.drew v m := h
theorem IntAt.drew {w : World} {v : Value} {m : Int} (h : IntAt w v m) : IntAt w.drew v m := h
theorem NatAt.drewN {w : World} {v : Value} {m : Int} (h : NatAt w v m) (n : Nat) : NatAt (w.drewN n) v m := h
theorem IntAt.drewN {w : World} {v : Value} {m : Int} (h : IntAt w v m) (n : Nat) : IntAt (w.drewN n) v m := h
theorem NatAt.nonneg {w : World} {v : Value} {m : Int} (h : NatAt w v m) : 0 ≤ m := by
  obtain ⟨A, n, c, xs, e, hc, hr, hn, hv⟩ := h
  rw [← hv]; exact lv_nonneg hn.1
theorem NatAt.zero (w : World) (A : Option Addr) (c : Nat) (hc : c ≤ 9223372036854775807) : NatAt w (.slice A 0 c) 0 := ⟨A, 0, c, [], rfl, ⟨by omega, hc⟩, Rd.nil w A, Norm.nil, rfl⟩
theorem below_then {B : Nat} {w w1 w2 : World} (h : Below B w w1) (hB : B ≤ w1.heap.size) (k : Below w1.heap.size w1 w2) : Below B w w2 :=
  h.trans ⟨k.os, k.tape, k.output, k.size, fun i hi => k.block i (Nat.lt_of_lt_of_le hi hB)⟩
theorem below_after {B : Nat} {w w1 w2 : World} (k : Below w1.heap.size w1 w2) (h : Below B w w1) (hB : B ≤ w1.heap.size) : Below B w w2 := below_then h hB k
theorem Below.then_ {w w1 w2 : World} (h : Below w.heap.size w w1) (k : Below w1.heap.size w1 w2) : Below w.heap.size w w2 := below_then h h.size k
theorem below_drewN' {B : Nat} {a w : World} (h : Below B a w) (n : Nat) : Below B a (w.drewN n) := ⟨h.os, h.tape, h.output, h.size, h.block⟩
theorem bcell {W w1 : World} (hb : Below W.heap.size W w1) : (∀ b o, b < W.heap.size → w1.cell? ⟨b, o, none⟩ = W.cell? ⟨b, o, none⟩) ∧ (∀ b o, b < W.heap.size → w1.frozen? ⟨b, o, none⟩ = W.frozen? ⟨b, o, none⟩) :=
  ⟨fun b o h => hb.cell (p := ⟨b, o, none⟩) h, fun b o h => hb.frozen (p := ⟨b, o, none⟩) h⟩
/-! ### a block of the call's own that holds words -/
def Own (w : World) (g : Nat) (xs : List Int) : Prop := ∃ cur, w.heap[g]? = some (.cells cur 101 (0, 0)) ∧ xs.length ≤ cur.size ∧ ∀ j, j < xs.length → cur[j]? = some (.int .u64 (lim xs j))
theorem Own.lt {w : World} {g : Nat} {xs : List Int} (h : Own w g xs) : g < w.heap.size := by
  obtain ⟨cur, h, _⟩ := h
  exact (Array.getElem?_eq_some_iff.1 h).1
theorem Own.cell {w : World} {g : Nat} {xs : List Int} (h : Own w g xs) (j : Nat) (hj : j < xs.length) : w.cell? ⟨g, j, none⟩ = some (.int .u64 (lim xs j)) := by
  obtain ⟨cur, h, _, hc⟩ := h
  rw [cell_of_row w g j cur _ _ h]
  exact hc j hj
theorem Own.frozen {w : World} {g : Nat} {xs : List Int} (h : Own w g xs) (j : Nat) : w.frozen? ⟨g, j, none⟩ = false := by
  obtain ⟨cur, h, _⟩ := h
  simp [World.frozen?, h]
theorem Own.of_block {w w' : World} {g : Nat} {xs : List Int} (h : Own w g xs) (e : w'.heap[g]? = w.heap[g]?) : Own w' g xs := by
  obtain ⟨cur, h, h2⟩ := h
  exact ⟨cur, e.trans h, h2⟩
theorem Own.drewN {w : World} {g : Nat} {xs : List Int} (h : Own w g xs) (n : Nat) : Own (w.drewN n) g xs := h
theorem Own.drew {w : World} {g : Nat} {xs : List Int} (h : Own w g xs) : Own w.drew g xs := h
theorem Own.alloc {w : World} {g : Nat} {xs : List Int} (h : Own w g xs) (o : Obj) : Own (w.alloc o) g xs := h.of_block (Below.heap_alloc w o g h.lt)
theorem Own.below {w w' : World} {g : Nat} {xs : List Int} (h : Own w g xs) (hb : Below w.heap.size w w') : Own w' g xs := h.of_block (hb.block g h.lt)
theorem Own.far {w : World} {g : Nat} {xs : List Int} (h : Own w g xs) {p : Addr} (hp : g ≠ p.block) (u : Value) : Own (w.setCell p u) g xs := h.of_block (Below.heap_setCell w p u g hp)
theorem Own.set_ {w : World} {g : Nat} {xs : List Int} (h : Own w g xs) (i : Nat) (x : Int) (hi : i < xs.length) : Own (w.setCell ⟨g, i, none⟩ (.int .u64 x)) g (xs.set i x) := by
  obtain ⟨cur, h, hl, hc⟩ := h
  refine ⟨cur.setIfInBounds i (.int .u64 x), by simp [World.setCell, Array.getElem?_modify, h], by simpa using hl, fun j hj => ?_⟩
  have hj' : j < xs.length := by simpa using hj
  by_cases e : i = j
  · subst e
    rw [Array.getElem?_setIfInBounds_self_of_lt (by omega)]
    simp [lim, List.getD_eq_getElem?_getD, hj']
  · rw [Array.getElem?_setIfInBounds_ne e, hc j hj']
    simp [lim, List.getD_eq_getElem?_getD, List.getElem?_set_ne e]
theorem Own.rd {w : World} {g : Nat} {xs : List Int} (h : Own w g xs) {n : Nat} (hn : xs.length = n) : Rd w (some ⟨g, 0, none⟩) n xs :=
  ⟨hn, fun _ => ⟨_, rfl, fun j hj => by
    have ha : (⟨g, 0, none⟩ : Addr).add j = ⟨g, j, none⟩ := by unfold Addr.add; split <;> simp_all
    rw [ha]; exact h.cell j (by omega)⟩⟩
theorem lim_zeros (n j : Nat) : lim (List.replicate n 0) j = 0 := by
  unfold lim
  rw [List.getD_eq_getElem?_getD]
  rcases Nat.lt_or_ge j n with h | h
  · rw [List.getElem?_eq_getElem (by simpa using h)]; simp
  · rw [List.getElem?_eq_none (by simpa using h)]; simp
theorem Own.made (W : World) (m : Nat) : Own (W.alloc (.cells (madeCells #[.int .u64 0] m) 101)) W.heap.size (List.replicate m 0) := by
  refine ⟨_, heap_alloc_new W _, by simp [madeCells], fun j hj => ?_⟩
  have hj' : j < m := by simpa using hj
  rw [lim_zeros]
  simp [madeCells, hj', Nat.mod_one]
theorem info64 : (Try.prog.info? 101).map (fun i => (i.zero, i.size, i.bytes)) = some (some (.int .u64 0), 1, 8) := by kernel_rfl
theorem make64 (m : Nat) (hn : m ≤ 35184372088832) :
    ∀ W : World, (Instr.makeSlice 79 (.int .i64 (m : Int)) (.int .i64 (m : Int))).run Try.prog W = .ok (.slice (some ⟨W.heap.size, 0, none⟩) m m) (W.alloc (.cells (madeCells #[.int .u64 0] m) 101)) := by
  intro W
  exact run_make_row' 79 101 (.int .u64 0) 8 Try.underlying79 info64 rfl .i64 .i64 m (by omega) (by omega) W
/-! ### sizes -/
/-- Small enough for the machine: below 2^(2^46). -/
def Sm (m : Int) : Prop := ∃ p : Nat, p ≤ 70368744177664 ∧ -(2 : Int) ^ p < m ∧ m < (2 : Int) ^ p
theorem pow2_pos (n : Nat) : (0 : Int) < 2 ^ n := by
  induction n with
  | zero => decide
  | succ n ih => rw [Int.pow_succ]; omega
theorem pow2_mono {m n : Nat} (h : m ≤ n) : (2 : Int) ^ m ≤ 2 ^ n := by
  obtain ⟨k, rfl⟩ := Nat.exists_eq_add_of_le h
  rw [Int.pow_add]
  have := Int.mul_le_mul_of_nonneg_left (show (1 : Int) ≤ 2 ^ k by have := pow2_pos k; omega) (Int.le_of_lt (pow2_pos m))
  omega
theorem pow64_eq (n : Nat) : (18446744073709551616 : Int) ^ n = 2 ^ (64 * n) := by
  induction n with
  | zero => rfl
  | succ n ih => rw [Int.pow_succ, ih, Nat.mul_succ, Int.pow_add]; rfl
theorem Norm.len {xs : List Int} (h : Norm xs) {m : Int} (hv : lv xs = m) (hs : Sm m) : xs.length ≤ 1099511627777 := by
  obtain ⟨p, hp, _, hm⟩ := hs
  obtain ⟨K, hK⟩ : ∃ K, K = 1099511627777 := ⟨_, rfl⟩
  rw [← hK]
  refine h.length_le ?_
  rw [hv, pow64_eq]
  have := pow2_mono (show p ≤ 64 * K by omega)
  exact Int.lt_of_lt_of_le hm this
/-! ### what a call leaves -/
/-- It only reckons: a value, the same world. -/
def Ret (w : World) (P : Value → Prop) (e : Ending) (w' : World) : Prop := (∃ v, e = .returned v ∧ P v) ∧ w = w'
/-- A value; nothing that was is turned. -/
def RetB (w : World) (P : Value → World → Prop) (e : Ending) (w' : World) : Prop := (∃ v, e = .returned v ∧ P v w') ∧ Below w.heap.size w w'
theorem Ret.mk {w : World} {P : Value → Prop} {v : Value} (h : P v) : Ret w P (.returned v) w := ⟨⟨v, rfl, h⟩, rfl⟩
theorem RetB.mk {w w' : World} {P : Value → World → Prop} {v : Value} (h : P v w') (hb : Below w.heap.size w w') : RetB w P (.returned v) w' := ⟨⟨v, rfl, h⟩, hb⟩
/-- This lemma strips noughts: what trim leaves. -/
theorem strip_ok {xs : List Int} (h : Okl xs) {m : Nat} (hm : m ≤ xs.length) (hz : ∀ j, m ≤ j → j < xs.length → lim xs j = 0) (ht : 0 < m → lim xs (m - 1) ≠ 0) : Norm (xs.take m) ∧ lv (xs.take m) = lv xs := by
  refine ⟨⟨h.take m, fun hn => ?_⟩, ?_⟩
  · have h0 : 0 < m := by
      rcases Nat.eq_zero_or_pos m with rfl | h0
      · simp at hn
      · exact h0
    have := ht h0
    unfold lim at this
    rw [List.getLast_eq_getElem]
    simp only [List.length_take, Nat.min_eq_left hm, List.getElem_take]
    rwa [List.getD_eq_getElem?_getD, List.getElem?_eq_getElem (by omega)] at this
  · rw [lv_take_drop xs m hm]
    have : xs.drop m = List.replicate (xs.length - m) 0 := by
      refine List.ext_getElem (by simp) fun i h1 h2 => ?_
      simp only [List.getElem_drop, List.getElem_replicate]
      have := hz (m + i) (by omega) (by simp at h1; omega)
      unfold lim at this
      rwa [List.getD_eq_getElem?_getD, List.getElem?_eq_getElem (by simp at h1; omega)] at this
    rw [this, lv_zeros]; simp
end Go.Proofs.Ytcabnnfhcolcfaa
