/- The walk of quat.Product. -/
import Derived.Test.YtcabnnfhcolcfaaR4
import Derived.Deep.LoopGhost
namespace Go.Proofs.Ytcabnnfhcolcfaa
set_option linter.unusedSimpArgs false
set_option linter.unusedVariables false
open Go.RowKit

def term (z y : Nat → Int) (i k : Nat) : Int := R i k 1 * (z k * y (R i k 0).toNat)
def psum (z y : Nat → Int) (i : Nat) : Nat → Int
  | 0 => 0
  | k + 1 => psum z y i k + term z y i k
def st (z y : Nat → Int) (i k : Nat) : Nat → Int := fun j => if j < i then psum z y j 4 else if j = i then psum z y i k else 0
theorem st_zero (z y : Nat → Int) : st z y 0 0 = fun _ => 0 := by
  funext j; unfold st; rw [if_neg (by omega)]; split <;> rfl
theorem st_next (z y : Nat → Int) (i : Nat) : st z y i 4 = st z y (i + 1) 0 := by
  funext j; unfold st
  by_cases h : j < i
  · rw [if_pos h, if_pos (by omega)]
  · rw [if_neg h]
    by_cases h2 : j = i
    · subst h2; rw [if_pos rfl, if_pos (by omega)]
    · rw [if_neg h2, if_neg (by omega)]; split <;> rfl
theorem st_same (z y : Nat → Int) (i k : Nat) : st z y i k i = psum z y i k := by unfold st; rw [if_neg (by omega), if_pos rfl]
theorem st_upd (z y : Nat → Int) (i k : Nat) : upd (st z y i k) i (psum z y i (k + 1)) = st z y i (k + 1) := by
  funext j; unfold st upd
  by_cases h : j = i
  · subst h; rw [if_pos rfl, if_neg (by omega), if_pos rfl]
  · simp only [h, if_false]
theorem st_end (z y : Nat → Int) (j : Nat) (hj : j < 4) : st z y 4 0 j = psum z y j 4 := by unfold st; rw [if_pos hj]
theorem term_sp {P P2 : Nat} {z y : Nat → Int} (hz : ∀ k, k < 4 → Sp P (z k)) (hy : ∀ k, k < 4 → Sp P2 (y k)) (i k : Nat) (hi : i < 4) (hk : k < 4) : Sp (P + P2) (term z y i k) := by
  obtain ⟨⟨h1, h2⟩, h3⟩ := R_bd i hi k hk
  have h4 := (hz k hk).mul (hy (R i k 0).toNat (by omega))
  unfold term
  rcases h3 with h | h <;> rw [h]
  · rw [Int.one_mul]; exact h4
  · rw [show -1 * (z k * y (R i k 0).toNat) = -(z k * y (R i k 0).toNat) by omega]; exact h4.neg
theorem psum_sp {P P2 : Nat} {z y : Nat → Int} (hz : ∀ k, k < 4 → Sp P (z k)) (hy : ∀ k, k < 4 → Sp P2 (y k)) (i : Nat) (hi : i < 4) : ∀ k, k ≤ 4 → Sp (k * (P + P2 + 1) + 1) (psum z y i k)
  | 0, _ => ⟨1, by omega, by simp [psum], by simp [psum]⟩
  | k + 1, h => by
    have h1 := (psum_sp hz hy i hi k (by omega)).add (term_sp hz hy i k hi (by omega))
    unfold psum
    refine h1.mono ?_
    rw [Nat.add_mul]; omega
theorem prod_w (a b c d e f g h : Int) : psum (pick4 a b c d) (pick4 e f g h) 0 4 = pw a b c d e f g h := by simp [psum, term, R, pick4, pw]; omega
theorem prod_x (a b c d e f g h : Int) : psum (pick4 a b c d) (pick4 e f g h) 1 4 = px a b c d e f g h := by simp [psum, term, R, pick4, px]; omega
theorem prod_y (a b c d e f g h : Int) : psum (pick4 a b c d) (pick4 e f g h) 2 4 = py a b c d e f g h := by simp [psum, term, R, pick4, py]; omega
theorem prod_z (a b c d e f g h : Int) : psum (pick4 a b c d) (pick4 e f g h) 3 4 = pz a b c d e f g h := by simp [psum, term, R, pick4, pz]; omega
/-- Stores elsewhere. -/
theorem FBox.far {W : World} {g g2 : Nat} {f f2 : Nat → Bool} {A A2 : Nat → Option Addr} {n c n2 c2 : Nat → Nat} {z z2 : Nat → Int} (h : FBox W g f A n c z) (k : FBox W g2 f2 A2 n2 c2 z2) (hne : g2 ≠ g) (j : Nat) (hj : j < 4) (u v : Value) :
    FBox ((W.setCell ⟨g2, j * 2, none⟩ u).setCell ⟨g2, j * 2 + 1, none⟩ v) g f A n c z := by
  refine ⟨by simpa using h.lt, fun i hi => cell_far (cell_far (h.c0 i hi) hne) hne, fun i hi => cell_far (cell_far (h.c1 i hi) hne) hne, fun i => ?_, ⟨fun i hi => stored_box k j hj (h.int.int i hi)⟩⟩
  have := h.f0 i; simpa [go_sem] using this
theorem FBox.farI {W : World} {g g2 : Nat} {f : Nat → Bool} {A : Nat → Option Addr} {n c : Nat → Nat} {z : Nat → Int} {f2 : Bool} {A2 : Option Addr} {n2 c2 : Nat} {z2 : Int} (h : FBox W g f A n c z) (k : IBox W g2 f2 A2 n2 c2 z2) (hne : g2 ≠ g) (u v : Value) :
    FBox ((W.setCell ⟨g2, 0, none⟩ u).setCell ⟨g2, 1, none⟩ v) g f A n c z := by
  refine ⟨by simpa using h.lt, fun i hi => cell_far (cell_far (h.c0 i hi) hne) hne, fun i hi => cell_far (cell_far (h.c1 i hi) hne) hne, fun i => ?_, ⟨fun i hi => (h.int.int i hi).put2 k.c0 k.c1 _ _⟩⟩
  have := h.f0 i; simpa [go_sem] using this
theorem IBox.farF {W : World} {g g2 : Nat} {f : Nat → Bool} {A : Nat → Option Addr} {n c : Nat → Nat} {z : Nat → Int} {f2 : Bool} {A2 : Option Addr} {n2 c2 : Nat} {z2 : Int} (h : IBox W g f2 A2 n2 c2 z2) (k : FBox W g2 f A n c z) (hne : g2 ≠ g) (j : Nat) (hj : j < 4) (u v : Value) :
    IBox ((W.setCell ⟨g2, j * 2, none⟩ u).setCell ⟨g2, j * 2 + 1, none⟩ v) g f2 A2 n2 c2 z2 := by
  refine ⟨by simpa using h.lt, cell_far (cell_far h.c0 hne) hne, cell_far (cell_far h.c1 hne) hne, ?_, ?_, stored_box k j hj h.int⟩
  · have := h.f0; simpa [go_sem] using this
  · have := h.f1; simpa [go_sem] using this
set_option maxHeartbeats 4000000 in
set_option maxRecDepth 100000 in
theorem product_any (v u : Value) (z y : Nat → Int) (P P2 : Nat) (w : World) (hv : FourAt w v z) (hu : FourAt w u y) (hz : ∀ k, k < 4 → Sp P (z k)) (hy : ∀ k, k < 4 → Sp P2 (y k)) (hP : P ≤ 1000000) (hP2 : P2 ≤ 1000000) :
    Calls Try.prog 59 #[v, u] w (RetB w fun r w' => FourAt w' r (fun j => psum z y j 4)) := by
  obtain ⟨fp, Ap, np, cp, rfl, hF⟩ := hv
  obtain ⟨fq, Aq, nq, cq, rfl, hG⟩ := hu
  have BP0 := Lib.hid (((FBox.made (W := w) rfl hF 94).alloc (.cells #[.bool (fq 0), .slice (Aq 0) (nq 0) (cq 0), .bool (fq 1), .slice (Aq 1) (nq 1) (cq 1), .bool (fq 2), .slice (Aq 2) (nq 2) (cq 2), .bool (fq 3), .slice (Aq 3) (nq 3) (cq 3)] 94)).alloc (.cells #[.bool false, .slice none 0 0, .bool false, .slice none 0 0, .bool false, .slice none 0 0, .bool false, .slice none 0 0] 94))
  have BQ0 := Lib.hid ((FBox.made (W := w.alloc (.cells #[.bool (fp 0), .slice (Ap 0) (np 0) (cp 0), .bool (fp 1), .slice (Ap 1) (np 1) (cp 1), .bool (fp 2), .slice (Ap 2) (np 2) (cp 2), .bool (fp 3), .slice (Ap 3) (np 3) (cp 3)] 94)) (g := w.heap.size + 1) (by simp) (hG.alloc _) 94).alloc (.cells #[.bool false, .slice none 0 0, .bool false, .slice none 0 0, .bool false, .slice none 0 0, .bool false, .slice none 0 0] 94))
  have BR0 := Lib.hid (FBox.nil (W := (w.alloc (.cells #[.bool (fp 0), .slice (Ap 0) (np 0) (cp 0), .bool (fp 1), .slice (Ap 1) (np 1) (cp 1), .bool (fp 2), .slice (Ap 2) (np 2) (cp 2), .bool (fp 3), .slice (Ap 3) (np 3) (cp 3)] 94)).alloc (.cells #[.bool (fq 0), .slice (Aq 0) (nq 0) (cq 0), .bool (fq 1), .slice (Aq 1) (nq 1) (cq 1), .bool (fq 2), .slice (Aq 2) (nq 2) (cq 2), .bool (fq 3), .slice (Aq 3) (nq 3) (cq 3)] 94)) (g := w.heap.size + 1 + 1) (by simp) 94)
  have BE0 := Lib.hid (show Below w.heap.size w (((w.alloc (.cells #[.bool (fp 0), .slice (Ap 0) (np 0) (cp 0), .bool (fp 1), .slice (Ap 1) (np 1) (cp 1), .bool (fp 2), .slice (Ap 2) (np 2) (cp 2), .bool (fp 3), .slice (Ap 3) (np 3) (cp 3)] 94)).alloc (.cells #[.bool (fq 0), .slice (Aq 0) (nq 0) (cq 0), .bool (fq 1), .slice (Aq 1) (nq 1) (cq 1), .bool (fq 2), .slice (Aq 2) (nq 2) (cq 2), .bool (fq 3), .slice (Aq 3) (nq 3) (cq 3)] 94)).alloc (.cells #[.bool false, .slice none 0 0, .bool false, .slice none 0 0, .bool false, .slice none 0 0, .bool false, .slice none 0 0] 94)) from ((below_alloc _ _).alloc (by simp) _).alloc (by simp; omega) _)
  have HT := Lib.hid (fun (i k : Nat) (hi : i < 4) (hk : k < 4) => term_sp hz hy i k hi hk)
  have HPS := Lib.hid (fun (i k : Nat) (hi : i < 4) (hk : k ≤ 4) => (psum_sp hz hy i hi k hk).mono (show k * (P + P2 + 1) + 1 ≤ 4 * (P + P2 + 1) + 1 by have := Nat.mul_le_mul_right (P + P2 + 1) hk; omega))
  have HZ := Lib.hid (And.intro hz hy)
  clear hF hG hz hy
  unfold fourV
  go_enter Try.func59, Try.ntmps59
  go_wp2_with (go_at_call 107; (with_reducible refine (rows_any _).mono ?_); rintro e w1 ⟨⟨v1, rfl, rfl⟩, hb1⟩; (obtain ⟨hc1, hf1⟩ := bcell hb1); (have hs1 := hb1.size); (try simp at hs1))
  have BP := Lib.hid (BP0.out.later hb1)
  have BQ := Lib.hid (BQ0.out.later hb1)
  have BR := Lib.hid (BR0.out.later hb1)
  have BE := Lib.hid (show Below w.heap.size w w1 from below_after hb1 BE0.out BE0.out.size)
  clear BP0 BQ0 BR0 BE0 hc1 hf1 hb1 hs1
  obtain ⟨W1, hW1⟩ : ∃ W, w1 = W := ⟨_, rfl⟩
  rw [hW1] at BP BQ BR BE ⊢
  clear hW1
  go_loopw [11] (fun i wr => ∃ (k : Nat) (f : Nat → Bool) (A : Nat → Option Addr) (n c : Nat → Nat), k ≤ 4 ∧ i = .int .i64 k ∧ Hid (FBox wr (w.heap.size + 1 + 1) f A n c (st z y k 0)) ∧ Hid (FBox wr w.heap.size fp Ap np cp z) ∧ Hid (FBox wr (w.heap.size + 1) fq Aq nq cq y) ∧ Hid (Below w.heap.size w wr)) (fun i _ => 4 - (intOf i).toNat)
  case atStart => exact ⟨0, _, _, _, _, by omega, rfl, Lib.hid (by rw [st_zero]; exact BR.out), BP, BQ, BE⟩
  case round =>
    clear BP BQ BR BE
    obtain ⟨i, f, A, n, c, hi, rfl, BR, BP, BQ, BE⟩ := hrel
    obtain ⟨wo, hwo⟩ : ∃ wo : World, wr = wo := ⟨_, rfl⟩
    rw [hwo] at BR BP BQ BE ⊢
    clear hwo
    by_cases hlt : i < 4
    · have hdi : decide ((i : Int) < 4) = true := decide_eq_true (by omega)
      have HIX := index_rows i hlt
      unfold rowV at HIX
      go_wp2
      have BR := Lib.hid (BR.out.alloc (.cells #[.int .i64 (R i 0 0), .int .i64 (R i 0 1), .int .i64 (R i 1 0), .int .i64 (R i 1 1), .int .i64 (R i 2 0), .int .i64 (R i 2 1), .int .i64 (R i 3 0), .int .i64 (R i 3 1)] 138))
      have BP := Lib.hid (BP.out.alloc (.cells #[.int .i64 (R i 0 0), .int .i64 (R i 0 1), .int .i64 (R i 1 0), .int .i64 (R i 1 1), .int .i64 (R i 2 0), .int .i64 (R i 2 1), .int .i64 (R i 3 0), .int .i64 (R i 3 1)] 138))
      have BQ := Lib.hid (BQ.out.alloc (.cells #[.int .i64 (R i 0 0), .int .i64 (R i 0 1), .int .i64 (R i 1 0), .int .i64 (R i 1 1), .int .i64 (R i 2 0), .int .i64 (R i 2 1), .int .i64 (R i 3 0), .int .i64 (R i 3 1)] 138))
      have BE := Lib.hid (BE.out.alloc BE.out.size (.cells #[.int .i64 (R i 0 0), .int .i64 (R i 0 1), .int .i64 (R i 1 0), .int .i64 (R i 1 1), .int .i64 (R i 2 0), .int .i64 (R i 2 1), .int .i64 (R i 3 0), .int .i64 (R i 3 1)] 138))
      obtain ⟨WI, hWI⟩ : ∃ W, (wo.alloc (.cells #[.int .i64 (R i 0 0), .int .i64 (R i 0 1), .int .i64 (R i 1 0), .int .i64 (R i 1 1), .int .i64 (R i 2 0), .int .i64 (R i 2 1), .int .i64 (R i 3 0), .int .i64 (R i 3 1)] 138)) = W := ⟨_, rfl⟩
      rw [hWI] at BR BP BQ BE ⊢
      clear hWI HIX hdi
      go_loopw [16] (fun q wr => ∃ (k : Nat) (f : Nat → Bool) (A : Nat → Option Addr) (n c : Nat → Nat), k ≤ 4 ∧ q = .int .i64 k ∧ Hid (FBox wr (w.heap.size + 1 + 1) f A n c (st z y i k)) ∧ Hid (FBox wr w.heap.size fp Ap np cp z) ∧ Hid (FBox wr (w.heap.size + 1) fq Aq nq cq y) ∧ Hid (Below w.heap.size w wr)) (fun q _ => 4 - (intOf q).toNat)
      case atStart => exact ⟨0, _, _, _, _, by omega, rfl, BR, BP, BQ, BE⟩
      case round =>
        clear BR BP BQ BE
        obtain ⟨k, f, A, n, c, hk, rfl, BR, BP, BQ, BE⟩ := hrel
        by_cases hkl : k < 4
        · have HIY := index_row i k hkl
          unfold rowV pairV at HIY
          obtain ⟨⟨r0, r4⟩, rs⟩ := R_bd i hlt k hkl
          obtain ⟨e, he⟩ : ∃ e : Nat, R i k 0 = (e : Int) := ⟨(R i k 0).toNat, by omega⟩
          obtain ⟨s, hs⟩ : ∃ s, R i k 1 = s := ⟨_, rfl⟩
          rw [he] at HIY r0 r4
          rw [hs] at HIY rs
          have hel : e < 4 := by omega
          obtain ⟨x0, hx0⟩ : ∃ x0, z k = x0 := ⟨_, rfl⟩
          obtain ⟨y0, hy0⟩ : ∃ y0, y e = y0 := ⟨_, rfl⟩
          obtain ⟨m0, hm0⟩ : ∃ m0, x0 * y0 = m0 := ⟨_, rfl⟩
          have spx : Sp P x0 := hx0 ▸ HZ.out.1 k hkl
          have spy : Sp P2 y0 := hy0 ▸ HZ.out.2 e hel
          have spm : Sp (P + P2) m0 := hm0 ▸ spx.mul spy
          have HM := Lib.hid (fun (v u : Value) (W : World) (h : IntAt W v x0) (k : IntAt W u y0) => mul_int v u x0 y0 m0 W h k (spx.sl (by omega)) (spy.sl (by omega)) hm0)
          obtain ⟨tt, htt⟩ : ∃ tt, s * m0 = tt := ⟨_, rfl⟩
          have htm : term z y i k = tt := by unfold term; rw [hs, he, Int.toNat_natCast, hx0, hy0, hm0, htt]
          obtain ⟨s0, hs0⟩ : ∃ s0, psum z y i k = s0 := ⟨_, rfl⟩
          obtain ⟨s1, hs1⟩ : ∃ s1, s0 + tt = s1 := ⟨_, rfl⟩
          have hps : psum z y i (k + 1) = s1 := by show psum z y i k + term z y i k = s1; rw [hs0, htm, hs1]
          have HA := Lib.hid (fun (v u : Value) (W : World) (h : IntAt W v s0) (q : IntAt W u tt) => add_int v u s0 tt s1 W h q (hs0 ▸ (HPS.out i k hlt hk).sl (by omega)) (htm ▸ (HT.out i k hlt hkl).sl (by omega)) hs1)
          have HPX := Lib.hid (And.intro hps (And.intro hs0 (And.intro hx0 hy0)))
          have sgn : (s = 1 ∧ m0 = tt) ∨ (s = -1 ∧ -m0 = tt) := by rcases rs with h | h <;> rw [h] at htt <;> omega
          have HNG := Lib.hid (fun (v : Value) (W : World) (h : IntAt W v m0) => neg_any v m0 W h (spm.sm (by omega)))
          clear he hs rs hm0 htt htm hs1 hps spx spy spm r0
          have kd : (0 : Int) ≤ (k : Int) := by omega
          have kd2 : (k : Int) < 4 := by omega
          have kd3 : decide ((k : Int) < 4) = true := decide_eq_true (by omega)
          have ed : (0 : Int) ≤ (e : Int) := by omega
          go_upto_region 7 with fail
          have BR := Lib.hid (BR.out.alloc (.cells #[.int .i64 (e : Int), .int .i64 s] 137))
          have BP := Lib.hid (BP.out.alloc (.cells #[.int .i64 (e : Int), .int .i64 s] 137))
          have BQ := Lib.hid (BQ.out.alloc (.cells #[.int .i64 (e : Int), .int .i64 s] 137))
          have BE := Lib.hid (BE.out.alloc BE.out.size (.cells #[.int .i64 (e : Int), .int .i64 s] 137))
          have t0 : (wr.alloc (.cells #[.int .i64 (e : Int), .int .i64 s] 137)).cell? ⟨wr.heap.size, 0, none⟩ = some (.int .i64 (e : Int)) := by go_simp
          have t1 : (wr.alloc (.cells #[.int .i64 (e : Int), .int .i64 s] 137)).cell? ⟨wr.heap.size, 1, none⟩ = some (.int .i64 s) := by go_simp
          have tl : wr.heap.size < (wr.alloc (.cells #[.int .i64 (e : Int), .int .i64 s] 137)).heap.size := by simp
          have bz := BE.out.size
          obtain ⟨g8, hg8⟩ : ∃ g, wr.heap.size = g := ⟨_, rfl⟩
          obtain ⟨W7, hW7⟩ : ∃ W, (wr.alloc (.cells #[.int .i64 (e : Int), .int .i64 s] 137)) = W := ⟨_, rfl⟩
          rw [hW7] at BR BP BQ BE t0 t1 tl bz
          rw [hg8] at t0 t1 tl
          rw [hg8, hW7]
          clear hg8 hW7 HIY
          have p0 := BP.out.c0 k hkl
          have p1 := BP.out.c1 k hkl
          have q0 := BQ.out.c0 e hel
          have q1 := BQ.out.c1 e hel
          have rl := BR.out.lt
          have pint := BP.out.int.int k hkl
          have qint := BQ.out.int.int e hel
          rw [hx0] at pint
          rw [hy0] at qint
          have PI := Lib.hid pint
          have QI := Lib.hid qint
          clear pint qint hx0 hy0
          (refine start_ (S := (fun w' => ((w'.cell? ⟨w.heap.size, k * 2, none⟩ = some (.bool (fp k)) ∧ w'.cell? ⟨w.heap.size, k * 2 + 1, none⟩ = some (.slice (Ap k) (np k) (cp k))) ∧ (w'.cell? ⟨w.heap.size + 1, e * 2, none⟩ = some (.bool (fq e)) ∧ w'.cell? ⟨w.heap.size + 1, e * 2 + 1, none⟩ = some (.slice (Aq e) (nq e) (cq e)))) ∧ (w'.cell? ⟨g8, 0, none⟩ = some (.int .i64 (e : Int)) ∧ w'.cell? ⟨g8, 1, none⟩ = some (.int .i64 s)))) (ds := [9]) (n := 10) #[false, false, false, false, false, false, false, false, false, false] (by kernel_rfl) rfl rfl ?_ (fun hS0 => ?_); (· exact (by (try dsimp only); ((repeat' (with_reducible apply And.intro)) <;> (first | (with_reducible assumption) | (go_split_ands; (repeat (with_reducible refine (World.cell?_setCell_far _ _ _ _ ?_).trans ?_; (· first | (dsimp only; omega) | (simp; done) | (simp; omega)))); (with_reducible assumption)) | (go_split_ands; (first | (with_reducible assumption) | go_simp); done) | (with_reducible refine (kcell (by assumption) ?_).trans ?_; (· exact (by first | (with_reducible assumption) | omega | (simp; done) | (simp; omega))); (· first | (with_reducible assumption) | (go_split_ands; with_reducible assumption))) | (go_split_ands; (repeat (first | (with_reducible assumption) | (with_reducible refine (World.cell?_setCell_far _ _ _ _ ?_).trans ?_; (· first | (dsimp only; omega) | (simp; done) | (simp; omega))) | (with_reducible refine alloc_swap (o := ?_) ?_ ?_ _; rotate_left 1; (· first | (dsimp only; omega) | (simp; done) | (simp; omega)); (· with_reducible assumption); (all_goals skip)) | (with_reducible refine alloc_keep ?_ _) | (with_reducible refine (kcell (by assumption) ?_).trans ?_; (· exact (by first | (with_reducible assumption) | omega | (simp; done) | (simp; omega)))))); done) | fail)))))
          ((refine take_ (i := 0) (N := some 20) (v := ?_) #[true, false, false, false, false, false, false, false, false, false] rfl rfl (by kernel_rfl) (fun _ _ _ h => h) (Or.inl ⟨by rfl, ?_⟩) (by with_reducible assumption) rfl ?_; rotate_left 1; (· intro w hSw; (try dsimp only at hSw); go_simp; first | done | with_reducible rfl); (try simp only [Act.put, List.setIfInBounds_toArray, List.set_cons_zero, List.set_cons_succ])); (refine take_ (i := 1) (N := some 21) (v := ?_) #[true, true, false, false, false, false, false, false, false, false] rfl rfl (by kernel_rfl) (fun _ _ _ h => h) (Or.inl ⟨by rfl, ?_⟩) (by with_reducible assumption) rfl ?_; rotate_left 1; (· intro w hSw; (try dsimp only at hSw); go_simp; first | done | with_reducible rfl); (try simp only [Act.put, List.setIfInBounds_toArray, List.set_cons_zero, List.set_cons_succ])); (refine take_ (i := 2) (N := some 22) (v := ?_) #[true, true, true, false, false, false, false, false, false, false] rfl rfl (by kernel_rfl) (fun _ _ _ h => h) (Or.inl ⟨by rfl, ?_⟩) (by with_reducible assumption) rfl ?_; rotate_left 1; (· intro w hSw; (try dsimp only at hSw); go_simp; first | done | with_reducible rfl); (try simp only [Act.put, List.setIfInBounds_toArray, List.set_cons_zero, List.set_cons_succ])); (refine take_ (i := 3) (N := some 23) (v := ?_) #[true, true, true, true, false, false, false, false, false, false] rfl rfl (by kernel_rfl) (fun _ _ _ h => h) (Or.inl ⟨by rfl, ?_⟩) (by with_reducible assumption) rfl ?_; rotate_left 1; (· intro w hSw; (try dsimp only at hSw); go_simp; first | done | with_reducible rfl); (try simp only [Act.put, List.setIfInBounds_toArray, List.set_cons_zero, List.set_cons_succ])); (refine take_ (i := 4) (N := some 24) (v := ?_) #[true, true, true, true, true, false, false, false, false, false] rfl rfl (by kernel_rfl) (fun _ _ _ h => h) (Or.inl ⟨by rfl, ?_⟩) (by with_reducible assumption) rfl ?_; rotate_left 1; (· intro w hSw; (try dsimp only at hSw); go_simp; first | done | with_reducible rfl); (try simp only [Act.put, List.setIfInBounds_toArray, List.set_cons_zero, List.set_cons_succ])); (refine take_ (i := 5) (N := some 25) (v := ?_) #[true, true, true, true, true, true, false, false, false, false] rfl rfl (by kernel_rfl) (fun _ _ _ h => h) (Or.inl ⟨by rfl, ?_⟩) (by with_reducible assumption) rfl ?_; rotate_left 1; (· intro w hSw; (try dsimp only at hSw); go_simp; first | done | with_reducible rfl); (try simp only [Act.put, List.setIfInBounds_toArray, List.set_cons_zero, List.set_cons_succ])); (refine take_ (i := 6) (N := some 26) (v := ?_) #[true, true, true, true, true, true, true, false, false, false] rfl rfl (by kernel_rfl) (fun _ _ _ h => h) (Or.inl ⟨by rfl, ?_⟩) (by with_reducible assumption) rfl ?_; rotate_left 1; (· intro w hSw; (try dsimp only at hSw); go_simp; first | done | with_reducible rfl); (try simp only [Act.put, List.setIfInBounds_toArray, List.set_cons_zero, List.set_cons_succ])))
          (refine free_ (fuel := 1) (n := 43) [(7, 27), (8, 9)] (fun i v W => if i = 7 then IntAt W v m0 else ∃ g9, v = .pointer (some ⟨g9, 0, none⟩) ∧ W7.heap.size ≤ g9 ∧ IBox W g9 false none 0 0 0) #[true, true, true, true, true, true, true, true, true, false] rfl (by kernel_rfl) ?hst ?hsst (by with_reducible assumption) ?steps ?fin)
          case hst =>
            intro i v W W' h hb
            by_cases hi7 : i = 7
            · rw [if_pos hi7] at h ⊢; exact h.below hb
            · rw [if_neg hi7] at h ⊢
              obtain ⟨g9, e1, e2, e3⟩ := h
              exact ⟨g9, e1, e2, e3.later hb⟩
          case hsst => exact fun W W' h hb => ⟨⟨⟨cell_below hb h.1.1.1, cell_below hb h.1.1.2⟩, ⟨cell_below hb h.1.2.1, cell_below hb h.1.2.2⟩⟩, ⟨cell_below hb h.2.1, cell_below hb h.2.2⟩⟩
          case steps =>
            (refine FreeSteps.cons (by rfl) ?_ (FreeSteps.cons (by rfl) ?_ (FreeSteps.nil)))
            · (intro us wq hbq hSq hdq K hK; (simp only [frameOf, Act.put, List.setIfInBounds_toArray, List.set_cons_zero, List.set_cons_succ]); go_simp; (go_at_call 108; (with_reducible refine (HM.out _ _ _ ?_ ?_).mono ?_); (· exact (PI.out.drew).below hbq); (· exact (QI.out.drew).below hbq); rintro e w3 ⟨⟨v3, rfl, hv3⟩, hb3⟩; (obtain ⟨hc3, hf3⟩ := bcell hb3); (have hs3 := hb3.size); (try simp at hs3)); go_wp2_with fail; (refine hK.out _ _ ?_ ?_); (· exact hv3); (· with_reducible assumption))
            · intro us wq hbq hSq hdq K hK
              simp only [frameOf, Act.put, List.setIfInBounds_toArray, List.set_cons_zero, List.set_cons_succ]
              go_simp
              go_wp2_with fail
              refine hK.out _ _ ?_ ?_
              · rw [if_neg (by omega)]
                exact ⟨_, rfl, hbq.size, IBox.nil _ _⟩
              · exact below_alloc _ _
          case fin =>
            intro us wq hbq hSq hdq
            have d1 : IntAt wq (us 7) m0 := by have h := hdq (7, 27) (by simp); rwa [if_pos rfl] at h
            have d2 : ∃ g9, us 8 = .pointer (some ⟨g9, 0, none⟩) ∧ W7.heap.size ≤ g9 ∧ IBox wq g9 false none 0 0 0 := by have h := hdq (8, 9) (by simp); rwa [if_neg (by omega)] at h
            obtain ⟨A4, n4, c4, e1, HN4⟩ := d1.open_
            obtain ⟨g9, e2, hg9, BI⟩ := d2
            simp only [frameOf, Act.put, List.setIfInBounds_toArray, List.set_cons_zero, List.set_cons_succ, e1, e2]
            clear d1 e1 e2 hdq
            have BRq : FBox wq (w.heap.size + 1 + 1) f A n c (st z y i k) := BR.out.drew.later hbq
            have BPq : FBox wq w.heap.size fp Ap np cp z := BP.out.drew.later hbq
            have BQq : FBox wq (w.heap.size + 1) fq Aq nq cq y := BQ.out.drew.later hbq
            have BEq : Below w.heap.size w wq := below_after hbq BE.out.drew bz
            have s1 : wq.cell? ⟨g8, 1, none⟩ = some (.int .i64 s) := hSq.2.2
            clear BR BP BQ BE t0 t1 p0 p1 q0 q1 hSq
            have c9 := BI.c0
            have c10 := BI.c1
            have c11 := BI.f0
            have c12 := BI.f1
            (refine last_ (i := 9) (N := none) #[true, true, true, true, true, true, true, true, true, true] rfl rfl (by kernel_rfl) (by simp) (fun K hK => ?_); go_simp; (refine hK.out _ _ ?_); clear hK; clear K; (try simp only [Act.put, List.setIfInBounds_toArray, List.set_cons_zero, List.set_cons_succ]))
            (refine done_ (by kernel_rfl) ?_)
            have BR9 := BRq.farI BI (show g9 ≠ w.heap.size + 1 + 1 by omega) (.bool (decide (m0 < 0))) (.slice A4 n4 c4)
            have BP9 := BPq.farI BI (show g9 ≠ w.heap.size by omega) (.bool (decide (m0 < 0))) (.slice A4 n4 c4)
            have BQ9 := BQq.farI BI (show g9 ≠ w.heap.size + 1 by omega) (.bool (decide (m0 < 0))) (.slice A4 n4 c4)
            have BI9 := BI.put (IntAt.mk HN4.out)
            have BE9 := BI.below BEq (by omega) (.bool (decide (m0 < 0))) (.slice A4 n4 c4)
            have s9 := cell_far (x := .slice A4 n4 c4) (o := 1) (cell_far (x := .bool (decide (m0 < 0))) (o := 0) s1 (show g9 ≠ g8 by omega)) (show g9 ≠ g8 by omega)
            obtain ⟨W9, hW9⟩ : ∃ W, (wq.setCell ⟨g9, 0, none⟩ (.bool (decide (m0 < 0)))).setCell ⟨g9, 1, none⟩ (.slice A4 n4 c4) = W := ⟨_, rfl⟩
            rw [hW9] at BR9 BP9 BQ9 BI9 BE9 s9 ⊢
            clear hW9 BRq BPq BQq BEq BI HN4 hbq s1 c9 c10 c11 c12
            rcases sgn with ⟨rfl, rfl⟩ | ⟨rfl, hneg⟩
            · obtain ⟨f9, hf9⟩ : ∃ f9, decide (m0 < 0) = f9 := ⟨_, rfl⟩
              rw [hf9] at BI9
              clear hf9
              have BRx := BR9
              have BPx := BP9
              have BQx := BQ9
              have BIx := BI9
              have BEx := BE9
              obtain ⟨A9, hA9⟩ : ∃ A9, A4 = A9 := ⟨_, rfl⟩
              obtain ⟨n9, hn9⟩ : ∃ n9, n4 = n9 := ⟨_, rfl⟩
              obtain ⟨c9, hc9⟩ : ∃ c9, c4 = c9 := ⟨_, rfl⟩
              rw [hA9, hn9, hc9] at BIx
              clear BR9 BP9 BQ9 BI9 BE9 hA9 hn9 hc9
              go_upto_region 10 with fail
              have idd : (0 : Int) ≤ (i : Int) := by omega
              have idd2 : (i : Int) < 4 := by omega
              have v0 := BRx.c0 i hlt
              have v1 := BRx.c1 i hlt
              have v2 := BIx.c0
              have v3 := BIx.c1
              have vint := BRx.int.int i hlt
              rw [st_same, HPX.out.2.1] at vint
              have VI := Lib.hid vint
              have ZI := Lib.hid BIx.int
              have zl := BIx.lt
              have BRh := Lib.hid BRx
              have BPh := Lib.hid BPx
              have BQh := Lib.hid BQx
              have BEh := Lib.hid BEx
              have bex := BEx.size
              have brl := BRx.lt
              clear vint BRx BPx BQx BIx BEx
              (refine start_ (S := (fun w' => (w'.cell? ⟨w.heap.size + 1 + 1, i * 2, none⟩ = some (.bool (f i)) ∧ w'.cell? ⟨w.heap.size + 1 + 1, i * 2 + 1, none⟩ = some (.slice (A i) (n i) (c i))) ∧ (w'.cell? ⟨g9, 0, none⟩ = some (.bool f9) ∧ w'.cell? ⟨g9, 1, none⟩ = some (.slice A9 n9 c9)))) (ds := [7]) (n := 8) #[false, false, false, false, false, false, false, false] (by kernel_rfl) rfl rfl ?_ (fun hS0 => ?_); (· exact (by (try dsimp only); ((repeat' (with_reducible apply And.intro)) <;> (first | (with_reducible assumption) | (go_split_ands; (repeat (with_reducible refine (World.cell?_setCell_far _ _ _ _ ?_).trans ?_; (· first | (dsimp only; omega) | (simp; done) | (simp; omega)))); (with_reducible assumption)) | (go_split_ands; (first | (with_reducible assumption) | go_simp); done) | (with_reducible refine (kcell (by assumption) ?_).trans ?_; (· exact (by first | (with_reducible assumption) | omega | (simp; done) | (simp; omega))); (· first | (with_reducible assumption) | (go_split_ands; with_reducible assumption))) | (go_split_ands; (repeat (first | (with_reducible assumption) | (with_reducible refine (World.cell?_setCell_far _ _ _ _ ?_).trans ?_; (· first | (dsimp only; omega) | (simp; done) | (simp; omega))) | (with_reducible refine alloc_swap (o := ?_) ?_ ?_ _; rotate_left 1; (· first | (dsimp only; omega) | (simp; done) | (simp; omega)); (· with_reducible assumption); (all_goals skip)) | (with_reducible refine alloc_keep ?_ _) | (with_reducible refine (kcell (by assumption) ?_).trans ?_; (· exact (by first | (with_reducible assumption) | omega | (simp; done) | (simp; omega)))))); done) | fail)))))
              ((refine take_ (i := 0) (N := some 33) (v := ?_) #[true, false, false, false, false, false, false, false] rfl rfl (by kernel_rfl) (fun _ _ _ h => h) (Or.inl ⟨by rfl, ?_⟩) (by with_reducible assumption) rfl ?_; rotate_left 1; (· intro w hSw; (try dsimp only at hSw); go_simp; first | done | with_reducible rfl); (try simp only [Act.put, List.setIfInBounds_toArray, List.set_cons_zero, List.set_cons_succ])); (refine take_ (i := 1) (N := some 34) (v := ?_) #[true, true, false, false, false, false, false, false] rfl rfl (by kernel_rfl) (fun _ _ _ h => h) (Or.inl ⟨by rfl, ?_⟩) (by with_reducible assumption) rfl ?_; rotate_left 1; (· intro w hSw; (try dsimp only at hSw); go_simp; first | done | with_reducible rfl); (try simp only [Act.put, List.setIfInBounds_toArray, List.set_cons_zero, List.set_cons_succ])); (refine take_ (i := 2) (N := some 35) (v := ?_) #[true, true, true, false, false, false, false, false] rfl rfl (by kernel_rfl) (fun _ _ _ h => h) (Or.inl ⟨by rfl, ?_⟩) (by with_reducible assumption) rfl ?_; rotate_left 1; (· intro w hSw; (try dsimp only at hSw); go_simp; first | done | with_reducible rfl); (try simp only [Act.put, List.setIfInBounds_toArray, List.set_cons_zero, List.set_cons_succ])); (refine take_ (i := 3) (N := some 36) (v := ?_) #[true, true, true, true, false, false, false, false] rfl rfl (by kernel_rfl) (fun _ _ _ h => h) (Or.inl ⟨by rfl, ?_⟩) (by with_reducible assumption) rfl ?_; rotate_left 1; (· intro w hSw; (try dsimp only at hSw); go_simp; first | done | with_reducible rfl); (try simp only [Act.put, List.setIfInBounds_toArray, List.set_cons_zero, List.set_cons_succ])); (refine take_ (i := 4) (N := some 37) (v := ?_) #[true, true, true, true, true, false, false, false] rfl rfl (by kernel_rfl) (fun _ _ _ h => h) (Or.inl ⟨by rfl, ?_⟩) (by with_reducible assumption) rfl ?_; rotate_left 1; (· intro w hSw; (try dsimp only at hSw); go_simp; first | done | with_reducible rfl); (try simp only [Act.put, List.setIfInBounds_toArray, List.set_cons_zero, List.set_cons_succ])))
              (refine one_ (i := 5) (N := some 38) #[true, true, true, true, true, true, false, false] rfl rfl (by kernel_rfl) (by simp) (fun K hK => ?_); go_simp; (go_at_call 94; (with_reducible refine (HA.out _ _ _ ?_ ?_).mono ?_); (· exact VI.out.drew); (· exact ZI.out.drew); rintro e w11 ⟨⟨v11, rfl, hv11⟩, hb11⟩; (obtain ⟨hc11, hf11⟩ := bcell hb11); (have hs11 := hb11.size); (try simp at hs11); (obtain ⟨A11, n11, c11, rfl, HN11⟩ := hv11.open_); clear hv11; ((have BRy : FBox w11 (w.heap.size + 1 + 1) f A n c (st z y i k) := BRh.out.drew.later hb11); (have y0 := BRy.c0 i hlt); (have y1 := BRy.c1 i hlt); (have y2 := BRy.f0 (i * 2)); (have y3 := BRy.f0 (i * 2 + 1)))); go_wp2_with fail; (refine hK.out _ _ ?_ (fun hHeld => ?_)); (· exact (by (try dsimp only); ((repeat' (with_reducible apply And.intro)) <;> (first | (with_reducible assumption) | (go_split_ands; (repeat (with_reducible refine (World.cell?_setCell_far _ _ _ _ ?_).trans ?_; (· first | (dsimp only; omega) | (simp; done) | (simp; omega)))); (with_reducible assumption)) | (go_split_ands; (first | (with_reducible assumption) | go_simp); done) | (with_reducible refine (kcell (by assumption) ?_).trans ?_; (· exact (by first | (with_reducible assumption) | omega | (simp; done) | (simp; omega))); (· first | (with_reducible assumption) | (go_split_ands; with_reducible assumption))) | (go_split_ands; (repeat (first | (with_reducible assumption) | (with_reducible refine (World.cell?_setCell_far _ _ _ _ ?_).trans ?_; (· first | (dsimp only; omega) | (simp; done) | (simp; omega))) | (with_reducible refine alloc_swap (o := ?_) ?_ ?_ _; rotate_left 1; (· first | (dsimp only; omega) | (simp; done) | (simp; omega)); (· with_reducible assumption); (all_goals skip)) | (with_reducible refine alloc_keep ?_ _) | (with_reducible refine (kcell (by assumption) ?_).trans ?_; (· exact (by first | (with_reducible assumption) | omega | (simp; done) | (simp; omega)))))); done) | fail)))); clear hK; clear K; (try simp only [Act.put, List.setIfInBounds_toArray, List.set_cons_zero, List.set_cons_succ]))
              ((refine take_ (i := 6) (N := some 39) (v := ?_) #[true, true, true, true, true, true, true, false] rfl rfl (by kernel_rfl) (fun _ _ _ h => h) (Or.inl ⟨by rfl, ?_⟩) (by with_reducible assumption) rfl ?_; rotate_left 1; (· intro w hSw; (try dsimp only at hSw); go_simp; first | done | with_reducible rfl); (try simp only [Act.put, List.setIfInBounds_toArray, List.set_cons_zero, List.set_cons_succ])))
              (refine last_ (i := 7) (N := none) #[true, true, true, true, true, true, true, true] rfl rfl (by kernel_rfl) (by simp) (fun K hK => ?_); go_simp; (refine hK.out _ _ ?_); clear hK; clear K; (try simp only [Act.put, List.setIfInBounds_toArray, List.set_cons_zero, List.set_cons_succ]))
              (refine done_ (by kernel_rfl) ?_)
              go_wp2
              go_roundw
              case rel =>
                have be11 : Below w.heap.size w w11 := below_after hb11 BEh.out.drew bex
                exact ⟨k + 1, _, _, _, _, by omega, by go_num, Lib.hid (by rw [← st_upd, HPX.out.1]; exact BRy.put i hlt (IntAt.mk HN11.out)), Lib.hid ((BPh.out.drew.later hb11).far BRy (by omega) i hlt _ _), Lib.hid ((BQh.out.drew.later hb11).far BRy (by omega) i hlt _ _), Lib.hid (FBox.below be11 (by omega) _ _ _ _)⟩
              case measure => simp [intOf]; omega
            · have HN9 := Lib.hid (fun (v : Value) (W : World) (h : IntAt W v m0) => hneg ▸ HNG.out v W h)
              have BIh := Lib.hid BI9
              have k90 := BI9.c0
              have k91 := BI9.c1
              have k92 := BI9.f0
              have k93 := BI9.f1
              have l9 := BI9.lt
              go_upto_region 10 with (go_at_call 86; (with_reducible refine (HN9.out _ _ ?_).mono ?_); (· exact BIh.out.int); rintro e w10 ⟨⟨v10, rfl, hv10⟩, hb10⟩; (obtain ⟨hc10, hf10⟩ := bcell hb10); (have hs10 := hb10.size); (try simp at hs10); (obtain ⟨A10, n10, c10, rfl, HN10⟩ := hv10.open_); clear hv10; ((have BI10 := BIh.out.later hb10); (have b0 := BI10.c0); (have b1 := BI10.c1); (have b2 := BI10.f0); (have b3 := BI10.f1)))
              have BRx := (BR9.later hb10).farI BI10 (show g9 ≠ w.heap.size + 1 + 1 by omega) (.bool (decide (tt < 0))) (.slice A10 n10 c10)
              have BPx := (BP9.later hb10).farI BI10 (show g9 ≠ w.heap.size by omega) (.bool (decide (tt < 0))) (.slice A10 n10 c10)
              have BQx := (BQ9.later hb10).farI BI10 (show g9 ≠ w.heap.size + 1 by omega) (.bool (decide (tt < 0))) (.slice A10 n10 c10)
              have BIx := BI10.put (IntAt.mk HN10.out)
              have BEx := BI10.below (below_after hb10 BE9 BE9.size) (by omega) (.bool (decide (tt < 0))) (.slice A10 n10 c10)
              obtain ⟨W10, hW10⟩ : ∃ W, (w10.setCell ⟨g9, 0, none⟩ (.bool (decide (tt < 0)))).setCell ⟨g9, 1, none⟩ (.slice A10 n10 c10) = W := ⟨_, rfl⟩
              rw [hW10] at BRx BPx BQx BIx BEx ⊢
              clear hW10 BR9 BP9 BQ9 BI9 BE9 BIh k90 k91 k92 k93 l9 BI10 b0 b1 b2 b3 hc10 hf10 hb10 hs10 HN10
              obtain ⟨f9, hf9⟩ : ∃ f9, decide (tt < 0) = f9 := ⟨_, rfl⟩
              obtain ⟨A9, hA9⟩ : ∃ A9, A10 = A9 := ⟨_, rfl⟩
              obtain ⟨n9, hn9⟩ : ∃ n9, n10 = n9 := ⟨_, rfl⟩
              obtain ⟨c9, hc9⟩ : ∃ c9, c10 = c9 := ⟨_, rfl⟩
              rw [hf9, hA9, hn9, hc9] at BIx
              clear hf9 hA9 hn9 hc9
              have idd : (0 : Int) ≤ (i : Int) := by omega
              have idd2 : (i : Int) < 4 := by omega
              have v0 := BRx.c0 i hlt
              have v1 := BRx.c1 i hlt
              have v2 := BIx.c0
              have v3 := BIx.c1
              have vint := BRx.int.int i hlt
              rw [st_same, HPX.out.2.1] at vint
              have VI := Lib.hid vint
              have ZI := Lib.hid BIx.int
              have zl := BIx.lt
              have BRh := Lib.hid BRx
              have BPh := Lib.hid BPx
              have BQh := Lib.hid BQx
              have BEh := Lib.hid BEx
              have bex := BEx.size
              have brl := BRx.lt
              clear vint BRx BPx BQx BIx BEx
              (refine start_ (S := (fun w' => (w'.cell? ⟨w.heap.size + 1 + 1, i * 2, none⟩ = some (.bool (f i)) ∧ w'.cell? ⟨w.heap.size + 1 + 1, i * 2 + 1, none⟩ = some (.slice (A i) (n i) (c i))) ∧ (w'.cell? ⟨g9, 0, none⟩ = some (.bool f9) ∧ w'.cell? ⟨g9, 1, none⟩ = some (.slice A9 n9 c9)))) (ds := [7]) (n := 8) #[false, false, false, false, false, false, false, false] (by kernel_rfl) rfl rfl ?_ (fun hS0 => ?_); (· exact (by (try dsimp only); ((repeat' (with_reducible apply And.intro)) <;> (first | (with_reducible assumption) | (go_split_ands; (repeat (with_reducible refine (World.cell?_setCell_far _ _ _ _ ?_).trans ?_; (· first | (dsimp only; omega) | (simp; done) | (simp; omega)))); (with_reducible assumption)) | (go_split_ands; (first | (with_reducible assumption) | go_simp); done) | (with_reducible refine (kcell (by assumption) ?_).trans ?_; (· exact (by first | (with_reducible assumption) | omega | (simp; done) | (simp; omega))); (· first | (with_reducible assumption) | (go_split_ands; with_reducible assumption))) | (go_split_ands; (repeat (first | (with_reducible assumption) | (with_reducible refine (World.cell?_setCell_far _ _ _ _ ?_).trans ?_; (· first | (dsimp only; omega) | (simp; done) | (simp; omega))) | (with_reducible refine alloc_swap (o := ?_) ?_ ?_ _; rotate_left 1; (· first | (dsimp only; omega) | (simp; done) | (simp; omega)); (· with_reducible assumption); (all_goals skip)) | (with_reducible refine alloc_keep ?_ _) | (with_reducible refine (kcell (by assumption) ?_).trans ?_; (· exact (by first | (with_reducible assumption) | omega | (simp; done) | (simp; omega)))))); done) | fail)))))
              ((refine take_ (i := 0) (N := some 33) (v := ?_) #[true, false, false, false, false, false, false, false] rfl rfl (by kernel_rfl) (fun _ _ _ h => h) (Or.inl ⟨by rfl, ?_⟩) (by with_reducible assumption) rfl ?_; rotate_left 1; (· intro w hSw; (try dsimp only at hSw); go_simp; first | done | with_reducible rfl); (try simp only [Act.put, List.setIfInBounds_toArray, List.set_cons_zero, List.set_cons_succ])); (refine take_ (i := 1) (N := some 34) (v := ?_) #[true, true, false, false, false, false, false, false] rfl rfl (by kernel_rfl) (fun _ _ _ h => h) (Or.inl ⟨by rfl, ?_⟩) (by with_reducible assumption) rfl ?_; rotate_left 1; (· intro w hSw; (try dsimp only at hSw); go_simp; first | done | with_reducible rfl); (try simp only [Act.put, List.setIfInBounds_toArray, List.set_cons_zero, List.set_cons_succ])); (refine take_ (i := 2) (N := some 35) (v := ?_) #[true, true, true, false, false, false, false, false] rfl rfl (by kernel_rfl) (fun _ _ _ h => h) (Or.inl ⟨by rfl, ?_⟩) (by with_reducible assumption) rfl ?_; rotate_left 1; (· intro w hSw; (try dsimp only at hSw); go_simp; first | done | with_reducible rfl); (try simp only [Act.put, List.setIfInBounds_toArray, List.set_cons_zero, List.set_cons_succ])); (refine take_ (i := 3) (N := some 36) (v := ?_) #[true, true, true, true, false, false, false, false] rfl rfl (by kernel_rfl) (fun _ _ _ h => h) (Or.inl ⟨by rfl, ?_⟩) (by with_reducible assumption) rfl ?_; rotate_left 1; (· intro w hSw; (try dsimp only at hSw); go_simp; first | done | with_reducible rfl); (try simp only [Act.put, List.setIfInBounds_toArray, List.set_cons_zero, List.set_cons_succ])); (refine take_ (i := 4) (N := some 37) (v := ?_) #[true, true, true, true, true, false, false, false] rfl rfl (by kernel_rfl) (fun _ _ _ h => h) (Or.inl ⟨by rfl, ?_⟩) (by with_reducible assumption) rfl ?_; rotate_left 1; (· intro w hSw; (try dsimp only at hSw); go_simp; first | done | with_reducible rfl); (try simp only [Act.put, List.setIfInBounds_toArray, List.set_cons_zero, List.set_cons_succ])))
              (refine one_ (i := 5) (N := some 38) #[true, true, true, true, true, true, false, false] rfl rfl (by kernel_rfl) (by simp) (fun K hK => ?_); go_simp; (go_at_call 94; (with_reducible refine (HA.out _ _ _ ?_ ?_).mono ?_); (· exact VI.out.drew); (· exact ZI.out.drew); rintro e w11 ⟨⟨v11, rfl, hv11⟩, hb11⟩; (obtain ⟨hc11, hf11⟩ := bcell hb11); (have hs11 := hb11.size); (try simp at hs11); (obtain ⟨A11, n11, c11, rfl, HN11⟩ := hv11.open_); clear hv11; ((have BRy : FBox w11 (w.heap.size + 1 + 1) f A n c (st z y i k) := BRh.out.drew.later hb11); (have y0 := BRy.c0 i hlt); (have y1 := BRy.c1 i hlt); (have y2 := BRy.f0 (i * 2)); (have y3 := BRy.f0 (i * 2 + 1)))); go_wp2_with fail; (refine hK.out _ _ ?_ (fun hHeld => ?_)); (· exact (by (try dsimp only); ((repeat' (with_reducible apply And.intro)) <;> (first | (with_reducible assumption) | (go_split_ands; (repeat (with_reducible refine (World.cell?_setCell_far _ _ _ _ ?_).trans ?_; (· first | (dsimp only; omega) | (simp; done) | (simp; omega)))); (with_reducible assumption)) | (go_split_ands; (first | (with_reducible assumption) | go_simp); done) | (with_reducible refine (kcell (by assumption) ?_).trans ?_; (· exact (by first | (with_reducible assumption) | omega | (simp; done) | (simp; omega))); (· first | (with_reducible assumption) | (go_split_ands; with_reducible assumption))) | (go_split_ands; (repeat (first | (with_reducible assumption) | (with_reducible refine (World.cell?_setCell_far _ _ _ _ ?_).trans ?_; (· first | (dsimp only; omega) | (simp; done) | (simp; omega))) | (with_reducible refine alloc_swap (o := ?_) ?_ ?_ _; rotate_left 1; (· first | (dsimp only; omega) | (simp; done) | (simp; omega)); (· with_reducible assumption); (all_goals skip)) | (with_reducible refine alloc_keep ?_ _) | (with_reducible refine (kcell (by assumption) ?_).trans ?_; (· exact (by first | (with_reducible assumption) | omega | (simp; done) | (simp; omega)))))); done) | fail)))); clear hK; clear K; (try simp only [Act.put, List.setIfInBounds_toArray, List.set_cons_zero, List.set_cons_succ]))
              ((refine take_ (i := 6) (N := some 39) (v := ?_) #[true, true, true, true, true, true, true, false] rfl rfl (by kernel_rfl) (fun _ _ _ h => h) (Or.inl ⟨by rfl, ?_⟩) (by with_reducible assumption) rfl ?_; rotate_left 1; (· intro w hSw; (try dsimp only at hSw); go_simp; first | done | with_reducible rfl); (try simp only [Act.put, List.setIfInBounds_toArray, List.set_cons_zero, List.set_cons_succ])))
              (refine last_ (i := 7) (N := none) #[true, true, true, true, true, true, true, true] rfl rfl (by kernel_rfl) (by simp) (fun K hK => ?_); go_simp; (refine hK.out _ _ ?_); clear hK; clear K; (try simp only [Act.put, List.setIfInBounds_toArray, List.set_cons_zero, List.set_cons_succ]))
              (refine done_ (by kernel_rfl) ?_)
              go_wp2
              go_roundw
              case rel =>
                have be11 : Below w.heap.size w w11 := below_after hb11 BEh.out.drew bex
                exact ⟨k + 1, _, _, _, _, by omega, by go_num, Lib.hid (by rw [← st_upd, HPX.out.1]; exact BRy.put i hlt (IntAt.mk HN11.out)), Lib.hid ((BPh.out.drew.later hb11).far BRy (by omega) i hlt _ _), Lib.hid ((BQh.out.drew.later hb11).far BRy (by omega) i hlt _ _), Lib.hid (FBox.below be11 (by omega) _ _ _ _)⟩
              case measure => simp [intOf]; omega
        · obtain rfl : k = 4 := by omega
          go_wp2
          go_roundw
          case rel => exact ⟨i + 1, _, _, _, _, by omega, by go_num, Lib.hid (by rw [← st_next]; exact BR.out), BP, BQ, BE⟩
          case measure => simp [intOf]; omega
    · obtain rfl : i = 4 := by omega
      have BRx := BR.out
      ((obtain ⟨⟨BRx_c0, BRx_c1, BRx_c2, BRx_c3⟩, ⟨BRx_c4, BRx_c5, BRx_c6, BRx_c7⟩⟩ := (BRx).at4); (have BRx_g0 := (BRx).f0 0); (have BRx_g1 := (BRx).f0 1); (have BRx_g2 := (BRx).f0 2); (have BRx_g3 := (BRx).f0 3); (have BRx_g4 := (BRx).f0 4); (have BRx_g5 := (BRx).f0 5); (have BRx_g6 := (BRx).f0 6); (have BRx_g7 := (BRx).f0 7))
      go_wp2
      have BF := BRx.again4
      obtain ⟨⟨r0, r1, r2, r3⟩, ⟨r4, r5, r6, r7⟩⟩ := BF.at4
      refine bodyPost_ret (v := fourV f A n c) (by simp [results, Try.results59, go_sem, fourV, r0, r1, r2, r3, r4, r5, r6, r7]) rfl ?_
      exact RetB.mk (FourAt.congr ⟨_, _, _, _, rfl, BF.int⟩ (fun j hj => st_end z y j hj)) (below8 BE.out (by omega) _ _ _ _ _ _ _ _)
end Go.Proofs.Ytcabnnfhcolcfaa
