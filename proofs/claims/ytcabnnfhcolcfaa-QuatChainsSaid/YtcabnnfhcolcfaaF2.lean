/- The walk of fx.Floor: the root rounded down, by Newton's steps. -/
import Derived.Test.YtcabnnfhcolcfaaI1
import Derived.Deep.LoopGhost
import Derived.Deep.Cut
import Derived.Deep.CutRange
namespace Go.Proofs.Ytcabnnfhcolcfaa
set_option linter.unusedSimpArgs false
set_option linter.unusedVariables false
open Go.RowKit

/-! ### numbers -/
/-- One step of Newton's is never below the root. -/
theorem newton_ge (n x : Int) (hn : 0 ≤ n) (hx : 0 < x) : fl n ≤ (x + n / x) / 2 := by
  obtain ⟨k0, k1, k2⟩ := fl_spec n hn
  generalize fl n = r at *
  have h1 := Int.emod_add_mul_ediv n x
  have h2 := Int.emod_lt_of_pos n hx
  have h3 := Int.emod_nonneg n (show x ≠ 0 by omega)
  obtain ⟨q, hq⟩ : ∃ q, n / x = q := ⟨_, rfl⟩
  rw [hq] at h1 ⊢
  refine Classical.byContradiction fun hc => ?_
  have h5 : x + q + 1 ≤ 2 * r - 1 + 1 := by omega
  -- (x - r)^2 ≥ 0 gives x (x + q + 1) ≥ ... > 2 r x
  have h6 := sq_nonneg (x - r)
  have h7 : n < x * q + x := by omega
  have h8 : x * (x + q + 1) ≤ x * (2 * r) := Int.mul_le_mul_of_nonneg_left (by omega) (by omega)
  have h9 : x * (x + q + 1) = x * x + (x * q + x) := by grind
  have h10 : (x - r) * (x - r) = x * x - x * (2 * r) + r * r := by grind
  omega
/-- Where Newton's step goes no lower, the root is there. -/
theorem newton_end (n x : Int) (hn : 0 ≤ n) (hx : 0 < x) (hr : fl n ≤ x) (hy : x ≤ (x + n / x) / 2) : fl n = x := by
  obtain ⟨k0, k1, k2⟩ := fl_spec n hn
  have h1 := Int.emod_add_mul_ediv n x
  have h3 := Int.emod_nonneg n (show x ≠ 0 by omega)
  obtain ⟨q, hq⟩ : ∃ q, n / x = q := ⟨_, rfl⟩
  rw [hq] at h1 hy
  have h5 : x ≤ q := by omega
  have h6 : x * x ≤ x * q := Int.mul_le_mul_of_nonneg_left h5 (by omega)
  refine Int.le_antisymm hr ?_
  have := sq_lt (a := x) (b := fl n + 1) (by omega) (by omega) (by omega)
  omega
theorem fl_pos (n : Int) (h : 0 < n) : 0 < fl n := by
  obtain ⟨k0, k1, k2⟩ := fl_spec n (by omega)
  refine Classical.byContradiction fun hc => ?_
  have : fl n = 0 := by omega
  rw [this] at k2
  omega
/-- Newton's beginning. -/
theorem newton_start (n : Int) (k : Nat) (hn : 0 ≤ n) (h : n < 2 ^ k) : fl n ≤ 2 ^ (k / 2 + 1) := by
  obtain ⟨k0, k1, k2⟩ := fl_spec n hn
  have hp := pow2_pos (k / 2 + 1)
  refine sq_le (by omega) ?_
  have e : (2 : Int) ^ (k / 2 + 1) * 2 ^ (k / 2 + 1) = 2 ^ ((k / 2 + 1) + (k / 2 + 1)) := (Int.pow_add ..).symm
  have := pow2_mono (show k ≤ (k / 2 + 1) + (k / 2 + 1) by omega)
  omega
/-- Small numbers: below 2^1000000. -/
def Sc (m : Int) : Prop := ∃ p : Nat, p ≤ 1000000 ∧ -(2 : Int) ^ p < m ∧ m < (2 : Int) ^ p
theorem Sc.sl {m : Int} (h : Sc m) : Sl m := by obtain ⟨p, hp, h⟩ := h; exact ⟨p, by omega, h⟩
theorem Sc.mk {m : Int} (p : Nat) (hp : p ≤ 1000000) (h : -(2 : Int) ^ p < m) (h2 : m < (2 : Int) ^ p) : Sc m := ⟨p, hp, h, h2⟩
set_option maxHeartbeats 2000000 in
theorem floor_pos (A : Option Addr) (n1 c1 : Nat) (n : Int) (w : World) (hv : IntAt w (.agg #[.bool false, .slice A n1 c1]) n) (hs : Sc n) (h0 : 0 < n) :
    Calls Try.prog 118 #[.agg #[.bool false, .slice A n1 c1]] w (RetB w fun r w' => IntAt w' r (fl n)) := by
  obtain ⟨r, hr⟩ : ∃ r, fl n = r := ⟨_, rfl⟩
  have hr0 := fl_pos n h0
  have HV := Lib.hid hv
  have HZ := Lib.hid (fun (W : World) (h : IntAt W (.agg #[.bool false, .slice A n1 c1]) n) => (zero_any _ n W h).mono (R' := RetB W fun r _ => r = .bool false) (by
    rintro e w' ⟨⟨v, rfl, hv⟩, hb⟩; exact ⟨⟨v, rfl, by rw [hv, decide_eq_false (by omega)]⟩, hb⟩))
  have HLEN := Lib.hid (fun (W : World) (h : IntAt W (.agg #[.bool false, .slice A n1 c1]) n) => (len_any _ n W h hs.sl.sm).mono (R' := RetB W fun r _ => ∃ k : Nat, r = .int .i64 k ∧ k ≤ 1000000 ∧ n < 2 ^ k) (by
    rintro e w' ⟨⟨v, rfl, k, hv, k1, k2, _⟩, hb⟩
    refine ⟨⟨v, rfl, k, hv, ?_, by omega⟩, hb⟩
    obtain ⟨p, hp, _, h4⟩ := hs
    rcases Nat.lt_or_ge 1000000 k with h | h
    · have h5 := k2 (by omega)
      have h6 := pow2_mono (show p ≤ k - 1 by omega)
      omega
    · exact h))
  have HS := Lib.hid (And.intro hs (And.intro h0 (And.intro hr hr0)))
  rw [hr]
  clear hv hs h0 hr hr0
  go_enter Try.func118, Try.ntmps118
  go_wp2_with (first
    | (go_at_call 68; (with_reducible refine (HZ.out _ ?_).mono ?_); (· exact (HV.out).below (by repeat (first | (with_reducible assumption) | exact Below.refl _ _ | (with_reducible refine Below.setCell ?_ (by first | (simp; done) | (simp; omega) | omega) _) | (with_reducible refine Below.alloc ?_ (by first | (simp; done) | (simp; omega) | omega) _) | (with_reducible refine below_drewN' ?_ _) | (with_reducible refine Below.drew ?_) | (refine below_after (by with_reducible assumption) ?_ (by first | (simp; done) | (simp; omega) | omega))))); rintro e w1 ⟨⟨v1, rfl, rfl⟩, hb1⟩; (obtain ⟨hc1, hf1⟩ := bcell hb1); (have hs1 := hb1.size); (try simp at hs1); (have hz1_0 : w.heap.size < w1.heap.size := by omega); (have hz1_1 : w.heap.size + 1 < w1.heap.size := by omega))
    | (go_at_call 133; (with_reducible refine (HLEN.out _ ?_).mono ?_); (· exact (HV.out).below (by repeat (first | (with_reducible assumption) | exact Below.refl _ _ | (with_reducible refine Below.setCell ?_ (by first | (simp; done) | (simp; omega) | omega) _) | (with_reducible refine Below.alloc ?_ (by first | (simp; done) | (simp; omega) | omega) _) | (with_reducible refine below_drewN' ?_ _) | (with_reducible refine Below.drew ?_) | (refine below_after (by with_reducible assumption) ?_ (by first | (simp; done) | (simp; omega) | omega))))); rintro e w2 ⟨⟨v2, rfl, hv2⟩, hb2⟩; (obtain ⟨hc2, hf2⟩ := bcell hb2); (have hs2 := hb2.size); (try simp at hs2); (have hz2_0 : w.heap.size < w2.heap.size := by omega); (have hz2_1 : w.heap.size + 1 < w2.heap.size := by omega); ((obtain ⟨k, rfl, hk, hkn⟩ := hv2); (have HK := Lib.hid hkn); clear hkn; (have kd : (0 : Int) ≤ (k : Int) / 2 := by omega); (have kd2 : (k : Int) / 2 ≤ 500000 := by omega)))
    | (go_at_call 63; (with_reducible refine (power_any (k / 2 + 1) _ _ (by omega) (by omega)).mono ?_); rintro e w3 ⟨⟨v3, rfl, hv3⟩, hb3⟩; (obtain ⟨hc3, hf3⟩ := bcell hb3); (have hs3 := hb3.size); (try simp at hs3); (have hz3_0 : w.heap.size < w3.heap.size := by omega); (have hz3_1 : w.heap.size + 1 < w3.heap.size := by omega); (obtain ⟨A3, n3, c3, rfl, HN3⟩ := hv3.open_); clear hv3))
  obtain ⟨x0, hx0⟩ : ∃ x0, (2 : Int) ^ (k / 2 + 1) = x0 := ⟨_, rfl⟩
  have hx0p : 0 < x0 := by rw [← hx0]; exact pow2_pos _
  have XH0 : Sc x0 ∧ 0 < x0 ∧ r ≤ x0 := by
    refine ⟨⟨k / 2 + 2, by omega, by have := pow2_pos (k / 2 + 2); omega, by rw [← hx0, Int.pow_succ 2 (k / 2 + 1)]; omega⟩, hx0p, ?_⟩
    have hs := HS.out
    rw [← hs.2.2.1, ← hx0]
    exact newton_start n k (by omega) HK.out
  rw [hx0] at HN3 ⊢
  have hd : decide (x0 < 0) = false := decide_eq_false (by omega)
  rw [hd]
  have IX : IntAt w3 (.agg #[.bool false, .slice A3 n3 c3]) x0 := by rw [← hd]; exact IntAt.mk HN3.out
  have hbw : Below w.heap.size w (w3.alloc (.cells #[.bool false, .slice A3 n3 c3] 81)) := (by repeat (first | (with_reducible assumption) | exact Below.refl _ _ | (with_reducible refine Below.setCell ?_ (by first | (simp; done) | (simp; omega) | omega) _) | (with_reducible refine Below.alloc ?_ (by first | (simp; done) | (simp; omega) | omega) _) | (with_reducible refine below_drewN' ?_ _) | (with_reducible refine Below.drew ?_) | (refine below_after (by with_reducible assumption) ?_ (by first | (simp; done) | (simp; omega) | omega))))
  have hb23 : Below ((w.alloc (.cells #[.bool false, .slice A n1 c1] 81)).alloc (.cells #[.bool false, .slice none 0 0] 81)).heap.size ((w.alloc (.cells #[.bool false, .slice A n1 c1] 81)).alloc (.cells #[.bool false, .slice none 0 0] 81)) w3 := Below.then_ (Below.then_ hb1 hb2) hb3
  have BA0 : IBox ((w.alloc (.cells #[.bool false, .slice A n1 c1] 81)).alloc (.cells #[.bool false, .slice none 0 0] 81)) w.heap.size false A n1 c1 n := (IBox.made HV.out _).alloc _
  have BO0 : IBox ((w.alloc (.cells #[.bool false, .slice A n1 c1] 81)).alloc (.cells #[.bool false, .slice none 0 0] 81)) (w.heap.size + 1) false none 0 0 0 := by have := IBox.nil (w.alloc (.cells #[.bool false, .slice A n1 c1] 81)) 81; simpa using this
  have BA := Lib.hid ((BA0.later hb23).alloc (.cells #[.bool false, .slice A3 n3 c3] 81))
  have BO := Lib.hid ((BO0.later hb23).alloc (.cells #[.bool false, .slice A3 n3 c3] 81))
  have BX := Lib.hid (IBox.made IX 81)
  have BE := Lib.hid hbw
  have hg : w.heap.size + 2 ≤ w3.heap.size := by have := hb23.size; simpa using this
  obtain ⟨g, hgg⟩ : ∃ g, w3.heap.size = g := ⟨_, rfl⟩
  obtain ⟨WB, hWB⟩ : ∃ WB, (w3.alloc (.cells #[.bool false, .slice A3 n3 c3] 81)) = WB := ⟨_, rfl⟩
  rw [hgg, hWB] at BX
  rw [hWB] at BA BO BE
  rw [hgg] at hg
  rw [hgg, hWB]
  have XH := Lib.hid XH0
  clear hgg hWB hbw BA0 BO0 IX HN3 hc1 hf1 hb1 hs1 hc2 hf2 hb2 hs2 hc3 hf3 hb3 hs3 hb23 hx0 hd hx0p XH0 HK kd kd2 hk HZ HLEN HV hz1_0 hz1_1 hz2_0 hz2_1 hz3_0 hz3_1
  go_loopg [] ((x0 - r).toNat) (fun m wr => ∃ (x : Int) (B : Option Addr) (nx cx : Nat), Hid (IBox wr w.heap.size false A n1 c1 n) ∧ Hid (IBox wr (w.heap.size + 1) false none 0 0 0) ∧ Hid (IBox wr g false B nx cx x) ∧ Hid (Below w.heap.size w wr) ∧ Hid (Sc x ∧ 0 < x ∧ r ≤ x ∧ (x - r).toNat ≤ m))
  case atStart => exact ⟨x0, _, _, _, BA, BO, BX, BE, Lib.hid ⟨XH.out.1, XH.out.2.1, XH.out.2.2, Nat.le_refl _⟩⟩
  case round =>
    clear BA BO BX BE XH
    obtain ⟨x, B, nx, cx, BA, BO, BX, BE, XH⟩ := hrel
    obtain ⟨q, hq⟩ : ∃ q, n / x = q := ⟨_, rfl⟩
    obtain ⟨s, hs⟩ : ∃ s, x + q = s := ⟨_, rfl⟩
    obtain ⟨y, hy⟩ : ∃ y, s / 2 ^ 1 = y := ⟨_, rfl⟩
    have hy2 : (x + n / x) / 2 = y := by rw [hq, hs]; exact hy
    obtain ⟨sn, n0, hrn, hr0⟩ := HS.out
    obtain ⟨sx, x0, hrx, hm⟩ := XH.out
    have hyr : r ≤ y := by rw [← hrn, ← hy2]; exact newton_ge n x (by omega) x0
    have hq0 : 0 ≤ q := by rw [← hq]; exact Int.ediv_nonneg (by omega) (by omega)
    have sq : Sc q := by obtain ⟨p, hp, h3, h4⟩ := sn; have := Int.ediv_le_self x (show 0 ≤ n by omega); exact ⟨p, hp, by omega, by omega⟩
    have ss : Sl s := by
      obtain ⟨p, hp, h3, h4⟩ := sq
      obtain ⟨p2, hp2, h5, h6⟩ := sx
      refine ⟨max p p2 + 1, by omega, ?_, ?_⟩ <;>
      · have := pow2_mono (show p ≤ max p p2 by omega)
        have := pow2_mono (show p2 ≤ max p p2 by omega)
        rw [Int.pow_succ]
        omega
    have HD := Lib.hid (fun (v u : Value) (W : World) (h : IntAt W v n) (k : IntAt W u x) => down_any v u n x q W h k sn.sl sx.sl x0 hq)
    have HA := Lib.hid (fun (v u : Value) (W : World) (h : IntAt W v x) (k : IntAt W u q) => add_int v u x q s W h k sx.sl sq.sl hs)
    have HR := Lib.hid (fun (v : Value) (W : World) (h : IntAt W v s) => show Calls Try.prog 85 #[v, .int .i64 1] W (RetB W fun r w' => IntAt w' r y) from right_pos v s y 1 W h ss (by omega) hy (by omega))
    have sy : Sc y := by
      obtain ⟨p, hp, h3, h4⟩ := sq
      obtain ⟨p2, hp2, h5, h6⟩ := sx
      refine ⟨max p p2, by omega, ?_, ?_⟩ <;>
      · have := pow2_mono (show p ≤ max p p2 by omega)
        have := pow2_mono (show p2 ≤ max p p2 by omega)
        omega
    have HC := Lib.hid (fun (v u : Value) (W : World) (h : IntAt W v y) (k : IntAt W u x) => Cmp_any v u y x W h k sy.sl.sm sx.sl.sm)
    have hyy : decide (y < 0) = false := decide_eq_false (by omega)
    clear hs hq hy
    ((have BA_0 := (BA.out).c0); (have BA_1 := (BA.out).c1); (have BA_2 := (BA.out).f0); (have BA_3 := (BA.out).f1); (have BA_4 := (BA.out).lt))
    ((have BX_0 := (BX.out).c0); (have BX_1 := (BX.out).c1); (have BX_2 := (BX.out).f0); (have BX_3 := (BX.out).f1); (have BX_4 := (BX.out).lt))
    have XY := Lib.hid (And.intro sx (And.intro sy (And.intro x0 (And.intro hrx (And.intro hyr (And.intro hm (And.intro hy2 (And.intro hrn n0))))))))
    clear sx sy sq ss hrx hyr hm hy2 hrn sn
    go_wp2_with fail
    go_cut [4] from 13 to 24 (fun yv wc => ∃ (g2 : Nat) (A2 : Option Addr) (n2 c2 : Nat), yv = .pointer (some ⟨g2, 0, none⟩) ∧ w.heap.size + 2 ≤ g2 ∧ ¬ g2 = g ∧ Hid (IBox wc w.heap.size false A n1 c1 n) ∧ Hid (IBox wc (w.heap.size + 1) false none 0 0 0) ∧ Hid (IBox wc g false B nx cx x) ∧ Hid (IBox wc g2 false A2 n2 c2 y) ∧ Hid (Below w.heap.size w wc))
    case first =>
      go_region_held3 (fun w' => (w'.cell? ⟨w.heap.size, 0, none⟩ = some (.bool false) ∧ w'.cell? ⟨w.heap.size, 1, none⟩ = some (.slice A n1 c1)) ∧ (w'.cell? ⟨g, 0, none⟩ = some (.bool false) ∧ w'.cell? ⟨g, 1, none⟩ = some (.slice B nx cx))) (((repeat' (with_reducible apply And.intro)) <;> (first | (with_reducible assumption) | (go_split_ands; (repeat (with_reducible refine (World.cell?_setCell_far _ _ _ _ ?_).trans ?_; (· first | (dsimp only; omega) | (simp; done) | (simp; omega)))); (with_reducible assumption)) | (go_split_ands; (first | (with_reducible assumption) | go_simp); done) | (with_reducible refine (kcell (by assumption) ?_).trans ?_; (· exact (by first | (with_reducible assumption) | omega | (simp; done) | (simp; omega))); (· first | (with_reducible assumption) | (go_split_ands; with_reducible assumption))) | (go_split_ands; (repeat (first | (with_reducible assumption) | (with_reducible refine (World.cell?_setCell_far _ _ _ _ ?_).trans ?_; (· first | (dsimp only; omega) | (simp; done) | (simp; omega))) | (with_reducible refine alloc_swap (o := ?_) ?_ ?_ _; rotate_left 1; (· first | (dsimp only; omega) | (simp; done) | (simp; omega)); (· with_reducible assumption); (all_goals skip)) | (with_reducible refine alloc_keep ?_ _) | (with_reducible refine (kcell (by assumption) ?_).trans ?_; (· exact (by first | (with_reducible assumption) | omega | (simp; done) | (simp; omega)))))); done) | fail))) (first
        | (go_at_call 98; (with_reducible refine (HD.out _ _ _ ?_ ?_).mono ?_); (· ((repeat (first | (with_reducible assumption) | (with_reducible exact BA.out.int) | (with_reducible refine IntAt.alloc ?_ _) | (with_reducible refine IntAt.drewN ?_ _) | (with_reducible refine IntAt.drew ?_) | (refine IntAt.stored ?_ (u0 := _) (by go_simp) (by simp) _) | (refine IntAt.below ?_ (by with_reducible assumption)))); done)); (· ((repeat (first | (with_reducible assumption) | (with_reducible exact BX.out.int) | (with_reducible refine IntAt.alloc ?_ _) | (with_reducible refine IntAt.drewN ?_ _) | (with_reducible refine IntAt.drew ?_) | (refine IntAt.stored ?_ (u0 := _) (by go_simp) (by simp) _) | (refine IntAt.below ?_ (by with_reducible assumption)))); done)); rintro e w4 ⟨⟨v4, rfl, hv4⟩, hb4⟩; (obtain ⟨hc4, hf4⟩ := bcell hb4); (have hs4 := hb4.size); (try simp at hs4); ((try (have hy4_0 : wr.heap.size < w4.heap.size := by omega))))
        | (go_at_call 94; (with_reducible refine (HA.out _ _ _ ?_ ?_).mono ?_); (· ((repeat (first | (with_reducible assumption) | (with_reducible exact BX.out.int) | (with_reducible refine IntAt.alloc ?_ _) | (with_reducible refine IntAt.drewN ?_ _) | (with_reducible refine IntAt.drew ?_) | (refine IntAt.stored ?_ (u0 := _) (by go_simp) (by simp) _) | (refine IntAt.below ?_ (by with_reducible assumption)))); done)); (· ((repeat (first | (with_reducible assumption) | (with_reducible exact hv4) | (with_reducible refine IntAt.alloc ?_ _) | (with_reducible refine IntAt.drewN ?_ _) | (with_reducible refine IntAt.drew ?_) | (refine IntAt.stored ?_ (u0 := _) (by go_simp) (by simp) _) | (refine IntAt.below ?_ (by with_reducible assumption)))); done)); rintro e w5 ⟨⟨v5, rfl, hv5⟩, hb5⟩; (obtain ⟨hc5, hf5⟩ := bcell hb5); (have hs5 := hb5.size); (try simp at hs5); ((try (have hy5_0 : wr.heap.size < w5.heap.size := by omega)); (try (have hy5_1 : w4.heap.size < w5.heap.size := by omega))))
        | (go_at_call 85; (with_reducible refine (HR.out _ _ ?_).mono ?_); (· ((repeat (first | (with_reducible assumption) | (with_reducible exact hv5) | (with_reducible refine IntAt.alloc ?_ _) | (with_reducible refine IntAt.drewN ?_ _) | (with_reducible refine IntAt.drew ?_) | (refine IntAt.stored ?_ (u0 := _) (by go_simp) (by simp) _) | (refine IntAt.below ?_ (by with_reducible assumption)))); done)); rintro e w6 ⟨⟨v6, rfl, hv6⟩, hb6⟩; (obtain ⟨hc6, hf6⟩ := bcell hb6); (have hs6 := hb6.size); (try simp at hs6); (obtain ⟨A6, n6, c6, rfl, HN6⟩ := hv6.open_); clear hv6; ((try (have hy6_0 : wr.heap.size < w6.heap.size := by omega)); (try (have hy6_1 : w4.heap.size < w6.heap.size := by omega)); (try (have hy6_2 : w5.heap.size < w6.heap.size := by omega)))))
      all_goals (try go_wp2_with fail)
      all_goals go_meet
      all_goals have IY : IntAt w6 (.agg #[.bool false, .slice A6 n6 c6]) y := (by have h := IntAt.mk HN6.out; rwa [hyy] at h)
      all_goals have be := BE.out
      · exact ⟨_, _, _, _, rfl, by omega, by omega, Lib.hid (by repeat (first | (with_reducible assumption) | (with_reducible exact BA.out) | (with_reducible refine IBox.alloc ?_ _) | (with_reducible refine IBox.drew ?_) | (refine IBox.later ?_ (by with_reducible assumption)))), Lib.hid (by repeat (first | (with_reducible assumption) | (with_reducible exact BO.out) | (with_reducible refine IBox.alloc ?_ _) | (with_reducible refine IBox.drew ?_) | (refine IBox.later ?_ (by with_reducible assumption)))), Lib.hid (by repeat (first | (with_reducible assumption) | (with_reducible exact BX.out) | (with_reducible refine IBox.alloc ?_ _) | (with_reducible refine IBox.drew ?_) | (refine IBox.later ?_ (by with_reducible assumption)))), Lib.hid (IBox.made IY _), Lib.hid (by repeat (first | (with_reducible assumption) | exact Below.refl _ _ | (with_reducible refine Below.setCell ?_ (by first | (simp; done) | (simp; omega) | omega) _) | (with_reducible refine Below.alloc ?_ (by first | (simp; done) | (simp; omega) | omega) _) | (with_reducible refine below_drewN' ?_ _) | (with_reducible refine Below.drew ?_) | (refine below_after (by with_reducible assumption) ?_ (by first | (simp; done) | (simp; omega) | omega))))⟩
      · have NB : IBox w6 w5.heap.size false none 0 0 0 := (by repeat (first | (with_reducible assumption) | (with_reducible exact IBox.nil _ _) | (with_reducible refine IBox.alloc ?_ _) | (with_reducible refine IBox.drew ?_) | (refine IBox.later ?_ (by with_reducible assumption))))
        have a1 : IBox w6 w.heap.size false A n1 c1 n := (by repeat (first | (with_reducible assumption) | (with_reducible exact BA.out) | (with_reducible refine IBox.alloc ?_ _) | (with_reducible refine IBox.drew ?_) | (refine IBox.later ?_ (by with_reducible assumption))))
        have a2 : IBox w6 (w.heap.size + 1) false none 0 0 0 := (by repeat (first | (with_reducible assumption) | (with_reducible exact BO.out) | (with_reducible refine IBox.alloc ?_ _) | (with_reducible refine IBox.drew ?_) | (refine IBox.later ?_ (by with_reducible assumption))))
        have a3 : IBox w6 g false B nx cx x := (by repeat (first | (with_reducible assumption) | (with_reducible exact BX.out) | (with_reducible refine IBox.alloc ?_ _) | (with_reducible refine IBox.drew ?_) | (refine IBox.later ?_ (by with_reducible assumption))))
        have a4 : Below w.heap.size w w6 := (by repeat (first | (with_reducible assumption) | exact Below.refl _ _ | (with_reducible refine Below.setCell ?_ (by first | (simp; done) | (simp; omega) | omega) _) | (with_reducible refine Below.alloc ?_ (by first | (simp; done) | (simp; omega) | omega) _) | (with_reducible refine below_drewN' ?_ _) | (with_reducible refine Below.drew ?_) | (refine below_after (by with_reducible assumption) ?_ (by first | (simp; done) | (simp; omega) | omega))))
        exact ⟨w5.heap.size, _, _, _, rfl, by omega, by omega, Lib.hid (a1.far NB (by omega) _ _), Lib.hid (a2.far NB (by omega) _ _), Lib.hid (a3.far NB (by omega) _ _), Lib.hid (NB.put IY), Lib.hid (NB.below a4 (by omega) _ _)⟩
      · have NB : IBox w6 w4.heap.size false none 0 0 0 := (by repeat (first | (with_reducible assumption) | (with_reducible exact IBox.nil _ _) | (with_reducible refine IBox.alloc ?_ _) | (with_reducible refine IBox.drew ?_) | (refine IBox.later ?_ (by with_reducible assumption))))
        have a1 : IBox w6 w.heap.size false A n1 c1 n := (by repeat (first | (with_reducible assumption) | (with_reducible exact BA.out) | (with_reducible refine IBox.alloc ?_ _) | (with_reducible refine IBox.drew ?_) | (refine IBox.later ?_ (by with_reducible assumption))))
        have a2 : IBox w6 (w.heap.size + 1) false none 0 0 0 := (by repeat (first | (with_reducible assumption) | (with_reducible exact BO.out) | (with_reducible refine IBox.alloc ?_ _) | (with_reducible refine IBox.drew ?_) | (refine IBox.later ?_ (by with_reducible assumption))))
        have a3 : IBox w6 g false B nx cx x := (by repeat (first | (with_reducible assumption) | (with_reducible exact BX.out) | (with_reducible refine IBox.alloc ?_ _) | (with_reducible refine IBox.drew ?_) | (refine IBox.later ?_ (by with_reducible assumption))))
        have a4 : Below w.heap.size w w6 := (by repeat (first | (with_reducible assumption) | exact Below.refl _ _ | (with_reducible refine Below.setCell ?_ (by first | (simp; done) | (simp; omega) | omega) _) | (with_reducible refine Below.alloc ?_ (by first | (simp; done) | (simp; omega) | omega) _) | (with_reducible refine below_drewN' ?_ _) | (with_reducible refine Below.drew ?_) | (refine below_after (by with_reducible assumption) ?_ (by first | (simp; done) | (simp; omega) | omega))))
        exact ⟨w4.heap.size, _, _, _, rfl, by omega, by omega, Lib.hid (a1.far NB (by omega) _ _), Lib.hid (a2.far NB (by omega) _ _), Lib.hid (a3.far NB (by omega) _ _), Lib.hid (NB.put IY), Lib.hid (NB.below a4 (by omega) _ _)⟩
      · have NB : IBox w6 wr.heap.size false none 0 0 0 := (by repeat (first | (with_reducible assumption) | (with_reducible exact IBox.nil _ _) | (with_reducible refine IBox.alloc ?_ _) | (with_reducible refine IBox.drew ?_) | (refine IBox.later ?_ (by with_reducible assumption))))
        have a1 : IBox w6 w.heap.size false A n1 c1 n := (by repeat (first | (with_reducible assumption) | (with_reducible exact BA.out) | (with_reducible refine IBox.alloc ?_ _) | (with_reducible refine IBox.drew ?_) | (refine IBox.later ?_ (by with_reducible assumption))))
        have a2 : IBox w6 (w.heap.size + 1) false none 0 0 0 := (by repeat (first | (with_reducible assumption) | (with_reducible exact BO.out) | (with_reducible refine IBox.alloc ?_ _) | (with_reducible refine IBox.drew ?_) | (refine IBox.later ?_ (by with_reducible assumption))))
        have a3 : IBox w6 g false B nx cx x := (by repeat (first | (with_reducible assumption) | (with_reducible exact BX.out) | (with_reducible refine IBox.alloc ?_ _) | (with_reducible refine IBox.drew ?_) | (refine IBox.later ?_ (by with_reducible assumption))))
        have a4 : Below w.heap.size w w6 := (by repeat (first | (with_reducible assumption) | exact Below.refl _ _ | (with_reducible refine Below.setCell ?_ (by first | (simp; done) | (simp; omega) | omega) _) | (with_reducible refine Below.alloc ?_ (by first | (simp; done) | (simp; omega) | omega) _) | (with_reducible refine below_drewN' ?_ _) | (with_reducible refine Below.drew ?_) | (refine below_after (by with_reducible assumption) ?_ (by first | (simp; done) | (simp; omega) | omega))))
        exact ⟨wr.heap.size, _, _, _, rfl, by omega, by omega, Lib.hid (a1.far NB (by omega) _ _), Lib.hid (a2.far NB (by omega) _ _), Lib.hid (a3.far NB (by omega) _ _), Lib.hid (NB.put IY), Lib.hid (NB.below a4 (by omega) _ _)⟩
    case rest =>
      clear BA BX BO BE
      (clear BA_0 BA_1 BA_2 BA_3)
      (clear BX_0 BX_1 BX_2 BX_3)
      obtain ⟨g2, A2, n2, c2, rfl, hg2, hgg, BA, BO, BX, BY, BE⟩ := hcut
      clear BA_4 BX_4 HD HA HR
      obtain ⟨sx, sy, x0, hrx, hyr, hm, hy2, hrn, n0⟩ := XY.out
      have hrp : 0 < r := by have := HS.out; omega
      ((have BX_0 := (BX.out).c0); (have BX_1 := (BX.out).c1); (have BX_2 := (BX.out).f0); (have BX_3 := (BX.out).f1); (have BX_4 := (BX.out).lt))
      ((have BY_0 := (BY.out).c0); (have BY_1 := (BY.out).c1); (have BY_2 := (BY.out).f0); (have BY_3 := (BY.out).f1); (have BY_4 := (BY.out).lt))
      ((have BO_0 := (BO.out).c0); (have BO_1 := (BO.out).c1); (have BO_2 := (BO.out).f0); (have BO_3 := (BO.out).f1); (have BO_4 := (BO.out).lt))
      by_cases hle : x ≤ y
      · have hcmp : 0 ≤ cmpI y x := by unfold cmpI; split <;> (try split) <;> omega
        have hxr : x = r := by rw [← hrn]; exact (newton_end n x (by omega) x0 (by rw [hrn]; exact hrx) (by rw [hy2]; exact hle)).symm
        have HX := Lib.hid hxr
        clear hxr hy2 hrn hle
        go_wp2_with (go_at_call 90; (with_reducible refine (HC.out _ _ _ ?_ ?_).mono ?_); (· exact BY.out.int); (· exact BX.out.int); rintro e w7 ⟨⟨v7, rfl, rfl⟩, hb7⟩; (obtain ⟨hc7, hf7⟩ := bcell hb7); (have hs7 := hb7.size); (try simp at hs7))
        have BX7 := (BX.out).later hb7
        have BO7 := (BO.out).later hb7
        have m0 := BO7.c0
        have m1 := BO7.c1
        have be : Below w.heap.size w w7 := below_after hb7 BE.out (BE.out).size
        refine bodyPost_ret (v := .agg #[.bool false, .slice B nx cx]) (by simp [results, Try.results118, go_sem, m0, m1]) rfl ?_
        exact RetB.mk (by rw [← HX.out]; exact (BO7.put BX7.int).int) (BO7.below be (by omega) _ _)
      · have hcmp : cmpI y x < 0 := by unfold cmpI; split <;> (try split) <;> omega
        clear hy2 hrn
        go_wp2_with (go_at_call 90; (with_reducible refine (HC.out _ _ _ ?_ ?_).mono ?_); (· exact BY.out.int); (· exact BX.out.int); rintro e w7 ⟨⟨v7, rfl, rfl⟩, hb7⟩; (obtain ⟨hc7, hf7⟩ := bcell hb7); (have hs7 := hb7.size); (try simp at hs7))
        have BA7 := (BA.out).later hb7
        have BX7 := (BX.out).later hb7
        have BY7 := (BY.out).later hb7
        have BO7 := (BO.out).later hb7
        have be : Below w.heap.size w w7 := below_after hb7 BE.out (BE.out).size
        go_roundg ((y - r).toNat)
        case measure => omega
        case rel => exact ⟨y, A2, n2, c2, Lib.hid (BA7.far BX7 (by omega) _ _), Lib.hid (BO7.far BX7 (by omega) _ _), Lib.hid (BX7.put BY7.int), Lib.hid (BX7.below be (by omega) _ _), Lib.hid ⟨sy, by omega, hyr, Nat.le_refl _⟩⟩
theorem floor_any (v : Value) (n : Int) (w : World) (hv : IntAt w v n) (hs : Sc n) (h0 : 0 ≤ n) :
    Calls Try.prog 118 #[v] w (RetB w fun r w' => IntAt w' r (fl n)) := by
  obtain ⟨A, n1, c1, rfl, HA⟩ := hv.open_
  have hd : decide (n < 0) = false := decide_eq_false (by omega)
  rw [hd] at hv ⊢
  rcases Int.lt_or_le 0 n with h | h
  · exact floor_pos A n1 c1 n w hv hs h
  · have HV := Lib.hid hv
    have hn : n = 0 := by omega
    have HZ := Lib.hid (fun (W : World) (h : IntAt W (.agg #[.bool false, .slice A n1 c1]) n) => (zero_any _ n W h).mono (R' := RetB W fun r _ => r = .bool true) (by
      rintro e w' ⟨⟨v, rfl, hv⟩, hb⟩; exact ⟨⟨v, rfl, by rw [hv, decide_eq_true hn]⟩, hb⟩))
    have HF := Lib.hid (show fl n = 0 by rw [hn]; decide)
    clear hv hs h0 hd h hn HA
    go_enter Try.func118, Try.ntmps118
    go_wp2_with (first
      | (go_at_call 68; (with_reducible refine (HZ.out _ ?_).mono ?_); (· exact (HV.out).below (by repeat (first | (with_reducible assumption) | exact Below.refl _ _ | (with_reducible refine Below.setCell ?_ (by first | (simp; done) | (simp; omega) | omega) _) | (with_reducible refine Below.alloc ?_ (by first | (simp; done) | (simp; omega) | omega) _) | (with_reducible refine below_drewN' ?_ _) | (with_reducible refine Below.drew ?_) | (refine below_after (by with_reducible assumption) ?_ (by first | (simp; done) | (simp; omega) | omega))))); rintro e w1 ⟨⟨v1, rfl, rfl⟩, hb1⟩; (obtain ⟨hc1, hf1⟩ := bcell hb1); (have hs1 := hb1.size); (try simp at hs1); (have hz1_0 : w.heap.size < w1.heap.size := by omega); (have hz1_1 : w.heap.size + 1 < w1.heap.size := by omega)))
    have BO0 : IBox ((w.alloc (.cells #[.bool false, .slice A n1 c1] 81)).alloc (.cells #[.bool false, .slice none 0 0] 81)) (w.heap.size + 1) false none 0 0 0 := by have := IBox.nil (w.alloc (.cells #[.bool false, .slice A n1 c1] 81)) 81; simpa using this
    have BO1 := BO0.later hb1
    have m0 := BO1.c0
    have m1 := BO1.c1
    refine bodyPost_ret (v := .agg #[.bool false, .slice none 0 0]) (by simp [results, Try.results118, go_sem, m0, m1]) rfl ?_
    exact RetB.mk (by rw [HF.out]; exact (BO1.put (IntAt.none _)).int) (BO1.below (by repeat (first | (with_reducible assumption) | exact Below.refl _ _ | (with_reducible refine Below.setCell ?_ (by first | (simp; done) | (simp; omega) | omega) _) | (with_reducible refine Below.alloc ?_ (by first | (simp; done) | (simp; omega) | omega) _) | (with_reducible refine below_drewN' ?_ _) | (with_reducible refine Below.drew ?_) | (refine below_after (by with_reducible assumption) ?_ (by first | (simp; done) | (simp; omega) | omega)))) (by omega) _ _)
end Go.Proofs.Ytcabnnfhcolcfaa
