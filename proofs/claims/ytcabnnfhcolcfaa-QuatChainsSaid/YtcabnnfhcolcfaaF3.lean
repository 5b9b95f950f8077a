/- The walk of fx.Nearest: the nearest number to the root of n / d. -/
import Derived.Test.YtcabnnfhcolcfaaF2
namespace Go.Proofs.Ytcabnnfhcolcfaa
set_option linter.unusedSimpArgs false
set_option linter.unusedVariables false
open Go.RowKit

/-- Below 2^P. -/
def Sp (P : Nat) (m : Int) : Prop := ∃ p : Nat, p ≤ P ∧ -(2 : Int) ^ p < m ∧ m < (2 : Int) ^ p
theorem Sp.mono {P Q : Nat} {m : Int} (h : Sp P m) (k : P ≤ Q) : Sp Q m := by obtain ⟨p, hp, h⟩ := h; exact ⟨p, by omega, h⟩
theorem Sp.sl {P : Nat} {m : Int} (h : Sp P m) (k : P ≤ 35184372088832) : Sl m := by obtain ⟨p, hp, h⟩ := h; exact ⟨p, by omega, h⟩
theorem Sp.sm {P : Nat} {m : Int} (h : Sp P m) (k : P ≤ 35184372088832) : Sm m := (h.sl k).sm
theorem Sp.sc {P : Nat} {m : Int} (h : Sp P m) (k : P ≤ 1000000) : Sc m := by obtain ⟨p, hp, h⟩ := h; exact ⟨p, by omega, h⟩
theorem Sc.sp {m : Int} (h : Sc m) : Sp 1000000 m := h
theorem Sp.mul {P Q : Nat} {a b : Int} (h : Sp P a) (k : Sp Q b) : Sp (P + Q) (a * b) := by
  obtain ⟨p, hp, h1, h2⟩ := h
  obtain ⟨q, hq, k1, k2⟩ := k
  refine ⟨p + q, by omega, ?_⟩
  have b1 : ab a ≤ 2 ^ p - 1 := ab_le_of (by omega) (by omega)
  have b2 : ab b ≤ 2 ^ q - 1 := ab_le_of (by omega) (by omega)
  have h3 := mul_bd b1 b2
  have hp2 := pow2_pos p
  have hq2 := pow2_pos q
  have e : (2 ^ p - 1) * (2 ^ q - 1) = (2 : Int) ^ p * 2 ^ q - 2 ^ p - 2 ^ q + 1 := by grind
  rw [Int.pow_add]
  omega
theorem Sp.add {P Q : Nat} {a b : Int} (h : Sp P a) (k : Sp Q b) : Sp (P + Q + 1) (a + b) := by
  obtain ⟨p, hp, h1, h2⟩ := h
  obtain ⟨q, hq, k1, k2⟩ := k
  refine ⟨p + q + 1, by omega, ?_, ?_⟩ <;>
  · have := pow2_mono (show p ≤ p + q by omega)
    have := pow2_mono (show q ≤ p + q by omega)
    rw [Int.pow_succ]
    omega
theorem Sp.neg {P : Nat} {a : Int} (h : Sp P a) : Sp P (-a) := by
  obtain ⟨p, hp, h1, h2⟩ := h
  exact ⟨p, hp, by omega, by omega⟩
theorem Sp.le {P : Nat} {a b : Int} (h : Sp P b) (h0 : 0 ≤ a) (h1 : a ≤ b) : Sp P a := by
  obtain ⟨p, hp, h2, h3⟩ := h
  have := pow2_pos p
  exact ⟨p, hp, by omega, by omega⟩
theorem fl_le (n : Int) (h : 0 ≤ n) : fl n ≤ n := by
  obtain ⟨k0, k1, k2⟩ := fl_spec n h
  rcases Int.lt_or_le 0 (fl n) with h1 | h1
  · have : 1 * fl n ≤ fl n * fl n := Int.mul_le_mul_of_nonneg_right (by omega) k0
    omega
  · omega
theorem near_if {n d x o2 m q : Int} (hx : fl (n / d) = x) (ho : (2 * x + 1) * (2 * x + 1) = o2) (hm : o2 * d = m) (hq : 4 * n = q) : near n d = if m < q ∨ m = q ∧ x % 2 ≠ 0 then x + 1 else x := by
  unfold near; rw [hx, ho, hm, hq]
set_option maxHeartbeats 2000000 in
theorem nearest_at (A B : Option Addr) (na ca nb cb : Nat) (n d x q0 o o2 m q z : Int) (w : World) (hv : IntAt w (.agg #[.bool false, .slice A na ca]) n) (hu : IntAt w (.agg #[.bool false, .slice B nb cb]) d) (hs : Sc n) (hsd : Sc d) (h0 : 0 ≤ n) (hd : 0 < d)
    (hq0 : n / d = q0) (hx : fl q0 = x) (ho : x * 2 ^ 1 + 1 = o) (ho2 : o * o = o2) (hm : o2 * d = m) (hq : n * 2 ^ 2 = q) (hz : near n d = z) (kc : Int) (hk : cmpI m q = kc) (hcase : kc = 1 ∨ kc = 0 ∨ kc = -1) :
    Calls Try.prog 77 #[.agg #[.bool false, .slice A na ca], .agg #[.bool false, .slice B nb cb]] w (RetB w fun r w' => IntAt w' r z) := by
  have hq00 : 0 ≤ q0 := by rw [← hq0]; exact Int.ediv_nonneg h0 (by omega)
  have hqn : q0 ≤ n := by rw [← hq0]; exact Int.ediv_le_self d h0
  have sq : Sc q0 := (hs.sp.le hq00 hqn).sc (by omega)
  have hx0 : 0 ≤ x := by rw [← hx]; exact (fl_spec q0 hq00).1
  have hxq : x ≤ q0 := by rw [← hx]; exact fl_le q0 hq00
  have sx : Sp 1000000 x := sq.sp.le hx0 hxq
  have s2x : Sp 2000001 (x * 2 ^ 1) := by have := sx.add sx; rwa [show x + x = x * 2 ^ 1 by omega] at this
  have so : Sp 2000003 o := by have := s2x.add (⟨1, by omega, by omega, by omega⟩ : Sp 1 1); rwa [ho] at this
  have so2 : Sp 4000006 o2 := by have := so.mul so; rwa [ho2] at this
  have sm : Sp 5000006 m := by have := so2.mul hsd.sp; rwa [hm] at this
  have sq4 : Sp 4000003 q := by
    have h1 := hs.sp.add hs.sp
    have h2 := h1.add h1
    rw [show n + n + (n + n) = n * 2 ^ 2 by omega, hq] at h2
    exact h2.mono (by omega)
  have HDn := Lib.hid (fun (v u : Value) (W : World) (h : IntAt W v n) (k : IntAt W u d) => down_any v u n d q0 W h k hs.sl hsd.sl hd hq0)
  have HF := Lib.hid (fun (v : Value) (W : World) (h : IntAt W v q0) => hx ▸ floor_any v q0 W h sq hq00)
  have HL1 := Lib.hid (fun (v : Value) (W : World) (h : IntAt W v x) => show Calls Try.prog 89 #[v, .int .i64 1] W (RetB W fun r w' => IntAt w' r (x * 2 ^ 1)) from Left_any v x (x * 2 ^ 1) 1 1 W rfl h (sx.sm (by omega)) (s2x.sm (by omega)) (by omega) rfl)
  have HAd := Lib.hid (fun (v u : Value) (W : World) (h : IntAt W v (x * 2 ^ 1)) (k : IntAt W u 1) => add_int v u (x * 2 ^ 1) 1 o W h k (s2x.sl (by omega)) (Sl.word (by omega) (by omega)) ho)
  have HM1 := Lib.hid (fun (v u : Value) (W : World) (h : IntAt W v o) (k : IntAt W u o) => mul_int v u o o o2 W h k (so.sl (by omega)) (so.sl (by omega)) ho2)
  have HM2 := Lib.hid (fun (v u : Value) (W : World) (h : IntAt W v o2) (k : IntAt W u d) => mul_int v u o2 d m W h k (so2.sl (by omega)) hsd.sl hm)
  have HL2 := Lib.hid (fun (v : Value) (W : World) (h : IntAt W v n) => show Calls Try.prog 89 #[v, .int .i64 2] W (RetB W fun r w' => IntAt w' r q) from Left_any v n q 2 2 W rfl h hs.sl.sm (sq4.sm (by omega)) (by omega) hq)
  have HC := Lib.hid (fun (v u : Value) (W : World) (h : IntAt W v m) (k : IntAt W u q) => hk ▸ Cmp_any v u m q W h k (sm.sm (by omega)) (sq4.sm (by omega)))
  have hzz := near_if (n := n) (d := d) (x := x) (o2 := o2) (m := m) (q := q) (by rw [hq0, hx]) (by rw [← ho2, ← ho]; grind) hm (by omega)
  rw [hz] at hzz
  obtain ⟨t, ht⟩ : ∃ t, x + 1 = t := ⟨_, rfl⟩
  have HA1 := Lib.hid (fun (v u : Value) (W : World) (h : IntAt W v x) (k : IntAt W u 1) => add_int v u x 1 t W h k (sx.sl (by omega)) (Sl.word (by omega) (by omega)) ht)
  rw [ht] at hzz
  have HZ := Lib.hid (And.intro hzz hk)
  have HV := Lib.hid hv
  have HU := Lib.hid hu
  have hx0 : decide (x < 0) = false := decide_eq_false (by omega)
  have hoo : decide (o < 0) = false := decide_eq_false (by omega)
  clear hzz hk hv hu hs hsd h0 hd hq0 hx ho ho2 hm hq hz hq00 hqn sq hxq sx s2x so so2 sm sq4 ht
  go_enter Try.func77, Try.ntmps77
  go_upto_region 2 with (first
    | (go_at_call 98; (with_reducible refine (HDn.out _ _ _ ?_ ?_).mono ?_); (· ((repeat (first | (with_reducible assumption) | (with_reducible exact HV.out) | (with_reducible refine IntAt.alloc ?_ _) | (with_reducible refine IntAt.drewN ?_ _) | (with_reducible refine IntAt.drew ?_) | (refine IntAt.stored ?_ (u0 := _) (by go_simp) (by simp) _) | (refine IntAt.below ?_ (by with_reducible assumption)))); done)); (· ((repeat (first | (with_reducible assumption) | (with_reducible exact HU.out) | (with_reducible refine IntAt.alloc ?_ _) | (with_reducible refine IntAt.drewN ?_ _) | (with_reducible refine IntAt.drew ?_) | (refine IntAt.stored ?_ (u0 := _) (by go_simp) (by simp) _) | (refine IntAt.below ?_ (by with_reducible assumption)))); done)); rintro e w1 ⟨⟨v1, rfl, hv1⟩, hb1⟩; (obtain ⟨hc1, hf1⟩ := bcell hb1); (have hs1 := hb1.size); (try simp at hs1); (have hz1_0 : w.heap.size < w1.heap.size := by omega); (have hz1_1 : w.heap.size + 1 < w1.heap.size := by omega); (have hz1_2 : w.heap.size + 2 < w1.heap.size := by omega))
    | (go_at_call 118; (with_reducible refine (HF.out _ _ ?_).mono ?_); (· ((repeat (first | (with_reducible assumption) | (with_reducible exact hv1) | (with_reducible refine IntAt.alloc ?_ _) | (with_reducible refine IntAt.drewN ?_ _) | (with_reducible refine IntAt.drew ?_) | (refine IntAt.stored ?_ (u0 := _) (by go_simp) (by simp) _) | (refine IntAt.below ?_ (by with_reducible assumption)))); done)); rintro e w2 ⟨⟨v2, rfl, hv2⟩, hb2⟩; (obtain ⟨hc2, hf2⟩ := bcell hb2); (have hs2 := hb2.size); (try simp at hs2); (have hz2_0 : w.heap.size < w2.heap.size := by omega); (have hz2_1 : w.heap.size + 1 < w2.heap.size := by omega); (have hz2_2 : w.heap.size + 2 < w2.heap.size := by omega); (obtain ⟨A2, n2, c2, rfl, HN2⟩ := hv2.open_); clear hv2))
  have IX : IntAt w2 (.agg #[.bool false, .slice A2 n2 c2]) x := by have h := IntAt.mk HN2.out; rwa [hx0] at h
  obtain ⟨b1, b2, b3, b4⟩ := boxes_abo HV.out HU.out 81 81 81
  have BN := Lib.hid (((b1.later hb1).later hb2).alloc (.cells #[.bool false, .slice A2 n2 c2] 81))
  have BD := Lib.hid (((b2.later hb1).later hb2).alloc (.cells #[.bool false, .slice A2 n2 c2] 81))
  have BO := Lib.hid (((b3.later hb1).later hb2).alloc (.cells #[.bool false, .slice A2 n2 c2] 81))
  have BX := Lib.hid (IBox.made IX 81)
  have BE := Lib.hid (show Below w.heap.size w (w2.alloc (.cells #[.bool false, .slice A2 n2 c2] 81)) from (by repeat (first | (with_reducible assumption) | exact Below.refl _ _ | (with_reducible refine Below.setCell ?_ (by first | (simp; done) | (simp; omega) | omega) _) | (with_reducible refine Below.alloc ?_ (by first | (simp; done) | (simp; omega) | omega) _) | (with_reducible refine below_drewN' ?_ _) | (with_reducible refine Below.drew ?_) | (refine below_after (by with_reducible assumption) ?_ (by first | (simp; done) | (simp; omega) | omega)))))
  have hg : w.heap.size + 3 ≤ w2.heap.size := by have := b3.lt; omega
  obtain ⟨g, hgg⟩ : ∃ g, w2.heap.size = g := ⟨_, rfl⟩
  obtain ⟨WB, hWB⟩ : ∃ WB, (w2.alloc (.cells #[.bool false, .slice A2 n2 c2] 81)) = WB := ⟨_, rfl⟩
  rw [hgg] at BX hg
  rw [hWB] at BN BD BO BX BE
  rw [hgg, hWB]
  clear hgg hWB b1 b2 b3 b4 IX HN2 hc1 hf1 hb1 hs1 hc2 hf2 hb2 hs2 hz1_0 hz1_1 hz1_2 hz2_0 hz2_1 hz2_2 HDn HF HV HU hv1
  ((have BX_0 := (BX.out).c0); (have BX_1 := (BX.out).c1); (have BX_2 := (BX.out).f0); (have BX_3 := (BX.out).f1); (have BX_4 := (BX.out).lt))
  go_upto_region 3 with (first
    | (go_at_call 89; (with_reducible refine (HL1.out _ _ ?_).mono ?_); (· exact BX.out.int); rintro e w3 ⟨⟨v3, rfl, hv3⟩, hb3⟩; (obtain ⟨hc3, hf3⟩ := bcell hb3); (have hs3 := hb3.size); (try simp at hs3))
    | (go_at_call 78; (with_reducible refine (one_any _).mono ?_); rintro e w4 ⟨⟨v4, rfl, hv4⟩, hb4⟩; (obtain ⟨hc4, hf4⟩ := bcell hb4); (have hs4 := hb4.size); (try simp at hs4))
    | (go_at_call 94; (with_reducible refine (HAd.out _ _ _ ?_ ?_).mono ?_); (· ((repeat (first | (with_reducible assumption) | (with_reducible exact hv3) | (with_reducible refine IntAt.alloc ?_ _) | (with_reducible refine IntAt.drewN ?_ _) | (with_reducible refine IntAt.drew ?_) | (refine IntAt.stored ?_ (u0 := _) (by go_simp) (by simp) _) | (refine IntAt.below ?_ (by with_reducible assumption)))); done)); (· ((repeat (first | (with_reducible assumption) | (with_reducible exact hv4) | (with_reducible refine IntAt.alloc ?_ _) | (with_reducible refine IntAt.drewN ?_ _) | (with_reducible refine IntAt.drew ?_) | (refine IntAt.stored ?_ (u0 := _) (by go_simp) (by simp) _) | (refine IntAt.below ?_ (by with_reducible assumption)))); done)); rintro e w5 ⟨⟨v5, rfl, hv5⟩, hb5⟩; (obtain ⟨hc5, hf5⟩ := bcell hb5); (have hs5 := hb5.size); (try simp at hs5); (obtain ⟨A5, n5, c5, rfl, HN5⟩ := hv5.open_); clear hv5))
  have IO : IntAt w5 (.agg #[.bool false, .slice A5 n5 c5]) o := by have h := IntAt.mk HN5.out; rwa [hoo] at h
  have be := BE.out
  have BN5 := Lib.hid ((((BN.out.later hb3).later hb4).later hb5).alloc (.cells #[.bool false, .slice A5 n5 c5] 81))
  have BD5 := Lib.hid ((((BD.out.later hb3).later hb4).later hb5).alloc (.cells #[.bool false, .slice A5 n5 c5] 81))
  have BO5 := Lib.hid ((((BO.out.later hb3).later hb4).later hb5).alloc (.cells #[.bool false, .slice A5 n5 c5] 81))
  have BX5 := Lib.hid ((((BX.out.later hb3).later hb4).later hb5).alloc (.cells #[.bool false, .slice A5 n5 c5] 81))
  have BP5 := Lib.hid (IBox.made IO 81)
  have BE5 := Lib.hid (show Below w.heap.size w (w5.alloc (.cells #[.bool false, .slice A5 n5 c5] 81)) from (by repeat (first | (with_reducible assumption) | exact Below.refl _ _ | (with_reducible refine Below.setCell ?_ (by first | (simp; done) | (simp; omega) | omega) _) | (with_reducible refine Below.alloc ?_ (by first | (simp; done) | (simp; omega) | omega) _) | (with_reducible refine below_drewN' ?_ _) | (with_reducible refine Below.drew ?_) | (refine below_after (by with_reducible assumption) ?_ (by first | (simp; done) | (simp; omega) | omega)))))
  have hg5 : g < w5.heap.size := by omega
  clear be BN BD BO BX BE
  (clear BX_0 BX_1 BX_2 BX_3)
  obtain ⟨g5, hgg⟩ : ∃ g, w5.heap.size = g := ⟨_, rfl⟩
  obtain ⟨WC, hWC⟩ : ∃ WB, (w5.alloc (.cells #[.bool false, .slice A5 n5 c5] 81)) = WB := ⟨_, rfl⟩
  rw [hgg] at BP5 hg5
  rw [hWC] at BN5 BD5 BO5 BX5 BP5 BE5
  rw [hgg, hWC]
  clear hgg hWC IO HN5 hc3 hf3 hb3 hs3 hc4 hf4 hb4 hs4 hc5 hf5 hb5 hs5 HL1 HAd BX_4 hv3 hv4
  go_wp2_with fail
  ((have BN5_0 := (BN5.out).c0); (have BN5_1 := (BN5.out).c1); (have BN5_2 := (BN5.out).f0); (have BN5_3 := (BN5.out).f1); (have BN5_4 := (BN5.out).lt))
  ((have BD5_0 := (BD5.out).c0); (have BD5_1 := (BD5.out).c1); (have BD5_2 := (BD5.out).f0); (have BD5_3 := (BD5.out).f1); (have BD5_4 := (BD5.out).lt))
  ((have BP5_0 := (BP5.out).c0); (have BP5_1 := (BP5.out).c1); (have BP5_2 := (BP5.out).f0); (have BP5_3 := (BP5.out).f1); (have BP5_4 := (BP5.out).lt))
  go_cut [7] from 16 to 23 (fun cv wc => cv = .int .i64 kc ∧ Hid (IBox wc (w.heap.size + 1 + 1) false none 0 0 0) ∧ Hid (IBox wc g false A2 n2 c2 x) ∧ Hid (Below w.heap.size w wc))
  case first =>
    go_region_held3 (fun w' => ((w'.cell? ⟨w.heap.size, 0, none⟩ = some (.bool false) ∧ w'.cell? ⟨w.heap.size, 1, none⟩ = some (.slice A na ca)) ∧ (w'.cell? ⟨w.heap.size + 1, 0, none⟩ = some (.bool false) ∧ w'.cell? ⟨w.heap.size + 1, 1, none⟩ = some (.slice B nb cb))) ∧ (w'.cell? ⟨g5, 0, none⟩ = some (.bool false) ∧ w'.cell? ⟨g5, 1, none⟩ = some (.slice A5 n5 c5))) (((repeat' (with_reducible apply And.intro)) <;> (first | (with_reducible assumption) | (go_split_ands; (repeat (with_reducible refine (World.cell?_setCell_far _ _ _ _ ?_).trans ?_; (· first | (dsimp only; omega) | (simp; done) | (simp; omega)))); (with_reducible assumption)) | (go_split_ands; (first | (with_reducible assumption) | go_simp); done) | (with_reducible refine (kcell (by assumption) ?_).trans ?_; (· exact (by first | (with_reducible assumption) | omega | (simp; done) | (simp; omega))); (· first | (with_reducible assumption) | (go_split_ands; with_reducible assumption))) | (go_split_ands; (repeat (first | (with_reducible assumption) | (with_reducible refine (World.cell?_setCell_far _ _ _ _ ?_).trans ?_; (· first | (dsimp only; omega) | (simp; done) | (simp; omega))) | (with_reducible refine alloc_swap (o := ?_) ?_ ?_ _; rotate_left 1; (· first | (dsimp only; omega) | (simp; done) | (simp; omega)); (· with_reducible assumption); (all_goals skip)) | (with_reducible refine alloc_keep ?_ _) | (with_reducible refine (kcell (by assumption) ?_).trans ?_; (· exact (by first | (with_reducible assumption) | omega | (simp; done) | (simp; omega)))))); done) | fail))) (first
      | (go_at_call 108; (with_reducible refine (HM1.out _ _ _ ?_ ?_).mono ?_); (· ((repeat (first | (with_reducible assumption) | (with_reducible exact BP5.out.int) | (with_reducible refine IntAt.alloc ?_ _) | (with_reducible refine IntAt.drewN ?_ _) | (with_reducible refine IntAt.drew ?_) | (refine IntAt.stored ?_ (u0 := _) (by go_simp) (by simp) _) | (refine IntAt.below ?_ (by with_reducible assumption)))); done)); (· ((repeat (first | (with_reducible assumption) | (with_reducible exact BP5.out.int) | (with_reducible refine IntAt.alloc ?_ _) | (with_reducible refine IntAt.drewN ?_ _) | (with_reducible refine IntAt.drew ?_) | (refine IntAt.stored ?_ (u0 := _) (by go_simp) (by simp) _) | (refine IntAt.below ?_ (by with_reducible assumption)))); done)); rintro e w6 ⟨⟨v6, rfl, hv6⟩, hb6⟩; (obtain ⟨hc6, hf6⟩ := bcell hb6); (have hs6 := hb6.size); (try simp at hs6))
      | (go_at_call 108; (with_reducible refine (HM2.out _ _ _ ?_ ?_).mono ?_); (· ((repeat (first | (with_reducible assumption) | (with_reducible exact hv6) | (with_reducible refine IntAt.alloc ?_ _) | (with_reducible refine IntAt.drewN ?_ _) | (with_reducible refine IntAt.drew ?_) | (refine IntAt.stored ?_ (u0 := _) (by go_simp) (by simp) _) | (refine IntAt.below ?_ (by with_reducible assumption)))); done)); (· ((repeat (first | (with_reducible assumption) | (with_reducible exact BD5.out.int) | (with_reducible refine IntAt.alloc ?_ _) | (with_reducible refine IntAt.drewN ?_ _) | (with_reducible refine IntAt.drew ?_) | (refine IntAt.stored ?_ (u0 := _) (by go_simp) (by simp) _) | (refine IntAt.below ?_ (by with_reducible assumption)))); done)); rintro e w7 ⟨⟨v7, rfl, hv7⟩, hb7⟩; (obtain ⟨hc7, hf7⟩ := bcell hb7); (have hs7 := hb7.size); (try simp at hs7))
      | (go_at_call 89; (with_reducible refine (HL2.out _ _ ?_).mono ?_); (· ((repeat (first | (with_reducible assumption) | (with_reducible exact BN5.out.int) | (with_reducible refine IntAt.alloc ?_ _) | (with_reducible refine IntAt.drewN ?_ _) | (with_reducible refine IntAt.drew ?_) | (refine IntAt.stored ?_ (u0 := _) (by go_simp) (by simp) _) | (refine IntAt.below ?_ (by with_reducible assumption)))); done)); rintro e w8 ⟨⟨v8, rfl, hv8⟩, hb8⟩; (obtain ⟨hc8, hf8⟩ := bcell hb8); (have hs8 := hb8.size); (try simp at hs8))
      | (go_at_call 90; (with_reducible refine (HC.out _ _ _ ?_ ?_).mono ?_); (· ((repeat (first | (with_reducible assumption) | (with_reducible exact hv7) | (with_reducible refine IntAt.alloc ?_ _) | (with_reducible refine IntAt.drewN ?_ _) | (with_reducible refine IntAt.drew ?_) | (refine IntAt.stored ?_ (u0 := _) (by go_simp) (by simp) _) | (refine IntAt.below ?_ (by with_reducible assumption)))); done)); (· ((repeat (first | (with_reducible assumption) | (with_reducible exact hv8) | (with_reducible refine IntAt.alloc ?_ _) | (with_reducible refine IntAt.drewN ?_ _) | (with_reducible refine IntAt.drew ?_) | (refine IntAt.stored ?_ (u0 := _) (by go_simp) (by simp) _) | (refine IntAt.below ?_ (by with_reducible assumption)))); done)); rintro e w9 ⟨⟨v9, rfl, rfl⟩, hb9⟩; (obtain ⟨hc9, hf9⟩ := bcell hb9); (have hs9 := hb9.size); (try simp at hs9)))
    all_goals (try go_wp2_with fail)
    all_goals go_meet
    all_goals have be := BE5.out
    all_goals exact ⟨rfl, Lib.hid (by repeat (first | (with_reducible assumption) | (with_reducible exact BO5.out) | (with_reducible refine IBox.alloc ?_ _) | (with_reducible refine IBox.drew ?_) | (refine IBox.later ?_ (by with_reducible assumption)))), Lib.hid (by repeat (first | (with_reducible assumption) | (with_reducible exact BX5.out) | (with_reducible refine IBox.alloc ?_ _) | (with_reducible refine IBox.drew ?_) | (refine IBox.later ?_ (by with_reducible assumption)))), Lib.hid (by repeat (first | (with_reducible assumption) | exact Below.refl _ _ | (with_reducible refine Below.setCell ?_ (by first | (simp; done) | (simp; omega) | omega) _) | (with_reducible refine Below.alloc ?_ (by first | (simp; done) | (simp; omega) | omega) _) | (with_reducible refine below_drewN' ?_ _) | (with_reducible refine Below.drew ?_) | (refine below_after (by with_reducible assumption) ?_ (by first | (simp; done) | (simp; omega) | omega))))⟩
  case rest =>
    obtain ⟨rfl, BO, BX, BE⟩ := hcut
    clear HM1 HM2 HL2 HC BN5 BD5 BO5 BX5 BP5 BE5
    clear BN5_0 BN5_1 BN5_2 BN5_3 BN5_4 BD5_0 BD5_1 BD5_2 BD5_3 BD5_4 BP5_0 BP5_1 BP5_2 BP5_3 BP5_4
    ((have BX_0 := (BX.out).c0); (have BX_1 := (BX.out).c1); (have BX_2 := (BX.out).f0); (have BX_3 := (BX.out).f1); (have BX_4 := (BX.out).lt))
    ((have BO_0 := (BO.out).c0); (have BO_1 := (BO.out).c1); (have BO_2 := (BO.out).f0); (have BO_3 := (BO.out).f1); (have BO_4 := (BO.out).lt))
    obtain ⟨hzz, hk⟩ := HZ.out
    unfold cmpI at hk
    rcases hcase with rfl | rfl | rfl
    · have hzx : z = x := by
        have h1 : ¬ m < q := by split at hk <;> omega
        have h2 : ¬ m = q := by split at hk <;> (try split at hk) <;> omega
        rw [hzz, if_neg (by omega)]
      have HX := Lib.hid hzx
      clear hzz hk hzx
      go_wp2
      refine bodyPost_ret (v := .agg #[.bool false, .slice A2 n2 c2]) (by simp [results, Try.results77, go_sem, BO_0, BO_1]) rfl ?_
      exact RetB.mk (by rw [HX.out]; exact (BO.out.put BX.out.int).int) (BO.out.below BE.out (by omega) _ _)
    · have hmq : m = q := by split at hk <;> (try split at hk) <;> omega
      by_cases hpar : x % 2 = 0
      · have hzx : z = x := by rw [hzz, if_neg (by omega)]
        have HX := Lib.hid hzx
        have HE := Lib.hid (fun (v : Value) (W : World) (h : IntAt W v x) => (even_any v x W h).mono (R' := RetB W fun r _ => r = .bool true) (by
          rintro e w' ⟨⟨v, rfl, hv⟩, hb⟩; exact ⟨⟨v, rfl, by rw [hv, decide_eq_true hpar]⟩, hb⟩))
        clear hzz hk hzx hmq hpar
        go_wp2_with (go_at_call 119; (with_reducible refine (HE.out _ _ ?_).mono ?_); (· exact BX.out.int); rintro e w9 ⟨⟨v9, rfl, rfl⟩, hb9⟩; (obtain ⟨hc9, hf9⟩ := bcell hb9); (have hs9 := hb9.size); (try simp at hs9))
        have BO9 := BO.out.later hb9
        have m0 := BO9.c0
        have m1 := BO9.c1
        refine bodyPost_ret (v := .agg #[.bool false, .slice A2 n2 c2]) (by simp [results, Try.results77, go_sem, m0, m1]) rfl ?_
        exact RetB.mk (by rw [HX.out]; exact (BO9.put (BX.out.int.below hb9)).int) (BO9.below (below_after hb9 BE.out BE.out.size) (by omega) _ _)
      · have hzx : z = t := by rw [hzz, if_pos (by omega)]
        have HX := Lib.hid hzx
        have HE := Lib.hid (fun (v : Value) (W : World) (h : IntAt W v x) => (even_any v x W h).mono (R' := RetB W fun r _ => r = .bool false) (by
          rintro e w' ⟨⟨v, rfl, hv⟩, hb⟩; exact ⟨⟨v, rfl, by rw [hv, decide_eq_false hpar]⟩, hb⟩))
        clear hzz hk hzx hmq hpar
        go_wp2_with (go_at_call 119; (with_reducible refine (HE.out _ _ ?_).mono ?_); (· exact BX.out.int); rintro e w9 ⟨⟨v9, rfl, rfl⟩, hb9⟩; (obtain ⟨hc9, hf9⟩ := bcell hb9); (have hs9 := hb9.size); (try simp at hs9))
        have BX := Lib.hid (BX.out.later hb9)
        have BO := Lib.hid (BO.out.later hb9)
        have BE := Lib.hid (show Below w.heap.size w w9 from below_after hb9 BE.out BE.out.size)
        clear hc9 hf9
        ((have BX_0 := (BX.out).c0); (have BX_1 := (BX.out).c1); (have BX_2 := (BX.out).f0); (have BX_3 := (BX.out).f1); (have BX_4 := (BX.out).lt))
        ((have BO_0 := (BO.out).c0); (have BO_1 := (BO.out).c1); (have BO_2 := (BO.out).f0); (have BO_3 := (BO.out).f1); (have BO_4 := (BO.out).lt))
        go_region_held3 (fun w' => w'.cell? ⟨g, 0, none⟩ = some (.bool false) ∧ w'.cell? ⟨g, 1, none⟩ = some (.slice A2 n2 c2)) (((repeat' (with_reducible apply And.intro)) <;> (first | (with_reducible assumption) | (go_split_ands; (repeat (with_reducible refine (World.cell?_setCell_far _ _ _ _ ?_).trans ?_; (· first | (dsimp only; omega) | (simp; done) | (simp; omega)))); (with_reducible assumption)) | (go_split_ands; (first | (with_reducible assumption) | go_simp); done) | (with_reducible refine (kcell (by assumption) ?_).trans ?_; (· exact (by first | (with_reducible assumption) | omega | (simp; done) | (simp; omega))); (· first | (with_reducible assumption) | (go_split_ands; with_reducible assumption))) | (go_split_ands; (repeat (first | (with_reducible assumption) | (with_reducible refine (World.cell?_setCell_far _ _ _ _ ?_).trans ?_; (· first | (dsimp only; omega) | (simp; done) | (simp; omega))) | (with_reducible refine alloc_swap (o := ?_) ?_ ?_ _; rotate_left 1; (· first | (dsimp only; omega) | (simp; done) | (simp; omega)); (· with_reducible assumption); (all_goals skip)) | (with_reducible refine alloc_keep ?_ _) | (with_reducible refine (kcell (by assumption) ?_).trans ?_; (· exact (by first | (with_reducible assumption) | omega | (simp; done) | (simp; omega)))))); done) | fail))) (first
          | (go_at_call 78; (with_reducible refine (one_any _).mono ?_); rintro e w10 ⟨⟨v10, rfl, hv10⟩, hb10⟩; (obtain ⟨hc10, hf10⟩ := bcell hb10); (have hs10 := hb10.size); (try simp at hs10))
          | (go_at_call 94; (with_reducible refine (HA1.out _ _ _ ?_ ?_).mono ?_); (· ((repeat (first | (with_reducible assumption) | (with_reducible exact BX.out.int) | (with_reducible refine IntAt.alloc ?_ _) | (with_reducible refine IntAt.drewN ?_ _) | (with_reducible refine IntAt.drew ?_) | (refine IntAt.stored ?_ (u0 := _) (by go_simp) (by simp) _) | (refine IntAt.below ?_ (by with_reducible assumption)))); done)); (· ((repeat (first | (with_reducible assumption) | (with_reducible exact hv10) | (with_reducible refine IntAt.alloc ?_ _) | (with_reducible refine IntAt.drewN ?_ _) | (with_reducible refine IntAt.drew ?_) | (refine IntAt.stored ?_ (u0 := _) (by go_simp) (by simp) _) | (refine IntAt.below ?_ (by with_reducible assumption)))); done)); rintro e w11 ⟨⟨v11, rfl, hv11⟩, hb11⟩; (obtain ⟨hc11, hf11⟩ := bcell hb11); (have hs11 := hb11.size); (try simp at hs11); (obtain ⟨A11, n11, c11, rfl, HN11⟩ := hv11.open_); clear hv11; ((have BO11 : IBox w11 (w.heap.size + 1 + 1) false none 0 0 0 := (by repeat (first | (with_reducible assumption) | (with_reducible exact BO.out) | (with_reducible refine IBox.alloc ?_ _) | (with_reducible refine IBox.drew ?_) | (refine IBox.later ?_ (by with_reducible assumption))))); (have m0 := BO11.c0); (have m1 := BO11.c1); (have m2 := BO11.f0); (have m3 := BO11.f1))))
        go_wp2
        have be := BE.out
        have be11 : Below w.heap.size w w11 := (by repeat (first | (with_reducible assumption) | exact Below.refl _ _ | (with_reducible refine Below.setCell ?_ (by first | (simp; done) | (simp; omega) | omega) _) | (with_reducible refine Below.alloc ?_ (by first | (simp; done) | (simp; omega) | omega) _) | (with_reducible refine below_drewN' ?_ _) | (with_reducible refine Below.drew ?_) | (refine below_after (by with_reducible assumption) ?_ (by first | (simp; done) | (simp; omega) | omega))))
        refine bodyPost_ret (v := .agg #[.bool (decide (t < 0)), .slice A11 n11 c11]) (by simp [results, Try.results77, go_sem, m0, m1]) rfl ?_
        exact RetB.mk (by rw [HX.out]; exact (BO11.put (IntAt.mk HN11.out)).int) (BO11.below be11 (by omega) _ _)
    · have hzx : z = t := by
        have h1 : m < q := by split at hk <;> (try split at hk) <;> omega
        rw [hzz, if_pos (by omega)]
      have HX := Lib.hid hzx
      clear hzz hk hzx
      go_wp2
      go_region_held3 (fun w' => w'.cell? ⟨g, 0, none⟩ = some (.bool false) ∧ w'.cell? ⟨g, 1, none⟩ = some (.slice A2 n2 c2)) (((repeat' (with_reducible apply And.intro)) <;> (first | (with_reducible assumption) | (go_split_ands; (repeat (with_reducible refine (World.cell?_setCell_far _ _ _ _ ?_).trans ?_; (· first | (dsimp only; omega) | (simp; done) | (simp; omega)))); (with_reducible assumption)) | (go_split_ands; (first | (with_reducible assumption) | go_simp); done) | (with_reducible refine (kcell (by assumption) ?_).trans ?_; (· exact (by first | (with_reducible assumption) | omega | (simp; done) | (simp; omega))); (· first | (with_reducible assumption) | (go_split_ands; with_reducible assumption))) | (go_split_ands; (repeat (first | (with_reducible assumption) | (with_reducible refine (World.cell?_setCell_far _ _ _ _ ?_).trans ?_; (· first | (dsimp only; omega) | (simp; done) | (simp; omega))) | (with_reducible refine alloc_swap (o := ?_) ?_ ?_ _; rotate_left 1; (· first | (dsimp only; omega) | (simp; done) | (simp; omega)); (· with_reducible assumption); (all_goals skip)) | (with_reducible refine alloc_keep ?_ _) | (with_reducible refine (kcell (by assumption) ?_).trans ?_; (· exact (by first | (with_reducible assumption) | omega | (simp; done) | (simp; omega)))))); done) | fail))) (first
        | (go_at_call 78; (with_reducible refine (one_any _).mono ?_); rintro e w10 ⟨⟨v10, rfl, hv10⟩, hb10⟩; (obtain ⟨hc10, hf10⟩ := bcell hb10); (have hs10 := hb10.size); (try simp at hs10))
        | (go_at_call 94; (with_reducible refine (HA1.out _ _ _ ?_ ?_).mono ?_); (· ((repeat (first | (with_reducible assumption) | (with_reducible exact BX.out.int) | (with_reducible refine IntAt.alloc ?_ _) | (with_reducible refine IntAt.drewN ?_ _) | (with_reducible refine IntAt.drew ?_) | (refine IntAt.stored ?_ (u0 := _) (by go_simp) (by simp) _) | (refine IntAt.below ?_ (by with_reducible assumption)))); done)); (· ((repeat (first | (with_reducible assumption) | (with_reducible exact hv10) | (with_reducible refine IntAt.alloc ?_ _) | (with_reducible refine IntAt.drewN ?_ _) | (with_reducible refine IntAt.drew ?_) | (refine IntAt.stored ?_ (u0 := _) (by go_simp) (by simp) _) | (refine IntAt.below ?_ (by with_reducible assumption)))); done)); rintro e w11 ⟨⟨v11, rfl, hv11⟩, hb11⟩; (obtain ⟨hc11, hf11⟩ := bcell hb11); (have hs11 := hb11.size); (try simp at hs11); (obtain ⟨A11, n11, c11, rfl, HN11⟩ := hv11.open_); clear hv11; ((have BO11 : IBox w11 (w.heap.size + 1 + 1) false none 0 0 0 := (by repeat (first | (with_reducible assumption) | (with_reducible exact BO.out) | (with_reducible refine IBox.alloc ?_ _) | (with_reducible refine IBox.drew ?_) | (refine IBox.later ?_ (by with_reducible assumption))))); (have m0 := BO11.c0); (have m1 := BO11.c1); (have m2 := BO11.f0); (have m3 := BO11.f1))))
      go_wp2
      have be := BE.out
      have be11 : Below w.heap.size w w11 := (by repeat (first | (with_reducible assumption) | exact Below.refl _ _ | (with_reducible refine Below.setCell ?_ (by first | (simp; done) | (simp; omega) | omega) _) | (with_reducible refine Below.alloc ?_ (by first | (simp; done) | (simp; omega) | omega) _) | (with_reducible refine below_drewN' ?_ _) | (with_reducible refine Below.drew ?_) | (refine below_after (by with_reducible assumption) ?_ (by first | (simp; done) | (simp; omega) | omega))))
      refine bodyPost_ret (v := .agg #[.bool (decide (t < 0)), .slice A11 n11 c11]) (by simp [results, Try.results77, go_sem, m0, m1]) rfl ?_
      exact RetB.mk (by rw [HX.out]; exact (BO11.put (IntAt.mk HN11.out)).int) (BO11.below be11 (by omega) _ _)
theorem nearest_any (va vb : Value) (n d : Int) (w : World) (hv : IntAt w va n) (hu : IntAt w vb d) (hs : Sc n) (hsd : Sc d) (h0 : 0 ≤ n) (hd : 0 < d) :
    Calls Try.prog 77 #[va, vb] w (RetB w fun r w' => IntAt w' r (near n d)) := by
  obtain ⟨A, n1, c1, rfl, HA⟩ := hv.open_
  obtain ⟨B, n2, c2, rfl, HB⟩ := hu.open_
  rw [decide_eq_false (show ¬ n < 0 by omega)] at hv ⊢
  rw [decide_eq_false (show ¬ d < 0 by omega)] at hu ⊢
  exact nearest_at A B n1 c1 n2 c2 n d _ _ _ _ _ _ _ w hv hu hs hsd h0 hd rfl rfl rfl rfl rfl rfl rfl _ rfl (by unfold cmpI; split <;> (try split) <;> simp)
end Go.Proofs.Ytcabnnfhcolcfaa
