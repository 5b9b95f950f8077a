/- The walk of vec.Share: a part of a unit. -/
import Derived.Test.YtcabnnfhcolcfaaV4
namespace Go.Proofs.Ytcabnnfhcolcfaa
set_option linter.unusedSimpArgs false
set_option linter.unusedVariables false
open Go.RowKit

set_option maxHeartbeats 2000000 in
theorem share_at (x n z m m2 y : Int) (A : Option Addr) (n1 c1 : Nat) (w : World) (hx : I64 x) (hv : IntAt w (.agg #[.bool false, .slice A n1 c1]) n) (hs : Sc n) (h0 : 0 < n) (hm : x * x = m) (hm2 : m * 2 ^ 60 = m2) (hy : near m2 n = y) (hz : share x n = z) :
    Calls Try.prog 57 #[.int .i64 x, .agg #[.bool false, .slice A n1 c1]] w (RetB w fun r w' => IntAt w' r z) := by
  have sm : Sp 128 m := hm ▸ hx.sp.mul hx.sp
  have sm2 : Sp 200 m2 := by
    have := sm.mul (⟨61, by omega, by omega, by omega⟩ : Sp 61 (2 ^ 60))
    rw [hm2] at this
    exact this.mono (by omega)
  have hm0 : 0 ≤ m2 := by rw [← hm2, ← hm]; exact Int.mul_nonneg (sq_nonneg x) (by decide)
  have hy0 : 0 ≤ y := by rw [← hy]; exact (near_spec m2 n hm0 h0).1
  have hzz0 : z = if x < 0 then -y else y := by rw [← hz, ← hy, ← hm2, ← hm]; rfl
  have HT := Lib.hid (fun (W : World) => times_any x x m W hx hx hm)
  have HL := Lib.hid (fun (v : Value) (W : World) (h : IntAt W v m) => show Calls Try.prog 89 #[v, .int .i64 60] W (RetB W fun r w' => IntAt w' r m2) from Left_any v m m2 60 60 W rfl h (sm.sm (by omega)) (sm2.sm (by omega)) (by omega) hm2)
  have HN := Lib.hid (fun (v u : Value) (W : World) (h : IntAt W v m2) (k : IntAt W u n) => hy ▸ nearest_any v u m2 n W h k (sm2.sc (by omega)) hs hm0 h0)
  have sy : Sl y := by
    -- y ≤ m2 + 1
    have h1 := near_spec m2 n hm0 h0
    rw [hy] at h1
    have h2 : y ≤ m2 + 1 := by
      refine Classical.byContradiction fun hc => ?_
      have h3 := h1.2.2 (by omega)
      have h4 : (2 * y - 1) * 1 ≤ (2 * y - 1) * (2 * y - 1) := Int.mul_le_mul_of_nonneg_left (by omega) (by omega)
      have h5 : (2 * y - 1) * (2 * y - 1) * 1 ≤ (2 * y - 1) * (2 * y - 1) * n := Int.mul_le_mul_of_nonneg_left (by omega) (by omega)
      have h6 : (2 * y - 1) * 3 ≤ (2 * y - 1) * (2 * y - 1) := Int.mul_le_mul_of_nonneg_left (by omega) (by omega)
      omega
    have h3 := sm2.add (⟨1, by omega, by omega, by omega⟩ : Sp 1 1)
    exact (h3.le hy0 h2).sl (by omega)
  obtain ⟨t, ht⟩ : ∃ t, -y = t := ⟨_, rfl⟩
  have HNG := Lib.hid (fun (v : Value) (W : World) (h : IntAt W v y) => ht ▸ neg_any v y W h sy.sm)
  have hyf : decide (y < 0) = false := decide_eq_false (by omega)
  obtain ⟨b1, b2, b3⟩ := boxes_ao hv 81 81
  have BN := Lib.hid b1
  have BO := Lib.hid b2
  have BE := Lib.hid b3
  have hzz : z = if x < 0 then t else y := ht ▸ hzz0
  have HZ := Lib.hid hzz
  clear b1 b2 b3 hv hs hm hm2 hy hz sm sm2 hm0 hy0 hzz hzz0 sy h0 ht
  go_enter Try.func57, Try.ntmps57
  go_wp2
  obtain ⟨WB, hWB⟩ : ∃ WB, ((w.alloc (.cells #[.bool false, .slice A n1 c1] 81)).alloc (.cells #[.bool false, .slice none 0 0] 81)) = WB := ⟨_, rfl⟩
  rw [hWB] at BN BO BE ⊢
  clear hWB
  ((have BN_0 := (BN.out).c0); (have BN_1 := (BN.out).c1); (have BN_2 := (BN.out).f0); (have BN_3 := (BN.out).f1); (have BN_4 := (BN.out).lt))
  go_cut [5] from 6 to 11 (fun yv wc => ∃ (g2 : Nat) (A2 : Option Addr) (n2 c2 : Nat), yv = .pointer (some ⟨g2, 0, none⟩) ∧ w.heap.size + 2 ≤ g2 ∧ Hid (IBox wc (w.heap.size + 1) false none 0 0 0) ∧ Hid (IBox wc g2 false A2 n2 c2 y) ∧ Hid (Below w.heap.size w wc))
  case first =>
    go_region_held3 (fun w' => w'.cell? ⟨w.heap.size, 0, none⟩ = some (.bool false) ∧ w'.cell? ⟨w.heap.size, 1, none⟩ = some (.slice A n1 c1)) (((repeat' (with_reducible apply And.intro)) <;> (first | (with_reducible assumption) | (go_split_ands; (repeat (with_reducible refine (World.cell?_setCell_far _ _ _ _ ?_).trans ?_; (· first | (dsimp only; omega) | (simp; done) | (simp; omega)))); (with_reducible assumption)) | (go_split_ands; (first | (with_reducible assumption) | go_simp); done) | (with_reducible refine (kcell (by assumption) ?_).trans ?_; (· exact (by first | (with_reducible assumption) | omega | (simp; done) | (simp; omega))); (· first | (with_reducible assumption) | (go_split_ands; with_reducible assumption))) | (go_split_ands; (repeat (first | (with_reducible assumption) | (with_reducible refine (World.cell?_setCell_far _ _ _ _ ?_).trans ?_; (· first | (dsimp only; omega) | (simp; done) | (simp; omega))) | (with_reducible refine alloc_swap (o := ?_) ?_ ?_ _; rotate_left 1; (· first | (dsimp only; omega) | (simp; done) | (simp; omega)); (· with_reducible assumption); (all_goals skip)) | (with_reducible refine alloc_keep ?_ _) | (with_reducible refine (kcell (by assumption) ?_).trans ?_; (· exact (by first | (with_reducible assumption) | omega | (simp; done) | (simp; omega)))))); done) | fail))) (first
      | (go_at_call 73; (with_reducible refine (HT.out _).mono ?_); rintro e w4 ⟨⟨v4, rfl, hv4⟩, hb4⟩; (obtain ⟨hc4, hf4⟩ := bcell hb4); (have hs4 := hb4.size); (try simp at hs4); ((try (have hy4_0 : WB.heap.size < w4.heap.size := by omega))))
      | (go_at_call 89; (with_reducible refine (HL.out _ _ ?_).mono ?_); (· ((repeat (first | (with_reducible assumption) | (with_reducible exact hv4) | (with_reducible refine IntAt.alloc ?_ _) | (with_reducible refine IntAt.drewN ?_ _) | (with_reducible refine IntAt.drew ?_) | (refine IntAt.stored ?_ (u0 := _) (by go_simp) (by simp) _) | (refine IntAt.below ?_ (by with_reducible assumption)))); done)); rintro e w5 ⟨⟨v5, rfl, hv5⟩, hb5⟩; (obtain ⟨hc5, hf5⟩ := bcell hb5); (have hs5 := hb5.size); (try simp at hs5); ((try (have hy5_0 : WB.heap.size < w5.heap.size := by omega)); (try (have hy5_1 : w4.heap.size < w5.heap.size := by omega))))
      | (go_at_call 77; (with_reducible refine (HN.out _ _ _ ?_ ?_).mono ?_); (· ((repeat (first | (with_reducible assumption) | (with_reducible exact hv5) | (with_reducible refine IntAt.alloc ?_ _) | (with_reducible refine IntAt.drewN ?_ _) | (with_reducible refine IntAt.drew ?_) | (refine IntAt.stored ?_ (u0 := _) (by go_simp) (by simp) _) | (refine IntAt.below ?_ (by with_reducible assumption)))); done)); (· ((repeat (first | (with_reducible assumption) | (with_reducible exact BN.out.int) | (with_reducible refine IntAt.alloc ?_ _) | (with_reducible refine IntAt.drewN ?_ _) | (with_reducible refine IntAt.drew ?_) | (refine IntAt.stored ?_ (u0 := _) (by go_simp) (by simp) _) | (refine IntAt.below ?_ (by with_reducible assumption)))); done)); rintro e w6 ⟨⟨v6, rfl, hv6⟩, hb6⟩; (obtain ⟨hc6, hf6⟩ := bcell hb6); (have hs6 := hb6.size); (try simp at hs6); (obtain ⟨A6, n6, c6, rfl, HN6⟩ := hv6.open_); clear hv6; ((try (have hy6_0 : WB.heap.size < w6.heap.size := by omega)); (try (have hy6_1 : w4.heap.size < w6.heap.size := by omega)); (try (have hy6_2 : w5.heap.size < w6.heap.size := by omega)))))
    all_goals (try go_wp2_with fail)
    all_goals go_meet
    all_goals have IY : IntAt w6 (.agg #[.bool false, .slice A6 n6 c6]) y := (by have h := IntAt.mk HN6.out; rwa [hyf] at h)
    all_goals have be := BE.out
    all_goals have l0 := BO.out.lt
    · exact ⟨_, _, _, _, rfl, by omega, Lib.hid (by repeat (first | (with_reducible assumption) | (with_reducible exact BO.out) | (with_reducible refine IBox.alloc ?_ _) | (with_reducible refine IBox.drew ?_) | (refine IBox.later ?_ (by with_reducible assumption)))), Lib.hid (IBox.made IY _), Lib.hid (by repeat (first | (with_reducible assumption) | exact Below.refl _ _ | (with_reducible refine Below.setCell ?_ (by first | (simp; done) | (simp; omega) | omega) _) | (with_reducible refine Below.alloc ?_ (by first | (simp; done) | (simp; omega) | omega) _) | (with_reducible refine below_drewN' ?_ _) | (with_reducible refine Below.drew ?_) | (refine below_after (by with_reducible assumption) ?_ (by first | (simp; done) | (simp; omega) | omega))))⟩
    · have NB : IBox w6 w5.heap.size false none 0 0 0 := (by repeat (first | (with_reducible assumption) | (with_reducible exact IBox.nil _ _) | (with_reducible refine IBox.alloc ?_ _) | (with_reducible refine IBox.drew ?_) | (refine IBox.later ?_ (by with_reducible assumption))))
      have a2 : IBox w6 (w.heap.size + 1) false none 0 0 0 := (by repeat (first | (with_reducible assumption) | (with_reducible exact BO.out) | (with_reducible refine IBox.alloc ?_ _) | (with_reducible refine IBox.drew ?_) | (refine IBox.later ?_ (by with_reducible assumption))))
      have a4 : Below w.heap.size w w6 := (by repeat (first | (with_reducible assumption) | exact Below.refl _ _ | (with_reducible refine Below.setCell ?_ (by first | (simp; done) | (simp; omega) | omega) _) | (with_reducible refine Below.alloc ?_ (by first | (simp; done) | (simp; omega) | omega) _) | (with_reducible refine below_drewN' ?_ _) | (with_reducible refine Below.drew ?_) | (refine below_after (by with_reducible assumption) ?_ (by first | (simp; done) | (simp; omega) | omega))))
      exact ⟨w5.heap.size, _, _, _, rfl, by omega, Lib.hid (a2.far NB (by omega) _ _), Lib.hid (NB.put IY), Lib.hid (NB.below a4 (by omega) _ _)⟩
    · have NB : IBox w6 w4.heap.size false none 0 0 0 := (by repeat (first | (with_reducible assumption) | (with_reducible exact IBox.nil _ _) | (with_reducible refine IBox.alloc ?_ _) | (with_reducible refine IBox.drew ?_) | (refine IBox.later ?_ (by with_reducible assumption))))
      have a2 : IBox w6 (w.heap.size + 1) false none 0 0 0 := (by repeat (first | (with_reducible assumption) | (with_reducible exact BO.out) | (with_reducible refine IBox.alloc ?_ _) | (with_reducible refine IBox.drew ?_) | (refine IBox.later ?_ (by with_reducible assumption))))
      have a4 : Below w.heap.size w w6 := (by repeat (first | (with_reducible assumption) | exact Below.refl _ _ | (with_reducible refine Below.setCell ?_ (by first | (simp; done) | (simp; omega) | omega) _) | (with_reducible refine Below.alloc ?_ (by first | (simp; done) | (simp; omega) | omega) _) | (with_reducible refine below_drewN' ?_ _) | (with_reducible refine Below.drew ?_) | (refine below_after (by with_reducible assumption) ?_ (by first | (simp; done) | (simp; omega) | omega))))
      exact ⟨w4.heap.size, _, _, _, rfl, by omega, Lib.hid (a2.far NB (by omega) _ _), Lib.hid (NB.put IY), Lib.hid (NB.below a4 (by omega) _ _)⟩
    · have NB : IBox w6 WB.heap.size false none 0 0 0 := (by repeat (first | (with_reducible assumption) | (with_reducible exact IBox.nil _ _) | (with_reducible refine IBox.alloc ?_ _) | (with_reducible refine IBox.drew ?_) | (refine IBox.later ?_ (by with_reducible assumption))))
      have a2 : IBox w6 (w.heap.size + 1) false none 0 0 0 := (by repeat (first | (with_reducible assumption) | (with_reducible exact BO.out) | (with_reducible refine IBox.alloc ?_ _) | (with_reducible refine IBox.drew ?_) | (refine IBox.later ?_ (by with_reducible assumption))))
      have a4 : Below w.heap.size w w6 := (by repeat (first | (with_reducible assumption) | exact Below.refl _ _ | (with_reducible refine Below.setCell ?_ (by first | (simp; done) | (simp; omega) | omega) _) | (with_reducible refine Below.alloc ?_ (by first | (simp; done) | (simp; omega) | omega) _) | (with_reducible refine below_drewN' ?_ _) | (with_reducible refine Below.drew ?_) | (refine below_after (by with_reducible assumption) ?_ (by first | (simp; done) | (simp; omega) | omega))))
      exact ⟨WB.heap.size, _, _, _, rfl, by omega, Lib.hid (a2.far NB (by omega) _ _), Lib.hid (NB.put IY), Lib.hid (NB.below a4 (by omega) _ _)⟩
  case rest =>
    clear BN BE
    obtain ⟨g2, A2, n2, c2, rfl, hg2, BO, BY, BE⟩ := hcut
    clear BN_0 BN_1 BN_2 BN_3 BN_4 HT HL HN
    ((have BO_0 := (BO.out).c0); (have BO_1 := (BO.out).c1); (have BO_2 := (BO.out).f0); (have BO_3 := (BO.out).f1); (have BO_4 := (BO.out).lt))
    ((have BY_0 := (BY.out).c0); (have BY_1 := (BY.out).c1); (have BY_2 := (BY.out).f0); (have BY_3 := (BY.out).f1); (have BY_4 := (BY.out).lt))
    by_cases hneg : x < 0
    · have hzy : z = t := by rw [HZ.out, if_pos hneg]
      have HX := Lib.hid hzy
      clear hzy HZ
      go_wp2_with (go_at_call 86; (with_reducible refine (HNG.out _ _ ?_).mono ?_); (· exact BY.out.int); rintro e w7 ⟨⟨v7, rfl, hv7⟩, hb7⟩; (obtain ⟨hc7, hf7⟩ := bcell hb7); (have hs7 := hb7.size); (try simp at hs7); (obtain ⟨A7, n7, c7, rfl, HN7⟩ := hv7.open_); clear hv7; ((have BO7 : IBox w7 (w.heap.size + 1) false none 0 0 0 := (by repeat (first | (with_reducible assumption) | (with_reducible exact BO.out) | (with_reducible refine IBox.alloc ?_ _) | (with_reducible refine IBox.drew ?_) | (refine IBox.later ?_ (by with_reducible assumption))))); (have m0 := BO7.c0); (have m1 := BO7.c1); (have m2 := BO7.f0); (have m3 := BO7.f1)))
      have be : Below w.heap.size w w7 := below_after hb7 BE.out BE.out.size
      refine bodyPost_ret (v := .agg #[.bool (decide (t < 0)), .slice A7 n7 c7]) (by simp [results, Try.results57, go_sem, m0, m1]) rfl ?_
      exact RetB.mk (by rw [HX.out]; exact (BO7.put (IntAt.mk HN7.out)).int) (BO7.below be (by omega) _ _)
    · have hzy : z = y := by rw [HZ.out, if_neg hneg]
      have HX := Lib.hid hzy
      clear hzy HZ
      go_wp2
      refine bodyPost_ret (v := .agg #[.bool false, .slice A2 n2 c2]) (by simp [results, Try.results57, go_sem, BO_0, BO_1]) rfl ?_
      exact RetB.mk (by rw [HX.out]; exact (BO.out.put BY.out.int).int) (BO.out.below BE.out (by omega) _ _)
theorem share_any (x n : Int) (v : Value) (w : World) (hx : I64 x) (hv : IntAt w v n) (hs : Sc n) (h0 : 0 < n) :
    Calls Try.prog 57 #[.int .i64 x, v] w (RetB w fun r w' => IntAt w' r (share x n)) := by
  obtain ⟨A, n1, c1, rfl, HA⟩ := hv.open_
  rw [decide_eq_false (show ¬ n < 0 by omega)] at hv ⊢
  exact share_at x n _ _ _ _ A n1 c1 w hx hv hs h0 rfl rfl rfl rfl
end Go.Proofs.Ytcabnnfhcolcfaa
