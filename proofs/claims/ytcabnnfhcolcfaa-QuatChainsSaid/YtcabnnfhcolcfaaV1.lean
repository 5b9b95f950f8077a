/- The walks of vec's small functions: Times, shifted, the closures of Scale, Sub, Cross. -/
import Derived.Test.YtcabnnfhcolcfaaF3
namespace Go.Proofs.Ytcabnnfhcolcfaa
set_option linter.unusedSimpArgs false
set_option linter.unusedVariables false
open Go.RowKit

/-- An int64. -/
def I64 (x : Int) : Prop := -9223372036854775808 ≤ x ∧ x ≤ 9223372036854775807
theorem I64.sp {x : Int} (h : I64 x) : Sp 64 x := ⟨64, by omega, by unfold I64 at h; omega, by unfold I64 at h; omega⟩
theorem times_any (x y s : Int) (w : World) (hx : I64 x) (hy : I64 y) (hs : x * y = s) :
    Calls Try.prog 73 #[.int .i64 x, .int .i64 y] w (RetB w fun r w' => IntAt w' r s) := by
  have HF1 := Lib.hid (fun (W : World) => from_any x W hx.1 hx.2)
  have HF2 := Lib.hid (fun (W : World) => from_any y W hy.1 hy.2)
  have HM := Lib.hid (fun (v u : Value) (W : World) (h : IntAt W v x) (k : IntAt W u y) => mul_int v u x y s W h k (hx.sp.sl (by omega)) (hy.sp.sl (by omega)) hs)
  have tok1 : True := trivial
  clear hs hx hy
  go_enter Try.func73, Try.ntmps73
  go_wp2_with (first
    | ((have _t := tok1); (go_at_call 50; (with_reducible refine (HF1.out _).mono ?_); rintro e w1 ⟨⟨v1, rfl, hv1⟩, hb1⟩; (obtain ⟨hc1, hf1⟩ := bcell hb1); (have hs1 := hb1.size); (try simp at hs1); (have hz1_0 : w.heap.size < w1.heap.size := by omega); clear tok1))
    | (go_at_call 50; (with_reducible refine (HF2.out _).mono ?_); rintro e w2 ⟨⟨v2, rfl, hv2⟩, hb2⟩; (obtain ⟨hc2, hf2⟩ := bcell hb2); (have hs2 := hb2.size); (try simp at hs2); (have hz2_0 : w.heap.size < w2.heap.size := by omega))
    | (go_at_call 108; (with_reducible refine (HM.out _ _ _ ?_ ?_).mono ?_); (· ((repeat (first | (with_reducible assumption) | (with_reducible exact hv1) | (with_reducible refine IntAt.alloc ?_ _) | (with_reducible refine IntAt.drewN ?_ _) | (with_reducible refine IntAt.drew ?_) | (refine IntAt.stored ?_ (u0 := _) (by go_simp) (by simp) _) | (refine IntAt.below ?_ (by with_reducible assumption)))); done)); (· ((repeat (first | (with_reducible assumption) | (with_reducible exact hv2) | (with_reducible refine IntAt.alloc ?_ _) | (with_reducible refine IntAt.drewN ?_ _) | (with_reducible refine IntAt.drew ?_) | (refine IntAt.stored ?_ (u0 := _) (by go_simp) (by simp) _) | (refine IntAt.below ?_ (by with_reducible assumption)))); done)); rintro e w3 ⟨⟨v3, rfl, hv3⟩, hb3⟩; (obtain ⟨hc3, hf3⟩ := bcell hb3); (have hs3 := hb3.size); (try simp at hs3); (have hz3_0 : w.heap.size < w3.heap.size := by omega); (obtain ⟨A3, n3, c3, rfl, HN3⟩ := hv3.open_); clear hv3))
  (((try (rename_i hH; clear hH)); (have e0 : w3.cell? ⟨w.heap.size, 0, none⟩ = some (.bool false) := by go_simp); (have e1 : w3.cell? ⟨w.heap.size, 1, none⟩ = some (.slice none 0 0) := by go_simp); (refine bodyPost_ret (v := .agg #[.bool (decide (s < 0)), .slice A3 n3 c3]) (by simp [results, Try.results73, go_sem, e0, e1]) rfl ?_); (refine RetB.mk (IntAt.put (i := s) (u0 := .bool false) (u1 := .slice none 0 0) (by simpa using HN3.out) e0 (by simp) e1 (by simp) (by first | rfl | (simp; done) | (simp; omega))) ?_); (exact (by repeat (first | (with_reducible assumption) | exact Below.refl _ _ | (with_reducible refine Below.setCell ?_ (by first | (simp; done) | (simp; omega) | omega) _) | (with_reducible refine Below.alloc ?_ (by first | (simp; done) | (simp; omega) | omega) _) | (with_reducible refine below_drewN' ?_ _) | (with_reducible refine Below.drew ?_) | (refine below_after (by with_reducible assumption) ?_ (by first | (simp; done) | (simp; omega) | omega)))))))
set_option maxHeartbeats 1000000 in
theorem shifted_any (v : Value) (n : Int) (w : World) (hv : IntAt w v n) (hs : Sl n) :
    Calls Try.prog 72 #[v] w (RetB w fun r w' => IntAt w' r (rnd n (2 ^ 30))) := by
  obtain ⟨A, n1, c1, rfl, HA⟩ := hv.open_
  have HV := Lib.hid hv
  obtain ⟨s, hs'⟩ : ∃ s, rnd n (2 ^ 30) = s := ⟨_, rfl⟩
  obtain ⟨p, hp⟩ : ∃ p, (2 : Int) ^ 30 = p := ⟨_, rfl⟩
  have HP := Lib.hid (fun (W : World) => show Calls Try.prog 63 #[.int .i64 30] W (RetB W fun r w' => IntAt w' r p) from hp ▸ power_any 30 30 W rfl (by omega))
  have HR := Lib.hid (fun (u : Value) (W : World) (h : IntAt W (.agg #[.bool (decide (n < 0)), .slice A n1 c1]) n) (k : IntAt W u p) => (by
    have h := Round_any _ u n p W h k hs (Sl.word (by omega) (by omega)) (by omega)
    rw [← hp, hs'] at h; exact h : Calls Try.prog 62 #[.agg #[.bool (decide (n < 0)), .slice A n1 c1], u] W (RetB W fun r w' => IntAt w' r s)))
  rw [hs']
  clear hs hs' hv hp HA
  go_enter Try.func72, Try.ntmps72
  go_wp2
  go_region_held3 (fun w' => w'.cell? ⟨w.heap.size, 0, none⟩ = some (.bool (decide (n < 0))) ∧ w'.cell? ⟨w.heap.size, 1, none⟩ = some (.slice A n1 c1)) (((repeat' (with_reducible apply And.intro)) <;> (first | (with_reducible assumption) | (go_split_ands; (repeat (with_reducible refine (World.cell?_setCell_far _ _ _ _ ?_).trans ?_; (· first | (dsimp only; omega) | (simp; done) | (simp; omega)))); (with_reducible assumption)) | (go_split_ands; (first | (with_reducible assumption) | go_simp); done) | (with_reducible refine (kcell (by assumption) ?_).trans ?_; (· exact (by first | (with_reducible assumption) | omega | (simp; done) | (simp; omega))); (· first | (with_reducible assumption) | (go_split_ands; with_reducible assumption))) | (go_split_ands; (repeat (first | (with_reducible assumption) | (with_reducible refine (World.cell?_setCell_far _ _ _ _ ?_).trans ?_; (· first | (dsimp only; omega) | (simp; done) | (simp; omega))) | (with_reducible refine alloc_swap (o := ?_) ?_ ?_ _; rotate_left 1; (· first | (dsimp only; omega) | (simp; done) | (simp; omega)); (· with_reducible assumption); (all_goals skip)) | (with_reducible refine alloc_keep ?_ _) | (with_reducible refine (kcell (by assumption) ?_).trans ?_; (· exact (by first | (with_reducible assumption) | omega | (simp; done) | (simp; omega)))))); done) | fail))) (first
    | (go_at_call 63; (with_reducible refine (HP.out _).mono ?_); rintro e w1 ⟨⟨v1, rfl, hv1⟩, hb1⟩; (obtain ⟨hc1, hf1⟩ := bcell hb1); (have hs1 := hb1.size); (try simp at hs1); (have hz1_0 : w.heap.size < w1.heap.size := by omega); (have hz1_1 : w.heap.size + 1 < w1.heap.size := by omega))
    | (go_at_call 62; (with_reducible refine (HR.out _ _ ?_ ?_).mono ?_); (· exact (HV.out).below (by repeat (first | (with_reducible assumption) | exact Below.refl _ _ | (with_reducible refine Below.setCell ?_ (by first | (simp; done) | (simp; omega) | omega) _) | (with_reducible refine Below.alloc ?_ (by first | (simp; done) | (simp; omega) | omega) _) | (with_reducible refine below_drewN' ?_ _) | (with_reducible refine Below.drew ?_) | (refine below_after (by with_reducible assumption) ?_ (by first | (simp; done) | (simp; omega) | omega))))); (· ((repeat (first | (with_reducible assumption) | (with_reducible exact hv1) | (with_reducible refine IntAt.alloc ?_ _) | (with_reducible refine IntAt.drewN ?_ _) | (with_reducible refine IntAt.drew ?_) | (refine IntAt.stored ?_ (u0 := _) (by go_simp) (by simp) _) | (refine IntAt.below ?_ (by with_reducible assumption)))); done)); rintro e w2 ⟨⟨v2, rfl, hv2⟩, hb2⟩; (obtain ⟨hc2, hf2⟩ := bcell hb2); (have hs2 := hb2.size); (try simp at hs2); (have hz2_0 : w.heap.size < w2.heap.size := by omega); (have hz2_1 : w.heap.size + 1 < w2.heap.size := by omega); (obtain ⟨A2, n2, c2, rfl, HN2⟩ := hv2.open_); clear hv2; ((have r2_cell0 : w2.cell? ⟨w.heap.size + 1, 0, none⟩ = some (.bool false) := (hc2 _ _ (by first | (simp; done) | (simp; omega) | omega)).trans (by first | (with_reducible assumption) | (go_simp; done))); (have r2_cell1 : w2.cell? ⟨w.heap.size + 1, 1, none⟩ = some (.slice none 0 0) := (hc2 _ _ (by first | (simp; done) | (simp; omega) | omega)).trans (by first | (with_reducible assumption) | (go_simp; done))); (have r2_frozen0 : w2.frozen? ⟨w.heap.size + 1, 0, none⟩ = false := (hf2 _ _ (by first | (simp; done) | (simp; omega) | omega)).trans (by first | (with_reducible assumption) | (go_simp; done))); (have r2_frozen1 : w2.frozen? ⟨w.heap.size + 1, 1, none⟩ = false := (hf2 _ _ (by first | (simp; done) | (simp; omega) | omega)).trans (by first | (with_reducible assumption) | (go_simp; done))))))
  go_wp2
  (((try (rename_i hH; clear hH)); (have e0 : w2.cell? ⟨w.heap.size + 1, 0, none⟩ = some (.bool false) := by go_simp); (have e1 : w2.cell? ⟨w.heap.size + 1, 1, none⟩ = some (.slice none 0 0) := by go_simp); (refine bodyPost_ret (v := .agg #[.bool (decide (s < 0)), .slice A2 n2 c2]) (by simp [results, Try.results72, go_sem, e0, e1]) rfl ?_); (refine RetB.mk (IntAt.put (i := s) (u0 := .bool false) (u1 := .slice none 0 0) (by simpa using HN2.out) e0 (by simp) e1 (by simp) (by first | rfl | (simp; done) | (simp; omega))) ?_); (exact (by repeat (first | (with_reducible assumption) | exact Below.refl _ _ | (with_reducible refine Below.setCell ?_ (by first | (simp; done) | (simp; omega) | omega) _) | (with_reducible refine Below.alloc ?_ (by first | (simp; done) | (simp; omega) | omega) _) | (with_reducible refine below_drewN' ?_ _) | (with_reducible refine Below.drew ?_) | (refine below_after (by with_reducible assumption) ?_ (by first | (simp; done) | (simp; omega) | omega)))))))
theorem scale1_any (x y s : Int) (w : World) (hx : I64 x) (hy : I64 y) (hs : rnd (x * y) (2 ^ 30) = s) :
    Calls Try.prog 71 #[.int .i64 x, .int .i64 y] w (RetB w fun r w' => IntAt w' r s) := by
  obtain ⟨m, hm⟩ : ∃ m, x * y = m := ⟨_, rfl⟩
  rw [hm] at hs
  have HT := Lib.hid (fun (W : World) => times_any x y m W hx hy hm)
  have HS := Lib.hid (fun (v : Value) (W : World) (h : IntAt W v m) => hs ▸ shifted_any v m W h ((hm ▸ hx.sp.mul hy.sp).sl (by omega)))
  clear hs hx hy hm
  go_enter Try.func71, Try.ntmps71
  go_wp2_with (first
    | (go_at_call 73; (with_reducible refine (HT.out _).mono ?_); rintro e w1 ⟨⟨v1, rfl, hv1⟩, hb1⟩; (obtain ⟨hc1, hf1⟩ := bcell hb1); (have hs1 := hb1.size); (try simp at hs1); (have hz1_0 : w.heap.size < w1.heap.size := by omega))
    | (go_at_call 72; (with_reducible refine (HS.out _ _ ?_).mono ?_); (· ((repeat (first | (with_reducible assumption) | (with_reducible exact hv1) | (with_reducible refine IntAt.alloc ?_ _) | (with_reducible refine IntAt.drewN ?_ _) | (with_reducible refine IntAt.drew ?_) | (refine IntAt.stored ?_ (u0 := _) (by go_simp) (by simp) _) | (refine IntAt.below ?_ (by with_reducible assumption)))); done)); rintro e w2 ⟨⟨v2, rfl, hv2⟩, hb2⟩; (obtain ⟨hc2, hf2⟩ := bcell hb2); (have hs2 := hb2.size); (try simp at hs2); (have hz2_0 : w.heap.size < w2.heap.size := by omega); (obtain ⟨A2, n2, c2, rfl, HN2⟩ := hv2.open_); clear hv2))
  (((try (rename_i hH; clear hH)); (have e0 : w2.cell? ⟨w.heap.size, 0, none⟩ = some (.bool false) := by go_simp); (have e1 : w2.cell? ⟨w.heap.size, 1, none⟩ = some (.slice none 0 0) := by go_simp); (refine bodyPost_ret (v := .agg #[.bool (decide (s < 0)), .slice A2 n2 c2]) (by simp [results, Try.results71, go_sem, e0, e1]) rfl ?_); (refine RetB.mk (IntAt.put (i := s) (u0 := .bool false) (u1 := .slice none 0 0) (by simpa using HN2.out) e0 (by simp) e1 (by simp) (by first | rfl | (simp; done) | (simp; omega))) ?_); (exact (by repeat (first | (with_reducible assumption) | exact Below.refl _ _ | (with_reducible refine Below.setCell ?_ (by first | (simp; done) | (simp; omega) | omega) _) | (with_reducible refine Below.alloc ?_ (by first | (simp; done) | (simp; omega) | omega) _) | (with_reducible refine below_drewN' ?_ _) | (with_reducible refine Below.drew ?_) | (refine below_after (by with_reducible assumption) ?_ (by first | (simp; done) | (simp; omega) | omega)))))))
theorem sub1_any (x y s : Int) (w : World) (h1 : I64 (x - y)) (hs : x - y = s) :
    Calls Try.prog 76 #[.int .i64 x, .int .i64 y] w (RetB w fun r w' => IntAt w' r s) := by
  have HF := Lib.hid (fun (W : World) => hs ▸ from_any (x - y) W h1.1 h1.2)
  have hw : IntKind.i64.wrap (x - y) = s := by rw [IntKind.wrap_i64]; unfold I64 at h1; omega
  have hw2 : wrap64 (x - y) = s := by unfold wrap64; unfold I64 at h1; omega
  clear h1 hs
  go_enter Try.func76, Try.ntmps76
  go_wp2_with (first
    | (go_at_call 50; (with_reducible refine (HF.out _).mono ?_); rintro e w1 ⟨⟨v1, rfl, hv1⟩, hb1⟩; (obtain ⟨hc1, hf1⟩ := bcell hb1); (have hs1 := hb1.size); (try simp at hs1); (have hz1_0 : w.heap.size < w1.heap.size := by omega); (obtain ⟨A1, n1, c1, rfl, HN1⟩ := hv1.open_); clear hv1))
  (((try (rename_i hH; clear hH)); (have e0 : w1.cell? ⟨w.heap.size, 0, none⟩ = some (.bool false) := by go_simp); (have e1 : w1.cell? ⟨w.heap.size, 1, none⟩ = some (.slice none 0 0) := by go_simp); (refine bodyPost_ret (v := .agg #[.bool (decide (s < 0)), .slice A1 n1 c1]) (by simp [results, Try.results76, go_sem, e0, e1]) rfl ?_); (refine RetB.mk (IntAt.put (i := s) (u0 := .bool false) (u1 := .slice none 0 0) (by simpa using HN1.out) e0 (by simp) e1 (by simp) (by first | rfl | (simp; done) | (simp; omega))) ?_); (exact (by repeat (first | (with_reducible assumption) | exact Below.refl _ _ | (with_reducible refine Below.setCell ?_ (by first | (simp; done) | (simp; omega) | omega) _) | (with_reducible refine Below.alloc ?_ (by first | (simp; done) | (simp; omega) | omega) _) | (with_reducible refine below_drewN' ?_ _) | (with_reducible refine Below.drew ?_) | (refine below_after (by with_reducible assumption) ?_ (by first | (simp; done) | (simp; omega) | omega)))))))
theorem cross1_any (p q r s z : Int) (w : World) (hp : I64 p) (hq : I64 q) (hr : I64 r) (hs : I64 s) (hz : rnd (p * q - r * s) (2 ^ 30) = z) :
    Calls Try.prog 132 #[.int .i64 p, .int .i64 q, .int .i64 r, .int .i64 s] w (RetB w fun r w' => IntAt w' r z) := by
  obtain ⟨m, hm⟩ : ∃ m, p * q = m := ⟨_, rfl⟩
  obtain ⟨n, hn⟩ : ∃ n, r * s = n := ⟨_, rfl⟩
  obtain ⟨d, hd⟩ : ∃ d, m - n = d := ⟨_, rfl⟩
  rw [hm, hn, hd] at hz
  have sm : Sp 128 m := hm ▸ hp.sp.mul hq.sp
  have sn : Sp 128 n := hn ▸ hr.sp.mul hs.sp
  have sd : Sp 257 d := by have := sm.add sn.neg; rwa [show m + -n = d by omega] at this
  have HT1 := Lib.hid (fun (W : World) => times_any p q m W hp hq hm)
  have HT2 := Lib.hid (fun (W : World) => times_any r s n W hr hs hn)
  have HD := Lib.hid (fun (v u : Value) (W : World) (h : IntAt W v m) (k : IntAt W u n) => sub_int v u m n d W h k (sm.sl (by omega)) (sn.sl (by omega)) hd)
  have HS := Lib.hid (fun (v : Value) (W : World) (h : IntAt W v d) => hz ▸ shifted_any v d W h (sd.sl (by omega)))
  have tok1 : True := trivial
  clear hz hp hq hr hs hm hn hd sm sn sd
  go_enter Try.func132, Try.ntmps132
  go_wp2_with (first
    | ((have _t := tok1); (go_at_call 73; (with_reducible refine (HT1.out _).mono ?_); rintro e w1 ⟨⟨v1, rfl, hv1⟩, hb1⟩; (obtain ⟨hc1, hf1⟩ := bcell hb1); (have hs1 := hb1.size); (try simp at hs1); (have hz1_0 : w.heap.size < w1.heap.size := by omega); clear tok1))
    | (go_at_call 73; (with_reducible refine (HT2.out _).mono ?_); rintro e w2 ⟨⟨v2, rfl, hv2⟩, hb2⟩; (obtain ⟨hc2, hf2⟩ := bcell hb2); (have hs2 := hb2.size); (try simp at hs2); (have hz2_0 : w.heap.size < w2.heap.size := by omega))
    | (go_at_call 93; (with_reducible refine (HD.out _ _ _ ?_ ?_).mono ?_); (· ((repeat (first | (with_reducible assumption) | (with_reducible exact hv1) | (with_reducible refine IntAt.alloc ?_ _) | (with_reducible refine IntAt.drewN ?_ _) | (with_reducible refine IntAt.drew ?_) | (refine IntAt.stored ?_ (u0 := _) (by go_simp) (by simp) _) | (refine IntAt.below ?_ (by with_reducible assumption)))); done)); (· ((repeat (first | (with_reducible assumption) | (with_reducible exact hv2) | (with_reducible refine IntAt.alloc ?_ _) | (with_reducible refine IntAt.drewN ?_ _) | (with_reducible refine IntAt.drew ?_) | (refine IntAt.stored ?_ (u0 := _) (by go_simp) (by simp) _) | (refine IntAt.below ?_ (by with_reducible assumption)))); done)); rintro e w3 ⟨⟨v3, rfl, hv3⟩, hb3⟩; (obtain ⟨hc3, hf3⟩ := bcell hb3); (have hs3 := hb3.size); (try simp at hs3); (have hz3_0 : w.heap.size < w3.heap.size := by omega))
    | (go_at_call 72; (with_reducible refine (HS.out _ _ ?_).mono ?_); (· ((repeat (first | (with_reducible assumption) | (with_reducible exact hv3) | (with_reducible refine IntAt.alloc ?_ _) | (with_reducible refine IntAt.drewN ?_ _) | (with_reducible refine IntAt.drew ?_) | (refine IntAt.stored ?_ (u0 := _) (by go_simp) (by simp) _) | (refine IntAt.below ?_ (by with_reducible assumption)))); done)); rintro e w4 ⟨⟨v4, rfl, hv4⟩, hb4⟩; (obtain ⟨hc4, hf4⟩ := bcell hb4); (have hs4 := hb4.size); (try simp at hs4); (have hz4_0 : w.heap.size < w4.heap.size := by omega); (obtain ⟨A4, n4, c4, rfl, HN4⟩ := hv4.open_); clear hv4))
  (((try (rename_i hH; clear hH)); (have e0 : w4.cell? ⟨w.heap.size, 0, none⟩ = some (.bool false) := by go_simp); (have e1 : w4.cell? ⟨w.heap.size, 1, none⟩ = some (.slice none 0 0) := by go_simp); (refine bodyPost_ret (v := .agg #[.bool (decide (z < 0)), .slice A4 n4 c4]) (by simp [results, Try.results132, go_sem, e0, e1]) rfl ?_); (refine RetB.mk (IntAt.put (i := z) (u0 := .bool false) (u1 := .slice none 0 0) (by simpa using HN4.out) e0 (by simp) e1 (by simp) (by first | rfl | (simp; done) | (simp; omega))) ?_); (exact (by repeat (first | (with_reducible assumption) | exact Below.refl _ _ | (with_reducible refine Below.setCell ?_ (by first | (simp; done) | (simp; omega) | omega) _) | (with_reducible refine Below.alloc ?_ (by first | (simp; done) | (simp; omega) | omega) _) | (with_reducible refine below_drewN' ?_ _) | (with_reducible refine Below.drew ?_) | (refine below_after (by with_reducible assumption) ?_ (by first | (simp; done) | (simp; omega) | omega)))))))
end Go.Proofs.Ytcabnnfhcolcfaa
