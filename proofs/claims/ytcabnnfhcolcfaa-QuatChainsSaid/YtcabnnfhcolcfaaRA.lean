/- The walk of quat.Unit. -/
import Derived.Test.YtcabnnfhcolcfaaR9
import Derived.Test.YtcabnnfhcolcfaaQ2
namespace Go.Proofs.Ytcabnnfhcolcfaa
set_option linter.unusedSimpArgs false
set_option linter.unusedVariables false
open Go.RowKit

theorem eqlq (a b c d : Int) (W : World) : (binOp .eql 38 (.agg #[.int .i64 a, .int .i64 b, .int .i64 c, .int .i64 d]) (.agg #[.int .i64 0, .int .i64 0, .int .i64 0, .int .i64 0])).run Try.prog W = .ok (.bool (decide (a = 0 ∧ b = 0 ∧ c = 0 ∧ d = 0))) W := by
  by_cases h0 : a = 0 <;> by_cases h1 : b = 0 <;> by_cases h2 : c = 0 <;> by_cases h3 : d = 0 <;> go_simp
  all_goals (first | rfl | simp [h0, h1, h2, h3])
def zeroQ (q : Q4) : Prop := q.w = 0 ∧ q.x = 0 ∧ q.y = 0 ∧ q.z = 0
theorem nm_pos {q : Q4} (h : ¬ zeroQ q) : 0 < q.nm := sq4_pos h
theorem nm_sp {P : Nat} {q : Q4} (h : SQ P q) : Sp (8 * P + 3) q.nm := by
  obtain ⟨s1, s2, s3, s4⟩ := h
  have := (((s1.mul s1).add (s2.mul s2)).add (s3.mul s3)).add (s4.mul s4)
  exact this.mono (by omega)
theorem conj_good {q : Q4} (h : goodQ q = true) : goodQ q.conj = true := by
  obtain ⟨h1, h2, h3, h4⟩ := (goodQ_iff q).1 h
  exact (goodQ_iff _).2 ⟨h1, by unfold Wd at *; simp only [Q4.conj]; omega, by unfold Wd at *; simp only [Q4.conj]; omega, by unfold Wd at *; simp only [Q4.conj]; omega⟩
/-- A unit's numbers are words. -/
theorem unit_sq (q : Q4) (h : 0 < q.nm) : SQ 32 q.unit := by
  have hs := Q4.one_sz (unit_one q h)
  obtain ⟨h1, h2, h3, h4⟩ := hs.part
  exact ⟨⟨32, by omega, by omega, by omega⟩, ⟨32, by omega, by omega, by omega⟩, ⟨32, by omega, by omega, by omega⟩, ⟨32, by omega, by omega, by omega⟩⟩
theorem unit_good (q : Q4) (h : 0 < q.nm) : goodQ q.unit = true := by
  have hs := Q4.one_sz (unit_one q h)
  obtain ⟨h1, h2, h3, h4⟩ := hs.part
  exact (goodQ_iff _).2 ⟨by unfold Wd; omega, by unfold Wd; omega, by unfold Wd; omega, by unfold Wd; omega⟩
set_option maxHeartbeats 1000000 in
theorem qunit_zero (w : World) : Calls Try.prog 19 #[quatQ ⟨0, 0, 0, 0⟩] w (RetB w (QuatT ⟨0, 0, 0, 0⟩ 3)) := by
  have HG := Lib.hid (fun (W : World) => qgoodQ_true ⟨0, 0, 0, 0⟩ (by decide) W)
  simp only [quatQ, quatV] at HG ⊢
  go_enter Try.func19, Try.ntmps19
  go_wp2_with (go_at_call 54; (with_reducible refine (HG.out _).mono ?_); rintro e w1 ⟨⟨v1, rfl, rfl⟩, hb1⟩; (obtain ⟨hc1, hf1⟩ := bcell hb1); (have hs1 := hb1.size); (try simp at hs1); (have hz1_0 : w.heap.size < w1.heap.size := by omega); (have hz1_1 : w.heap.size + 1 < w1.heap.size := by omega))
  have JR1 := (JBox.made (W := w.alloc (.cells #[.int .i64 0, .int .i64 0, .int .i64 0, .int .i64 0] 38)) (g := w.heap.size + 1) (by simp) (fun _ => 0) 38).later hb1
  have be1 : Below w.heap.size w w1 := (by repeat (first | (with_reducible assumption) | exact Below.refl _ _ | (with_reducible refine Below.setCell ?_ (by first | (simp; done) | (simp; omega) | omega) _) | (with_reducible refine Below.alloc ?_ (by first | (simp; done) | (simp; omega) | omega) _) | (with_reducible refine below_drewN' ?_ _) | (with_reducible refine Below.drew ?_) | (refine below_after (by with_reducible assumption) ?_ (by first | (simp; done) | (simp; omega) | omega))))
  obtain ⟨r0, r1, r2, r3⟩ := (JR1.put4 0 0 0 0).at4
  refine bodyPost_ret (v := .tuple #[.agg #[.int .i64 0, .int .i64 0, .int .i64 0, .int .i64 0], .int .i64 3]) (by simp [results, Try.results19, go_sem, r0, r1, r2, r3]) rfl ?_
  exact RetB.mk rfl (below4 be1 (by omega) _ _ _ _)
set_option maxHeartbeats 4000000 in
set_option maxRecDepth 100000 in
theorem qunit_any (q : Q4) (w : World) (hq : goodQ q = true) (hz : ¬ zeroQ q) :
    Calls Try.prog 19 #[quatQ q] w (RetB w (QuatT q.unit 0)) := by
  have HG := Lib.hid (fun (W : World) => qgoodQ_true q hq W)
  have hpos := nm_pos hz
  obtain ⟨h1, h2, h3, h4⟩ := goodQ_i64 hq
  obtain ⟨m, hm⟩ : ∃ m, q.nm = m := ⟨_, rfl⟩
  have sm : Sc m := hm ▸ (nm_sp (goodQ_sq hq)).sc (by omega)
  have HSQ := Lib.hid (fun (W : World) => squares_any q.w q.x q.y q.z m W h1 h2 h3 h4 hm)
  have HTD := Lib.hid (fun (v : Value) (W : World) (h : FourQ W v q.unit) => toldQ_any v q.unit _ W h (unit_sq q hpos) (by omega))
  have htq : toldQ q.unit = q.unit ∧ errQ q.unit = 0 := by unfold toldQ errQ; rw [if_pos (unit_good q hpos), if_pos (unit_good q hpos)]; exact ⟨rfl, rfl⟩
  rw [htq.1, htq.2] at HTD
  rw [hm] at hpos
  have HS0 := Lib.hid (fun (u : Value) (W : World) (h : IntAt W u m) => share_any q.w m u W h1 h sm hpos)
  have HS1 := Lib.hid (fun (u : Value) (W : World) (h : IntAt W u m) => share_any q.x m u W h2 h sm hpos)
  have HS2 := Lib.hid (fun (u : Value) (W : World) (h : IntAt W u m) => share_any q.y m u W h3 h sm hpos)
  have HS3 := Lib.hid (fun (u : Value) (W : World) (h : IntAt W u m) => share_any q.z m u W h4 h sm hpos)
  have HEQ : ∀ W : World, (binOp .eql 38 (.agg #[.int .i64 q.w, .int .i64 q.x, .int .i64 q.y, .int .i64 q.z]) (.agg #[.int .i64 0, .int .i64 0, .int .i64 0, .int .i64 0])).run Try.prog W = .ok (.bool false) W := fun W => by rw [eqlq, decide_eq_false (show ¬ (q.w = 0 ∧ q.x = 0 ∧ q.y = 0 ∧ q.z = 0) from hz)]
  obtain ⟨r, hr⟩ : ∃ r, q.unit = r := ⟨_, rfl⟩
  have hrw : share q.w m = r.w ∧ share q.x m = r.x ∧ share q.y m = r.y ∧ share q.z m = r.z := by rw [← hr, ← hm]; exact ⟨rfl, rfl, rfl, rfl⟩
  rw [hrw.1] at HS0
  rw [hrw.2.1] at HS1
  rw [hrw.2.2.1] at HS2
  rw [hrw.2.2.2] at HS3
  rw [hr] at HTD ⊢
  cases q with
  | mk q0 q1 q2 q3 =>
  cases r with
  | mk r0 r1 r2 r3 =>
  have HTD := Lib.hid (show ∀ (v : Value) (W : World), FourQ W v ⟨r0, r1, r2, r3⟩ → Calls Try.prog 56 #[v] W (RetB W fun r _ => r = .tuple #[.agg #[.int .i64 r0, .int .i64 r1, .int .i64 r2, .int .i64 r3], .int .i64 0]) from HTD.out)
  simp only [quatQ, quatV] at HG HSQ HS0 HS1 HS2 HS3 HEQ ⊢
  clear hq hz hpos h1 h2 h3 h4 sm hm htq hr hrw
  go_enter Try.func19, Try.ntmps19
  go_upto_region 6 with (first
    | (go_at_call 54; (with_reducible refine (HG.out _).mono ?_); rintro e w1 ⟨⟨v1, rfl, rfl⟩, hb1⟩; (obtain ⟨hc1, hf1⟩ := bcell hb1); (have hs1 := hb1.size); (try simp at hs1); (have hz1_0 : w.heap.size < w1.heap.size := by omega); (have hz1_1 : w.heap.size + 1 < w1.heap.size := by omega))
    | (go_at_call 55; (with_reducible refine (HSQ.out _).mono ?_); rintro e w2 ⟨⟨v2, rfl, hv2⟩, hb2⟩; (obtain ⟨hc2, hf2⟩ := bcell hb2); (have hs2 := hb2.size); (try simp at hs2); (have hz2_0 : w.heap.size < w2.heap.size := by omega); (have hz2_1 : w.heap.size + 1 < w2.heap.size := by omega); (obtain ⟨A2, n2, c2, rfl, HN2⟩ := hv2.open_); clear hv2))
  have IN : IntAt w2 (.agg #[.bool (decide (m < 0)), .slice A2 n2 c2]) m := IntAt.mk HN2.out
  have JQ0 := (JBox.made (W := w) rfl (pick4 q0 q1 q2 q3) 38).alloc (.cells #[.int .i64 0, .int .i64 0, .int .i64 0, .int .i64 0] 38)
  have JR0 := JBox.made (W := w.alloc (.cells #[.int .i64 q0, .int .i64 q1, .int .i64 q2, .int .i64 q3] 38)) (g := w.heap.size + 1) (by simp) (fun _ => 0) 38
  have JQ := ((JQ0.later hb1).later hb2).alloc (.cells #[.bool (decide (m < 0)), .slice A2 n2 c2] 81)
  have JR := Lib.hid (((JR0.later hb1).later hb2).alloc (.cells #[.bool (decide (m < 0)), .slice A2 n2 c2] 81))
  have BN := Lib.hid (IBox.made IN 81)
  have BE := Lib.hid (show Below w.heap.size w (w2.alloc (.cells #[.bool (decide (m < 0)), .slice A2 n2 c2] 81)) from (by repeat (first | (with_reducible assumption) | exact Below.refl _ _ | (with_reducible refine Below.setCell ?_ (by first | (simp; done) | (simp; omega) | omega) _) | (with_reducible refine Below.alloc ?_ (by first | (simp; done) | (simp; omega) | omega) _) | (with_reducible refine below_drewN' ?_ _) | (with_reducible refine Below.drew ?_) | (refine below_after (by with_reducible assumption) ?_ (by first | (simp; done) | (simp; omega) | omega)))))
  have bg : w.heap.size + 1 < w2.heap.size := by have := ((JR0.later hb1).later hb2).lt; omega
  obtain ⟨g, hg⟩ : ∃ g, w2.heap.size = g := ⟨_, rfl⟩
  obtain ⟨W6, hW6⟩ : ∃ W, w2.alloc (.cells #[.bool (decide (m < 0)), .slice A2 n2 c2] 81) = W := ⟨_, rfl⟩
  rw [hW6] at JQ JR BN BE
  rw [hg] at BN bg
  rw [hg, hW6]
  have bes := BE.out.size
  obtain ⟨p0, p1, p2, p3⟩ := JQ.at4
  have n0 := BN.out.c0
  have n1 := BN.out.c1
  clear hg hW6 IN HN2 JQ0 JR0 JQ hc1 hf1 hb1 hs1 hc2 hf2 hb2 hs2 hz1_0 hz1_1 hz2_0 hz2_1
  (refine start_ (S := (fun w' => ((w'.cell? ⟨w.heap.size, 0, none⟩ = some (.int .i64 q0) ∧ w'.cell? ⟨w.heap.size, 1, none⟩ = some (.int .i64 q1)) ∧ (w'.cell? ⟨w.heap.size, 2, none⟩ = some (.int .i64 q2) ∧ w'.cell? ⟨w.heap.size, 3, none⟩ = some (.int .i64 q3))) ∧ (w'.cell? ⟨g, 0, none⟩ = some (.bool (decide (m < 0))) ∧ w'.cell? ⟨g, 1, none⟩ = some (.slice A2 n2 c2)))) (ds := [20, 21]) (n := 22) #[false, false, false, false, false, false, false, false, false, false, false, false, false, false, false, false, false, false, false, false, false, false] (by kernel_rfl) rfl rfl ?_ (fun hS0 => ?_); (· exact (by (try dsimp only); ((repeat' (with_reducible apply And.intro)) <;> (first | (with_reducible assumption) | (go_split_ands; (repeat (with_reducible refine (World.cell?_setCell_far _ _ _ _ ?_).trans ?_; (· first | (dsimp only; omega) | (simp; done) | (simp; omega)))); (with_reducible assumption)) | (go_split_ands; (first | (with_reducible assumption) | go_simp); done) | (with_reducible refine (kcell (by assumption) ?_).trans ?_; (· exact (by first | (with_reducible assumption) | omega | (simp; done) | (simp; omega))); (· first | (with_reducible assumption) | (go_split_ands; with_reducible assumption))) | (go_split_ands; (repeat (first | (with_reducible assumption) | (with_reducible refine (World.cell?_setCell_far _ _ _ _ ?_).trans ?_; (· first | (dsimp only; omega) | (simp; done) | (simp; omega))) | (with_reducible refine alloc_swap (o := ?_) ?_ ?_ _; rotate_left 1; (· first | (dsimp only; omega) | (simp; done) | (simp; omega)); (· with_reducible assumption); (all_goals skip)) | (with_reducible refine alloc_keep ?_ _) | (with_reducible refine (kcell (by assumption) ?_).trans ?_; (· exact (by first | (with_reducible assumption) | omega | (simp; done) | (simp; omega)))))); done) | fail)))))
  ((refine take_ (i := 0) (N := some 17) (v := ?_) #[true, false, false, false, false, false, false, false, false, false, false, false, false, false, false, false, false, false, false, false, false, false] rfl rfl (by kernel_rfl) (fun _ _ _ h => h) (Or.inl ⟨by rfl, ?_⟩) (by with_reducible assumption) rfl ?_; rotate_left 1; (· intro w hSw; (try dsimp only at hSw); go_simp; first | done | with_reducible rfl); (try simp only [Act.put, List.setIfInBounds_toArray, List.set_cons_zero, List.set_cons_succ])); (refine take_ (i := 1) (N := some 18) (v := ?_) #[true, true, false, false, false, false, false, false, false, false, false, false, false, false, false, false, false, false, false, false, false, false] rfl rfl (by kernel_rfl) (fun _ _ _ h => h) (Or.inl ⟨by rfl, ?_⟩) (by with_reducible assumption) rfl ?_; rotate_left 1; (· intro w hSw; (try dsimp only at hSw); go_simp; first | done | with_reducible rfl); (try simp only [Act.put, List.setIfInBounds_toArray, List.set_cons_zero, List.set_cons_succ])); (refine take_ (i := 2) (N := some 19) (v := ?_) #[true, true, true, false, false, false, false, false, false, false, false, false, false, false, false, false, false, false, false, false, false, false] rfl rfl (by kernel_rfl) (fun _ _ _ h => h) (Or.inl ⟨by rfl, ?_⟩) (by with_reducible assumption) rfl ?_; rotate_left 1; (· intro w hSw; (try dsimp only at hSw); go_simp; first | done | with_reducible rfl); (try simp only [Act.put, List.setIfInBounds_toArray, List.set_cons_zero, List.set_cons_succ])); (refine take_ (i := 4) (N := some 21) (v := ?_) #[true, true, true, false, true, false, false, false, false, false, false, false, false, false, false, false, false, false, false, false, false, false] rfl rfl (by kernel_rfl) (fun _ _ _ h => h) (Or.inl ⟨by rfl, ?_⟩) (by with_reducible assumption) rfl ?_; rotate_left 1; (· intro w hSw; (try dsimp only at hSw); go_simp; first | done | with_reducible rfl); (try simp only [Act.put, List.setIfInBounds_toArray, List.set_cons_zero, List.set_cons_succ])); (refine take_ (i := 5) (N := some 22) (v := ?_) #[true, true, true, false, true, true, false, false, false, false, false, false, false, false, false, false, false, false, false, false, false, false] rfl rfl (by kernel_rfl) (fun _ _ _ h => h) (Or.inl ⟨by rfl, ?_⟩) (by with_reducible assumption) rfl ?_; rotate_left 1; (· intro w hSw; (try dsimp only at hSw); go_simp; first | done | with_reducible rfl); (try simp only [Act.put, List.setIfInBounds_toArray, List.set_cons_zero, List.set_cons_succ])); (refine take_ (i := 6) (N := some 23) (v := ?_) #[true, true, true, false, true, true, true, false, false, false, false, false, false, false, false, false, false, false, false, false, false, false] rfl rfl (by kernel_rfl) (fun _ _ _ h => h) (Or.inl ⟨by rfl, ?_⟩) (by with_reducible assumption) rfl ?_; rotate_left 1; (· intro w hSw; (try dsimp only at hSw); go_simp; first | done | with_reducible rfl); (try simp only [Act.put, List.setIfInBounds_toArray, List.set_cons_zero, List.set_cons_succ])); (refine take_ (i := 8) (N := some 25) (v := ?_) #[true, true, true, false, true, true, true, false, true, false, false, false, false, false, false, false, false, false, false, false, false, false] rfl rfl (by kernel_rfl) (fun _ _ _ h => h) (Or.inl ⟨by rfl, ?_⟩) (by with_reducible assumption) rfl ?_; rotate_left 1; (· intro w hSw; (try dsimp only at hSw); go_simp; first | done | with_reducible rfl); (try simp only [Act.put, List.setIfInBounds_toArray, List.set_cons_zero, List.set_cons_succ])); (refine take_ (i := 9) (N := some 26) (v := ?_) #[true, true, true, false, true, true, true, false, true, true, false, false, false, false, false, false, false, false, false, false, false, false] rfl rfl (by kernel_rfl) (fun _ _ _ h => h) (Or.inl ⟨by rfl, ?_⟩) (by with_reducible assumption) rfl ?_; rotate_left 1; (· intro w hSw; (try dsimp only at hSw); go_simp; first | done | with_reducible rfl); (try simp only [Act.put, List.setIfInBounds_toArray, List.set_cons_zero, List.set_cons_succ])); (refine take_ (i := 10) (N := some 27) (v := ?_) #[true, true, true, false, true, true, true, false, true, true, true, false, false, false, false, false, false, false, false, false, false, false] rfl rfl (by kernel_rfl) (fun _ _ _ h => h) (Or.inl ⟨by rfl, ?_⟩) (by with_reducible assumption) rfl ?_; rotate_left 1; (· intro w hSw; (try dsimp only at hSw); go_simp; first | done | with_reducible rfl); (try simp only [Act.put, List.setIfInBounds_toArray, List.set_cons_zero, List.set_cons_succ])); (refine take_ (i := 12) (N := some 29) (v := ?_) #[true, true, true, false, true, true, true, false, true, true, true, false, true, false, false, false, false, false, false, false, false, false] rfl rfl (by kernel_rfl) (fun _ _ _ h => h) (Or.inl ⟨by rfl, ?_⟩) (by with_reducible assumption) rfl ?_; rotate_left 1; (· intro w hSw; (try dsimp only at hSw); go_simp; first | done | with_reducible rfl); (try simp only [Act.put, List.setIfInBounds_toArray, List.set_cons_zero, List.set_cons_succ])); (refine take_ (i := 13) (N := some 30) (v := ?_) #[true, true, true, false, true, true, true, false, true, true, true, false, true, true, false, false, false, false, false, false, false, false] rfl rfl (by kernel_rfl) (fun _ _ _ h => h) (Or.inl ⟨by rfl, ?_⟩) (by with_reducible assumption) rfl ?_; rotate_left 1; (· intro w hSw; (try dsimp only at hSw); go_simp; first | done | with_reducible rfl); (try simp only [Act.put, List.setIfInBounds_toArray, List.set_cons_zero, List.set_cons_succ])); (refine take_ (i := 14) (N := some 31) (v := ?_) #[true, true, true, false, true, true, true, false, true, true, true, false, true, true, true, false, false, false, false, false, false, false] rfl rfl (by kernel_rfl) (fun _ _ _ h => h) (Or.inl ⟨by rfl, ?_⟩) (by with_reducible assumption) rfl ?_; rotate_left 1; (· intro w hSw; (try dsimp only at hSw); go_simp; first | done | with_reducible rfl); (try simp only [Act.put, List.setIfInBounds_toArray, List.set_cons_zero, List.set_cons_succ])))
  (refine free_ (fuel := 6) (n := 37) [(3, 20), (7, 24), (11, 28), (15, 32)] (fun i v W => IntAt W v (if i = 3 then r0 else if i = 7 then r1 else if i = 11 then r2 else r3)) #[true, true, true, true, true, true, true, true, true, true, true, true, true, true, true, true, false, false, false, false, false, false] rfl (by kernel_rfl) ?hst ?hsst (by with_reducible assumption) ?steps ?fin)
  case hst => exact fun i v W W' h hb => h.below hb
  case hsst => exact fun W W' h hb => ⟨⟨⟨cell_below hb h.1.1.1, cell_below hb h.1.1.2⟩, ⟨cell_below hb h.1.2.1, cell_below hb h.1.2.2⟩⟩, ⟨cell_below hb h.2.1, cell_below hb h.2.2⟩⟩
  case steps =>
    (refine FreeSteps.cons (by rfl) ?_ (FreeSteps.cons (by rfl) ?_ (FreeSteps.cons (by rfl) ?_ (FreeSteps.cons (by rfl) ?_ (FreeSteps.nil)))))
    · (intro us wq hbq hSq hdq K hK; (simp only [frameOf, Act.put, List.setIfInBounds_toArray, List.set_cons_zero, List.set_cons_succ]); go_simp; (go_at_call 57; (with_reducible refine (HS0.out _ _ ?_).mono ?_); (· exact BN.out.int.drew.below hbq); rintro e w3 ⟨⟨v3, rfl, hv3⟩, hb3⟩; (obtain ⟨hc3, hf3⟩ := bcell hb3); (have hs3 := hb3.size); (try simp at hs3)); go_wp2_with fail; (refine hK.out _ _ ?_ ?_); (· exact hv3); (· with_reducible assumption))
    · (intro us wq hbq hSq hdq K hK; (simp only [frameOf, Act.put, List.setIfInBounds_toArray, List.set_cons_zero, List.set_cons_succ]); go_simp; (go_at_call 57; (with_reducible refine (HS1.out _ _ ?_).mono ?_); (· exact BN.out.int.drew.below hbq); rintro e w3 ⟨⟨v3, rfl, hv3⟩, hb3⟩; (obtain ⟨hc3, hf3⟩ := bcell hb3); (have hs3 := hb3.size); (try simp at hs3)); go_wp2_with fail; (refine hK.out _ _ ?_ ?_); (· exact hv3); (· with_reducible assumption))
    · (intro us wq hbq hSq hdq K hK; (simp only [frameOf, Act.put, List.setIfInBounds_toArray, List.set_cons_zero, List.set_cons_succ]); go_simp; (go_at_call 57; (with_reducible refine (HS2.out _ _ ?_).mono ?_); (· exact BN.out.int.drew.below hbq); rintro e w3 ⟨⟨v3, rfl, hv3⟩, hb3⟩; (obtain ⟨hc3, hf3⟩ := bcell hb3); (have hs3 := hb3.size); (try simp at hs3)); go_wp2_with fail; (refine hK.out _ _ ?_ ?_); (· exact hv3); (· with_reducible assumption))
    · (intro us wq hbq hSq hdq K hK; (simp only [frameOf, Act.put, List.setIfInBounds_toArray, List.set_cons_zero, List.set_cons_succ]); go_simp; (go_at_call 57; (with_reducible refine (HS3.out _ _ ?_).mono ?_); (· exact BN.out.int.drew.below hbq); rintro e w3 ⟨⟨v3, rfl, hv3⟩, hb3⟩; (obtain ⟨hc3, hf3⟩ := bcell hb3); (have hs3 := hb3.size); (try simp at hs3)); go_wp2_with fail; (refine hK.out _ _ ?_ ?_); (· exact hv3); (· with_reducible assumption))
  case fin =>
    intro us wq hbq hSq hdq
    have d1 : IntAt wq (us 3) r0 := hdq (3, 20) (by simp)
    have d2 : IntAt wq (us 7) r1 := hdq (7, 24) (by simp)
    have d3 : IntAt wq (us 11) r2 := hdq (11, 28) (by simp)
    have d4 : IntAt wq (us 15) r3 := hdq (15, 32) (by simp)
    obtain ⟨A3, n3, c3, e1, HN3⟩ := d1.open_
    obtain ⟨A4, n4, c4, e2, HN4⟩ := d2.open_
    obtain ⟨A5, n5, c5, e3, HN5⟩ := d3.open_
    obtain ⟨A6, n6, c6, e4, HN6⟩ := d4.open_
    simp only [frameOf, Act.put, List.setIfInBounds_toArray, List.set_cons_zero, List.set_cons_succ, e1, e2, e3, e4]
    clear d1 d2 d3 d4 e1 e2 e3 e4 hdq
    have FQ : FourQ wq (.agg #[.bool (decide (r0 < 0)), .slice A3 n3 c3, .bool (decide (r1 < 0)), .slice A4 n4 c4, .bool (decide (r2 < 0)), .slice A5 n5 c5, .bool (decide (r3 < 0)), .slice A6 n6 c6]) ⟨r0, r1, r2, r3⟩ := ⟨_, _, _, _, rfl, Fours.of (IntAt.mk HN3.out) (IntAt.mk HN4.out) (IntAt.mk HN5.out) (IntAt.mk HN6.out)⟩
    have FH := Lib.hid FQ
    have JRq := Lib.hid (JR.out.drew.later hbq)
    have BEq := Lib.hid (show Below w.heap.size w wq from below_after hbq BE.out.drew bes)
    have beq := BEq.out.size
    have bl := JRq.out.lt
    have bn := (BN.out.drew.later hbq).lt
    (try dsimp only at hSq)
    clear hbq JR BE BN bes p0 p1 p2 p3 n0 n1 FQ HN3 HN4 HN5 HN6
    ((refine take_ (i := 16) (N := some 33) (v := ?_) #[true, true, true, true, true, true, true, true, true, true, true, true, true, true, true, true, true, false, false, false, false, false] rfl rfl (by kernel_rfl) (fun _ _ _ h => h) (Or.inl ⟨by rfl, ?_⟩) (by with_reducible assumption) rfl ?_; rotate_left 1; (· intro w hSw; (try dsimp only at hSw); go_simp; first | done | with_reducible rfl); (try simp only [Act.put, List.setIfInBounds_toArray, List.set_cons_zero, List.set_cons_succ])))
    (refine one_ (i := 17) (N := some 34) #[true, true, true, true, true, true, true, true, true, true, true, true, true, true, true, true, true, true, false, false, false, false] rfl rfl (by kernel_rfl) (by simp) (fun K hK => ?_); go_simp; (go_at_call 56; (with_reducible refine (HTD.out _ _ ?_).mono ?_); (· exact FH.out); rintro e w6 ⟨⟨v6, rfl, rfl⟩, hb6⟩; (obtain ⟨hc6, hf6⟩ := bcell hb6); (have hs6 := hb6.size); (try simp at hs6)); go_wp2_with fail; (refine hK.out _ _ ?_ (fun hHeld => ?_)); (· exact (by (try dsimp only); ((repeat' (with_reducible apply And.intro)) <;> (first | (with_reducible assumption) | (go_split_ands; (repeat (with_reducible refine (World.cell?_setCell_far _ _ _ _ ?_).trans ?_; (· first | (dsimp only; omega) | (simp; done) | (simp; omega)))); (with_reducible assumption)) | (go_split_ands; (first | (with_reducible assumption) | go_simp); done) | (with_reducible refine (kcell (by assumption) ?_).trans ?_; (· exact (by first | (with_reducible assumption) | omega | (simp; done) | (simp; omega))); (· first | (with_reducible assumption) | (go_split_ands; with_reducible assumption))) | (go_split_ands; (repeat (first | (with_reducible assumption) | (with_reducible refine (World.cell?_setCell_far _ _ _ _ ?_).trans ?_; (· first | (dsimp only; omega) | (simp; done) | (simp; omega))) | (with_reducible refine alloc_swap (o := ?_) ?_ ?_ _; rotate_left 1; (· first | (dsimp only; omega) | (simp; done) | (simp; omega)); (· with_reducible assumption); (all_goals skip)) | (with_reducible refine alloc_keep ?_ _) | (with_reducible refine (kcell (by assumption) ?_).trans ?_; (· exact (by first | (with_reducible assumption) | omega | (simp; done) | (simp; omega)))))); done) | fail)))); clear hK; clear K; (try simp only [Act.put, List.setIfInBounds_toArray, List.set_cons_zero, List.set_cons_succ]))
    have JR6 := Lib.hid (JRq.out.later hb6)
    have BE6 := Lib.hid (below_after hb6 BEq.out beq)
    have j0 := JR6.out.c 0 (by omega)
    have j1 := JR6.out.c 1 (by omega)
    have j2 := JR6.out.c 2 (by omega)
    have j3 := JR6.out.c 3 (by omega)
    have k0 := JR6.out.f0 0
    have k1 := JR6.out.f0 1
    have k2 := JR6.out.f0 2
    have k3 := JR6.out.f0 3
    clear hc6 hf6
    ((refine take_ (i := 18) (N := some 35) (v := ?_) #[true, true, true, true, true, true, true, true, true, true, true, true, true, true, true, true, true, true, true, false, false, false] rfl rfl (by kernel_rfl) (fun _ _ _ h => h) (Or.inl ⟨by rfl, ?_⟩) (by with_reducible assumption) rfl ?_; rotate_left 1; (· intro w hSw; (try dsimp only at hSw); go_simp; first | done | with_reducible rfl); (try simp only [Act.put, List.setIfInBounds_toArray, List.set_cons_zero, List.set_cons_succ])); (refine take_ (i := 19) (N := some 36) (v := ?_) #[true, true, true, true, true, true, true, true, true, true, true, true, true, true, true, true, true, true, true, true, false, false] rfl rfl (by kernel_rfl) (fun _ _ _ h => h) (Or.inl ⟨by rfl, ?_⟩) (by with_reducible assumption) rfl ?_; rotate_left 1; (· intro w hSw; (try dsimp only at hSw); go_simp; first | done | with_reducible rfl); (try simp only [Act.put, List.setIfInBounds_toArray, List.set_cons_zero, List.set_cons_succ])))
    (refine last_ (i := 20) (N := none) #[true, true, true, true, true, true, true, true, true, true, true, true, true, true, true, true, true, true, true, true, true, false] rfl rfl (by kernel_rfl) (by simp) (fun K hK => ?_); go_simp; (refine hK.out _ _ ?_); clear hK; clear K; (try simp only [Act.put, List.setIfInBounds_toArray, List.set_cons_zero, List.set_cons_succ]))
    (refine last_ (i := 21) (N := some 3) #[true, true, true, true, true, true, true, true, true, true, true, true, true, true, true, true, true, true, true, true, true, true] rfl rfl (by kernel_rfl) (by simp) (fun K hK => ?_); go_simp; (refine hK.out _ _ ?_); clear hK; clear K; (try simp only [Act.put, List.setIfInBounds_toArray, List.set_cons_zero, List.set_cons_succ]))
    (refine done_ (by kernel_rfl) ?_)
    go_wp2
    obtain ⟨s0, s1, s2, s3⟩ := (JR6.out.put4 r0 r1 r2 r3).at4
    refine bodyPost_ret (v := .tuple #[.agg #[.int .i64 r0, .int .i64 r1, .int .i64 r2, .int .i64 r3], .int .i64 0]) (by simp [results, Try.results19, go_sem, s0, s1, s2, s3]) rfl ?_
    exact RetB.mk rfl (below4 BE6.out (by omega) _ _ _ _)
end Go.Proofs.Ytcabnnfhcolcfaa
