/- The walks of quat.Conj, Norm, Unit. -/
import Derived.Test.YtcabnnfhcolcfaaR8
namespace Go.Proofs.Ytcabnnfhcolcfaa
set_option linter.unusedSimpArgs false
set_option linter.unusedVariables false
open Go.RowKit

theorem qgoodQ_true (q : Q4) (h : goodQ q = true) (w : World) : Calls Try.prog 54 #[quatQ q] w (RetB w fun r _ => r = .bool true) :=
  (qgood_any q.w q.x q.y q.z w).mono (by
    rintro e w' ⟨⟨v, rfl, hv⟩, hb⟩; exact ⟨⟨v, rfl, hv.trans (by rw [show allB [q.w, q.x, q.y, q.z] = true from h])⟩, hb⟩)
theorem qgoodQ_false (q : Q4) (h : goodQ q = false) (w : World) : Calls Try.prog 54 #[quatQ q] w (RetB w fun r _ => r = .bool false) :=
  (qgood_any q.w q.x q.y q.z w).mono (by
    rintro e w' ⟨⟨v, rfl, hv⟩, hb⟩; exact ⟨⟨v, rfl, hv.trans (by rw [show allB [q.w, q.x, q.y, q.z] = false from h])⟩, hb⟩)
theorem JBox.congr {W : World} {g : Nat} {q q' : Nat → Int} (h : JBox W g q) (e : ∀ j, j < 4 → q j = q' j) : JBox W g q' := ⟨h.lt, fun j hj => e j hj ▸ h.c j hj, h.f0⟩
theorem JBox.put4 {W : World} {g : Nat} {q : Nat → Int} (h : JBox W g q) (a b c d : Int) : JBox ((((W.setCell ⟨g, 0, none⟩ (.int .i64 a)).setCell ⟨g, 1, none⟩ (.int .i64 b)).setCell ⟨g, 2, none⟩ (.int .i64 c)).setCell ⟨g, 3, none⟩ (.int .i64 d)) g (pick4 a b c d) :=
  ((((h.put 0 (by omega) a).put 1 (by omega) b).put 2 (by omega) c).put 3 (by omega) d).congr (upd4 q (pick4 a b c d))
theorem JBox.at4 {W : World} {g : Nat} {a b c d : Int} (h : JBox W g (pick4 a b c d)) : W.cell? ⟨g, 0, none⟩ = some (.int .i64 a) ∧ W.cell? ⟨g, 1, none⟩ = some (.int .i64 b) ∧ W.cell? ⟨g, 2, none⟩ = some (.int .i64 c) ∧ W.cell? ⟨g, 3, none⟩ = some (.int .i64 d) :=
  ⟨h.c 0 (by omega), h.c 1 (by omega), h.c 2 (by omega), h.c 3 (by omega)⟩
theorem below4 {W w : World} {B g : Nat} (hb : Below B w W) (hg : B ≤ g) (u0 u1 u2 u3 : Value) : Below B w ((((W.setCell ⟨g, 0, none⟩ u0).setCell ⟨g, 1, none⟩ u1).setCell ⟨g, 2, none⟩ u2).setCell ⟨g, 3, none⟩ u3) :=
  (((hb.setCell hg _).setCell hg _).setCell hg _).setCell hg _
set_option maxHeartbeats 1000000 in
theorem conj_any (q : Q4) (w : World) (hq : goodQ q = true) : Calls Try.prog 23 #[quatQ q] w (RetB w (QuatT q.conj 0)) := by
  have HG := Lib.hid (fun (W : World) => qgoodQ_true q hq W)
  obtain ⟨h1, h2, h3, h4⟩ := goodQ_i64 hq
  obtain ⟨k1, k2, k3, k4⟩ := (goodQ_iff q).1 hq
  cases q with
  | mk q0 q1 q2 q3 =>
  obtain ⟨n1, e1⟩ : ∃ n, -q1 = n := ⟨_, rfl⟩
  obtain ⟨n2, e2⟩ : ∃ n, -q2 = n := ⟨_, rfl⟩
  obtain ⟨n3, e3⟩ : ∃ n, -q3 = n := ⟨_, rfl⟩
  unfold Wd at k1 k2 k3 k4
  simp only at k1 k2 k3 k4
  have w1 : IntKind.i64.wrap (-q1) = n1 := by rw [IntKind.wrap_i64]; omega
  have w2 : IntKind.i64.wrap (-q2) = n2 := by rw [IntKind.wrap_i64]; omega
  have w3 : IntKind.i64.wrap (-q3) = n3 := by rw [IntKind.wrap_i64]; omega
  have v1 : Go.RowKit.wrap64 (-q1) = n1 := by unfold wrap64; omega
  have v2 : Go.RowKit.wrap64 (-q2) = n2 := by unfold wrap64; omega
  have v3 : Go.RowKit.wrap64 (-q3) = n3 := by unfold wrap64; omega
  have hc : Q4.conj ⟨q0, q1, q2, q3⟩ = ⟨q0, n1, n2, n3⟩ := by unfold Q4.conj; simp only [e1, e2, e3]
  rw [hc]
  simp only [quatQ, quatV] at HG ⊢
  clear hc hq h1 h2 h3 h4 e1 e2 e3 k1 k2 k3 k4
  go_enter Try.func23, Try.ntmps23
  go_wp2_with (go_at_call 54; (with_reducible refine (HG.out _).mono ?_); rintro e w1 ⟨⟨v1, rfl, rfl⟩, hb1⟩; (obtain ⟨hc1, hf1⟩ := bcell hb1); (have hs1 := hb1.size); (try simp at hs1); (have hz1_0 : w.heap.size < w1.heap.size := by omega); (have hz1_1 : w.heap.size + 1 < w1.heap.size := by omega))
  have JR1 := (JBox.made (W := w.alloc (.cells #[.int .i64 q0, .int .i64 q1, .int .i64 q2, .int .i64 q3] 38)) (g := w.heap.size + 1) (by simp) (fun _ => 0) 38).later hb1
  have be1 : Below w.heap.size w w1 := (by repeat (first | (with_reducible assumption) | exact Below.refl _ _ | (with_reducible refine Below.setCell ?_ (by first | (simp; done) | (simp; omega) | omega) _) | (with_reducible refine Below.alloc ?_ (by first | (simp; done) | (simp; omega) | omega) _) | (with_reducible refine below_drewN' ?_ _) | (with_reducible refine Below.drew ?_) | (refine below_after (by with_reducible assumption) ?_ (by first | (simp; done) | (simp; omega) | omega))))
  obtain ⟨r0, r1, r2, r3⟩ := (JR1.put4 q0 n1 n2 n3).at4
  refine bodyPost_ret (v := .tuple #[.agg #[.int .i64 q0, .int .i64 n1, .int .i64 n2, .int .i64 n3], .int .i64 0]) (by simp [results, Try.results23, go_sem, r0, r1, r2, r3]) rfl ?_
  exact RetB.mk rfl (below4 be1 (by omega) _ _ _ _)
set_option maxHeartbeats 1000000 in
theorem norm_any (q : Q4) (n : Int) (w : World) (hq : goodQ q = true) (hn : rnd q.nm (2 ^ 30) = n) : Calls Try.prog 21 #[quatQ q] w (RetB w (WordP n)) := by
  have HG := Lib.hid (fun (W : World) => qgoodQ_true q hq W)
  obtain ⟨h1, h2, h3, h4⟩ := goodQ_i64 hq
  obtain ⟨s1, s2, s3, s4⟩ := goodQ_sq hq
  obtain ⟨m, hm⟩ : ∃ m, q.nm = m := ⟨_, rfl⟩
  have sm : Sp 400 m := by
    have := (((s1.mul s1).add (s2.mul s2)).add (s3.mul s3)).add (s4.mul s4)
    rw [← hm]; exact this.mono (by omega)
  have HS := Lib.hid (fun (W : World) => squares_any q.w q.x q.y q.z m W h1 h2 h3 h4 hm)
  obtain ⟨p, hp⟩ : ∃ p, (2 : Int) ^ 30 = p := ⟨_, rfl⟩
  have HP := Lib.hid (fun (W : World) => show Calls Try.prog 63 #[.int .i64 30] W (RetB W fun r w' => IntAt w' r p) from hp ▸ power_any 30 30 W rfl (by omega))
  have HR := Lib.hid (fun (v u : Value) (W : World) (h : IntAt W v m) (k : IntAt W u p) => (by
    have h := Round_any v u m p W h k (sm.sl (by omega)) (Sl.word (by omega) (by omega)) (by omega)
    rw [← hp, ← hm, hn] at h; exact h : Calls Try.prog 62 #[v, u] W (RetB W fun r w' => IntAt w' r n)))
  have sn : Sm n := by rw [← hn, hm]; exact (rnd_sp sm (by decide)).sm (by omega)
  by_cases hg : goodB n = true
  · have HW := Lib.hid (fun (v : Value) (W : World) (h : IntAt W v n) => (told_fx v n W h sn).mono (R' := RetB W fun r _ => r = .tuple #[.int .i64 n, .int .i64 0]) (by
      rintro e w' ⟨⟨v, rfl, hv⟩, hb⟩; exact ⟨⟨v, rfl, by unfold WordP at hv; rwa [if_pos hg] at hv⟩, hb⟩))
    have HX := Lib.hid (fun (W : World) => show WordP n (.tuple #[.int .i64 n, .int .i64 0]) W by unfold WordP; rw [if_pos hg])
    cases q with
    | mk q0 q1 q2 q3 =>
    simp only [quatQ, quatV] at HG HS ⊢
    clear hg hq h1 h2 h3 h4 s1 s2 s3 s4 sm hm hp hn sn
    go_enter Try.func21, Try.ntmps21
    go_wp2_with (first
      | (go_at_call 54; (with_reducible refine (HG.out _).mono ?_); rintro e w1 ⟨⟨v1, rfl, rfl⟩, hb1⟩; (obtain ⟨hc1, hf1⟩ := bcell hb1); (have hs1 := hb1.size); (try simp at hs1); (have hz1_0 : w.heap.size < w1.heap.size := by omega))
      | (go_at_call 55; (with_reducible refine (HS.out _).mono ?_); rintro e w2 ⟨⟨v2, rfl, hv2⟩, hb2⟩; (obtain ⟨hc2, hf2⟩ := bcell hb2); (have hs2 := hb2.size); (try simp at hs2); (have hz2_0 : w.heap.size < w2.heap.size := by omega))
      | (go_at_call 63; (with_reducible refine (HP.out _).mono ?_); rintro e w3 ⟨⟨v3, rfl, hv3⟩, hb3⟩; (obtain ⟨hc3, hf3⟩ := bcell hb3); (have hs3 := hb3.size); (try simp at hs3); (have hz3_0 : w.heap.size < w3.heap.size := by omega))
      | (go_at_call 62; (with_reducible refine (HR.out _ _ _ ?_ ?_).mono ?_); (· ((repeat (first | (with_reducible assumption) | (with_reducible exact hv2) | (with_reducible refine IntAt.alloc ?_ _) | (with_reducible refine IntAt.drewN ?_ _) | (with_reducible refine IntAt.drew ?_) | (refine IntAt.stored ?_ (u0 := _) (by go_simp) (by simp) _) | (refine IntAt.below ?_ (by with_reducible assumption)))); done)); (· ((repeat (first | (with_reducible assumption) | (with_reducible exact hv3) | (with_reducible refine IntAt.alloc ?_ _) | (with_reducible refine IntAt.drewN ?_ _) | (with_reducible refine IntAt.drew ?_) | (refine IntAt.stored ?_ (u0 := _) (by go_simp) (by simp) _) | (refine IntAt.below ?_ (by with_reducible assumption)))); done)); rintro e w4 ⟨⟨v4, rfl, hv4⟩, hb4⟩; (obtain ⟨hc4, hf4⟩ := bcell hb4); (have hs4 := hb4.size); (try simp at hs4); (have hz4_0 : w.heap.size < w4.heap.size := by omega))
      | (go_at_call 61; (with_reducible refine (HW.out _ _ ?_).mono ?_); (· ((repeat (first | (with_reducible assumption) | (with_reducible exact hv4) | (with_reducible refine IntAt.alloc ?_ _) | (with_reducible refine IntAt.drewN ?_ _) | (with_reducible refine IntAt.drew ?_) | (refine IntAt.stored ?_ (u0 := _) (by go_simp) (by simp) _) | (refine IntAt.below ?_ (by with_reducible assumption)))); done)); rintro e w5 ⟨⟨v5, rfl, rfl⟩, hb5⟩; (obtain ⟨hc5, hf5⟩ := bcell hb5); (have hs5 := hb5.size); (try simp at hs5); (have hz5_0 : w.heap.size < w5.heap.size := by omega)))
    go_ret2
    exact RetB.mk (HX.out _) (by repeat (first | (with_reducible assumption) | exact Below.refl _ _ | (with_reducible refine Below.setCell ?_ (by first | (simp; done) | (simp; omega) | omega) _) | (with_reducible refine Below.alloc ?_ (by first | (simp; done) | (simp; omega) | omega) _) | (with_reducible refine below_drewN' ?_ _) | (with_reducible refine Below.drew ?_) | (refine below_after (by with_reducible assumption) ?_ (by first | (simp; done) | (simp; omega) | omega))))
  · have hg : goodB n = false := by simpa using hg
    have HW := Lib.hid (fun (v : Value) (W : World) (h : IntAt W v n) => (told_fx v n W h sn).mono (R' := RetB W fun r _ => r = .tuple #[.int .i64 0, .int .i64 2]) (by
      rintro e w' ⟨⟨v, rfl, hv⟩, hb⟩; exact ⟨⟨v, rfl, by unfold WordP at hv; rwa [if_neg (by rw [hg]; decide)] at hv⟩, hb⟩))
    have HX := Lib.hid (fun (W : World) => show WordP n (.tuple #[.int .i64 0, .int .i64 2]) W by unfold WordP; rw [if_neg (by rw [hg]; decide)])
    cases q with
    | mk q0 q1 q2 q3 =>
    simp only [quatQ, quatV] at HG HS ⊢
    clear hg hq h1 h2 h3 h4 s1 s2 s3 s4 sm hm hp hn sn
    go_enter Try.func21, Try.ntmps21
    go_wp2_with (first
      | (go_at_call 54; (with_reducible refine (HG.out _).mono ?_); rintro e w1 ⟨⟨v1, rfl, rfl⟩, hb1⟩; (obtain ⟨hc1, hf1⟩ := bcell hb1); (have hs1 := hb1.size); (try simp at hs1); (have hz1_0 : w.heap.size < w1.heap.size := by omega))
      | (go_at_call 55; (with_reducible refine (HS.out _).mono ?_); rintro e w2 ⟨⟨v2, rfl, hv2⟩, hb2⟩; (obtain ⟨hc2, hf2⟩ := bcell hb2); (have hs2 := hb2.size); (try simp at hs2); (have hz2_0 : w.heap.size < w2.heap.size := by omega))
      | (go_at_call 63; (with_reducible refine (HP.out _).mono ?_); rintro e w3 ⟨⟨v3, rfl, hv3⟩, hb3⟩; (obtain ⟨hc3, hf3⟩ := bcell hb3); (have hs3 := hb3.size); (try simp at hs3); (have hz3_0 : w.heap.size < w3.heap.size := by omega))
      | (go_at_call 62; (with_reducible refine (HR.out _ _ _ ?_ ?_).mono ?_); (· ((repeat (first | (with_reducible assumption) | (with_reducible exact hv2) | (with_reducible refine IntAt.alloc ?_ _) | (with_reducible refine IntAt.drewN ?_ _) | (with_reducible refine IntAt.drew ?_) | (refine IntAt.stored ?_ (u0 := _) (by go_simp) (by simp) _) | (refine IntAt.below ?_ (by with_reducible assumption)))); done)); (· ((repeat (first | (with_reducible assumption) | (with_reducible exact hv3) | (with_reducible refine IntAt.alloc ?_ _) | (with_reducible refine IntAt.drewN ?_ _) | (with_reducible refine IntAt.drew ?_) | (refine IntAt.stored ?_ (u0 := _) (by go_simp) (by simp) _) | (refine IntAt.below ?_ (by with_reducible assumption)))); done)); rintro e w4 ⟨⟨v4, rfl, hv4⟩, hb4⟩; (obtain ⟨hc4, hf4⟩ := bcell hb4); (have hs4 := hb4.size); (try simp at hs4); (have hz4_0 : w.heap.size < w4.heap.size := by omega))
      | (go_at_call 61; (with_reducible refine (HW.out _ _ ?_).mono ?_); (· ((repeat (first | (with_reducible assumption) | (with_reducible exact hv4) | (with_reducible refine IntAt.alloc ?_ _) | (with_reducible refine IntAt.drewN ?_ _) | (with_reducible refine IntAt.drew ?_) | (refine IntAt.stored ?_ (u0 := _) (by go_simp) (by simp) _) | (refine IntAt.below ?_ (by with_reducible assumption)))); done)); rintro e w5 ⟨⟨v5, rfl, rfl⟩, hb5⟩; (obtain ⟨hc5, hf5⟩ := bcell hb5); (have hs5 := hb5.size); (try simp at hs5); (have hz5_0 : w.heap.size < w5.heap.size := by omega)))
    go_ret2
    exact RetB.mk (HX.out _) (by repeat (first | (with_reducible assumption) | exact Below.refl _ _ | (with_reducible refine Below.setCell ?_ (by first | (simp; done) | (simp; omega) | omega) _) | (with_reducible refine Below.alloc ?_ (by first | (simp; done) | (simp; omega) | omega) _) | (with_reducible refine below_drewN' ?_ _) | (with_reducible refine Below.drew ?_) | (refine below_after (by with_reducible assumption) ?_ (by first | (simp; done) | (simp; omega) | omega))))
end Go.Proofs.Ytcabnnfhcolcfaa
