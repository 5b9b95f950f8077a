/- The walks of quat.Turn, quat.Back. -/
import Derived.Test.YtcabnnfhcolcfaaRB
namespace Go.Proofs.Ytcabnnfhcolcfaa
set_option linter.unusedSimpArgs false
set_option linter.unusedVariables false
open Go.RowKit

theorem vgoodV_true (v : V3) (h : goodV v = true) (w : World) : Calls Try.prog 64 #[vecQ v] w (RetB w fun r _ => r = .bool true) :=
  (vgood_any v.x v.y v.z w).mono (by
    rintro e w' ⟨⟨r, rfl, hv⟩, hb⟩; exact ⟨⟨r, rfl, hv.trans (by rw [show allB [v.x, v.y, v.z] = true from h])⟩, hb⟩)
theorem vgoodV_false (v : V3) (h : goodV v = false) (w : World) : Calls Try.prog 64 #[vecQ v] w (RetB w fun r _ => r = .bool false) :=
  (vgood_any v.x v.y v.z w).mono (by
    rintro e w' ⟨⟨r, rfl, hv⟩, hb⟩; exact ⟨⟨r, rfl, hv.trans (by rw [show allB [v.x, v.y, v.z] = false from h])⟩, hb⟩)
set_option maxHeartbeats 2000000 in
set_option maxRecDepth 100000 in
theorem Turn_of (q : Q4) (v t : V3) (er : Int) (w : World) (hq : goodQ q = true) (hv : goodV v = true) (ht : ∀ W : World, Calls Try.prog 65 #[quatQ q, vecQ v] W (RetB W (VecT t er))) :
    Calls Try.prog 27 #[quatQ q, vecQ v] w (RetB w (VecT t er)) := by
  have HG := Lib.hid (fun (W : World) => qgoodQ_true q hq W)
  have HV := Lib.hid (fun (W : World) => vgoodV_true v hv W)
  have HT := Lib.hid ht
  cases q with
  | mk q0 q1 q2 q3 =>
  cases v with
  | mk v0 v1 v2 =>
  cases t with
  | mk t0 t1 t2 =>
  have HT := Lib.hid (show ∀ (W : World), Calls Try.prog 65 #[.agg #[.int .i64 q0, .int .i64 q1, .int .i64 q2, .int .i64 q3], .agg #[.int .i64 v0, .int .i64 v1, .int .i64 v2]] W (RetB W fun r _ => r = .tuple #[.agg #[.int .i64 t0, .int .i64 t1, .int .i64 t2], .int .i64 er]) from HT.out)
  simp only [quatQ, quatV, vecQ, vecV] at HG HV ⊢
  clear hq hv ht
  go_enter Try.func27, Try.ntmps27
  go_wp2_with (first
    | (go_at_call 54; (with_reducible refine (HG.out _).mono ?_); rintro e w1 ⟨⟨v1, rfl, rfl⟩, hb1⟩; (obtain ⟨hc1, hf1⟩ := bcell hb1); (have hs1 := hb1.size); (try simp at hs1); (have hz1_0 : w.heap.size < w1.heap.size := by omega); (have hz1_1 : w.heap.size + 1 < w1.heap.size := by omega); (have hz1_2 : w.heap.size + 2 < w1.heap.size := by omega))
    | (go_at_call 64; (with_reducible refine (HV.out _).mono ?_); rintro e w2 ⟨⟨v2, rfl, rfl⟩, hb2⟩; (obtain ⟨hc2, hf2⟩ := bcell hb2); (have hs2 := hb2.size); (try simp at hs2); (have hz2_0 : w.heap.size < w2.heap.size := by omega); (have hz2_1 : w.heap.size + 1 < w2.heap.size := by omega); (have hz2_2 : w.heap.size + 2 < w2.heap.size := by omega))
    | (go_at_call 65; (with_reducible refine (HT.out _).mono ?_); rintro e w3 ⟨⟨v3, rfl, rfl⟩, hb3⟩; (obtain ⟨hc3, hf3⟩ := bcell hb3); (have hs3 := hb3.size); (try simp at hs3); (have hz3_0 : w.heap.size < w3.heap.size := by omega); (have hz3_1 : w.heap.size + 1 < w3.heap.size := by omega); (have hz3_2 : w.heap.size + 2 < w3.heap.size := by omega)))
  have MR0 := MBox.made3 (W := (w.alloc (.cells #[.int .i64 q0, .int .i64 q1, .int .i64 q2, .int .i64 q3] 38)).alloc (.cells #[.int .i64 v0, .int .i64 v1, .int .i64 v2] 40)) (g := w.heap.size + 1 + 1) (by simp) (fun _ => 0) 40
  have MR := ((MR0.later hb1).later hb2).later hb3
  have BE : Below w.heap.size w w3 := (by repeat (first | (with_reducible assumption) | exact Below.refl _ _ | (with_reducible refine Below.setCell ?_ (by first | (simp; done) | (simp; omega) | omega) _) | (with_reducible refine Below.alloc ?_ (by first | (simp; done) | (simp; omega) | omega) _) | (with_reducible refine below_drewN' ?_ _) | (with_reducible refine Below.drew ?_) | (refine below_after (by with_reducible assumption) ?_ (by first | (simp; done) | (simp; omega) | omega))))
  obtain ⟨s0, s1, s2⟩ := (MR.put3 t0 t1 t2 0).at3
  refine bodyPost_ret (v := .tuple #[.agg #[.int .i64 t0, .int .i64 t1, .int .i64 t2], .int .i64 er]) (by simp [results, Try.results27, go_sem, s0, s1, s2]) rfl ?_
  exact RetB.mk rfl (below3 BE (by omega) _ _ _)
set_option maxHeartbeats 2000000 in
set_option maxRecDepth 100000 in
theorem Back_of (q : Q4) (v t : V3) (er : Int) (w : World) (hq : goodQ q = true) (hv : goodV v = true) (ht : ∀ W : World, Calls Try.prog 65 #[quatQ q.conj, vecQ v] W (RetB W (VecT t er))) :
    Calls Try.prog 29 #[quatQ q, vecQ v] w (RetB w (VecT t er)) := by
  have HG := Lib.hid (fun (W : World) => qgoodQ_true q hq W)
  have HV := Lib.hid (fun (W : World) => vgoodV_true v hv W)
  have HC := Lib.hid (fun (W : World) => conj_any q W hq)
  have HT := Lib.hid ht
  obtain ⟨c, hc⟩ : ∃ c, q.conj = c := ⟨_, rfl⟩
  rw [hc] at HC HT
  clear hc hq hv ht
  cases q with
  | mk q0 q1 q2 q3 =>
  cases v with
  | mk v0 v1 v2 =>
  cases t with
  | mk t0 t1 t2 =>
  cases c with
  | mk c0 c1 c2 c3 =>
  have HT := Lib.hid (show ∀ (W : World), Calls Try.prog 65 #[.agg #[.int .i64 c0, .int .i64 c1, .int .i64 c2, .int .i64 c3], .agg #[.int .i64 v0, .int .i64 v1, .int .i64 v2]] W (RetB W fun r _ => r = .tuple #[.agg #[.int .i64 t0, .int .i64 t1, .int .i64 t2], .int .i64 er]) from HT.out)
  have HC := Lib.hid (show ∀ (W : World), Calls Try.prog 23 #[.agg #[.int .i64 q0, .int .i64 q1, .int .i64 q2, .int .i64 q3]] W (RetB W fun r _ => r = .tuple #[.agg #[.int .i64 c0, .int .i64 c1, .int .i64 c2, .int .i64 c3], .int .i64 0]) from HC.out)
  simp only [quatQ, quatV, vecQ, vecV] at HG HV ⊢
  go_enter Try.func29, Try.ntmps29
  go_upto_region 4 with (first
    | (go_at_call 54; (with_reducible refine (HG.out _).mono ?_); rintro e w1 ⟨⟨v1, rfl, rfl⟩, hb1⟩; (obtain ⟨hc1, hf1⟩ := bcell hb1); (have hs1 := hb1.size); (try simp at hs1); (have hz1_0 : w.heap.size < w1.heap.size := by omega); (have hz1_1 : w.heap.size + 1 < w1.heap.size := by omega); (have hz1_2 : w.heap.size + 2 < w1.heap.size := by omega))
    | (go_at_call 64; (with_reducible refine (HV.out _).mono ?_); rintro e w2 ⟨⟨v2, rfl, rfl⟩, hb2⟩; (obtain ⟨hc2, hf2⟩ := bcell hb2); (have hs2 := hb2.size); (try simp at hs2); (have hz2_0 : w.heap.size < w2.heap.size := by omega); (have hz2_1 : w.heap.size + 1 < w2.heap.size := by omega); (have hz2_2 : w.heap.size + 2 < w2.heap.size := by omega))
    | (go_at_call 23; (with_reducible refine (HC.out _).mono ?_); rintro e w3 ⟨⟨v3, rfl, rfl⟩, hb3⟩; (obtain ⟨hc3, hf3⟩ := bcell hb3); (have hs3 := hb3.size); (try simp at hs3); (have hz3_0 : w.heap.size < w3.heap.size := by omega); (have hz3_1 : w.heap.size + 1 < w3.heap.size := by omega); (have hz3_2 : w.heap.size + 2 < w3.heap.size := by omega)))
  have MR0 := MBox.made3 (W := (w.alloc (.cells #[.int .i64 q0, .int .i64 q1, .int .i64 q2, .int .i64 q3] 38)).alloc (.cells #[.int .i64 v0, .int .i64 v1, .int .i64 v2] 40)) (g := w.heap.size + 1 + 1) (by simp) (fun _ => 0) 40
  have MV0 := (MBox.made3 (W := w.alloc (.cells #[.int .i64 q0, .int .i64 q1, .int .i64 q2, .int .i64 q3] 38)) (g := w.heap.size + 1) (by simp) (pick4 v0 v1 v2 0) 40).alloc (.cells #[.int .i64 0, .int .i64 0, .int .i64 0] 40)
  have MR3 := Lib.hid ((((MR0.later hb1).later hb2).later hb3).alloc (.cells #[.int .i64 c0, .int .i64 c1, .int .i64 c2, .int .i64 c3] 38))
  have MV := (((MV0.later hb1).later hb2).later hb3).alloc (.cells #[.int .i64 c0, .int .i64 c1, .int .i64 c2, .int .i64 c3] 38)
  have JC : JBox (w3.alloc (.cells #[.int .i64 c0, .int .i64 c1, .int .i64 c2, .int .i64 c3] 38)) w3.heap.size (pick4 c0 c1 c2 c3) := JBox.made (W := w3) rfl (pick4 c0 c1 c2 c3) 38
  have BE := Lib.hid (show Below w.heap.size w (w3.alloc (.cells #[.int .i64 c0, .int .i64 c1, .int .i64 c2, .int .i64 c3] 38)) from (by repeat (first | (with_reducible assumption) | exact Below.refl _ _ | (with_reducible refine Below.setCell ?_ (by first | (simp; done) | (simp; omega) | omega) _) | (with_reducible refine Below.alloc ?_ (by first | (simp; done) | (simp; omega) | omega) _) | (with_reducible refine below_drewN' ?_ _) | (with_reducible refine Below.drew ?_) | (refine below_after (by with_reducible assumption) ?_ (by first | (simp; done) | (simp; omega) | omega)))))
  obtain ⟨g6, hg6⟩ : ∃ g, w3.heap.size = g := ⟨_, rfl⟩
  obtain ⟨W4, hW4⟩ : ∃ W, w3.alloc (.cells #[.int .i64 c0, .int .i64 c1, .int .i64 c2, .int .i64 c3] 38) = W := ⟨_, rfl⟩
  rw [hW4] at MR3 MV JC BE
  rw [hg6] at JC
  rw [hg6, hW4]
  obtain ⟨x0, x1, x2, x3⟩ := JC.at4
  obtain ⟨y0, y1, y2⟩ := MV.at3
  have bes := BE.out.size
  have ml := MR3.out.lt
  clear hg6 hW4 MR0 MV0 MV JC hc1 hf1 hb1 hs1 hc2 hf2 hb2 hs2 hc3 hf3 hb3 hs3 hz1_0 hz1_1 hz1_2 hz2_0 hz2_1 hz2_2 hz3_0 hz3_1 hz3_2
  go_wp2_with (go_at_call 65; (with_reducible refine (HT.out _).mono ?_); rintro e w4 ⟨⟨v4, rfl, rfl⟩, hb4⟩; (obtain ⟨hc4, hf4⟩ := bcell hb4); (have hs4 := hb4.size); (try simp at hs4); ((have MR4 := MR3.out.later hb4); (have m0 := MR4.c 0 (by omega)); (have m1 := MR4.c 1 (by omega)); (have m2 := MR4.c 2 (by omega)); (have m3 := MR4.f0 0); (have m4 := MR4.f0 1); (have m5 := MR4.f0 2); clear hc4 hf4))
  have BE4 := below_after hb4 BE.out BE.out.size
  obtain ⟨s0, s1, s2⟩ := (MR4.put3 t0 t1 t2 0).at3
  refine bodyPost_ret (v := .tuple #[.agg #[.int .i64 t0, .int .i64 t1, .int .i64 t2], .int .i64 er]) (by simp [results, Try.results29, go_sem, s0, s1, s2]) rfl ?_
  exact RetB.mk rfl (below3 BE4 (by omega) _ _ _)
end Go.Proofs.Ytcabnnfhcolcfaa
