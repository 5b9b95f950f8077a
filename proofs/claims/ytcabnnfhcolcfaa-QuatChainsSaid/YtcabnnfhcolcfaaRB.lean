/- The walk of quat.turn. -/
import Derived.Test.YtcabnnfhcolcfaaV6
namespace Go.Proofs.Ytcabnnfhcolcfaa
set_option linter.unusedSimpArgs false
set_option linter.unusedVariables false
open Go.RowKit

theorem MBox.far8 {W : World} {g g2 m : Nat} {q : Nat → Int} (h : MBox W g m q) (hne : g2 ≠ g) (u0 u1 u2 u3 u4 u5 u6 u7 : Value) :
    MBox ((((((((W.setCell ⟨g2, 0, none⟩ u0).setCell ⟨g2, 1, none⟩ u1).setCell ⟨g2, 2, none⟩ u2).setCell ⟨g2, 3, none⟩ u3).setCell ⟨g2, 4, none⟩ u4).setCell ⟨g2, 5, none⟩ u5).setCell ⟨g2, 6, none⟩ u6).setCell ⟨g2, 7, none⟩ u7) g m q :=
  (((((((h.far hne _ _).far hne _ _).far hne _ _).far hne _ _).far hne _ _).far hne _ _).far hne _ _).far hne _ _
theorem JBox.m {W : World} {g : Nat} {q : Nat → Int} (h : JBox W g q) : MBox W g 4 q := ⟨h.lt, h.c, h.f0⟩
theorem MBox.j {W : World} {g : Nat} {q : Nat → Int} (h : MBox W g 4 q) : JBox W g q := ⟨h.lt, h.c, h.f0⟩
def V3.q (v : V3) : Q4 := Q4.vec v.x v.y v.z
/-- A vector turned, each number told. -/
def turnV (q : Q4) (v : V3) : V3 := ⟨turnX q v.x v.y v.z, turnY q v.x v.y v.z, turnZ q v.x v.y v.z⟩
theorem goodV_iff (v : V3) : goodV v = true ↔ Wd v.x ∧ Wd v.y ∧ Wd v.z := by
  unfold goodV allB Wd
  simp only [List.all_cons, List.all_nil, Bool.and_true, Bool.and_eq_true, goodB_iff]
theorem Sp.zero (P : Nat) : Sp P 0 := ⟨0, by omega, by decide, by decide⟩
theorem goodV_sq {v : V3} (h : goodV v = true) : SQ 45 v.q := by
  obtain ⟨h1, h2, h3⟩ := (goodV_iff v).1 h
  exact ⟨Sp.zero _, h1.sp, h2.sp, h3.sp⟩
theorem FBox.row {W : World} {g : Nat} {f : Nat → Bool} {A : Nat → Option Addr} {n c : Nat → Nat} {z : Nat → Int} (h : FBox W g f A n c z) : RowR W (.slice (some ⟨g, 2, none⟩) 3 3) [z 1, z 2, z 3] := by
  refine ⟨_, _, _, rfl, rfl, by omega, by omega, fun _ => ⟨g, 2, rfl, ?_⟩⟩
  have K : ∀ j, j < 4 → f j = decide (z j < 0) ∧ NatAt W (.slice (A j) (n j) (c j)) (z j).natAbs := fun j hj => ⟨(h.int.int j hj).nat.2, (h.int.int j hj).nat.1⟩
  refine three_cases ⟨A 1, n 1, c 1, ?_, h.c1 1 (by omega), (K 1 (by omega)).2⟩ ⟨A 2, n 2, c 2, ?_, h.c1 2 (by omega), (K 2 (by omega)).2⟩ ⟨A 3, n 3, c 3, ?_, h.c1 3 (by omega), (K 3 (by omega)).2⟩
  · have := h.c0 1 (by omega); rw [(K 1 (by omega)).1] at this; exact this
  · have := h.c0 2 (by omega); rw [(K 2 (by omega)).1] at this; exact this
  · have := h.c0 3 (by omega); rw [(K 3 (by omega)).1] at this; exact this
set_option maxHeartbeats 1000000 in
theorem turn_zero (v : V3) (w : World) : Calls Try.prog 65 #[quatQ ⟨0, 0, 0, 0⟩, vecQ v] w (RetB w (VecT ⟨0, 0, 0⟩ 3)) := by
  cases v with
  | mk v0 v1 v2 =>
  simp only [quatQ, quatV, vecQ, vecV]
  go_enter Try.func65, Try.ntmps65
  go_wp2
  refine bodyPost_ret (v := .tuple #[.agg #[.int .i64 0, .int .i64 0, .int .i64 0], .int .i64 3]) (by simp [results, Try.results65, go_sem]) rfl ?_
  exact RetB.mk rfl (by repeat (first | (with_reducible assumption) | exact Below.refl _ _ | (with_reducible refine Below.setCell ?_ (by first | (simp; done) | (simp; omega) | omega) _) | (with_reducible refine Below.alloc ?_ (by first | (simp; done) | (simp; omega) | omega) _) | (with_reducible refine below_drewN' ?_ _) | (with_reducible refine Below.drew ?_) | (refine below_after (by with_reducible assumption) ?_ (by first | (simp; done) | (simp; omega) | omega))))
set_option maxHeartbeats 8000000 in
set_option maxRecDepth 100000 in
theorem turn_any (q : Q4) (v : V3) (w : World) (hq : goodQ q = true) (hv : goodV v = true) (hz : ¬ zeroQ q) :
    Calls Try.prog 65 #[quatQ q, vecQ v] w (RetB w (VecT (toldV (turnV q v)) (errV (turnV q v)))) := by
  have HCJ := Lib.hid (fun (W : World) => conj_any q W hq)
  have hpos := nm_pos hz
  obtain ⟨h1, h2, h3, h4⟩ := goodQ_i64 hq
  obtain ⟨m, hm⟩ : ∃ m, q.nm = m := ⟨_, rfl⟩
  have sm : Sp 363 m := hm ▸ nm_sp (goodQ_sq hq)
  have HSQ := Lib.hid (fun (W : World) => squares_any q.w q.x q.y q.z m W h1 h2 h3 h4 hm)
  have sq := goodQ_sq hq
  have sv := goodV_sq hv
  have scj : SQ 45 q.conj := goodQ_sq (conj_good hq)
  obtain ⟨r1, hr1⟩ : ∃ r, q.mul v.q = r := ⟨_, rfl⟩
  have s1 : SQ 365 r1 := hr1 ▸ sq.mul sv
  obtain ⟨r2, hr2⟩ : ∃ r, r1.mul q.conj = r := ⟨_, rfl⟩
  have s2 : SQ 1645 r2 := hr2 ▸ s1.mul scj
  have hr : q.tn v.q = r2 := by unfold Q4.tn; rw [hr1, hr2]
  obtain ⟨cj, hcj⟩ : ∃ cj, q.conj = cj := ⟨_, rfl⟩
  rw [hcj] at HCJ scj hr2
  have HO1 := Lib.hid (fun (W : World) => qofQ_any q W ⟨h1, h2, h3, h4⟩)
  have HO2 := Lib.hid (fun (W : World) => qofQ_any v.q W (by obtain ⟨a, b, c⟩ := (goodV_iff v).1 hv; exact ⟨by unfold I64; simp [V3.q, Q4.vec], a.i64, b.i64, c.i64⟩))
  have HO3 := Lib.hid (fun (W : World) => qofQ_any cj W (hcj ▸ goodQ_i64 (conj_good hq)))
  have HP1 := Lib.hid (fun (a b : Value) (W : World) (h : FourQ W a q) (k : FourQ W b v.q) => hr1 ▸ productQ_any a b q v.q 45 45 W h k sq sv (by omega) (by omega))
  have HP2 := Lib.hid (fun (a b : Value) (W : World) (h : FourQ W a r1) (k : FourQ W b cj) => hr2 ▸ productQ_any a b r1 cj 365 45 W h k s1 scj (by omega) (by omega))
  obtain ⟨z, hzz⟩ : ∃ z : Nat → Int, (fun j => rnd (compQ r2 j) m) = z := ⟨_, rfl⟩
  have HE := Lib.hid (fun (a : Value) (gb : Nat) (f : Bool) (B : Option Addr) (m2 d2 : Nat) (W : World) (h : FourQ W a r2) (hb : IBox W gb f B m2 d2 m) => hzz ▸ each_turn a (compQ r2) (fun j => rnd (compQ r2 j) m) gb W h (fun k u W' hk hbb hi => turn1_any u (compQ r2 k) _ m gb f B m2 d2 W' hi ((s2.at_ k hk).sl (by omega)) (sm.sl (by omega)) (hm ▸ hpos) (hb.later hbb) rfl))
  have hzt : turnV q v = ⟨z 1, z 2, z 3⟩ := by
    rw [← hzz]; unfold turnV turnX turnY turnZ
    rw [← hr, ← hm]; rfl
  have szz : ∀ k, k < 4 → Sp 1645 (z k) := fun k hk => by rw [← hzz]; exact rnd_sp (s2.at_ k hk) (hm ▸ hpos)
  have HTD := Lib.hid (fun (a : Value) (W : World) (h : RowR W a [z 1, z 2, z 3]) => vtold_any a ⟨z 1, z 2, z 3⟩ W h ⟨(szz 1 (by omega)).sm (by omega), (szz 2 (by omega)).sm (by omega), (szz 3 (by omega)).sm (by omega)⟩)
  rw [hzt]
  obtain ⟨t, ht⟩ : ∃ t, toldV ⟨z 1, z 2, z 3⟩ = t := ⟨_, rfl⟩
  obtain ⟨er, her⟩ : ∃ er, errV ⟨z 1, z 2, z 3⟩ = er := ⟨_, rfl⟩
  simp only [ht, her] at HTD ⊢
  have HEQ : ∀ W : World, (binOp .eql 38 (.agg #[.int .i64 q.w, .int .i64 q.x, .int .i64 q.y, .int .i64 q.z]) (.agg #[.int .i64 0, .int .i64 0, .int .i64 0, .int .i64 0])).run Try.prog W = .ok (.bool false) W := fun W => by rw [eqlq, decide_eq_false (show ¬ (q.w = 0 ∧ q.x = 0 ∧ q.y = 0 ∧ q.z = 0) from hz)]
  cases q with
  | mk q0 q1 q2 q3 =>
  cases v with
  | mk v0 v1 v2 =>
  cases cj with
  | mk c0 c1 c2 c3 =>
  cases t with
  | mk t0 t1 t2 =>
  have HTD := Lib.hid (show ∀ (a : Value) (W : World), RowR W a [z 1, z 2, z 3] → Calls Try.prog 69 #[a] W (RetB W fun r _ => r = .tuple #[.agg #[.int .i64 t0, .int .i64 t1, .int .i64 t2], .int .i64 er]) from HTD.out)
  have HCJ := Lib.hid (show ∀ (W : World), Calls Try.prog 23 #[.agg #[.int .i64 q0, .int .i64 q1, .int .i64 q2, .int .i64 q3]] W (RetB W fun r _ => r = .tuple #[.agg #[.int .i64 c0, .int .i64 c1, .int .i64 c2, .int .i64 c3], .int .i64 0]) from HCJ.out)
  simp only [quatQ, quatV, V3.q, Q4.vec] at HSQ HO1 HO2 HO3 HEQ
  simp only [quatQ, quatV, vecQ, vecV]
  clear hq hv hz hpos h1 h2 h3 h4 hm sm sq sv scj hr1 s1 hr2 s2 hr hcj hzz hzt szz ht her
  go_enter Try.func65, Try.ntmps65
  go_upto_region 4 with (go_at_call 23; (with_reducible refine (HCJ.out _).mono ?_); rintro e w1 ⟨⟨v1, rfl, rfl⟩, hb1⟩; (obtain ⟨hc1, hf1⟩ := bcell hb1); (have hs1 := hb1.size); (try simp at hs1); (have hz1_0 : w.heap.size < w1.heap.size := by omega); (have hz1_1 : w.heap.size + 1 < w1.heap.size := by omega); (have hz1_2 : w.heap.size + 2 < w1.heap.size := by omega))
  have JQ0 := ((JBox.made (W := w) rfl (pick4 q0 q1 q2 q3) 38).alloc (.cells #[.int .i64 v0, .int .i64 v1, .int .i64 v2] 40)).alloc (.cells #[.int .i64 0, .int .i64 0, .int .i64 0] 40)
  have MV0 := (MBox.made3 (W := w.alloc (.cells #[.int .i64 q0, .int .i64 q1, .int .i64 q2, .int .i64 q3] 38)) (g := w.heap.size + 1) (by simp) (pick4 v0 v1 v2 0) 40).alloc (.cells #[.int .i64 0, .int .i64 0, .int .i64 0] 40)
  have MR0 := MBox.made3 (W := (w.alloc (.cells #[.int .i64 q0, .int .i64 q1, .int .i64 q2, .int .i64 q3] 38)).alloc (.cells #[.int .i64 v0, .int .i64 v1, .int .i64 v2] 40)) (g := w.heap.size + 1 + 1) (by simp) (fun _ => 0) 40
  have JQ := Lib.hid ((JQ0.later hb1).alloc (.cells #[.int .i64 c0, .int .i64 c1, .int .i64 c2, .int .i64 c3] 38))
  have MV := (MV0.later hb1).alloc (.cells #[.int .i64 c0, .int .i64 c1, .int .i64 c2, .int .i64 c3] 38)
  have MR := Lib.hid ((MR0.later hb1).alloc (.cells #[.int .i64 c0, .int .i64 c1, .int .i64 c2, .int .i64 c3] 38))
  have JC : JBox (w1.alloc (.cells #[.int .i64 c0, .int .i64 c1, .int .i64 c2, .int .i64 c3] 38)) w1.heap.size (pick4 c0 c1 c2 c3) := JBox.made (W := w1) rfl (pick4 c0 c1 c2 c3) 38
  have BE := Lib.hid (show Below w.heap.size w (w1.alloc (.cells #[.int .i64 c0, .int .i64 c1, .int .i64 c2, .int .i64 c3] 38)) from (by repeat (first | (with_reducible assumption) | exact Below.refl _ _ | (with_reducible refine Below.setCell ?_ (by first | (simp; done) | (simp; omega) | omega) _) | (with_reducible refine Below.alloc ?_ (by first | (simp; done) | (simp; omega) | omega) _) | (with_reducible refine below_drewN' ?_ _) | (with_reducible refine Below.drew ?_) | (refine below_after (by with_reducible assumption) ?_ (by first | (simp; done) | (simp; omega) | omega)))))
  have bg : w.heap.size + 1 + 1 < w1.heap.size := by have := (MR0.later hb1).lt; omega
  obtain ⟨g6, hg6⟩ : ∃ g, w1.heap.size = g := ⟨_, rfl⟩
  obtain ⟨W4, hW4⟩ : ∃ W, w1.alloc (.cells #[.int .i64 c0, .int .i64 c1, .int .i64 c2, .int .i64 c3] 38) = W := ⟨_, rfl⟩
  rw [hW4] at JQ MV MR JC BE
  rw [hg6] at JC bg
  rw [hg6, hW4]
  have bes := BE.out.size
  have jcl := JC.lt
  obtain ⟨p0, p1, p2, p3⟩ := JQ.out.at4
  obtain ⟨y0, y1, y2⟩ := MV.at3
  obtain ⟨x0, x1, x2, x3⟩ := JC.at4
  clear hg6 hW4 JQ0 MV0 MR0 MV JC hc1 hf1 hb1 hs1 hz1_0 hz1_1 hz1_2
  (refine start_ (S := (fun w' => ((w'.cell? ⟨w.heap.size, 0, none⟩ = some (.int .i64 q0) ∧ w'.cell? ⟨w.heap.size, 1, none⟩ = some (.int .i64 q1)) ∧ (w'.cell? ⟨w.heap.size, 2, none⟩ = some (.int .i64 q2) ∧ w'.cell? ⟨w.heap.size, 3, none⟩ = some (.int .i64 q3))) ∧ (((w'.cell? ⟨w.heap.size + 1, 0, none⟩ = some (.int .i64 v0) ∧ w'.cell? ⟨w.heap.size + 1, 1, none⟩ = some (.int .i64 v1)) ∧ (w'.cell? ⟨w.heap.size + 1, 2, none⟩ = some (.int .i64 v2) ∧ w'.cell? ⟨g6, 0, none⟩ = some (.int .i64 c0))) ∧ ((w'.cell? ⟨g6, 1, none⟩ = some (.int .i64 c1) ∧ w'.cell? ⟨g6, 2, none⟩ = some (.int .i64 c2)) ∧ w'.cell? ⟨g6, 3, none⟩ = some (.int .i64 c3))))) (ds := [15]) (n := 16) #[false, false, false, false, false, false, false, false, false, false, false, false, false, false, false, false] (by kernel_rfl) rfl rfl ?_ (fun hS0 => ?_); (· exact (by (try dsimp only); ((repeat' (with_reducible apply And.intro)) <;> (first | (with_reducible assumption) | (go_split_ands; (repeat (with_reducible refine (World.cell?_setCell_far _ _ _ _ ?_).trans ?_; (· first | (dsimp only; omega) | (simp; done) | (simp; omega)))); (with_reducible assumption)) | (go_split_ands; (first | (with_reducible assumption) | go_simp); done) | (with_reducible refine (kcell (by assumption) ?_).trans ?_; (· exact (by first | (with_reducible assumption) | omega | (simp; done) | (simp; omega))); (· first | (with_reducible assumption) | (go_split_ands; with_reducible assumption))) | (go_split_ands; (repeat (first | (with_reducible assumption) | (with_reducible refine (World.cell?_setCell_far _ _ _ _ ?_).trans ?_; (· first | (dsimp only; omega) | (simp; done) | (simp; omega))) | (with_reducible refine alloc_swap (o := ?_) ?_ ?_ _; rotate_left 1; (· first | (dsimp only; omega) | (simp; done) | (simp; omega)); (· with_reducible assumption); (all_goals skip)) | (with_reducible refine alloc_keep ?_ _) | (with_reducible refine (kcell (by assumption) ?_).trans ?_; (· exact (by first | (with_reducible assumption) | omega | (simp; done) | (simp; omega)))))); done) | fail)))))
  ((refine take_ (i := 0) (N := some 20) (v := ?_) #[true, false, false, false, false, false, false, false, false, false, false, false, false, false, false, false] rfl rfl (by kernel_rfl) (fun _ _ _ h => h) (Or.inl ⟨by rfl, ?_⟩) (by with_reducible assumption) rfl ?_; rotate_left 1; (· intro w hSw; (try dsimp only at hSw); go_simp; first | done | with_reducible rfl); (try simp only [Act.put, List.setIfInBounds_toArray, List.set_cons_zero, List.set_cons_succ])); (refine take_ (i := 2) (N := some 22) (v := ?_) #[true, false, true, false, false, false, false, false, false, false, false, false, false, false, false, false] rfl rfl (by kernel_rfl) (fun _ _ _ h => h) (Or.inl ⟨by rfl, ?_⟩) (by with_reducible assumption) rfl ?_; rotate_left 1; (· intro w hSw; (try dsimp only at hSw); go_simp; first | done | with_reducible rfl); (try simp only [Act.put, List.setIfInBounds_toArray, List.set_cons_zero, List.set_cons_succ])); (refine take_ (i := 3) (N := some 23) (v := ?_) #[true, false, true, true, false, false, false, false, false, false, false, false, false, false, false, false] rfl rfl (by kernel_rfl) (fun _ _ _ h => h) (Or.inl ⟨by rfl, ?_⟩) (by with_reducible assumption) rfl ?_; rotate_left 1; (· intro w hSw; (try dsimp only at hSw); go_simp; first | done | with_reducible rfl); (try simp only [Act.put, List.setIfInBounds_toArray, List.set_cons_zero, List.set_cons_succ])); (refine take_ (i := 4) (N := some 24) (v := ?_) #[true, false, true, true, true, false, false, false, false, false, false, false, false, false, false, false] rfl rfl (by kernel_rfl) (fun _ _ _ h => h) (Or.inl ⟨by rfl, ?_⟩) (by with_reducible assumption) rfl ?_; rotate_left 1; (· intro w hSw; (try dsimp only at hSw); go_simp; first | done | with_reducible rfl); (try simp only [Act.put, List.setIfInBounds_toArray, List.set_cons_zero, List.set_cons_succ])); (refine take_ (i := 5) (N := some 25) (v := ?_) #[true, false, true, true, true, true, false, false, false, false, false, false, false, false, false, false] rfl rfl (by kernel_rfl) (fun _ _ _ h => h) (Or.inl ⟨by rfl, ?_⟩) (by with_reducible assumption) rfl ?_; rotate_left 1; (· intro w hSw; (try dsimp only at hSw); go_simp; first | done | with_reducible rfl); (try simp only [Act.put, List.setIfInBounds_toArray, List.set_cons_zero, List.set_cons_succ])); (refine take_ (i := 6) (N := some 26) (v := ?_) #[true, false, true, true, true, true, true, false, false, false, false, false, false, false, false, false] rfl rfl (by kernel_rfl) (fun _ _ _ h => h) (Or.inl ⟨by rfl, ?_⟩) (by with_reducible assumption) rfl ?_; rotate_left 1; (· intro w hSw; (try dsimp only at hSw); go_simp; first | done | with_reducible rfl); (try simp only [Act.put, List.setIfInBounds_toArray, List.set_cons_zero, List.set_cons_succ])); (refine take_ (i := 7) (N := some 27) (v := ?_) #[true, false, true, true, true, true, true, true, false, false, false, false, false, false, false, false] rfl rfl (by kernel_rfl) (fun _ _ _ h => h) (Or.inl ⟨by rfl, ?_⟩) (by with_reducible assumption) rfl ?_; rotate_left 1; (· intro w hSw; (try dsimp only at hSw); go_simp; first | done | with_reducible rfl); (try simp only [Act.put, List.setIfInBounds_toArray, List.set_cons_zero, List.set_cons_succ])); (refine take_ (i := 8) (N := some 28) (v := ?_) #[true, false, true, true, true, true, true, true, true, false, false, false, false, false, false, false] rfl rfl (by kernel_rfl) (fun _ _ _ h => h) (Or.inl ⟨by rfl, ?_⟩) (by with_reducible assumption) rfl ?_; rotate_left 1; (· intro w hSw; (try dsimp only at hSw); go_simp; first | done | with_reducible rfl); (try simp only [Act.put, List.setIfInBounds_toArray, List.set_cons_zero, List.set_cons_succ])); (refine take_ (i := 11) (N := some 31) (v := ?_) #[true, false, true, true, true, true, true, true, true, false, false, true, false, false, false, false] rfl rfl (by kernel_rfl) (fun _ _ _ h => h) (Or.inl ⟨by rfl, ?_⟩) (by with_reducible assumption) rfl ?_; rotate_left 1; (· intro w hSw; (try dsimp only at hSw); go_simp; first | done | with_reducible rfl); (try simp only [Act.put, List.setIfInBounds_toArray, List.set_cons_zero, List.set_cons_succ])))
  (refine free_ (fuel := 1) (n := 43) [(1, 21), (9, 29), (10, 30), (12, 32), (13, 33), (14, 8)] (fun i v W => if i = 14 then ∃ g8, v = .pointer (some ⟨g8, 0, none⟩) ∧ W4.heap.size ≤ g8 ∧ FBox W g8 (fun _ => false) (fun _ => none) (fun _ => 0) (fun _ => 0) (fun _ => 0) else FourQ W v (if i = 1 then ⟨q0, q1, q2, q3⟩ else if i = 9 then ⟨0, v0, v1, v2⟩ else if i = 10 then r1 else if i = 12 then ⟨c0, c1, c2, c3⟩ else r2)) #[true, true, true, true, true, true, true, true, true, true, true, true, true, true, true, false] rfl (by kernel_rfl) ?hst ?hsst (by with_reducible assumption) ?steps ?fin)
  case hst =>
    intro i v W W' h hb
    by_cases hi : i = 14
    · rw [if_pos hi] at h ⊢
      obtain ⟨g8, e1, e2, e3⟩ := h
      exact ⟨g8, e1, e2, e3.later hb⟩
    · rw [if_neg hi] at h ⊢
      exact FourAt.below h hb
  case hsst => exact fun W W' h hb => ⟨⟨⟨cell_below hb h.1.1.1, cell_below hb h.1.1.2⟩, ⟨cell_below hb h.1.2.1, cell_below hb h.1.2.2⟩⟩, ⟨⟨⟨cell_below hb h.2.1.1.1, cell_below hb h.2.1.1.2⟩, ⟨cell_below hb h.2.1.2.1, cell_below hb h.2.1.2.2⟩⟩, ⟨⟨cell_below hb h.2.2.1.1, cell_below hb h.2.2.1.2⟩, cell_below hb h.2.2.2⟩⟩⟩
  case steps =>
    (refine FreeSteps.cons (by rfl) ?_ (FreeSteps.cons (by rfl) ?_ (FreeSteps.cons (by rfl) ?_ (FreeSteps.cons (by rfl) ?_ (FreeSteps.cons (by rfl) ?_ (FreeSteps.cons (by rfl) ?_ (FreeSteps.nil)))))))
    · (intro us wq hbq hSq hdq K hK; (simp only [frameOf, Act.put, List.setIfInBounds_toArray, List.set_cons_zero, List.set_cons_succ]); go_simp; (go_at_call 60; (with_reducible refine (HO1.out _).mono ?_); rintro e w3 ⟨⟨v3, rfl, hv3⟩, hb3⟩; (obtain ⟨hc3, hf3⟩ := bcell hb3); (have hs3 := hb3.size); (try simp at hs3)); go_wp2_with fail; (refine hK.out _ _ ?_ ?_); (· exact hv3); (· with_reducible assumption))
    · (intro us wq hbq hSq hdq K hK; (simp only [frameOf, Act.put, List.setIfInBounds_toArray, List.set_cons_zero, List.set_cons_succ]); go_simp; (go_at_call 60; (with_reducible refine (HO2.out _).mono ?_); rintro e w3 ⟨⟨v3, rfl, hv3⟩, hb3⟩; (obtain ⟨hc3, hf3⟩ := bcell hb3); (have hs3 := hb3.size); (try simp at hs3)); go_wp2_with fail; (refine hK.out _ _ ?_ ?_); (· exact hv3); (· with_reducible assumption))
    · (intro us wq hbq hSq hdq K hK; (simp only [frameOf, Act.put, List.setIfInBounds_toArray, List.set_cons_zero, List.set_cons_succ]); go_simp; ((have d1 : FourQ wq (us 1) ⟨q0, q1, q2, q3⟩ := hdq (1, 21) (by simp) (by kernel_rfl)); (have d2 : FourQ wq (us 9) ⟨0, v0, v1, v2⟩ := hdq (9, 29) (by simp) (by kernel_rfl)); (go_at_call 59; (with_reducible refine (HP1.out _ _ _ ?_ ?_).mono ?_); (· exact d1); (· exact d2); rintro e w3 ⟨⟨v3, rfl, hv3⟩, hb3⟩; (obtain ⟨hc3, hf3⟩ := bcell hb3); (have hs3 := hb3.size); (try simp at hs3))); go_wp2_with fail; (refine hK.out _ _ ?_ ?_); (· exact hv3); (· with_reducible assumption))
    · (intro us wq hbq hSq hdq K hK; (simp only [frameOf, Act.put, List.setIfInBounds_toArray, List.set_cons_zero, List.set_cons_succ]); go_simp; (go_at_call 60; (with_reducible refine (HO3.out _).mono ?_); rintro e w3 ⟨⟨v3, rfl, hv3⟩, hb3⟩; (obtain ⟨hc3, hf3⟩ := bcell hb3); (have hs3 := hb3.size); (try simp at hs3)); go_wp2_with fail; (refine hK.out _ _ ?_ ?_); (· exact hv3); (· with_reducible assumption))
    · (intro us wq hbq hSq hdq K hK; (simp only [frameOf, Act.put, List.setIfInBounds_toArray, List.set_cons_zero, List.set_cons_succ]); go_simp; ((have d1 : FourQ wq (us 10) r1 := hdq (10, 30) (by simp) (by kernel_rfl)); (have d2 : FourQ wq (us 12) ⟨c0, c1, c2, c3⟩ := hdq (12, 32) (by simp) (by kernel_rfl)); (go_at_call 59; (with_reducible refine (HP2.out _ _ _ ?_ ?_).mono ?_); (· exact d1); (· exact d2); rintro e w3 ⟨⟨v3, rfl, hv3⟩, hb3⟩; (obtain ⟨hc3, hf3⟩ := bcell hb3); (have hs3 := hb3.size); (try simp at hs3))); go_wp2_with fail; (refine hK.out _ _ ?_ ?_); (· exact hv3); (· with_reducible assumption))
    · intro us wq hbq hSq hdq K hK
      simp only [frameOf, Act.put, List.setIfInBounds_toArray, List.set_cons_zero, List.set_cons_succ]
      go_simp
      go_wp2_with fail
      refine hK.out _ _ ?_ ?_
      · exact ⟨_, rfl, hbq.size, FBox.nil rfl _⟩
      · exact below_alloc _ _
  case fin =>
    intro us wq hbq hSq hdq
    have d1 : FourQ wq (us 13) r2 := hdq (13, 33) (by simp)
    have d2 : ∃ g8, us 14 = .pointer (some ⟨g8, 0, none⟩) ∧ W4.heap.size ≤ g8 ∧ FBox wq g8 (fun _ => false) (fun _ => none) (fun _ => 0) (fun _ => 0) (fun _ => 0) := hdq (14, 8) (by simp)
    obtain ⟨f8, A8, n8, c8, e1, F8⟩ := d1
    obtain ⟨g8, e2, hg8, B8⟩ := d2
    simp only [frameOf, Act.put, List.setIfInBounds_toArray, List.set_cons_zero, List.set_cons_succ, e1, e2, fourV]
    clear e1 e2 hdq
    have JQq := JQ.out.drew.later hbq
    have MRq := MR.out.drew.later hbq
    have BEq : Below w.heap.size w wq := below_after hbq BE.out.drew bes
    have F9 := B8.put4 F8
    have l8 := B8.lt
    ((obtain ⟨⟨B8_c0, B8_c1, B8_c2, B8_c3⟩, ⟨B8_c4, B8_c5, B8_c6, B8_c7⟩⟩ := (B8).at4); (have B8_g0 := (B8).f0 0); (have B8_g1 := (B8).f0 1); (have B8_g2 := (B8).f0 2); (have B8_g3 := (B8).f0 3); (have B8_g4 := (B8).f0 4); (have B8_g5 := (B8).f0 5); (have B8_g6 := (B8).f0 6); (have B8_g7 := (B8).f0 7))
    have JQ5 := (JQq.m.far8 (show g8 ≠ w.heap.size by omega) (.bool (f8 0)) (.slice (A8 0) (n8 0) (c8 0)) (.bool (f8 1)) (.slice (A8 1) (n8 1) (c8 1)) (.bool (f8 2)) (.slice (A8 2) (n8 2) (c8 2)) (.bool (f8 3)) (.slice (A8 3) (n8 3) (c8 3))).j
    have MR5 := MRq.far8 (show g8 ≠ w.heap.size + 1 + 1 by omega) (.bool (f8 0)) (.slice (A8 0) (n8 0) (c8 0)) (.bool (f8 1)) (.slice (A8 1) (n8 1) (c8 1)) (.bool (f8 2)) (.slice (A8 2) (n8 2) (c8 2)) (.bool (f8 3)) (.slice (A8 3) (n8 3) (c8 3))
    have BE5 := below8 BEq (show w.heap.size ≤ g8 by omega) (.bool (f8 0)) (.slice (A8 0) (n8 0) (c8 0)) (.bool (f8 1)) (.slice (A8 1) (n8 1) (c8 1)) (.bool (f8 2)) (.slice (A8 2) (n8 2) (c8 2)) (.bool (f8 3)) (.slice (A8 3) (n8 3) (c8 3))
    obtain ⟨W5, hW5⟩ : ∃ W, ((((((((wq.setCell ⟨g8, 0, none⟩ (.bool (f8 0))).setCell ⟨g8, 1, none⟩ (.slice (A8 0) (n8 0) (c8 0))).setCell ⟨g8, 2, none⟩ (.bool (f8 1))).setCell ⟨g8, 3, none⟩ (.slice (A8 1) (n8 1) (c8 1))).setCell ⟨g8, 4, none⟩ (.bool (f8 2))).setCell ⟨g8, 5, none⟩ (.slice (A8 2) (n8 2) (c8 2))).setCell ⟨g8, 6, none⟩ (.bool (f8 3))).setCell ⟨g8, 7, none⟩ (.slice (A8 3) (n8 3) (c8 3))) = W := ⟨_, rfl⟩
    (refine last_ (i := 15) (N := none) #[true, true, true, true, true, true, true, true, true, true, true, true, true, true, true, true] rfl rfl (by kernel_rfl) (by simp) (fun K hK => ?_); go_simp; (refine hK.out _ _ ?_); clear hK; clear K; (try simp only [Act.put, List.setIfInBounds_toArray, List.set_cons_zero, List.set_cons_succ]))
    (refine done_ (by kernel_rfl) ?_)
    rw [hW5] at F9 JQ5 MR5 BE5
    clear hW5 JQq MRq BEq hbq hSq B8 B8_c0 B8_c1 B8_c2 B8_c3 B8_c4 B8_c5 B8_c6 B8_c7 B8_g0 B8_g1 B8_g2 B8_g3 B8_g4 B8_g5 B8_g6 B8_g7 p0 p1 p2 p3 y0 y1 y2 x0 x1 x2 x3 JQ MR BE bes jcl F8
    have FH5 := Lib.hid F9
    have MH5 := Lib.hid MR5
    have BH5 := Lib.hid BE5
    obtain ⟨p0, p1, p2, p3⟩ := JQ5.at4
    clear F9 JQ5 MR5 BE5
    go_upto_region 6 with (go_at_call 55; (with_reducible refine (HSQ.out _).mono ?_); rintro e w7 ⟨⟨v7, rfl, hv7⟩, hb7⟩; (obtain ⟨hc7, hf7⟩ := bcell hb7); (have hs7 := hb7.size); (try simp at hs7); (obtain ⟨A7, n7, c7, rfl, HN7⟩ := hv7.open_); clear hv7)
    have be5 := BH5.out
    have bs5 := BH5.out.size
    have BN := Lib.hid (IBox.made (IntAt.mk HN7.out) 81)
    have FH7 := Lib.hid ((FH5.out.later hb7).alloc (.cells #[.bool (decide (m < 0)), .slice A7 n7 c7] 81))
    have MH7 := Lib.hid ((MH5.out.later hb7).alloc (.cells #[.bool (decide (m < 0)), .slice A7 n7 c7] 81))
    have BH7 := Lib.hid (show Below w.heap.size w (w7.alloc (.cells #[.bool (decide (m < 0)), .slice A7 n7 c7] 81)) from (below_after hb7 be5 bs5).alloc (by omega) _)
    obtain ⟨g9, hg9⟩ : ∃ g, w7.heap.size = g := ⟨_, rfl⟩
    obtain ⟨W7, hW7⟩ : ∃ W, w7.alloc (.cells #[.bool (decide (m < 0)), .slice A7 n7 c7] 81) = W := ⟨_, rfl⟩
    rw [hW7] at BN FH7 MH7 BH7
    rw [hg9] at BN
    rw [hg9, hW7]
    clear hg9 hW7 be5 bs5 FH5 MH5 BH5 hb7 hs7 hc7 hf7 HN7 p0 p1 p2 p3
    have FB7 := FH7.out
    ((obtain ⟨⟨FB7_c0, FB7_c1, FB7_c2, FB7_c3⟩, ⟨FB7_c4, FB7_c5, FB7_c6, FB7_c7⟩⟩ := (FB7).at4); (have FB7_g0 := (FB7).f0 0); (have FB7_g1 := (FB7).f0 1); (have FB7_g2 := (FB7).f0 2); (have FB7_g3 := (FB7).f0 3); (have FB7_g4 := (FB7).f0 4); (have FB7_g5 := (FB7).f0 5); (have FB7_g6 := (FB7).f0 6); (have FB7_g7 := (FB7).f0 7))
    clear FB7
    go_upto_region 7 with (go_at_call 105; (with_reducible refine (HE.out _ _ (decide (m < 0)) A7 n7 c7 _ ?_ ?_).mono ?_); (· exact FourAt.sub FH7.out.int); (· exact BN.out); rintro e w8 ⟨⟨v8, rfl, hv8⟩, hb8⟩; (obtain ⟨hc8, hf8⟩ := bcell hb8); (have hs8 := hb8.size); (try simp at hs8); ((obtain ⟨f9, A9, n9, c9, rfl, F10⟩ := hv8); (unfold fourV); (have FX := Lib.hid F10); clear F10))
    have ROW := Lib.hid (FBox.made (W := w8) rfl FX.out 94).row
    have MH8 := Lib.hid ((MH7.out.later hb8).alloc (.cells #[.bool (f9 0), .slice (A9 0) (n9 0) (c9 0), .bool (f9 1), .slice (A9 1) (n9 1) (c9 1), .bool (f9 2), .slice (A9 2) (n9 2) (c9 2), .bool (f9 3), .slice (A9 3) (n9 3) (c9 3)] 94))
    have be7 := BH7.out
    have bs7 := BH7.out.size
    have BH8 := Lib.hid (show Below w.heap.size w (w8.alloc (.cells #[.bool (f9 0), .slice (A9 0) (n9 0) (c9 0), .bool (f9 1), .slice (A9 1) (n9 1) (c9 1), .bool (f9 2), .slice (A9 2) (n9 2) (c9 2), .bool (f9 3), .slice (A9 3) (n9 3) (c9 3)] 94)) from (below_after hb8 be7 bs7).alloc (by omega) _)
    clear be7 bs7 FB7_c0 FB7_c1 FB7_c2 FB7_c3 FB7_c4 FB7_c5 FB7_c6 FB7_c7 FB7_g0 FB7_g1 FB7_g2 FB7_g3 FB7_g4 FB7_g5 FB7_g6 FB7_g7
    go_wp2_with (go_at_call 69; (with_reducible refine (HTD.out _ _ ?_).mono ?_); (· exact ROW.out); rintro e w10 ⟨⟨v10, rfl, rfl⟩, hb10⟩; (obtain ⟨hc10, hf10⟩ := bcell hb10); (have hs10 := hb10.size); (try simp at hs10); ((have MR10 := MH8.out.later hb10); (have m0 := MR10.c 0 (by omega)); (have m1 := MR10.c 1 (by omega)); (have m2 := MR10.c 2 (by omega)); (have m3 := MR10.f0 0); (have m4 := MR10.f0 1); (have m5 := MR10.f0 2); clear hc10 hf10))
    have BE10 := below_after hb10 BH8.out BH8.out.size
    obtain ⟨s0, s1, s2⟩ := (MR10.put3 t0 t1 t2 0).at3
    refine bodyPost_ret (v := .tuple #[.agg #[.int .i64 t0, .int .i64 t1, .int .i64 t2], .int .i64 er]) (by simp [results, Try.results65, go_sem, s0, s1, s2]) rfl ?_
    exact RetB.mk rfl (below3 BE10 (by omega) _ _ _)
end Go.Proofs.Ytcabnnfhcolcfaa
