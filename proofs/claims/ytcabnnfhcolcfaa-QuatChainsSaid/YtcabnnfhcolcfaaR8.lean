/- The walks of quat.Mul, Conj, Norm. -/
import Derived.Test.YtcabnnfhcolcfaaR7
namespace Go.Proofs.Ytcabnnfhcolcfaa
set_option linter.unusedSimpArgs false
set_option linter.unusedVariables false
open Go.RowKit

def quatQ (q : Q4) : Value := quatV q.w q.x q.y q.z
def compQ (q : Q4) : Nat → Int := pick4 q.w q.x q.y q.z
def goodQ (q : Q4) : Bool := allB [q.w, q.x, q.y, q.z]
theorem all4_good (q : Q4) : all4 (compQ q) = goodQ q := by
  unfold all4 goodQ allB compQ
  simp only [pick4, List.all_cons, List.all_nil, Bool.and_true, Bool.and_assoc]
def toldQ (q : Q4) : Q4 := if goodQ q then q else ⟨0, 0, 0, 0⟩
def errQ (q : Q4) : Int := if goodQ q then 0 else 2
def QuatT (q : Q4) (e : Int) (v : Value) (_ : World) : Prop := v = .tuple #[quatQ q, .int .i64 e]
def FourQ (w : World) (v : Value) (q : Q4) : Prop := FourAt w v (compQ q)
/-- Each below 2^P. -/
def SQ (P : Nat) (q : Q4) : Prop := Sp P q.w ∧ Sp P q.x ∧ Sp P q.y ∧ Sp P q.z
theorem SQ.at_ {P : Nat} {q : Q4} (h : SQ P q) : ∀ k, k < 4 → Sp P (compQ q k) := four_cases h.1 h.2.1 h.2.2.1 h.2.2.2
theorem toldQ_any (v : Value) (q : Q4) (P : Nat) (w : World) (hv : FourQ w v q) (hs : SQ P q) (hP : P ≤ 35184372088832) : Calls Try.prog 56 #[v] w (RetB w (QuatT (toldQ q) (errQ q))) := by
  refine (qtold_any v (compQ q) w hv (fun k hk => (hs.at_ k hk).sm hP)).mono ?_
  rintro e w' ⟨⟨v, rfl, hv⟩, hb⟩
  refine ⟨⟨v, rfl, ?_⟩, hb⟩
  unfold QuatP at hv
  rw [all4_good] at hv
  unfold QuatT toldQ errQ
  rw [hv]
  split <;> rfl
theorem qofQ_any (q : Q4) (w : World) (h : I64 q.w ∧ I64 q.x ∧ I64 q.y ∧ I64 q.z) : Calls Try.prog 60 #[quatQ q] w (RetB w fun r w' => FourQ w' r q) := qof_any q.w q.x q.y q.z w h.1 h.2.1 h.2.2.1 h.2.2.2
theorem SQ.mul {P P2 : Nat} {p q : Q4} (hp : SQ P p) (hq : SQ P2 q) : SQ (4 * (P + P2 + 1) + 1) (p.mul q) := by
  have h := fun i hi => psum_sp hp.at_ hq.at_ i hi 4 (by omega)
  refine ⟨?_, ?_, ?_, ?_⟩
  · have := h 0 (by omega); unfold compQ at this; rw [prod_w] at this; exact this
  · have := h 1 (by omega); unfold compQ at this; rw [prod_x] at this; exact this
  · have := h 2 (by omega); unfold compQ at this; rw [prod_y] at this; exact this
  · have := h 3 (by omega); unfold compQ at this; rw [prod_z] at this; exact this
theorem productQ_any (v u : Value) (p q : Q4) (P P2 : Nat) (w : World) (hv : FourQ w v p) (hu : FourQ w u q) (hp : SQ P p) (hq : SQ P2 q) (hP : P ≤ 1000000) (hP2 : P2 ≤ 1000000) :
    Calls Try.prog 59 #[v, u] w (RetB w fun r w' => FourQ w' r (p.mul q)) := by
  refine (product_any v u _ _ P P2 w hv hu hp.at_ hq.at_ hP hP2).mono ?_
  rintro e w' ⟨⟨v, rfl, hv⟩, hb⟩
  refine ⟨⟨v, rfl, FourAt.congr hv (four_cases ?_ ?_ ?_ ?_)⟩, hb⟩
  · exact prod_w _ _ _ _ _ _ _ _
  · exact prod_x _ _ _ _ _ _ _ _
  · exact prod_y _ _ _ _ _ _ _ _
  · exact prod_z _ _ _ _ _ _ _ _
/-- Each number divided by 2^b, to the nearest. -/
def Q4.shr (q : Q4) (b : Nat) : Q4 := ⟨rnd q.w (2 ^ b), rnd q.x (2 ^ b), rnd q.y (2 ^ b), rnd q.z (2 ^ b)⟩
theorem overQ_any (v : Value) (q : Q4) (P b : Nat) (k : Int) (w : World) (hk : k = b) (hv : FourQ w v q) (hs : SQ P q) (hP : P ≤ 35184372088832) (hb : b ≤ 100) : Calls Try.prog 58 #[v, .int .i64 k] w (RetB w fun r w' => FourQ w' r (q.shr b)) := by
  subst hk
  exact over_any v (compQ q) (compQ (q.shr b)) b w hv hb (fun k hk => (hs.at_ k hk).sl hP) (four_cases rfl rfl rfl rfl)
theorem rnd_sp {P : Nat} {z d : Int} (h : Sp P z) (hd : 0 < d) : Sp P (rnd z d) := by
  obtain ⟨p, hp, h1, h2⟩ := h
  have hp2 := pow2_pos p
  have h3 : -(2 ^ p - 1) * d ≤ z * 1 ∧ z * 1 ≤ (2 ^ p - 1) * d := by
    have : 2 ^ p - 1 ≤ (2 ^ p - 1) * d := by
      have := Int.mul_le_mul_of_nonneg_left (show 1 ≤ d by omega) (show (0 : Int) ≤ 2 ^ p - 1 by omega)
      omega
    rw [Int.neg_mul]; omega
  have hm := Int.mul_comm (2 ^ p - 1 : Int) d
  have := rnd_bd (K := 2 ^ p - 1) (T := z) hd (by rw [Int.neg_mul] at h3; omega) (by omega)
  exact ⟨p, hp, by omega, by omega⟩
theorem SQ.shr {P : Nat} {q : Q4} (h : SQ P q) (b : Nat) : SQ P (q.shr b) := ⟨rnd_sp h.1 (pow2_pos b), rnd_sp h.2.1 (pow2_pos b), rnd_sp h.2.2.1 (pow2_pos b), rnd_sp h.2.2.2 (pow2_pos b)⟩
theorem goodQ_iff (q : Q4) : goodQ q = true ↔ Wd q.w ∧ Wd q.x ∧ Wd q.y ∧ Wd q.z := by
  unfold goodQ allB Wd
  simp only [List.all_cons, List.all_nil, Bool.and_true, Bool.and_eq_true, goodB_iff]
theorem Wd.sp {x : Int} (h : Wd x) : Sp 45 x := ⟨45, by omega, by unfold Wd at h; omega, by unfold Wd at h; omega⟩
theorem goodQ_sq {q : Q4} (h : goodQ q = true) : SQ 45 q := by
  obtain ⟨h1, h2, h3, h4⟩ := (goodQ_iff q).1 h
  exact ⟨h1.sp, h2.sp, h3.sp, h4.sp⟩
theorem goodQ_i64 {q : Q4} (h : goodQ q = true) : I64 q.w ∧ I64 q.x ∧ I64 q.y ∧ I64 q.z := by
  obtain ⟨h1, h2, h3, h4⟩ := (goodQ_iff q).1 h
  exact ⟨h1.i64, h2.i64, h3.i64, h4.i64⟩
theorem JBox.drew {W : World} {g : Nat} {q : Nat → Int} (h : JBox W g q) : JBox W.drew g q := ⟨h.lt, h.c, h.f0⟩
set_option maxHeartbeats 4000000 in
set_option maxRecDepth 100000 in
theorem qmul_any (p q : Q4) (w : World) (hp : goodQ p = true) (hq : goodQ q = true) :
    Calls Try.prog 20 #[quatQ p, quatQ q] w (RetB w (QuatT (toldQ (p.prod q)) (errQ (p.prod q)))) := by
  have HGP := Lib.hid (fun (W : World) => (qgood_any p.w p.x p.y p.z W).mono (R' := RetB W fun r _ => r = .bool true) (by
    rintro e w' ⟨⟨v, rfl, hv⟩, hb⟩; exact ⟨⟨v, rfl, hv.trans (by rw [show allB [p.w, p.x, p.y, p.z] = true from hp])⟩, hb⟩))
  have HGQ := Lib.hid (fun (W : World) => (qgood_any q.w q.x q.y q.z W).mono (R' := RetB W fun r _ => r = .bool true) (by
    rintro e w' ⟨⟨v, rfl, hv⟩, hb⟩; exact ⟨⟨v, rfl, hv.trans (by rw [show allB [q.w, q.x, q.y, q.z] = true from hq])⟩, hb⟩))
  have sp := goodQ_sq hp
  have sq := goodQ_sq hq
  have sm := sp.mul sq
  have HOP := Lib.hid (fun (W : World) => qofQ_any p W (goodQ_i64 hp))
  have HOQ := Lib.hid (fun (W : World) => qofQ_any q W (goodQ_i64 hq))
  have HPR := Lib.hid (fun (v u : Value) (W : World) (h : FourQ W v p) (k : FourQ W u q) => productQ_any v u p q 45 45 W h k sp sq (by omega) (by omega))
  have HOV := Lib.hid (fun (v : Value) (W : World) (h : FourQ W v (p.mul q)) => overQ_any v (p.mul q) _ 30 30 W rfl h sm (by omega) (by omega))
  have HTD := Lib.hid (fun (v : Value) (W : World) (h : FourQ W v (p.prod q)) => toldQ_any v (p.prod q) _ W h (show SQ _ (p.prod q) from sm.shr 30) (by omega))
  obtain ⟨r, hr⟩ : ∃ r, toldQ (p.prod q) = r := ⟨_, rfl⟩
  obtain ⟨er, her⟩ : ∃ er, errQ (p.prod q) = er := ⟨_, rfl⟩
  rw [hr, her]
  simp only [hr, her] at HTD
  cases p with
  | mk pw0 px0 py0 pz0 =>
  cases q with
  | mk qw0 qx0 qy0 qz0 =>
  cases r with
  | mk rw0 rx0 ry0 rz0 =>
  have HTD := Lib.hid (show ∀ (v : Value) (W : World), FourQ W v (Q4.prod ⟨pw0, px0, py0, pz0⟩ ⟨qw0, qx0, qy0, qz0⟩) → Calls Try.prog 56 #[v] W (RetB W fun r _ => r = .tuple #[.agg #[.int .i64 rw0, .int .i64 rx0, .int .i64 ry0, .int .i64 rz0], .int .i64 er]) from HTD.out)
  simp only [quatQ, quatV] at HGP HGQ HOP HOQ ⊢
  clear hp hq sp sq sm hr her
  go_enter Try.func20, Try.ntmps20
  go_upto_region 3 with (first
    | (go_at_call 54; (with_reducible refine (HGP.out _).mono ?_); rintro e w1 ⟨⟨v1, rfl, rfl⟩, hb1⟩; (obtain ⟨hc1, hf1⟩ := bcell hb1); (have hs1 := hb1.size); (try simp at hs1); (have hz1_0 : w.heap.size < w1.heap.size := by omega); (have hz1_1 : w.heap.size + 1 < w1.heap.size := by omega); (have hz1_2 : w.heap.size + 2 < w1.heap.size := by omega))
    | (go_at_call 54; (with_reducible refine (HGQ.out _).mono ?_); rintro e w2 ⟨⟨v2, rfl, rfl⟩, hb2⟩; (obtain ⟨hc2, hf2⟩ := bcell hb2); (have hs2 := hb2.size); (try simp at hs2); (have hz2_0 : w.heap.size < w2.heap.size := by omega); (have hz2_1 : w.heap.size + 1 < w2.heap.size := by omega); (have hz2_2 : w.heap.size + 2 < w2.heap.size := by omega)))
  have JP0 := ((JBox.made (W := w) rfl (pick4 pw0 px0 py0 pz0) 38).alloc (.cells #[.int .i64 qw0, .int .i64 qx0, .int .i64 qy0, .int .i64 qz0] 38)).alloc (.cells #[.int .i64 0, .int .i64 0, .int .i64 0, .int .i64 0] 38)
  have JQ0 := (JBox.made (W := w.alloc (.cells #[.int .i64 pw0, .int .i64 px0, .int .i64 py0, .int .i64 pz0] 38)) (g := w.heap.size + 1) (by simp) (pick4 qw0 qx0 qy0 qz0) 38).alloc (.cells #[.int .i64 0, .int .i64 0, .int .i64 0, .int .i64 0] 38)
  have JR0 := JBox.made (W := (w.alloc (.cells #[.int .i64 pw0, .int .i64 px0, .int .i64 py0, .int .i64 pz0] 38)).alloc (.cells #[.int .i64 qw0, .int .i64 qx0, .int .i64 qy0, .int .i64 qz0] 38)) (g := w.heap.size + 1 + 1) (by simp) (fun _ => 0) 38
  have JP := (JP0.later hb1).later hb2
  have JQ := (JQ0.later hb1).later hb2
  have JR := Lib.hid ((JR0.later hb1).later hb2)
  have BE := Lib.hid (show Below w.heap.size w w2 from (by repeat (first | (with_reducible assumption) | exact Below.refl _ _ | (with_reducible refine Below.setCell ?_ (by first | (simp; done) | (simp; omega) | omega) _) | (with_reducible refine Below.alloc ?_ (by first | (simp; done) | (simp; omega) | omega) _) | (with_reducible refine below_drewN' ?_ _) | (with_reducible refine Below.drew ?_) | (refine below_after (by with_reducible assumption) ?_ (by first | (simp; done) | (simp; omega) | omega)))))
  have bes := BE.out.size
  have p0 := JP.c 0 (by omega)
  have p1 := JP.c 1 (by omega)
  have p2 := JP.c 2 (by omega)
  have p3 := JP.c 3 (by omega)
  have q0 := JQ.c 0 (by omega)
  have q1 := JQ.c 1 (by omega)
  have q2 := JQ.c 2 (by omega)
  have q3 := JQ.c 3 (by omega)
  simp only [pick4] at p0 p1 p2 p3 q0 q1 q2 q3
  clear JP0 JQ0 JR0 JP JQ hc1 hf1 hb1 hs1 hc2 hf2 hb2 hs2 hz1_0 hz1_1 hz1_2 hz2_0 hz2_1 hz2_2
  (refine start_ (S := (fun w' => ((w'.cell? ⟨w.heap.size, 0, none⟩ = some (.int .i64 pw0) ∧ w'.cell? ⟨w.heap.size, 1, none⟩ = some (.int .i64 px0)) ∧ (w'.cell? ⟨w.heap.size, 2, none⟩ = some (.int .i64 py0) ∧ w'.cell? ⟨w.heap.size, 3, none⟩ = some (.int .i64 pz0))) ∧ ((w'.cell? ⟨w.heap.size + 1, 0, none⟩ = some (.int .i64 qw0) ∧ w'.cell? ⟨w.heap.size + 1, 1, none⟩ = some (.int .i64 qx0)) ∧ (w'.cell? ⟨w.heap.size + 1, 2, none⟩ = some (.int .i64 qy0) ∧ w'.cell? ⟨w.heap.size + 1, 3, none⟩ = some (.int .i64 qz0))))) (ds := [9, 10]) (n := 11) #[false, false, false, false, false, false, false, false, false, false, false] (by kernel_rfl) rfl rfl ?_ (fun hS0 => ?_); (· exact (by (try dsimp only); ((repeat' (with_reducible apply And.intro)) <;> (first | (with_reducible assumption) | (go_split_ands; (repeat (with_reducible refine (World.cell?_setCell_far _ _ _ _ ?_).trans ?_; (· first | (dsimp only; omega) | (simp; done) | (simp; omega)))); (with_reducible assumption)) | (go_split_ands; (first | (with_reducible assumption) | go_simp); done) | (with_reducible refine (kcell (by assumption) ?_).trans ?_; (· exact (by first | (with_reducible assumption) | omega | (simp; done) | (simp; omega))); (· first | (with_reducible assumption) | (go_split_ands; with_reducible assumption))) | (go_split_ands; (repeat (first | (with_reducible assumption) | (with_reducible refine (World.cell?_setCell_far _ _ _ _ ?_).trans ?_; (· first | (dsimp only; omega) | (simp; done) | (simp; omega))) | (with_reducible refine alloc_swap (o := ?_) ?_ ?_ _; rotate_left 1; (· first | (dsimp only; omega) | (simp; done) | (simp; omega)); (· with_reducible assumption); (all_goals skip)) | (with_reducible refine alloc_keep ?_ _) | (with_reducible refine (kcell (by assumption) ?_).trans ?_; (· exact (by first | (with_reducible assumption) | omega | (simp; done) | (simp; omega)))))); done) | fail)))))
  ((refine take_ (i := 0) (N := some 15) (v := ?_) #[true, false, false, false, false, false, false, false, false, false, false] rfl rfl (by kernel_rfl) (fun _ _ _ h => h) (Or.inl ⟨by rfl, ?_⟩) (by with_reducible assumption) rfl ?_; rotate_left 1; (· intro w hSw; (try dsimp only at hSw); go_simp; first | done | with_reducible rfl); (try simp only [Act.put, List.setIfInBounds_toArray, List.set_cons_zero, List.set_cons_succ])); (refine take_ (i := 2) (N := some 17) (v := ?_) #[true, false, true, false, false, false, false, false, false, false, false] rfl rfl (by kernel_rfl) (fun _ _ _ h => h) (Or.inl ⟨by rfl, ?_⟩) (by with_reducible assumption) rfl ?_; rotate_left 1; (· intro w hSw; (try dsimp only at hSw); go_simp; first | done | with_reducible rfl); (try simp only [Act.put, List.setIfInBounds_toArray, List.set_cons_zero, List.set_cons_succ])))
  (refine free_ (fuel := 7) (n := 24) [(1, 16), (3, 18)] (fun i v W => FourQ W v (if i = 1 then ⟨pw0, px0, py0, pz0⟩ else ⟨qw0, qx0, qy0, qz0⟩)) #[true, true, true, true, false, false, false, false, false, false, false] rfl (by kernel_rfl) ?hst ?hsst (by with_reducible assumption) ?steps ?fin)
  case hst => exact fun i v W W' h hb => FourAt.below h hb
  case hsst => exact fun W W' h hb => ⟨⟨⟨cell_below hb h.1.1.1, cell_below hb h.1.1.2⟩, ⟨cell_below hb h.1.2.1, cell_below hb h.1.2.2⟩⟩, ⟨⟨cell_below hb h.2.1.1, cell_below hb h.2.1.2⟩, ⟨cell_below hb h.2.2.1, cell_below hb h.2.2.2⟩⟩⟩
  case steps =>
    (refine FreeSteps.cons (by rfl) ?_ (FreeSteps.cons (by rfl) ?_ (FreeSteps.nil)))
    · (intro us wq hbq hSq hdq K hK; (simp only [frameOf, Act.put, List.setIfInBounds_toArray, List.set_cons_zero, List.set_cons_succ]); go_simp; (go_at_call 60; (with_reducible refine (HOP.out _).mono ?_); rintro e w3 ⟨⟨v3, rfl, hv3⟩, hb3⟩; (obtain ⟨hc3, hf3⟩ := bcell hb3); (have hs3 := hb3.size); (try simp at hs3)); go_wp2_with fail; (refine hK.out _ _ ?_ ?_); (· exact hv3); (· with_reducible assumption))
    · (intro us wq hbq hSq hdq K hK; (simp only [frameOf, Act.put, List.setIfInBounds_toArray, List.set_cons_zero, List.set_cons_succ]); go_simp; (go_at_call 60; (with_reducible refine (HOQ.out _).mono ?_); rintro e w3 ⟨⟨v3, rfl, hv3⟩, hb3⟩; (obtain ⟨hc3, hf3⟩ := bcell hb3); (have hs3 := hb3.size); (try simp at hs3)); go_wp2_with fail; (refine hK.out _ _ ?_ ?_); (· exact hv3); (· with_reducible assumption))
  case fin =>
    intro us wq hbq hSq hdq
    have d1 : FourQ wq (us 1) ⟨pw0, px0, py0, pz0⟩ := hdq (1, 16) (by simp)
    have d2 : FourQ wq (us 3) ⟨qw0, qx0, qy0, qz0⟩ := hdq (3, 18) (by simp)
    simp only [frameOf, Act.put, List.setIfInBounds_toArray, List.set_cons_zero, List.set_cons_succ]
    obtain ⟨u1, hu1⟩ : ∃ u, us 1 = u := ⟨_, rfl⟩
    obtain ⟨u3, hu3⟩ : ∃ u, us 3 = u := ⟨_, rfl⟩
    rw [hu1] at d1 ⊢
    rw [hu3] at d2 ⊢
    have D1 := Lib.hid d1
    have D2 := Lib.hid d2
    clear d1 d2 hu1 hu3 hdq
    have JRq := Lib.hid (JR.out.drew.later hbq)
    have BEq := Lib.hid (show Below w.heap.size w wq from below_after hbq BE.out.drew bes)
    have beq := BEq.out.size
    have bl := JRq.out.lt
    (try dsimp only at hSq)
    clear hbq JR BE bes p0 p1 p2 p3 q0 q1 q2 q3
    (refine one_ (i := 4) (N := some 19) #[true, true, true, true, true, false, false, false, false, false, false] rfl rfl (by kernel_rfl) (by simp) (fun K hK => ?_); go_simp; (go_at_call 59; (with_reducible refine (HPR.out _ _ _ ?_ ?_).mono ?_); (· exact D1.out); (· exact D2.out); rintro e w4 ⟨⟨v4, rfl, hv4⟩, hb4⟩; (obtain ⟨hc4, hf4⟩ := bcell hb4); (have hs4 := hb4.size); (try simp at hs4)); go_wp2_with fail; (refine hK.out _ _ ?_ (fun hHeld => ?_)); (· exact (by (try dsimp only); ((repeat' (with_reducible apply And.intro)) <;> (first | (with_reducible assumption) | (go_split_ands; (repeat (with_reducible refine (World.cell?_setCell_far _ _ _ _ ?_).trans ?_; (· first | (dsimp only; omega) | (simp; done) | (simp; omega)))); (with_reducible assumption)) | (go_split_ands; (first | (with_reducible assumption) | go_simp); done) | (with_reducible refine (kcell (by assumption) ?_).trans ?_; (· exact (by first | (with_reducible assumption) | omega | (simp; done) | (simp; omega))); (· first | (with_reducible assumption) | (go_split_ands; with_reducible assumption))) | (go_split_ands; (repeat (first | (with_reducible assumption) | (with_reducible refine (World.cell?_setCell_far _ _ _ _ ?_).trans ?_; (· first | (dsimp only; omega) | (simp; done) | (simp; omega))) | (with_reducible refine alloc_swap (o := ?_) ?_ ?_ _; rotate_left 1; (· first | (dsimp only; omega) | (simp; done) | (simp; omega)); (· with_reducible assumption); (all_goals skip)) | (with_reducible refine alloc_keep ?_ _) | (with_reducible refine (kcell (by assumption) ?_).trans ?_; (· exact (by first | (with_reducible assumption) | omega | (simp; done) | (simp; omega)))))); done) | fail)))); clear hK; clear K; (try simp only [Act.put, List.setIfInBounds_toArray, List.set_cons_zero, List.set_cons_succ]))
    (refine one_ (i := 5) (N := some 20) #[true, true, true, true, true, true, false, false, false, false, false] rfl rfl (by kernel_rfl) (by simp) (fun K hK => ?_); go_simp; (go_at_call 58; (with_reducible refine (HOV.out _ _ ?_).mono ?_); (· exact hv4); rintro e w5 ⟨⟨v5, rfl, hv5⟩, hb5⟩; (obtain ⟨hc5, hf5⟩ := bcell hb5); (have hs5 := hb5.size); (try simp at hs5)); go_wp2_with fail; (refine hK.out _ _ ?_ (fun hHeld => ?_)); (· exact (by (try dsimp only); ((repeat' (with_reducible apply And.intro)) <;> (first | (with_reducible assumption) | (go_split_ands; (repeat (with_reducible refine (World.cell?_setCell_far _ _ _ _ ?_).trans ?_; (· first | (dsimp only; omega) | (simp; done) | (simp; omega)))); (with_reducible assumption)) | (go_split_ands; (first | (with_reducible assumption) | go_simp); done) | (with_reducible refine (kcell (by assumption) ?_).trans ?_; (· exact (by first | (with_reducible assumption) | omega | (simp; done) | (simp; omega))); (· first | (with_reducible assumption) | (go_split_ands; with_reducible assumption))) | (go_split_ands; (repeat (first | (with_reducible assumption) | (with_reducible refine (World.cell?_setCell_far _ _ _ _ ?_).trans ?_; (· first | (dsimp only; omega) | (simp; done) | (simp; omega))) | (with_reducible refine alloc_swap (o := ?_) ?_ ?_ _; rotate_left 1; (· first | (dsimp only; omega) | (simp; done) | (simp; omega)); (· with_reducible assumption); (all_goals skip)) | (with_reducible refine alloc_keep ?_ _) | (with_reducible refine (kcell (by assumption) ?_).trans ?_; (· exact (by first | (with_reducible assumption) | omega | (simp; done) | (simp; omega)))))); done) | fail)))); clear hK; clear K; (try simp only [Act.put, List.setIfInBounds_toArray, List.set_cons_zero, List.set_cons_succ]))
    (refine one_ (i := 6) (N := some 21) #[true, true, true, true, true, true, true, false, false, false, false] rfl rfl (by kernel_rfl) (by simp) (fun K hK => ?_); go_simp; (go_at_call 56; (with_reducible refine (HTD.out _ _ ?_).mono ?_); (· exact hv5); rintro e w6 ⟨⟨v6, rfl, rfl⟩, hb6⟩; (obtain ⟨hc6, hf6⟩ := bcell hb6); (have hs6 := hb6.size); (try simp at hs6)); go_wp2_with fail; (refine hK.out _ _ ?_ (fun hHeld => ?_)); (· exact (by (try dsimp only); ((repeat' (with_reducible apply And.intro)) <;> (first | (with_reducible assumption) | (go_split_ands; (repeat (with_reducible refine (World.cell?_setCell_far _ _ _ _ ?_).trans ?_; (· first | (dsimp only; omega) | (simp; done) | (simp; omega)))); (with_reducible assumption)) | (go_split_ands; (first | (with_reducible assumption) | go_simp); done) | (with_reducible refine (kcell (by assumption) ?_).trans ?_; (· exact (by first | (with_reducible assumption) | omega | (simp; done) | (simp; omega))); (· first | (with_reducible assumption) | (go_split_ands; with_reducible assumption))) | (go_split_ands; (repeat (first | (with_reducible assumption) | (with_reducible refine (World.cell?_setCell_far _ _ _ _ ?_).trans ?_; (· first | (dsimp only; omega) | (simp; done) | (simp; omega))) | (with_reducible refine alloc_swap (o := ?_) ?_ ?_ _; rotate_left 1; (· first | (dsimp only; omega) | (simp; done) | (simp; omega)); (· with_reducible assumption); (all_goals skip)) | (with_reducible refine alloc_keep ?_ _) | (with_reducible refine (kcell (by assumption) ?_).trans ?_; (· exact (by first | (with_reducible assumption) | omega | (simp; done) | (simp; omega)))))); done) | fail)))); clear hK; clear K; (try simp only [Act.put, List.setIfInBounds_toArray, List.set_cons_zero, List.set_cons_succ]))
    have JR6 := Lib.hid (((JRq.out.later hb4).later hb5).later hb6)
    have BE6 := Lib.hid (below_after hb6 (below_after hb5 (below_after hb4 BEq.out beq) (by have := hb4.size; omega)) (by have := hb4.size; have := hb5.size; omega))
    have j0 := JR6.out.c 0 (by omega)
    have j1 := JR6.out.c 1 (by omega)
    have j2 := JR6.out.c 2 (by omega)
    have j3 := JR6.out.c 3 (by omega)
    have k0 := JR6.out.f0 0
    have k1 := JR6.out.f0 1
    have k2 := JR6.out.f0 2
    have k3 := JR6.out.f0 3
    clear hc4 hf4 hc5 hf5 hc6 hf6
    ((refine take_ (i := 7) (N := some 22) (v := ?_) #[true, true, true, true, true, true, true, true, false, false, false] rfl rfl (by kernel_rfl) (fun _ _ _ h => h) (Or.inl ⟨by rfl, ?_⟩) (by with_reducible assumption) rfl ?_; rotate_left 1; (· intro w hSw; (try dsimp only at hSw); go_simp; first | done | with_reducible rfl); (try simp only [Act.put, List.setIfInBounds_toArray, List.set_cons_zero, List.set_cons_succ])); (refine take_ (i := 8) (N := some 23) (v := ?_) #[true, true, true, true, true, true, true, true, true, false, false] rfl rfl (by kernel_rfl) (fun _ _ _ h => h) (Or.inl ⟨by rfl, ?_⟩) (by with_reducible assumption) rfl ?_; rotate_left 1; (· intro w hSw; (try dsimp only at hSw); go_simp; first | done | with_reducible rfl); (try simp only [Act.put, List.setIfInBounds_toArray, List.set_cons_zero, List.set_cons_succ])))
    (refine last_ (i := 9) (N := none) #[true, true, true, true, true, true, true, true, true, true, false] rfl rfl (by kernel_rfl) (by simp) (fun K hK => ?_); go_simp; (refine hK.out _ _ ?_); clear hK; clear K; (try simp only [Act.put, List.setIfInBounds_toArray, List.set_cons_zero, List.set_cons_succ]))
    (refine last_ (i := 10) (N := some 5) #[true, true, true, true, true, true, true, true, true, true, true] rfl rfl (by kernel_rfl) (by simp) (fun K hK => ?_); go_simp; (refine hK.out _ _ ?_); clear hK; clear K; (try simp only [Act.put, List.setIfInBounds_toArray, List.set_cons_zero, List.set_cons_succ]))
    (refine done_ (by kernel_rfl) ?_)
    go_wp2
    have JF := (((JR6.out.put 0 (by omega) rw0).put 1 (by omega) rx0).put 2 (by omega) ry0).put 3 (by omega) rz0
    have r0 := JF.c 0 (by omega)
    have r1 := JF.c 1 (by omega)
    have r2 := JF.c 2 (by omega)
    have r3 := JF.c 3 (by omega)
    simp [upd] at r0 r1 r2 r3
    refine bodyPost_ret (v := .tuple #[.agg #[.int .i64 rw0, .int .i64 rx0, .int .i64 ry0, .int .i64 rz0], .int .i64 er]) (by simp [results, Try.results20, go_sem, r0, r1, r2, r3]) rfl ?_
    exact RetB.mk rfl ((((BE6.out.setCell (by simp; omega) _).setCell (by simp; omega) _).setCell (by simp; omega) _).setCell (by simp; omega) _)
end Go.Proofs.Ytcabnnfhcolcfaa
