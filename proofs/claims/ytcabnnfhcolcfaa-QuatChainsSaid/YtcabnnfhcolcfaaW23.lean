/- The walk of Round by a number above 0. The walks of Right and Len. The walk of Len. -/
import Derived.Test.YtcabnnfhcolcfaaW20
import Derived.Test.YtcabnnfhcolcfaaQ1
namespace Go.Proofs.Ytcabnnfhcolcfaa
set_option linter.unusedSimpArgs false
set_option linter.unusedVariables false
open Go.RowKit

def DivJ (q r : Int) (v : Value) (w' : World) : Prop := ∃ u t, v = .tuple #[u, t] ∧ IntAt w' u q ∧ IntAt w' t r
theorem divide_to (va vb : Value) (a b q r : Int) (w : World) (ha : IntAt w va a) (hb : IntAt w vb b) (hla : Sl a) (hlb : Sl b) (hb0 : 0 < b) (hq : a / b = q) (hr : a % b = r) :
    Calls Try.prog 110 #[va, vb] w (RetB w (DivJ q r)) := by
  subst hq; subst hr; exact divide_any va vb a b w ha hb hla hlb hb0
/-- What Round has behind its division: q in block g, what is left in block g + 1, b in w's next but one. -/
structure RoundW (w W : World) (g : Nat) (q r b : Int) (Au Ar B : Option Addr) (nu cu nr cr m d : Nat) : Prop where
  lo : w.heap.size + 3 ≤ g
  hi : g + 1 < W.heap.size
  b0 : W.cell? ⟨w.heap.size + 1, 0, none⟩ = some (.bool false)
  b1 : W.cell? ⟨w.heap.size + 1, 1, none⟩ = some (.slice B m d)
  o0 : W.cell? ⟨w.heap.size + 2, 0, none⟩ = some (.bool false)
  o1 : W.cell? ⟨w.heap.size + 2, 1, none⟩ = some (.slice none 0 0)
  of0 : W.frozen? ⟨w.heap.size + 2, 0, none⟩ = false
  of1 : W.frozen? ⟨w.heap.size + 2, 1, none⟩ = false
  q0 : W.cell? ⟨g, 0, none⟩ = some (.bool (decide (q < 0)))
  q1 : W.cell? ⟨g, 1, none⟩ = some (.slice Au nu cu)
  qf0 : W.frozen? ⟨g, 0, none⟩ = false
  qf1 : W.frozen? ⟨g, 1, none⟩ = false
  r0 : W.cell? ⟨g + 1, 0, none⟩ = some (.bool (decide (r < 0)))
  r1 : W.cell? ⟨g + 1, 1, none⟩ = some (.slice Ar nr cr)
  iq : IntAt W (.agg #[.bool (decide (q < 0)), .slice Au nu cu]) q
  ir : IntAt W (.agg #[.bool (decide (r < 0)), .slice Ar nr cr]) r
  ib : IntAt W (.agg #[.bool false, .slice B m d]) b
  be : Below w.heap.size w W
theorem RoundW.later {w W W' : World} {g : Nat} {q r b : Int} {Au Ar B : Option Addr} {nu cu nr cr m d : Nat} (h : RoundW w W g q r b Au Ar B nu cu nr cr m d) (hb : Below W.heap.size W W') : RoundW w W' g q r b Au Ar B nu cu nr cr m d := by
  have hs := hb.size
  have hw := h.be.size
  have hi := h.hi
  have lo := h.lo
  have C : ∀ x o, x < W.heap.size → W'.cell? ⟨x, o, none⟩ = W.cell? ⟨x, o, none⟩ := (bcell hb).1
  have F : ∀ x o, x < W.heap.size → W'.frozen? ⟨x, o, none⟩ = W.frozen? ⟨x, o, none⟩ := (bcell hb).2
  exact ⟨lo, by omega, (C _ _ (by omega)).trans h.b0, (C _ _ (by omega)).trans h.b1, (C _ _ (by omega)).trans h.o0, (C _ _ (by omega)).trans h.o1, (F _ _ (by omega)).trans h.of0, (F _ _ (by omega)).trans h.of1,
    (C _ _ (by omega)).trans h.q0, (C _ _ (by omega)).trans h.q1, (F _ _ (by omega)).trans h.qf0, (F _ _ (by omega)).trans h.qf1, (C _ _ (by omega)).trans h.r0, (C _ _ (by omega)).trans h.r1,
    h.iq.below hb, h.ir.below hb, h.ib.below hb, below_after hb h.be hw⟩
theorem RoundW.drew {w W : World} {g : Nat} {q r b : Int} {Au Ar B : Option Addr} {nu cu nr cr m d : Nat} (h : RoundW w W g q r b Au Ar B nu cu nr cr m d) : RoundW w W.drew g q r b Au Ar B nu cu nr cr m d :=
  ⟨h.lo, h.hi, h.b0, h.b1, h.o0, h.o1, h.of0, h.of1, h.q0, h.q1, h.qf0, h.qf1, h.r0, h.r1, h.iq.drew, h.ir.drew, h.ib.drew, h.be.drew⟩
theorem sl_div {a b : Int} (h : Sl a) (hb : 0 < b) : Sl (a / b) := by
  have e := Int.emod_add_mul_ediv a b
  have h1 := Int.emod_nonneg a (show b ≠ 0 by omega)
  have h2 := Int.emod_lt_of_pos a hb
  obtain ⟨p, hp, h3, h4⟩ := h
  have hp2 := pow2_pos p
  rcases Int.lt_or_le a 0 with h0 | h0
  · have h5 : a / b < 0 := Int.ediv_neg_of_neg_of_pos h0 hb
    have h6 : (b - 1) * (a / b) ≤ (b - 1) * (-1) := Int.mul_le_mul_of_nonneg_left (by omega) (by omega)
    have h7 : (b - 1) * (a / b) = b * (a / b) - a / b := by grind
    exact ⟨p, hp, by omega, by omega⟩
  · have h5 : 0 ≤ a / b := Int.ediv_nonneg h0 (by omega)
    have h6 := Int.ediv_le_self b h0
    exact ⟨p, hp, by omega, by omega⟩
theorem IntAt.nat {w : World} {f : Bool} {A : Option Addr} {n c : Nat} {i : Int} (h : IntAt w (.agg #[.bool f, .slice A n c]) i) : NatAt w (.slice A n c) i.natAbs ∧ f = decide (i < 0) := by
  obtain ⟨mag, e, h⟩ := h
  cases e
  exact ⟨h, rfl⟩
set_option maxHeartbeats 2000000 in
theorem round_at (A B : Option Addr) (n c m d : Nat) (a b q r : Int) (w : World) (ha : IntAt w (.agg #[.bool (decide (a < 0)), .slice A n c]) a) (hb : IntAt w (.agg #[.bool false, .slice B m d]) b) (hla : Sl a) (hlb : Sl b) (hb0 : 0 < b) (hq : a / b = q) (hr : a % b = r) (kc : Int) (hk : cmpI (r * 2) b = kc) (hcase : kc = 1 ∨ kc = 0 ∨ kc = -1) :
    Calls Try.prog 62 #[.agg #[.bool (decide (a < 0)), .slice A n c], .agg #[.bool false, .slice B m d]] w (RetB w fun r w' => IntAt w' r (rnd a b)) := by
  have HD := Lib.hid (fun (W : World) (h : IntAt W (.agg #[.bool (decide (a < 0)), .slice A n c]) a) (k : IntAt W (.agg #[.bool false, .slice B m d]) b) => divide_to _ _ a b q r W h k hla hlb hb0 hq hr)
  have HIA := Lib.hid ha
  have HIB := Lib.hid hb
  have hr0 := Int.emod_nonneg a (show b ≠ 0 by omega)
  have hr1 := Int.emod_lt_of_pos a hb0
  rw [hr] at hr0 hr1
  have slr : Sl r := by obtain ⟨p, hp, h5, h6⟩ := hlb; exact ⟨p, hp, by omega, by omega⟩
  have s2r : Sm (r * 2) := by have := slr.add slr; rwa [show r + r = r * 2 by omega] at this
  have HL := Lib.hid (fun (v : Value) (W : World) (h : IntAt W v r) => Left_any v r (r * 2) 1 1 W rfl h slr.sm s2r (by omega) (by omega))
  have HC := Lib.hid (fun (v u : Value) (W : World) (h : IntAt W v (r * 2)) (k : IntAt W u b) => hk ▸ Cmp_any v u (r * 2) b W h k s2r hlb.sm)
  have HQ := Lib.hid (And.intro hq (And.intro hr (And.intro hb0 (And.intro hla hlb))))
  clear ha hb hr0 hr1 slr s2r hq hr hb0 hla hlb
  go_enter Try.func62, Try.ntmps62
  go_wp2_with (go_at_call 110; (with_reducible refine (HD.out _ ?_ ?_).mono ?_); (· exact (HIA.out).below (by repeat (first | (with_reducible assumption) | exact Below.refl _ _ | (with_reducible refine Below.setCell ?_ (by first | (simp; done) | (simp; omega) | omega) _) | (with_reducible refine Below.alloc ?_ (by first | (simp; done) | (simp; omega) | omega) _) | (with_reducible refine below_drewN' ?_ _) | (with_reducible refine Below.drew ?_) | (refine below_after (by with_reducible assumption) ?_ (by first | (simp; done) | (simp; omega) | omega))))); (· exact (HIB.out).below (by repeat (first | (with_reducible assumption) | exact Below.refl _ _ | (with_reducible refine Below.setCell ?_ (by first | (simp; done) | (simp; omega) | omega) _) | (with_reducible refine Below.alloc ?_ (by first | (simp; done) | (simp; omega) | omega) _) | (with_reducible refine below_drewN' ?_ _) | (with_reducible refine Below.drew ?_) | (refine below_after (by with_reducible assumption) ?_ (by first | (simp; done) | (simp; omega) | omega))))); rintro e w1 ⟨⟨v1, rfl, hv1⟩, hb1⟩; (obtain ⟨hc1, hf1⟩ := bcell hb1); (have hs1 := hb1.size); (try simp at hs1); (have hz1_0 : w.heap.size < w1.heap.size := by omega); (have hz1_1 : w.heap.size + 1 < w1.heap.size := by omega); (have hz1_2 : w.heap.size + 2 < w1.heap.size := by omega); ((obtain ⟨u1, r1, rfl, hu1, hr1⟩ := hv1); (obtain ⟨Au, nu, cu, rfl, HU⟩ := hu1.open_); (obtain ⟨Ar, nr, cr, rfl, HR⟩ := hr1.open_); clear hu1 hr1; (((have r1_cell0 : w1.cell? ⟨w.heap.size + 2, 0, none⟩ = some (.bool false) := (hc1 _ _ (by first | (simp; done) | (simp; omega) | omega)).trans (by first | (with_reducible assumption) | (go_simp; done))); (have r1_cell1 : w1.cell? ⟨w.heap.size + 2, 1, none⟩ = some (.slice none 0 0) := (hc1 _ _ (by first | (simp; done) | (simp; omega) | omega)).trans (by first | (with_reducible assumption) | (go_simp; done))); (have r1_frozen0 : w1.frozen? ⟨w.heap.size + 2, 0, none⟩ = false := (hf1 _ _ (by first | (simp; done) | (simp; omega) | omega)).trans (by first | (with_reducible assumption) | (go_simp; done))); (have r1_frozen1 : w1.frozen? ⟨w.heap.size + 2, 1, none⟩ = false := (hf1 _ _ (by first | (simp; done) | (simp; omega) | omega)).trans (by first | (with_reducible assumption) | (go_simp; done))))); (have kb0 : w1.cell? ⟨w.heap.size + 1, 0, none⟩ = some (.bool false) := (hc1 _ _ (by simp)).trans (by go_simp)); (have kb1 : w1.cell? ⟨w.heap.size + 1, 1, none⟩ = some (.slice B m d) := (hc1 _ _ (by simp)).trans (by go_simp))))
  have RW : RoundW w ((w1.alloc (.cells #[.bool (decide (q < 0)), .slice Au nu cu] 81)).alloc (.cells #[.bool (decide (r < 0)), .slice Ar nr cr] 81)) w1.heap.size q r b Au Ar B nu cu nr cr m d := by
    constructor
    · omega
    · simp
    · go_simp
    · go_simp
    · go_simp
    · go_simp
    · go_simp
    · go_simp
    · go_simp
    · go_simp
    · go_simp
    · go_simp
    · go_simp
    · go_simp
    · exact ((IntAt.mk HU.out).alloc _).alloc _
    · exact ((IntAt.mk HR.out).alloc _).alloc _
    · exact (HIB.out).below (by repeat (first | (with_reducible assumption) | exact Below.refl _ _ | (with_reducible refine Below.setCell ?_ (by first | (simp; done) | (simp; omega) | omega) _) | (with_reducible refine Below.alloc ?_ (by first | (simp; done) | (simp; omega) | omega) _) | (with_reducible refine below_drewN' ?_ _) | (with_reducible refine Below.drew ?_) | (refine below_after (by with_reducible assumption) ?_ (by first | (simp; done) | (simp; omega) | omega))))
    · exact (by repeat (first | (with_reducible assumption) | exact Below.refl _ _ | (with_reducible refine Below.setCell ?_ (by first | (simp; done) | (simp; omega) | omega) _) | (with_reducible refine Below.alloc ?_ (by first | (simp; done) | (simp; omega) | omega) _) | (with_reducible refine below_drewN' ?_ _) | (with_reducible refine Below.drew ?_) | (refine below_after (by with_reducible assumption) ?_ (by first | (simp; done) | (simp; omega) | omega))))
  obtain ⟨g, hg⟩ : ∃ g, w1.heap.size = g := ⟨_, rfl⟩
  obtain ⟨WB, hWB⟩ : ∃ WB, ((w1.alloc (.cells #[.bool (decide (q < 0)), .slice Au nu cu] 81)).alloc (.cells #[.bool (decide (r < 0)), .slice Ar nr cr] 81)) = WB := ⟨_, rfl⟩
  rw [hWB, hg] at RW
  rw [hWB, hg]
  clear hWB hg HU HR r1_cell0 r1_cell1 r1_frozen0 r1_frozen1 kb0 kb1 hc1 hf1 hb1 hs1 hz1_0 hz1_1 hz1_2 HD HIA HIB
  have RH := Lib.hid RW
  have c1 := RW.b0
  have c2 := RW.b1
  have c3 := RW.r0
  have c4 := RW.r1
  have l1 := RW.lo
  have l2 := RW.hi
  clear RW
  go_region_held3 (fun w' => (w'.cell? ⟨w.heap.size + 1, 0, none⟩ = some (.bool false) ∧ w'.cell? ⟨w.heap.size + 1, 1, none⟩ = some (.slice B m d)) ∧ (w'.cell? ⟨g + 1, 0, none⟩ = some (.bool (decide (r < 0))) ∧ w'.cell? ⟨g + 1, 1, none⟩ = some (.slice Ar nr cr))) (((repeat' (with_reducible apply And.intro)) <;> (first | (with_reducible assumption) | (go_split_ands; (repeat (with_reducible refine (World.cell?_setCell_far _ _ _ _ ?_).trans ?_; (· first | (dsimp only; omega) | (simp; done) | (simp; omega)))); (with_reducible assumption)) | (go_split_ands; (first | (with_reducible assumption) | go_simp); done) | (with_reducible refine (kcell (by assumption) ?_).trans ?_; (· exact (by first | (with_reducible assumption) | omega | (simp; done) | (simp; omega))); (· first | (with_reducible assumption) | (go_split_ands; with_reducible assumption))) | (go_split_ands; (repeat (first | (with_reducible assumption) | (with_reducible refine (World.cell?_setCell_far _ _ _ _ ?_).trans ?_; (· first | (dsimp only; omega) | (simp; done) | (simp; omega))) | (with_reducible refine alloc_swap (o := ?_) ?_ ?_ _; rotate_left 1; (· first | (dsimp only; omega) | (simp; done) | (simp; omega)); (· with_reducible assumption); (all_goals skip)) | (with_reducible refine alloc_keep ?_ _) | (with_reducible refine (kcell (by assumption) ?_).trans ?_; (· exact (by first | (with_reducible assumption) | omega | (simp; done) | (simp; omega)))))); done) | fail))) (first
    | (go_at_call 89; (with_reducible refine (HL.out _ _ ?_).mono ?_); (· ((repeat (first | (with_reducible assumption) | (with_reducible exact RH.out.ir) | (with_reducible refine IntAt.alloc ?_ _) | (with_reducible refine IntAt.drewN ?_ _) | (with_reducible refine IntAt.drew ?_) | (refine IntAt.stored ?_ (u0 := _) (by go_simp) (by simp) _) | (refine IntAt.below ?_ (by with_reducible assumption)))); done)); rintro e w2 ⟨⟨v2, rfl, hv2⟩, hb2⟩; (obtain ⟨hc2, hf2⟩ := bcell hb2); (have hs2 := hb2.size); (try simp at hs2); (have hz2_0 : w.heap.size < w2.heap.size := by omega); (have hz2_1 : w.heap.size + 1 < w2.heap.size := by omega); (have hz2_2 : w.heap.size + 2 < w2.heap.size := by omega))
    | (go_at_call 90; (with_reducible refine (HC.out _ _ _ ?_ ?_).mono ?_); (· ((repeat (first | (with_reducible assumption) | (with_reducible exact hv2) | (with_reducible refine IntAt.alloc ?_ _) | (with_reducible refine IntAt.drewN ?_ _) | (with_reducible refine IntAt.drew ?_) | (refine IntAt.stored ?_ (u0 := _) (by go_simp) (by simp) _) | (refine IntAt.below ?_ (by with_reducible assumption)))); done)); (· ((repeat (first | (with_reducible assumption) | (with_reducible exact RH.out.ib) | (with_reducible refine IntAt.alloc ?_ _) | (with_reducible refine IntAt.drewN ?_ _) | (with_reducible refine IntAt.drew ?_) | (refine IntAt.stored ?_ (u0 := _) (by go_simp) (by simp) _) | (refine IntAt.below ?_ (by with_reducible assumption)))); done)); rintro e w3 ⟨⟨v3, rfl, rfl⟩, hb3⟩; (obtain ⟨hc3, hf3⟩ := bcell hb3); (have hs3 := hb3.size); (try simp at hs3); (have hz3_0 : w.heap.size < w3.heap.size := by omega); (have hz3_1 : w.heap.size + 1 < w3.heap.size := by omega); (have hz3_2 : w.heap.size + 2 < w3.heap.size := by omega)))
  have R3 := (RH.out.drew.later hb2).later hb3
  have H3 := Lib.hid R3
  clear hc2 hc3 hf2 hf3 hb2 hb3 hs2 hs3 c1 c2 c3 c4 hv2 RH
  have c5 := R3.o0
  have c6 := R3.o1
  have c7 := R3.of0
  have c8 := R3.of1
  have c9 := R3.q0
  have c10 := R3.q1
  have l3 := R3.hi
  clear R3
  have hq := HQ.out
  have hcmp := hk
  unfold cmpI at hcmp
  rcases hcase with rfl | rfl | rfl
  · have HX : rnd a b = q + 1 := by
      have h2 : b < r * 2 := by split at hcmp <;> (try split at hcmp) <;> omega
      unfold rnd; rw [hq.1, hq.2.1, if_pos (by omega)]
    obtain ⟨t, ht⟩ : ∃ t, q + 1 = t := ⟨_, rfl⟩
    have HA := Lib.hid (fun (v u : Value) (W : World) (h : IntAt W v q) (k : IntAt W u 1) => add_int v u q 1 t W h k (hq.1 ▸ sl_div hq.2.2.2.1 hq.2.2.1) (Sl.word (by omega) (by omega)) ht)
    rw [ht] at HX
    have HX := Lib.hid HX
    have f9 := H3.out.qf0
    have f10 := H3.out.qf1
    clear hcmp hq hk ht
    go_wp2
    (refine start_ (S := (fun w' => w'.cell? ⟨g, 0, none⟩ = some (.bool (decide (q < 0))) ∧ w'.cell? ⟨g, 1, none⟩ = some (.slice Au nu cu))) (ds := [3]) (n := 4) #[false, false, false, false] (by kernel_rfl) rfl rfl ?_ (fun hS0 => ?_); (· exact (by (try dsimp only); ((repeat' (with_reducible apply And.intro)) <;> (first | (with_reducible assumption) | (go_split_ands; (repeat (with_reducible refine (World.cell?_setCell_far _ _ _ _ ?_).trans ?_; (· first | (dsimp only; omega) | (simp; done) | (simp; omega)))); (with_reducible assumption)) | (go_split_ands; (first | (with_reducible assumption) | go_simp); done) | (with_reducible refine (kcell (by assumption) ?_).trans ?_; (· exact (by first | (with_reducible assumption) | omega | (simp; done) | (simp; omega))); (· first | (with_reducible assumption) | (go_split_ands; with_reducible assumption))) | (go_split_ands; (repeat (first | (with_reducible assumption) | (with_reducible refine (World.cell?_setCell_far _ _ _ _ ?_).trans ?_; (· first | (dsimp only; omega) | (simp; done) | (simp; omega))) | (with_reducible refine alloc_swap (o := ?_) ?_ ?_ _; rotate_left 1; (· first | (dsimp only; omega) | (simp; done) | (simp; omega)); (· with_reducible assumption); (all_goals skip)) | (with_reducible refine alloc_keep ?_ _) | (with_reducible refine (kcell (by assumption) ?_).trans ?_; (· exact (by first | (with_reducible assumption) | omega | (simp; done) | (simp; omega)))))); done) | fail)))))
    (refine take_ (i := 0) (N := some 44) (v := ?_) #[true, false, false, false] rfl rfl (by kernel_rfl) (fun _ _ _ h => h) (Or.inl ⟨by rfl, ?_⟩) (by with_reducible assumption) rfl ?_; rotate_left 1; (· intro w hSw; (try dsimp only at hSw); go_simp; first | done | with_reducible rfl); (try simp only [Act.put, List.setIfInBounds_toArray, List.set_cons_zero, List.set_cons_succ]))
    (refine one_ (i := 1) (N := some 45) #[true, true, false, false] rfl rfl (by kernel_rfl) (by simp) (fun K hK => ?_); go_simp; (go_at_call 78; (with_reducible refine (one_any _).mono ?_); rintro e w4 ⟨⟨v4, rfl, hv4⟩, hb4⟩; (obtain ⟨hc4, hf4⟩ := bcell hb4); (have hs4 := hb4.size); (try simp at hs4); (have hz4_0 : w.heap.size < w4.heap.size := by omega); (have hz4_1 : w.heap.size + 1 < w4.heap.size := by omega); (have hz4_2 : w.heap.size + 2 < w4.heap.size := by omega)); go_wp2_with fail; (refine hK.out _ _ ?_ (fun hHeld => ?_)); (· exact (by (try dsimp only); ((repeat' (with_reducible apply And.intro)) <;> (first | (with_reducible assumption) | (go_split_ands; (repeat (with_reducible refine (World.cell?_setCell_far _ _ _ _ ?_).trans ?_; (· first | (dsimp only; omega) | (simp; done) | (simp; omega)))); (with_reducible assumption)) | (go_split_ands; (first | (with_reducible assumption) | go_simp); done) | (with_reducible refine (kcell (by assumption) ?_).trans ?_; (· exact (by first | (with_reducible assumption) | omega | (simp; done) | (simp; omega))); (· first | (with_reducible assumption) | (go_split_ands; with_reducible assumption))) | (go_split_ands; (repeat (first | (with_reducible assumption) | (with_reducible refine (World.cell?_setCell_far _ _ _ _ ?_).trans ?_; (· first | (dsimp only; omega) | (simp; done) | (simp; omega))) | (with_reducible refine alloc_swap (o := ?_) ?_ ?_ _; rotate_left 1; (· first | (dsimp only; omega) | (simp; done) | (simp; omega)); (· with_reducible assumption); (all_goals skip)) | (with_reducible refine alloc_keep ?_ _) | (with_reducible refine (kcell (by assumption) ?_).trans ?_; (· exact (by first | (with_reducible assumption) | omega | (simp; done) | (simp; omega)))))); done) | fail)))); clear hK; clear K; (try simp only [Act.put, List.setIfInBounds_toArray, List.set_cons_zero, List.set_cons_succ]))
    have R4 := H3.out.drew.later hb4
    have H4 := Lib.hid R4
    clear hc4 hf4 c5 c6 c7 c8 c9 c10 f9 f10
    have l4 := R4.hi
    (refine one_ (i := 2) (N := some 46) #[true, true, true, false] rfl rfl (by kernel_rfl) (by simp) (fun K hK => ?_); go_simp; (go_at_call 94; (with_reducible refine (HA.out _ _ _ ?_ ?_).mono ?_); (· exact H4.out.iq); (· ((repeat (first | (with_reducible assumption) | (with_reducible exact hv4) | (with_reducible refine IntAt.alloc ?_ _) | (with_reducible refine IntAt.drewN ?_ _) | (with_reducible refine IntAt.drew ?_) | (refine IntAt.stored ?_ (u0 := _) (by go_simp) (by simp) _) | (refine IntAt.below ?_ (by with_reducible assumption)))); done)); rintro e w5 ⟨⟨v5, rfl, hv5⟩, hb5⟩; (obtain ⟨hc5, hf5⟩ := bcell hb5); (have hs5 := hb5.size); (try simp at hs5); (have hz5_0 : w.heap.size < w5.heap.size := by omega); (have hz5_1 : w.heap.size + 1 < w5.heap.size := by omega); (have hz5_2 : w.heap.size + 2 < w5.heap.size := by omega); (obtain ⟨A5, n5, c5, rfl, HN5⟩ := hv5.open_); clear hv5); go_wp2_with fail; (refine hK.out _ _ ?_ (fun hHeld => ?_)); (· exact (by (try dsimp only); ((repeat' (with_reducible apply And.intro)) <;> (first | (with_reducible assumption) | (go_split_ands; (repeat (with_reducible refine (World.cell?_setCell_far _ _ _ _ ?_).trans ?_; (· first | (dsimp only; omega) | (simp; done) | (simp; omega)))); (with_reducible assumption)) | (go_split_ands; (first | (with_reducible assumption) | go_simp); done) | (with_reducible refine (kcell (by assumption) ?_).trans ?_; (· exact (by first | (with_reducible assumption) | omega | (simp; done) | (simp; omega))); (· first | (with_reducible assumption) | (go_split_ands; with_reducible assumption))) | (go_split_ands; (repeat (first | (with_reducible assumption) | (with_reducible refine (World.cell?_setCell_far _ _ _ _ ?_).trans ?_; (· first | (dsimp only; omega) | (simp; done) | (simp; omega))) | (with_reducible refine alloc_swap (o := ?_) ?_ ?_ _; rotate_left 1; (· first | (dsimp only; omega) | (simp; done) | (simp; omega)); (· with_reducible assumption); (all_goals skip)) | (with_reducible refine alloc_keep ?_ _) | (with_reducible refine (kcell (by assumption) ?_).trans ?_; (· exact (by first | (with_reducible assumption) | omega | (simp; done) | (simp; omega)))))); done) | fail)))); clear hK; clear K; (try simp only [Act.put, List.setIfInBounds_toArray, List.set_cons_zero, List.set_cons_succ]))
    have R5 := H4.out.later hb5
    have n0 := R5.o0
    have n1 := R5.o1
    have n2 := R5.of0
    have n3 := R5.of1
    have n4 := R5.q0
    have n51 := R5.q1
    have n6 := R5.qf0
    have n7 := R5.qf1
    have be5 := R5.be
    clear hc5 hf5 R5
    (refine last_ (i := 3) (N := none) #[true, true, true, true] rfl rfl (by kernel_rfl) (by simp) (fun K hK => ?_); go_simp; (refine hK.out _ _ ?_); clear hK; clear K; (try simp only [Act.put, List.setIfInBounds_toArray, List.set_cons_zero, List.set_cons_succ]))
    (refine done_ (by kernel_rfl) ?_)
    go_wp2
    have PA := put22 (w := w5) (g := g) (h := w.heap.size + 1 + 1) (by omega) n4 n51 n0 n1 (.bool (decide (t < 0))) (.slice A5 n5 c5) (.bool (decide (t < 0))) (.slice A5 n5 c5)
    have o2 := PA.d0
    have o3 := PA.d1
    refine bodyPost_ret (v := .agg #[.bool (decide (t < 0)), .slice A5 n5 c5]) (by simp [results, Try.results62, go_sem, o2, o3]) rfl ?_
    exact RetB.mk (by rw [HX.out]; exact PA.keep _ _ (IntAt.mk HN5.out)) (PA.below _ _ (by omega) (by omega) be5)
  · have h2 : r * 2 = b := by split at hcmp <;> (try split at hcmp) <;> omega
    by_cases hodd : q % 2 = 1
    · have HX : rnd a b = q + 1 := by unfold rnd; rw [hq.1, hq.2.1, if_pos (by omega)]
      have hnu : 0 < nu := by have := H3.out.iq.nat.1.len0; omega
      obtain ⟨ad, x, rfl, hcell, hx0, hx1, ⟨k, hk2, hk0⟩, _⟩ := H3.out.iq.nat.1.low hnu
      have hpar : x % 2 = 1 := by omega
      have hnu' : ¬ nu = 0 := by omega
      obtain ⟨t, ht⟩ : ∃ t, q + 1 = t := ⟨_, rfl⟩
      have HA := Lib.hid (fun (v u : Value) (W : World) (h : IntAt W v q) (k : IntAt W u 1) => add_int v u q 1 t W h k (hq.1 ▸ sl_div hq.2.2.2.1 hq.2.2.1) (Sl.word (by omega) (by omega)) ht)
      rw [ht] at HX
      have HX := Lib.hid HX
      have f9 := H3.out.qf0
      have f10 := H3.out.qf1
      clear hcmp hq hk ht hk2 hodd h2
      go_wp2
      (refine start_ (S := (fun w' => w'.cell? ⟨g, 0, none⟩ = some (.bool (decide (q < 0))) ∧ w'.cell? ⟨g, 1, none⟩ = some (.slice (some ad) nu cu))) (ds := [3]) (n := 4) #[false, false, false, false] (by kernel_rfl) rfl rfl ?_ (fun hS0 => ?_); (· exact (by (try dsimp only); ((repeat' (with_reducible apply And.intro)) <;> (first | (with_reducible assumption) | (go_split_ands; (repeat (with_reducible refine (World.cell?_setCell_far _ _ _ _ ?_).trans ?_; (· first | (dsimp only; omega) | (simp; done) | (simp; omega)))); (with_reducible assumption)) | (go_split_ands; (first | (with_reducible assumption) | go_simp); done) | (with_reducible refine (kcell (by assumption) ?_).trans ?_; (· exact (by first | (with_reducible assumption) | omega | (simp; done) | (simp; omega))); (· first | (with_reducible assumption) | (go_split_ands; with_reducible assumption))) | (go_split_ands; (repeat (first | (with_reducible assumption) | (with_reducible refine (World.cell?_setCell_far _ _ _ _ ?_).trans ?_; (· first | (dsimp only; omega) | (simp; done) | (simp; omega))) | (with_reducible refine alloc_swap (o := ?_) ?_ ?_ _; rotate_left 1; (· first | (dsimp only; omega) | (simp; done) | (simp; omega)); (· with_reducible assumption); (all_goals skip)) | (with_reducible refine alloc_keep ?_ _) | (with_reducible refine (kcell (by assumption) ?_).trans ?_; (· exact (by first | (with_reducible assumption) | omega | (simp; done) | (simp; omega)))))); done) | fail)))))
      (refine take_ (i := 0) (N := some 44) (v := ?_) #[true, false, false, false] rfl rfl (by kernel_rfl) (fun _ _ _ h => h) (Or.inl ⟨by rfl, ?_⟩) (by with_reducible assumption) rfl ?_; rotate_left 1; (· intro w hSw; (try dsimp only at hSw); go_simp; first | done | with_reducible rfl); (try simp only [Act.put, List.setIfInBounds_toArray, List.set_cons_zero, List.set_cons_succ]))
      (refine one_ (i := 1) (N := some 45) #[true, true, false, false] rfl rfl (by kernel_rfl) (by simp) (fun K hK => ?_); go_simp; (go_at_call 78; (with_reducible refine (one_any _).mono ?_); rintro e w4 ⟨⟨v4, rfl, hv4⟩, hb4⟩; (obtain ⟨hc4, hf4⟩ := bcell hb4); (have hs4 := hb4.size); (try simp at hs4); (have hz4_0 : w.heap.size < w4.heap.size := by omega); (have hz4_1 : w.heap.size + 1 < w4.heap.size := by omega); (have hz4_2 : w.heap.size + 2 < w4.heap.size := by omega)); go_wp2_with fail; (refine hK.out _ _ ?_ (fun hHeld => ?_)); (· exact (by (try dsimp only); ((repeat' (with_reducible apply And.intro)) <;> (first | (with_reducible assumption) | (go_split_ands; (repeat (with_reducible refine (World.cell?_setCell_far _ _ _ _ ?_).trans ?_; (· first | (dsimp only; omega) | (simp; done) | (simp; omega)))); (with_reducible assumption)) | (go_split_ands; (first | (with_reducible assumption) | go_simp); done) | (with_reducible refine (kcell (by assumption) ?_).trans ?_; (· exact (by first | (with_reducible assumption) | omega | (simp; done) | (simp; omega))); (· first | (with_reducible assumption) | (go_split_ands; with_reducible assumption))) | (go_split_ands; (repeat (first | (with_reducible assumption) | (with_reducible refine (World.cell?_setCell_far _ _ _ _ ?_).trans ?_; (· first | (dsimp only; omega) | (simp; done) | (simp; omega))) | (with_reducible refine alloc_swap (o := ?_) ?_ ?_ _; rotate_left 1; (· first | (dsimp only; omega) | (simp; done) | (simp; omega)); (· with_reducible assumption); (all_goals skip)) | (with_reducible refine alloc_keep ?_ _) | (with_reducible refine (kcell (by assumption) ?_).trans ?_; (· exact (by first | (with_reducible assumption) | omega | (simp; done) | (simp; omega)))))); done) | fail)))); clear hK; clear K; (try simp only [Act.put, List.setIfInBounds_toArray, List.set_cons_zero, List.set_cons_succ]))
      have R4 := H3.out.drew.later hb4
      have H4 := Lib.hid R4
      clear hc4 hf4 hcell c5 c6 c7 c8 c9 c10 f9 f10
      have l4 := R4.hi
      (refine one_ (i := 2) (N := some 46) #[true, true, true, false] rfl rfl (by kernel_rfl) (by simp) (fun K hK => ?_); go_simp; (go_at_call 94; (with_reducible refine (HA.out _ _ _ ?_ ?_).mono ?_); (· exact H4.out.iq); (· ((repeat (first | (with_reducible assumption) | (with_reducible exact hv4) | (with_reducible refine IntAt.alloc ?_ _) | (with_reducible refine IntAt.drewN ?_ _) | (with_reducible refine IntAt.drew ?_) | (refine IntAt.stored ?_ (u0 := _) (by go_simp) (by simp) _) | (refine IntAt.below ?_ (by with_reducible assumption)))); done)); rintro e w5 ⟨⟨v5, rfl, hv5⟩, hb5⟩; (obtain ⟨hc5, hf5⟩ := bcell hb5); (have hs5 := hb5.size); (try simp at hs5); (have hz5_0 : w.heap.size < w5.heap.size := by omega); (have hz5_1 : w.heap.size + 1 < w5.heap.size := by omega); (have hz5_2 : w.heap.size + 2 < w5.heap.size := by omega); (obtain ⟨A5, n5, c5, rfl, HN5⟩ := hv5.open_); clear hv5); go_wp2_with fail; (refine hK.out _ _ ?_ (fun hHeld => ?_)); (· exact (by (try dsimp only); ((repeat' (with_reducible apply And.intro)) <;> (first | (with_reducible assumption) | (go_split_ands; (repeat (with_reducible refine (World.cell?_setCell_far _ _ _ _ ?_).trans ?_; (· first | (dsimp only; omega) | (simp; done) | (simp; omega)))); (with_reducible assumption)) | (go_split_ands; (first | (with_reducible assumption) | go_simp); done) | (with_reducible refine (kcell (by assumption) ?_).trans ?_; (· exact (by first | (with_reducible assumption) | omega | (simp; done) | (simp; omega))); (· first | (with_reducible assumption) | (go_split_ands; with_reducible assumption))) | (go_split_ands; (repeat (first | (with_reducible assumption) | (with_reducible refine (World.cell?_setCell_far _ _ _ _ ?_).trans ?_; (· first | (dsimp only; omega) | (simp; done) | (simp; omega))) | (with_reducible refine alloc_swap (o := ?_) ?_ ?_ _; rotate_left 1; (· first | (dsimp only; omega) | (simp; done) | (simp; omega)); (· with_reducible assumption); (all_goals skip)) | (with_reducible refine alloc_keep ?_ _) | (with_reducible refine (kcell (by assumption) ?_).trans ?_; (· exact (by first | (with_reducible assumption) | omega | (simp; done) | (simp; omega)))))); done) | fail)))); clear hK; clear K; (try simp only [Act.put, List.setIfInBounds_toArray, List.set_cons_zero, List.set_cons_succ]))
      have R5 := H4.out.later hb5
      have n0 := R5.o0
      have n1 := R5.o1
      have n2 := R5.of0
      have n3 := R5.of1
      have n4 := R5.q0
      have n51 := R5.q1
      have n6 := R5.qf0
      have n7 := R5.qf1
      have be5 := R5.be
      clear hc5 hf5 R5
      (refine last_ (i := 3) (N := none) #[true, true, true, true] rfl rfl (by kernel_rfl) (by simp) (fun K hK => ?_); go_simp; (refine hK.out _ _ ?_); clear hK; clear K; (try simp only [Act.put, List.setIfInBounds_toArray, List.set_cons_zero, List.set_cons_succ]))
      (refine done_ (by kernel_rfl) ?_)
      go_wp2
      have PA := put22 (w := w5) (g := g) (h := w.heap.size + 1 + 1) (by omega) n4 n51 n0 n1 (.bool (decide (t < 0))) (.slice A5 n5 c5) (.bool (decide (t < 0))) (.slice A5 n5 c5)
      have o2 := PA.d0
      have o3 := PA.d1
      refine bodyPost_ret (v := .agg #[.bool (decide (t < 0)), .slice A5 n5 c5]) (by simp [results, Try.results62, go_sem, o2, o3]) rfl ?_
      exact RetB.mk (by rw [HX.out]; exact PA.keep _ _ (IntAt.mk HN5.out)) (PA.below _ _ (by omega) (by omega) be5)
    · have HX := Lib.hid (show rnd a b = q by unfold rnd; rw [hq.1, hq.2.1, if_neg (by omega)])
      rcases Nat.eq_zero_or_pos nu with hnu | hnu
      · subst hnu
        clear hcmp h2 hodd hq hk
        go_wp2
        refine bodyPost_ret (v := .agg #[.bool (decide (q < 0)), .slice Au 0 cu]) (by simp [results, Try.results62, go_sem, c5, c6]) rfl ?_
        refine RetB.mk ?_ ((H3.out.be.setCell (by simp; omega) _).setCell (by simp; omega) _)
        rw [HX.out]
        exact IntAt.put (i := q) (u0 := .bool false) (u1 := .slice none 0 0) H3.out.iq.nat.1 c5 (by simp) c6 (by simp) rfl
      · obtain ⟨ad, x, rfl, hcell, hx0, hx1, ⟨k, hk2, hk0⟩, _⟩ := H3.out.iq.nat.1.low hnu
        have hpar : x % 2 = 0 := by omega
        have hnu' : ¬ nu = 0 := by omega
        clear hcmp h2 hodd hq hk hk2
        go_wp2
        refine bodyPost_ret (v := .agg #[.bool (decide (q < 0)), .slice (some ad) nu cu]) (by simp [results, Try.results62, go_sem, c5, c6]) rfl ?_
        refine RetB.mk ?_ ((H3.out.be.setCell (by simp; omega) _).setCell (by simp; omega) _)
        rw [HX.out]
        exact IntAt.put (i := q) (u0 := .bool false) (u1 := .slice none 0 0) H3.out.iq.nat.1 c5 (by simp) c6 (by simp) rfl
  · have HX := Lib.hid (show rnd a b = q by
      have h2 : r * 2 < b := by split at hcmp <;> (try split at hcmp) <;> omega
      unfold rnd; rw [hq.1, hq.2.1, if_neg (by omega)])
    clear hcmp hq hk
    go_wp2
    refine bodyPost_ret (v := .agg #[.bool (decide (q < 0)), .slice Au nu cu]) (by simp [results, Try.results62, go_sem, c5, c6]) rfl ?_
    refine RetB.mk ?_ ((H3.out.be.setCell (by simp; omega) _).setCell (by simp; omega) _)
    rw [HX.out]
    exact IntAt.put (i := q) (u0 := .bool false) (u1 := .slice none 0 0) H3.out.iq.nat.1 c5 (by simp) c6 (by simp) rfl
theorem Round_any (va vb : Value) (a b : Int) (w : World) (ha : IntAt w va a) (hb : IntAt w vb b) (hla : Sl a) (hlb : Sl b) (hb0 : 0 < b) :
    Calls Try.prog 62 #[va, vb] w (RetB w fun r w' => IntAt w' r (rnd a b)) := by
  obtain ⟨A, n, c, rfl, _⟩ := ha.open_
  obtain ⟨B, m, d, rfl, _⟩ := hb.open_
  rw [decide_eq_false (show ¬ b < 0 by omega)] at hb ⊢
  exact round_at A B n c m d a b _ _ w ha hb hla hlb hb0 rfl rfl _ rfl (by unfold cmpI; split <;> (try split) <;> simp)
end Go.Proofs.Ytcabnnfhcolcfaa
namespace Go.Proofs.Ytcabnnfhcolcfaa
set_option linter.unusedSimpArgs false
set_option linter.unusedVariables false
open Go.RowKit

theorem right_nat (va : Value) (a q : Int) (n : Nat) (w : World) (ha : NatAt w va a) (hla : Sm a) (hn : n ≤ 70368744177664) (hq : a / 2 ^ n = q) :
    Calls Try.prog 120 #[va, .int .i64 n] w (RetB w fun v w' => NatAt w' v q) := by
  subst hq; exact right_any va a n w ha hla hn
set_option maxHeartbeats 1000000 in
theorem right_pos (va : Value) (a s : Int) (n : Nat) (w : World) (ha : IntAt w va a) (hla : Sl a) (hn : n ≤ 70368744177664) (hs : a / 2 ^ n = s) (h0 : 0 ≤ a) :
    Calls Try.prog 85 #[va, .int .i64 n] w (RetB w fun r w' => IntAt w' r s) := by
  obtain ⟨A, n1, c1, rfl, HA⟩ := ha.open_
  rw [show (a.natAbs : Int) = a by omega, decide_eq_false (show ¬ a < 0 by omega)] at *
  have hs0 : 0 ≤ s := by rw [← hs]; exact Int.ediv_nonneg h0 (Int.le_of_lt (pow2_pos n))
  have hsa : s ≤ a := by rw [← hs]; exact Int.ediv_le_self _ h0
  have HC := Lib.hid (fun (W : World) (h : NatAt W (.slice A n1 c1) a) => right_nat _ _ s n W h hla.sm hn hs)
  have HO := Lib.hid (fun (v : Value) (W : World) (h : NatAt W v s) => of_to false v s s W h (hla.sm.le hs0 hsa) (by simp))
  clear hla hs ha hs0 hsa h0
  go_enter Try.func85, Try.ntmps85
  go_wp2_with (go_at_call 120; (with_reducible refine (HC.out _ ?_).mono ?_); (· exact (HA.out).below (by repeat (first | (with_reducible assumption) | exact Below.refl _ _ | (with_reducible refine Below.setCell ?_ (by first | (simp; done) | (simp; omega) | omega) _) | (with_reducible refine Below.alloc ?_ (by first | (simp; done) | (simp; omega) | omega) _) | (with_reducible refine below_drewN' ?_ _) | (with_reducible refine Below.drew ?_) | (refine below_after (by with_reducible assumption) ?_ (by first | (simp; done) | (simp; omega) | omega))))); rintro e w1 ⟨⟨v1, rfl, hv1⟩, hb1⟩; (obtain ⟨hc1, hf1⟩ := bcell hb1); (have hs1 := hb1.size); (try simp at hs1); (have hz1_0 : w.heap.size < w1.heap.size := by omega); (have hz1_1 : w.heap.size + 1 < w1.heap.size := by omega); ((have k0 : w1.cell? ⟨w.heap.size, 0, none⟩ = some (.bool false) := (hc1 _ _ (by simp; omega)).trans (by go_simp)); (have k1 : w1.cell? ⟨w.heap.size, 1, none⟩ = some (.slice A n1 c1) := (hc1 _ _ (by simp; omega)).trans (by go_simp)); (((have r1_cell0 : w1.cell? ⟨w.heap.size + 1, 0, none⟩ = some (.bool false) := (hc1 _ _ (by first | (simp; done) | (simp; omega) | omega)).trans (by first | (with_reducible assumption) | (go_simp; done))); (have r1_cell1 : w1.cell? ⟨w.heap.size + 1, 1, none⟩ = some (.slice none 0 0) := (hc1 _ _ (by first | (simp; done) | (simp; omega) | omega)).trans (by first | (with_reducible assumption) | (go_simp; done))); (have r1_frozen0 : w1.frozen? ⟨w.heap.size + 1, 0, none⟩ = false := (hf1 _ _ (by first | (simp; done) | (simp; omega) | omega)).trans (by first | (with_reducible assumption) | (go_simp; done))); (have r1_frozen1 : w1.frozen? ⟨w.heap.size + 1, 1, none⟩ = false := (hf1 _ _ (by first | (simp; done) | (simp; omega) | omega)).trans (by first | (with_reducible assumption) | (go_simp; done)))))))
  (refine start_ (S := (fun w' => w'.cell? ⟨w.heap.size, 0, none⟩ = some (.bool (false)) ∧ w'.cell? ⟨w.heap.size, 1, none⟩ = some (.slice A n1 c1))) (ds := []) (n := 17) #[false, false, false, false, false, false, false, false, false, false, false, false, false, false, false, false, false] (by kernel_rfl) rfl rfl ?_ (fun hS0 => ?_); (· exact (by (try dsimp only); ((repeat' (with_reducible apply And.intro)) <;> (first | (with_reducible assumption) | (go_split_ands; (repeat (with_reducible refine (World.cell?_setCell_far _ _ _ _ ?_).trans ?_; (· first | (dsimp only; omega) | (simp; done) | (simp; omega)))); (with_reducible assumption)) | (go_split_ands; (first | (with_reducible assumption) | go_simp); done) | (with_reducible refine (kcell (by assumption) ?_).trans ?_; (· exact (by first | (with_reducible assumption) | omega | (simp; done) | (simp; omega))); (· first | (with_reducible assumption) | (go_split_ands; with_reducible assumption))) | (go_split_ands; (repeat (first | (with_reducible assumption) | (with_reducible refine (World.cell?_setCell_far _ _ _ _ ?_).trans ?_; (· first | (dsimp only; omega) | (simp; done) | (simp; omega))) | (with_reducible refine alloc_swap (o := ?_) ?_ ?_ _; rotate_left 1; (· first | (dsimp only; omega) | (simp; done) | (simp; omega)); (· with_reducible assumption); (all_goals skip)) | (with_reducible refine alloc_keep ?_ _) | (with_reducible refine (kcell (by assumption) ?_).trans ?_; (· exact (by first | (with_reducible assumption) | omega | (simp; done) | (simp; omega)))))); done) | fail)))))
  (refine take_ (i := 0) (N := some 10) (v := ?_) #[true, false, false, false, false, false, false, false, false, false, false, false, false, false, false, false, false] rfl rfl (by kernel_rfl) (fun _ _ _ h => h) (Or.inl ⟨by rfl, ?_⟩) (by with_reducible assumption) rfl ?_; rotate_left 1; (· intro w hSw; (try dsimp only at hSw); go_simp; first | done | with_reducible rfl); (try simp only [Act.put, List.setIfInBounds_toArray, List.set_cons_zero, List.set_cons_succ]))
  (refine take_ (i := 1) (N := some 11) (v := ?_) #[true, true, false, false, false, false, false, false, false, false, false, false, false, false, false, false, false] rfl rfl (by kernel_rfl) (fun _ _ _ h => h) (Or.inl ⟨by rfl, ?_⟩) (by with_reducible assumption) rfl ?_; rotate_left 1; (· intro w hSw; (try dsimp only at hSw); go_simp; first | done | with_reducible rfl); (try simp only [Act.put, List.setIfInBounds_toArray, List.set_cons_zero, List.set_cons_succ]))
  (refine take_ (i := 2) (N := some 12) (v := ?_) #[true, true, true, false, false, false, false, false, false, false, false, false, false, false, false, false, false] rfl rfl (by kernel_rfl) (fun _ _ _ h => h) (Or.inl ⟨by rfl, ?_⟩) (by with_reducible assumption) rfl ?_; rotate_left 1; (· intro w hSw; (try dsimp only at hSw); go_simp; first | done | with_reducible rfl); (try simp only [Act.put, List.setIfInBounds_toArray, List.set_cons_zero, List.set_cons_succ]))
  ((refine take_ (i := 3) (N := some 13) (v := undef) #[true, true, true, true, false, false, false, false, false, false, false, false, false, false, false, false, false] rfl rfl (by kernel_rfl) (fun _ _ _ h => h) (Or.inr ⟨by rfl, rfl⟩) (by with_reducible assumption) rfl ?_; (try simp only [Act.put, List.setIfInBounds_toArray, List.set_cons_zero, List.set_cons_succ])); (refine take_ (i := 4) (N := some 14) (v := undef) #[true, true, true, true, true, false, false, false, false, false, false, false, false, false, false, false, false] rfl rfl (by kernel_rfl) (fun _ _ _ h => h) (Or.inr ⟨by rfl, rfl⟩) (by with_reducible assumption) rfl ?_; (try simp only [Act.put, List.setIfInBounds_toArray, List.set_cons_zero, List.set_cons_succ])); (refine take_ (i := 5) (N := some 15) (v := undef) #[true, true, true, true, true, true, false, false, false, false, false, false, false, false, false, false, false] rfl rfl (by kernel_rfl) (fun _ _ _ h => h) (Or.inr ⟨by rfl, rfl⟩) (by with_reducible assumption) rfl ?_; (try simp only [Act.put, List.setIfInBounds_toArray, List.set_cons_zero, List.set_cons_succ])); (refine take_ (i := 6) (N := some 16) (v := undef) #[true, true, true, true, true, true, true, false, false, false, false, false, false, false, false, false, false] rfl rfl (by kernel_rfl) (fun _ _ _ h => h) (Or.inr ⟨by rfl, rfl⟩) (by with_reducible assumption) rfl ?_; (try simp only [Act.put, List.setIfInBounds_toArray, List.set_cons_zero, List.set_cons_succ])); (refine take_ (i := 7) (N := some 17) (v := undef) #[true, true, true, true, true, true, true, true, false, false, false, false, false, false, false, false, false] rfl rfl (by kernel_rfl) (fun _ _ _ h => h) (Or.inr ⟨by rfl, rfl⟩) (by with_reducible assumption) rfl ?_; (try simp only [Act.put, List.setIfInBounds_toArray, List.set_cons_zero, List.set_cons_succ])); (refine take_ (i := 8) (N := some 18) (v := undef) #[true, true, true, true, true, true, true, true, true, false, false, false, false, false, false, false, false] rfl rfl (by kernel_rfl) (fun _ _ _ h => h) (Or.inr ⟨by rfl, rfl⟩) (by with_reducible assumption) rfl ?_; (try simp only [Act.put, List.setIfInBounds_toArray, List.set_cons_zero, List.set_cons_succ])); (refine take_ (i := 9) (N := some 19) (v := undef) #[true, true, true, true, true, true, true, true, true, true, false, false, false, false, false, false, false] rfl rfl (by kernel_rfl) (fun _ _ _ h => h) (Or.inr ⟨by rfl, rfl⟩) (by with_reducible assumption) rfl ?_; (try simp only [Act.put, List.setIfInBounds_toArray, List.set_cons_zero, List.set_cons_succ])); (refine take_ (i := 10) (N := some 20) (v := undef) #[true, true, true, true, true, true, true, true, true, true, true, false, false, false, false, false, false] rfl rfl (by kernel_rfl) (fun _ _ _ h => h) (Or.inr ⟨by rfl, rfl⟩) (by with_reducible assumption) rfl ?_; (try simp only [Act.put, List.setIfInBounds_toArray, List.set_cons_zero, List.set_cons_succ])); (refine take_ (i := 11) (N := some 21) (v := undef) #[true, true, true, true, true, true, true, true, true, true, true, true, false, false, false, false, false] rfl rfl (by kernel_rfl) (fun _ _ _ h => h) (Or.inr ⟨by rfl, rfl⟩) (by with_reducible assumption) rfl ?_; (try simp only [Act.put, List.setIfInBounds_toArray, List.set_cons_zero, List.set_cons_succ])); (refine take_ (i := 12) (N := some 22) (v := undef) #[true, true, true, true, true, true, true, true, true, true, true, true, true, false, false, false, false] rfl rfl (by kernel_rfl) (fun _ _ _ h => h) (Or.inr ⟨by rfl, rfl⟩) (by with_reducible assumption) rfl ?_; (try simp only [Act.put, List.setIfInBounds_toArray, List.set_cons_zero, List.set_cons_succ])); (refine take_ (i := 13) (N := some 23) (v := undef) #[true, true, true, true, true, true, true, true, true, true, true, true, true, true, false, false, false] rfl rfl (by kernel_rfl) (fun _ _ _ h => h) (Or.inr ⟨by rfl, rfl⟩) (by with_reducible assumption) rfl ?_; (try simp only [Act.put, List.setIfInBounds_toArray, List.set_cons_zero, List.set_cons_succ])); (refine take_ (i := 14) (N := some 24) (v := undef) #[true, true, true, true, true, true, true, true, true, true, true, true, true, true, true, false, false] rfl rfl (by kernel_rfl) (fun _ _ _ h => h) (Or.inr ⟨by rfl, rfl⟩) (by with_reducible assumption) rfl ?_; (try simp only [Act.put, List.setIfInBounds_toArray, List.set_cons_zero, List.set_cons_succ])); (refine take_ (i := 15) (N := some 25) (v := undef) #[true, true, true, true, true, true, true, true, true, true, true, true, true, true, true, true, false] rfl rfl (by kernel_rfl) (fun _ _ _ h => h) (Or.inr ⟨by rfl, rfl⟩) (by with_reducible assumption) rfl ?_; (try simp only [Act.put, List.setIfInBounds_toArray, List.set_cons_zero, List.set_cons_succ])))
  (refine take_ (i := 16) (N := some 26) (v := ?_) #[true, true, true, true, true, true, true, true, true, true, true, true, true, true, true, true, true] rfl rfl (by kernel_rfl) (fun _ _ _ h => h) (Or.inl ⟨by rfl, ?_⟩) (by with_reducible assumption) rfl ?_; rotate_left 1; (· intro w hSw; (try dsimp only at hSw); go_simp; first | done | with_reducible rfl); (try simp only [Act.put, List.setIfInBounds_toArray, List.set_cons_zero, List.set_cons_succ]))
  (refine done_ (by kernel_rfl) ?_)
  clear hc1 hf1
  go_wp2_with (go_at_call 96; (with_reducible refine (HO.out _ _ ?_).mono ?_); (· ((repeat (first | (with_reducible assumption) | (with_reducible exact hv1) | (with_reducible refine NatAt.alloc ?_ _) | (with_reducible refine NatAt.drewN ?_ _) | (with_reducible refine NatAt.drew ?_) | (refine NatAt.stored ?_ (u0 := _) (by go_simp) (by simp) _) | (refine NatAt.below ?_ (by with_reducible assumption)))); done)); rintro e w2 ⟨⟨v2, rfl, hv2⟩, hb2⟩; (obtain ⟨hc2, hf2⟩ := bcell hb2); (have hs2 := hb2.size); (try simp at hs2); (have hz2_0 : w.heap.size < w2.heap.size := by omega); (have hz2_1 : w.heap.size + 1 < w2.heap.size := by omega); (obtain ⟨A2, n2, c2, rfl, HN2⟩ := hv2.open_); clear hv2; (((have r2_cell0 : w2.cell? ⟨w.heap.size + 1, 0, none⟩ = some (.bool false) := (hc2 _ _ (by first | (simp; done) | (simp; omega) | omega)).trans (by first | (with_reducible assumption) | (go_simp; done))); (have r2_cell1 : w2.cell? ⟨w.heap.size + 1, 1, none⟩ = some (.slice none 0 0) := (hc2 _ _ (by first | (simp; done) | (simp; omega) | omega)).trans (by first | (with_reducible assumption) | (go_simp; done))); (have r2_frozen0 : w2.frozen? ⟨w.heap.size + 1, 0, none⟩ = false := (hf2 _ _ (by first | (simp; done) | (simp; omega) | omega)).trans (by first | (with_reducible assumption) | (go_simp; done))); (have r2_frozen1 : w2.frozen? ⟨w.heap.size + 1, 1, none⟩ = false := (hf2 _ _ (by first | (simp; done) | (simp; omega) | omega)).trans (by first | (with_reducible assumption) | (go_simp; done))))))
  (((try (rename_i hH; clear hH)); (have e0 : w2.cell? ⟨w.heap.size + 1, 0, none⟩ = some (.bool false) := by go_simp); (have e1 : w2.cell? ⟨w.heap.size + 1, 1, none⟩ = some (.slice none 0 0) := by go_simp); (refine bodyPost_ret (v := .agg #[.bool (decide (s < 0)), .slice A2 n2 c2]) (by simp [results, Try.results85, go_sem, e0, e1]) rfl ?_); (refine RetB.mk (IntAt.put (i := s) (u0 := .bool false) (u1 := .slice none 0 0) (by simpa using HN2.out) e0 (by simp) e1 (by simp) (by first | rfl | (simp; done) | (simp; omega))) ?_); (exact (by repeat (first | (with_reducible assumption) | exact Below.refl _ _ | (with_reducible refine Below.setCell ?_ (by first | (simp; done) | (simp; omega) | omega) _) | (with_reducible refine Below.alloc ?_ (by first | (simp; done) | (simp; omega) | omega) _) | (with_reducible refine below_drewN' ?_ _) | (with_reducible refine Below.drew ?_) | (refine below_after (by with_reducible assumption) ?_ (by first | (simp; done) | (simp; omega) | omega)))))))
end Go.Proofs.Ytcabnnfhcolcfaa
namespace Go.Proofs.Ytcabnnfhcolcfaa
set_option linter.unusedSimpArgs false
set_option linter.unusedVariables false
open Go.RowKit

def LenP (a : Int) (v : Value) (_ : World) : Prop := ∃ k : Nat, v = .int .i64 k ∧ (a.natAbs : Int) < 2 ^ k ∧ (0 < k → (2 : Int) ^ (k - 1) ≤ a.natAbs) ∧ k ≤ 70368744177728
set_option maxHeartbeats 1000000 in
theorem len_any (va : Value) (a : Int) (w : World) (ha : IntAt w va a) (hla : Sm a) :
    Calls Try.prog 133 #[va] w (RetB w (LenP a)) := by
  obtain ⟨A, n, c, rfl, HA⟩ := ha.open_
  rcases Nat.eq_zero_or_pos n with hn | hn
  · subst hn
    have h0 : a = 0 := by have := IntAt.len HA.out; omega
    have HP := Lib.hid (show LenP a (.int .i64 0) w from ⟨0, rfl, by rw [h0]; decide, by omega, by omega⟩)
    clear h0 ha hla
    go_enter Try.func133, Try.ntmps133
    go_wp2
    refine bodyPost_ret (v := .int .i64 0) (by simp [results, Try.results133, go_sem]) rfl ?_
    exact RetB.mk HP.out (by repeat (first | (with_reducible assumption) | exact Below.refl _ _ | (with_reducible refine Below.setCell ?_ (by first | (simp; done) | (simp; omega) | omega) _) | (with_reducible refine Below.alloc ?_ (by first | (simp; done) | (simp; omega) | omega) _) | (with_reducible refine below_drewN' ?_ _) | (with_reducible refine Below.drew ?_) | (refine below_after (by with_reducible assumption) ?_ (by first | (simp; done) | (simp; omega) | omega))))
  · obtain ⟨A', n', c', xs, e, hc, hr, hx, hv⟩ := HA.out
    cases e
    have hl : n ≤ 1099511627777 := by rw [← hr.1]; exact hx.len hv hla.natAbs
    obtain ⟨ad, rfl, hcell⟩ := hr.at_ (n - 1) (by omega)
    have htb := hx.1.at_ (n - 1)
    have hne : xs ≠ [] := by rintro rfl; have := hr.1; simp at this; omega
    have ht0 : lim xs (n - 1) ≠ 0 := by
      have := hx.2 hne
      rw [List.getLast_eq_getElem] at this
      unfold lim
      rw [List.getD_eq_getElem?_getD, List.getElem?_eq_getElem (by rw [hr.1]; omega)]
      simpa [hr.1] using this
    obtain ⟨x, hxe⟩ : ∃ x, lim xs (n - 1) = x := ⟨_, rfl⟩
    rw [hxe] at hcell htb ht0
    have hb := World.block_lt_of_cell? w _ hcell
    have l : Lib.bitLen x.toNat ≤ 64 := Lib.bitLen_le x.toNat 64 (by omega) (by omega)
    have HP0 : LenP a (.int .i64 (64 * ((n : Int) - 1) + Lib.bitLen x.toNat)) w := by
      obtain ⟨s1, s2, s3⟩ := bitLen_spec x.toNat (by omega) (by omega)
      have s1' : (2 : Int) ^ (Lib.bitLen x.toNat - 1) ≤ x := by have := Int.ofNat_le.2 s1; rw [Int.natCast_pow] at this; simpa [Int.toNat_of_nonneg htb.1] using this
      have s2' : x < (2 : Int) ^ Lib.bitLen x.toNat := by have := Int.ofNat_lt.2 s2; rw [Int.natCast_pow] at this; simpa [Int.toNat_of_nonneg htb.1] using this
      have e1 := lv_take_succ' xs (n - 1)
      rw [show n - 1 + 1 = n by omega, List.take_of_length_le (by rw [hr.1]; omega), hv, hxe] at e1
      have e2 := lv_lt (hx.1.take (n - 1))
      have e3 := lv_nonneg (hx.1.take (n - 1))
      rw [List.length_take, hr.1, Nat.min_eq_left (by omega)] at e2
      have e4 : (18446744073709551616 : Int) ^ (n - 1) = 2 ^ (64 * (n - 1)) := pow64_eq _
      have e5 := pow_pos64 (n - 1)
      generalize hbl : Lib.bitLen x.toNat = bl at *
      have e6 : (18446744073709551616 : Int) ^ (n - 1) * 2 ^ bl = 2 ^ (64 * (n - 1) + bl) := by rw [e4, ← Int.pow_add]
      have e7 : (18446744073709551616 : Int) ^ (n - 1) * 2 ^ (bl - 1) = 2 ^ (64 * (n - 1) + bl - 1) := by rw [e4, ← Int.pow_add, show 64 * (n - 1) + (bl - 1) = 64 * (n - 1) + bl - 1 by omega]
      have e8 := Int.mul_le_mul_of_nonneg_left (show x + 1 ≤ 2 ^ bl by omega) (Int.le_of_lt e5)
      have e9 := Int.mul_le_mul_of_nonneg_left s1' (Int.le_of_lt e5)
      rw [Int.mul_add, Int.mul_one] at e8
      refine ⟨64 * (n - 1) + bl, by congr 1; omega, by omega, fun _ => by omega, by omega⟩
    have HP := Lib.hid HP0
    clear HP0
    have HL := Lib.hid (fun (W : World) => len64_any x W htb.1 (by omega))
    obtain ⟨bl, hbl⟩ : ∃ bl, Lib.bitLen x.toNat = bl := ⟨_, rfl⟩
    rw [hbl] at HP HL l
    clear ha hla hr hx hv ht0 htb hxe hne hbl HA
    obtain ⟨j, rfl⟩ : ∃ j, n = j + 1 := ⟨n - 1, by omega⟩
    rw [show j + 1 - 1 = j by omega] at hcell hb
    have HP := Lib.hid (show LenP a (.int .i64 (64 * (j : Int) + bl)) w by have := HP.out; rwa [show ((j + 1 : Nat) : Int) - 1 = j by omega] at this)
    have k1 : IntKind.i64.wrap (j : Int) = j := by rw [IntKind.wrap_i64]; omega
    have k2 : IntKind.i64.wrap (64 * (j : Int)) = 64 * (j : Int) := by rw [IntKind.wrap_i64]; omega
    have k3 : (0 : Int) ≤ (j : Int) := by omega
    have k6 : IntKind.i64.wrap (64 * (j : Int) + bl) = 64 * (j : Int) + bl := by rw [IntKind.wrap_i64]; omega
    have k7 : (j : Int) < (j : Int) + 1 := by omega
    go_enter Try.func133, Try.ntmps133
    go_wp2
    have c0 : (w.alloc (.cells #[.bool (decide (a < 0)), .slice (some ad) (j + 1) c] 81)).cell? (ad.add j) = some (.int .u64 x) := by
      rw [World.cell?_alloc_some _ _ _ (by rw [hcell]; rfl)]; exact hcell
    go_region_held3 (fun w' => w'.cell? ⟨w.heap.size, 0, none⟩ = some (.bool (decide (a < 0))) ∧ w'.cell? ⟨w.heap.size, 1, none⟩ = some (.slice (some ad) (j + 1) c) ∧ w'.cell? (ad.add j) = some (.int .u64 x)) (((repeat' (with_reducible apply And.intro)) <;> (first | (with_reducible assumption) | (go_split_ands; (repeat (with_reducible refine (World.cell?_setCell_far _ _ _ _ ?_).trans ?_; (· first | (dsimp only; omega) | (simp; done) | (simp; omega)))); (with_reducible assumption)) | (go_split_ands; (first | (with_reducible assumption) | go_simp); done) | (with_reducible refine (kcell (by assumption) ?_).trans ?_; (· exact (by first | (with_reducible assumption) | omega | (simp; done) | (simp; omega))); (· first | (with_reducible assumption) | (go_split_ands; with_reducible assumption))) | (go_split_ands; (repeat (first | (with_reducible assumption) | (with_reducible refine (World.cell?_setCell_far _ _ _ _ ?_).trans ?_; (· first | (dsimp only; omega) | (simp; done) | (simp; omega))) | (with_reducible refine alloc_swap (o := ?_) ?_ ?_ _; rotate_left 1; (· first | (dsimp only; omega) | (simp; done) | (simp; omega)); (· with_reducible assumption); (all_goals skip)) | (with_reducible refine alloc_keep ?_ _) | (with_reducible refine (kcell (by assumption) ?_).trans ?_; (· exact (by first | (with_reducible assumption) | omega | (simp; done) | (simp; omega)))))); done) | fail))) (first
      | (go_at_call 142; (with_reducible refine (HL.out _).mono ?_); rintro e w' ⟨rfl, rfl⟩))
    clear k1 k2 k3 k6 k7 c0
    go_wp2
    refine bodyPost_ret (v := .int .i64 (64 * (j : Int) + bl)) (by simp [results, Try.results133, go_sem]) rfl ?_
    exact RetB.mk HP.out (by repeat (first | (with_reducible assumption) | exact Below.refl _ _ | (with_reducible refine Below.setCell ?_ (by first | (simp; done) | (simp; omega) | omega) _) | (with_reducible refine Below.alloc ?_ (by first | (simp; done) | (simp; omega) | omega) _) | (with_reducible refine below_drewN' ?_ _) | (with_reducible refine Below.drew ?_) | (refine below_after (by with_reducible assumption) ?_ (by first | (simp; done) | (simp; omega) | omega))))
end Go.Proofs.Ytcabnnfhcolcfaa
