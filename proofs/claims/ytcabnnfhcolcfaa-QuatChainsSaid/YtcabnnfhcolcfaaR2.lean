/- The walks of quat.Over's and turn's closures, and of quat.each with them. -/
import Derived.Test.YtcabnnfhcolcfaaR1
namespace Go.Proofs.Ytcabnnfhcolcfaa
set_option linter.unusedSimpArgs false
set_option linter.unusedVariables false
open Go.RowKit

set_option maxHeartbeats 1000000 in
theorem over1_any (v : Value) (z s : Int) (b : Nat) (gb : Nat) (w : World) (hv : IntAt w v z) (hs : Sl z) (hb : b ≤ 100) (hc : w.cell? ⟨gb, 0, none⟩ = some (.int .i64 (b : Int))) (hr : rnd z (2 ^ b) = s) :
    Calls Try.prog 106 #[v, .pointer (some ⟨gb, 0, none⟩)] w (RetB w fun r w' => IntAt w' r s) := by
  obtain ⟨A, n1, c1, rfl, HA⟩ := hv.open_
  have HV := Lib.hid hv
  obtain ⟨p, hp⟩ : ∃ p, (2 : Int) ^ b = p := ⟨_, rfl⟩
  have hp0 : 0 < p := by rw [← hp]; exact pow2_pos b
  have HP := Lib.hid (fun (W : World) => show Calls Try.prog 63 #[.int .i64 (b : Int)] W (RetB W fun r w' => IntAt w' r p) from hp ▸ power_any b b W rfl (by omega))
  have HR := Lib.hid (fun (u : Value) (W : World) (h : IntAt W (.agg #[.bool (decide (z < 0)), .slice A n1 c1]) z) (k : IntAt W u p) => (by
    have h := Round_any _ u z p W h k hs (hp ▸ Sl.pow2 b (by omega)) hp0
    rw [← hp, hr] at h; exact h : Calls Try.prog 62 #[.agg #[.bool (decide (z < 0)), .slice A n1 c1], u] W (RetB W fun r w' => IntAt w' r s)))
  have hbl := World.block_lt_of_cell? w _ hc
  simp only at hbl
  clear hs hr hv hp HA hp0 hb
  go_enter Try.func106, Try.ntmps106
  go_wp2
  go_region_held3 (fun w' => w'.cell? ⟨w.heap.size, 0, none⟩ = some (.bool (decide (z < 0))) ∧ w'.cell? ⟨w.heap.size, 1, none⟩ = some (.slice A n1 c1) ∧ w'.cell? ⟨gb, 0, none⟩ = some (.int .i64 (b : Int))) (((repeat' (with_reducible apply And.intro)) <;> (first | (with_reducible assumption) | (go_split_ands; (repeat (with_reducible refine (World.cell?_setCell_far _ _ _ _ ?_).trans ?_; (· first | (dsimp only; omega) | (simp; done) | (simp; omega)))); (with_reducible assumption)) | (go_split_ands; (first | (with_reducible assumption) | go_simp); done) | (with_reducible refine (kcell (by assumption) ?_).trans ?_; (· exact (by first | (with_reducible assumption) | omega | (simp; done) | (simp; omega))); (· first | (with_reducible assumption) | (go_split_ands; with_reducible assumption))) | (go_split_ands; (repeat (first | (with_reducible assumption) | (with_reducible refine (World.cell?_setCell_far _ _ _ _ ?_).trans ?_; (· first | (dsimp only; omega) | (simp; done) | (simp; omega))) | (with_reducible refine alloc_swap (o := ?_) ?_ ?_ _; rotate_left 1; (· first | (dsimp only; omega) | (simp; done) | (simp; omega)); (· with_reducible assumption); (all_goals skip)) | (with_reducible refine alloc_keep ?_ _) | (with_reducible refine (kcell (by assumption) ?_).trans ?_; (· exact (by first | (with_reducible assumption) | omega | (simp; done) | (simp; omega)))))); done) | fail))) (first
    | (go_at_call 63; (with_reducible refine (HP.out _).mono ?_); rintro e w1 ⟨⟨v1, rfl, hv1⟩, hb1⟩; (obtain ⟨hc1, hf1⟩ := bcell hb1); (have hs1 := hb1.size); (try simp at hs1); (have hz1_0 : w.heap.size < w1.heap.size := by omega); (have hz1_1 : w.heap.size + 1 < w1.heap.size := by omega))
    | (go_at_call 62; (with_reducible refine (HR.out _ _ ?_ ?_).mono ?_); (· exact (HV.out).below (by repeat (first | (with_reducible assumption) | exact Below.refl _ _ | (with_reducible refine Below.setCell ?_ (by first | (simp; done) | (simp; omega) | omega) _) | (with_reducible refine Below.alloc ?_ (by first | (simp; done) | (simp; omega) | omega) _) | (with_reducible refine below_drewN' ?_ _) | (with_reducible refine Below.drew ?_) | (refine below_after (by with_reducible assumption) ?_ (by first | (simp; done) | (simp; omega) | omega))))); (· ((repeat (first | (with_reducible assumption) | (with_reducible exact hv1) | (with_reducible refine IntAt.alloc ?_ _) | (with_reducible refine IntAt.drewN ?_ _) | (with_reducible refine IntAt.drew ?_) | (refine IntAt.stored ?_ (u0 := _) (by go_simp) (by simp) _) | (refine IntAt.below ?_ (by with_reducible assumption)))); done)); rintro e w2 ⟨⟨v2, rfl, hv2⟩, hb2⟩; (obtain ⟨hc2, hf2⟩ := bcell hb2); (have hs2 := hb2.size); (try simp at hs2); (have hz2_0 : w.heap.size < w2.heap.size := by omega); (have hz2_1 : w.heap.size + 1 < w2.heap.size := by omega); (obtain ⟨A2, n2, c2, rfl, HN2⟩ := hv2.open_); clear hv2; ((have r2_cell0 : w2.cell? ⟨w.heap.size + 1, 0, none⟩ = some (.bool false) := (hc2 _ _ (by first | (simp; done) | (simp; omega) | omega)).trans (by first | (with_reducible assumption) | (go_simp; done))); (have r2_cell1 : w2.cell? ⟨w.heap.size + 1, 1, none⟩ = some (.slice none 0 0) := (hc2 _ _ (by first | (simp; done) | (simp; omega) | omega)).trans (by first | (with_reducible assumption) | (go_simp; done))); (have r2_frozen0 : w2.frozen? ⟨w.heap.size + 1, 0, none⟩ = false := (hf2 _ _ (by first | (simp; done) | (simp; omega) | omega)).trans (by first | (with_reducible assumption) | (go_simp; done))); (have r2_frozen1 : w2.frozen? ⟨w.heap.size + 1, 1, none⟩ = false := (hf2 _ _ (by first | (simp; done) | (simp; omega) | omega)).trans (by first | (with_reducible assumption) | (go_simp; done))))))
  go_wp2
  (((try (rename_i hH; clear hH)); (have e0 : w2.cell? ⟨w.heap.size + 1, 0, none⟩ = some (.bool false) := by go_simp); (have e1 : w2.cell? ⟨w.heap.size + 1, 1, none⟩ = some (.slice none 0 0) := by go_simp); (refine bodyPost_ret (v := .agg #[.bool (decide (s < 0)), .slice A2 n2 c2]) (by simp [results, Try.results106, go_sem, e0, e1]) rfl ?_); (refine RetB.mk (IntAt.put (i := s) (u0 := .bool false) (u1 := .slice none 0 0) (by simpa using HN2.out) e0 (by simp) e1 (by simp) (by first | rfl | (simp; done) | (simp; omega))) ?_); (exact (by repeat (first | (with_reducible assumption) | exact Below.refl _ _ | (with_reducible refine Below.setCell ?_ (by first | (simp; done) | (simp; omega) | omega) _) | (with_reducible refine Below.alloc ?_ (by first | (simp; done) | (simp; omega) | omega) _) | (with_reducible refine below_drewN' ?_ _) | (with_reducible refine Below.drew ?_) | (refine below_after (by with_reducible assumption) ?_ (by first | (simp; done) | (simp; omega) | omega)))))))
set_option maxHeartbeats 1000000 in
theorem turn1_any (v : Value) (z s d : Int) (gb : Nat) (f : Bool) (B : Option Addr) (m2 d2 : Nat) (w : World) (hv : IntAt w v z) (hs : Sl z) (hsd : Sl d) (hd : 0 < d) (hc : IBox w gb f B m2 d2 d) (hr : rnd z d = s) :
    Calls Try.prog 111 #[v, .pointer (some ⟨gb, 0, none⟩)] w (RetB w fun r w' => IntAt w' r s) := by
  obtain ⟨A, n1, c1, rfl, HA⟩ := hv.open_
  have HV := Lib.hid hv
  have HD := Lib.hid hc
  have HR := Lib.hid (fun (v u : Value) (W : World) (h : IntAt W v z) (k : IntAt W u d) => hr ▸ Round_any v u z d W h k hs hsd hd)
  ((have HD_0 := (HD.out).c0); (have HD_1 := (HD.out).c1); (have HD_2 := (HD.out).f0); (have HD_3 := (HD.out).f1); (have HD_4 := (HD.out).lt))
  clear hs hr hv hsd hd HA hc
  go_enter Try.func111, Try.ntmps111
  go_wp2_with (go_at_call 62; (with_reducible refine (HR.out _ _ _ ?_ ?_).mono ?_); (· exact (HV.out).below (by repeat (first | (with_reducible assumption) | exact Below.refl _ _ | (with_reducible refine Below.setCell ?_ (by first | (simp; done) | (simp; omega) | omega) _) | (with_reducible refine Below.alloc ?_ (by first | (simp; done) | (simp; omega) | omega) _) | (with_reducible refine below_drewN' ?_ _) | (with_reducible refine Below.drew ?_) | (refine below_after (by with_reducible assumption) ?_ (by first | (simp; done) | (simp; omega) | omega))))); (· exact (HD.out.int).below (by repeat (first | (with_reducible assumption) | exact Below.refl _ _ | (with_reducible refine Below.setCell ?_ (by first | (simp; done) | (simp; omega) | omega) _) | (with_reducible refine Below.alloc ?_ (by first | (simp; done) | (simp; omega) | omega) _) | (with_reducible refine below_drewN' ?_ _) | (with_reducible refine Below.drew ?_) | (refine below_after (by with_reducible assumption) ?_ (by first | (simp; done) | (simp; omega) | omega))))); rintro e w1 ⟨⟨v1, rfl, hv1⟩, hb1⟩; (obtain ⟨hc1, hf1⟩ := bcell hb1); (have hs1 := hb1.size); (try simp at hs1); (have hz1_0 : w.heap.size < w1.heap.size := by omega); (have hz1_1 : w.heap.size + 1 < w1.heap.size := by omega); (obtain ⟨A1, n1, c1, rfl, HN1⟩ := hv1.open_); clear hv1)
  (((try (rename_i hH; clear hH)); (have e0 : w1.cell? ⟨w.heap.size + 1, 0, none⟩ = some (.bool false) := by go_simp); (have e1 : w1.cell? ⟨w.heap.size + 1, 1, none⟩ = some (.slice none 0 0) := by go_simp); (refine bodyPost_ret (v := .agg #[.bool (decide (s < 0)), .slice A1 n1 c1]) (by simp [results, Try.results111, go_sem, e0, e1]) rfl ?_); (refine RetB.mk (IntAt.put (i := s) (u0 := .bool false) (u1 := .slice none 0 0) (by simpa using HN1.out) e0 (by simp) e1 (by simp) (by first | rfl | (simp; done) | (simp; omega))) ?_); (exact (by repeat (first | (with_reducible assumption) | exact Below.refl _ _ | (with_reducible refine Below.setCell ?_ (by first | (simp; done) | (simp; omega) | omega) _) | (with_reducible refine Below.alloc ?_ (by first | (simp; done) | (simp; omega) | omega) _) | (with_reducible refine below_drewN' ?_ _) | (with_reducible refine Below.drew ?_) | (refine below_after (by with_reducible assumption) ?_ (by first | (simp; done) | (simp; omega) | omega)))))))
theorem upd_self {α : Type} (f : Nat → α) (k : Nat) : upd f k (f k) = f := by
  funext j; unfold upd; split
  · subst_vars; rfl
  · rfl
theorem FBox.again {W : World} {g : Nat} {f : Nat → Bool} {A : Nat → Option Addr} {n c : Nat → Nat} {z : Nat → Int} (h : FBox W g f A n c z) (k : Nat) (hk : k < 4) :
    FBox ((W.setCell ⟨g, k * 2, none⟩ (.bool (f k))).setCell ⟨g, k * 2 + 1, none⟩ (.slice (A k) (n k) (c k))) g f A n c z := by
  have := h.put k hk (h.int.int k hk)
  rwa [upd_self, upd_self, upd_self, upd_self, upd_self] at this
theorem FBox.again4 {W : World} {g : Nat} {f : Nat → Bool} {A : Nat → Option Addr} {n c : Nat → Nat} {z : Nat → Int} (h : FBox W g f A n c z) :
    FBox ((((((((W.setCell ⟨g, 0, none⟩ (.bool (f 0))).setCell ⟨g, 1, none⟩ (.slice (A 0) (n 0) (c 0))).setCell ⟨g, 2, none⟩ (.bool (f 1))).setCell ⟨g, 3, none⟩ (.slice (A 1) (n 1) (c 1))).setCell ⟨g, 4, none⟩ (.bool (f 2))).setCell ⟨g, 5, none⟩ (.slice (A 2) (n 2) (c 2))).setCell ⟨g, 6, none⟩ (.bool (f 3))).setCell ⟨g, 7, none⟩ (.slice (A 3) (n 3) (c 3))) g f A n c z :=
  (((h.again 0 (by omega)).again 1 (by omega)).again 2 (by omega)).again 3 (by omega)
theorem below8 {W w : World} {B g : Nat} (hb : Below B w W) (hg : B ≤ g) (u0 u1 u2 u3 u4 u5 u6 u7 : Value) :
    Below B w ((((((((W.setCell ⟨g, 0, none⟩ u0).setCell ⟨g, 1, none⟩ u1).setCell ⟨g, 2, none⟩ u2).setCell ⟨g, 3, none⟩ u3).setCell ⟨g, 4, none⟩ u4).setCell ⟨g, 5, none⟩ u5).setCell ⟨g, 6, none⟩ u6).setCell ⟨g, 7, none⟩ u7) :=
  (((((((hb.setCell hg _).setCell hg _).setCell hg _).setCell hg _).setCell hg _).setCell hg _).setCell hg _).setCell hg _
/-- What each has done so far. -/
def sofar (g z : Nat → Int) (k : Nat) : Nat → Int := fun j => if j < k then g j else z j
theorem sofar_step (g : Nat → Int) (k : Nat) : upd (sofar g (fun _ => 0) k) k (g k) = sofar g (fun _ => 0) (k + 1) := by
  funext j
  unfold upd sofar
  by_cases h : j = k
  · subst h; rw [if_pos rfl, if_pos (by omega)]
  · rw [if_neg h]
    by_cases h2 : j < k
    · rw [if_pos h2, if_pos (by omega)]
    · rw [if_neg h2, if_neg (by omega)]
theorem sofar_zero (g : Nat → Int) : sofar g (fun _ => 0) 0 = fun _ => 0 := by
  funext j; unfold sofar; rw [if_neg (by omega)]
set_option maxHeartbeats 1000000 in
set_option maxRecDepth 100000 in
theorem each_over (v : Value) (z g : Nat → Int) (gb : Nat) (w : World) (hv : FourAt w v z)
    (hdo : ∀ (k : Nat) (u : Value) (W : World), k < 4 → Below w.heap.size w W → IntAt W u (z k) → Calls Try.prog 106 #[u, .pointer (some ⟨gb, 0, none⟩)] W (RetB W fun r w' => IntAt w' r (g k))) :
    Calls Try.prog 105 #[v, .func (.func 106) #[] #[.pointer (some ⟨gb, 0, none⟩)]] w (RetB w fun r w' => FourAt w' r g) := by
  obtain ⟨f, A, n, c, rfl, hF⟩ := hv
  have HF := Lib.hid hF
  have HDO := Lib.hid hdo
  clear hF hdo
  unfold fourV
  go_enter Try.func105, Try.ntmps105
  go_wp2
  have BR0 := Lib.hid (FBox.nil (W := w.alloc (.cells #[.bool (f 0), .slice (A 0) (n 0) (c 0), .bool (f 1), .slice (A 1) (n 1) (c 1), .bool (f 2), .slice (A 2) (n 2) (c 2), .bool (f 3), .slice (A 3) (n 3) (c 3)] 94)) (g := w.heap.size + 1) (by simp) 94)
  have BE0 := Lib.hid (show Below w.heap.size w ((w.alloc (.cells #[.bool (f 0), .slice (A 0) (n 0) (c 0), .bool (f 1), .slice (A 1) (n 1) (c 1), .bool (f 2), .slice (A 2) (n 2) (c 2), .bool (f 3), .slice (A 3) (n 3) (c 3)] 94)).alloc (.cells #[.bool false, .slice none 0 0, .bool false, .slice none 0 0, .bool false, .slice none 0 0, .bool false, .slice none 0 0] 94)) from (below_alloc _ _).alloc (by simp) _)
  obtain ⟨WB, hWB⟩ : ∃ WB, ((w.alloc (.cells #[.bool (f 0), .slice (A 0) (n 0) (c 0), .bool (f 1), .slice (A 1) (n 1) (c 1), .bool (f 2), .slice (A 2) (n 2) (c 2), .bool (f 3), .slice (A 3) (n 3) (c 3)] 94)).alloc (.cells #[.bool false, .slice none 0 0, .bool false, .slice none 0 0, .bool false, .slice none 0 0, .bool false, .slice none 0 0] 94)) = WB := ⟨_, rfl⟩
  rw [hWB] at BR0 BE0 ⊢
  clear hWB
  go_loopw [8] (fun i wr => ∃ (k : Nat) (f2 : Nat → Bool) (A2 : Nat → Option Addr) (n2 c2 : Nat → Nat), k ≤ 4 ∧ i = .int .i64 k ∧ Hid (FBox wr (w.heap.size + 1) f2 A2 n2 c2 (sofar g (fun _ => 0) k)) ∧ Hid (Below w.heap.size w wr)) (fun i _ => 4 - (intOf i).toNat)
  case atStart => exact ⟨0, _, _, _, _, by omega, rfl, Lib.hid (by rw [sofar_zero]; exact BR0.out), BE0⟩
  case round =>
    clear BR0 BE0
    obtain ⟨k, f2, A2, n2, c2, hk, rfl, BR, BE⟩ := hrel
    by_cases hlt : k < 4
    · have HIX := index_four f A n c k hlt
      have HC := Lib.hid (fun (u : Value) (W : World) (h : Below w.heap.size w W) (hi : IntAt W u (z k)) => HDO.out k u W hlt h hi)
      have lt := BR.out.lt
      go_wp2_with (first
        | (go_at_call 106; (with_reducible refine (HC.out _ _ ?_ ?_).mono ?_); (· exact BE.out.alloc BE.out.size _); (· exact ((HF.out.below BE.out).int k hlt).alloc _); rintro e w5 ⟨⟨v5, rfl, hv5⟩, hb5⟩; (obtain ⟨hc5, hf5⟩ := bcell hb5); (have hs5 := hb5.size); (try simp at hs5); (obtain ⟨A5, n5, c5, rfl, HN5⟩ := hv5.open_); clear hv5; ((have BR5 : FBox w5 (w.heap.size + 1) f2 A2 n2 c2 (sofar g (fun _ => 0) k) := (BR.out.alloc _).later hb5); (have m0 := BR5.c0 k hlt); (have m1 := BR5.c1 k hlt); (have m2 := BR5.f0 (k * 2)); (have m3 := BR5.f0 (k * 2 + 1)))))
      go_roundw
      case rel =>
        have be := BE.out
        have bs := BE.out.size
        exact ⟨k + 1, _, _, _, _, by omega, by go_num, Lib.hid (by rw [← sofar_step]; exact BR5.put k hlt (IntAt.mk HN5.out)), Lib.hid (FBox.below (W := w5) (w := w) (B := w.heap.size) (g := w.heap.size + 1) (by repeat (first | (with_reducible assumption) | exact Below.refl _ _ | (with_reducible refine Below.setCell ?_ (by first | (simp; done) | (simp; omega) | omega) _) | (with_reducible refine Below.alloc ?_ (by first | (simp; done) | (simp; omega) | omega) _) | (with_reducible refine below_drewN' ?_ _) | (with_reducible refine Below.drew ?_) | (refine below_after (by with_reducible assumption) ?_ (by first | (simp; done) | (simp; omega) | omega)))) (by omega) _ _ _ _)⟩
      case measure => simp [intOf]; omega
    · obtain rfl : k = 4 := by omega
      obtain ⟨⟨e0, e1, e2, e3⟩, ⟨e4, e5, e6, e7⟩⟩ := BR.out.at4
      have g0 := BR.out.f0 0
      have g1 := BR.out.f0 1
      have g2 := BR.out.f0 2
      have g3 := BR.out.f0 3
      have g4 := BR.out.f0 4
      have g5 := BR.out.f0 5
      have g6 := BR.out.f0 6
      have g7 := BR.out.f0 7
      go_wp2
      have BF := BR.out.again4
      obtain ⟨⟨r0, r1, r2, r3⟩, ⟨r4, r5, r6, r7⟩⟩ := BF.at4
      refine bodyPost_ret (v := fourV f2 A2 n2 c2) (by simp [results, Try.results105, go_sem, fourV, r0, r1, r2, r3, r4, r5, r6, r7]) rfl ?_
      exact RetB.mk (FourAt.congr ⟨_, _, _, _, rfl, BF.int⟩ (fun j hj => by unfold sofar; rw [if_pos hj])) (below8 BE.out (by omega) _ _ _ _ _ _ _ _)
set_option maxHeartbeats 1000000 in
set_option maxRecDepth 100000 in
theorem each_turn (v : Value) (z g : Nat → Int) (gb : Nat) (w : World) (hv : FourAt w v z)
    (hdo : ∀ (k : Nat) (u : Value) (W : World), k < 4 → Below w.heap.size w W → IntAt W u (z k) → Calls Try.prog 111 #[u, .pointer (some ⟨gb, 0, none⟩)] W (RetB W fun r w' => IntAt w' r (g k))) :
    Calls Try.prog 105 #[v, .func (.func 111) #[] #[.pointer (some ⟨gb, 0, none⟩)]] w (RetB w fun r w' => FourAt w' r g) := by
  obtain ⟨f, A, n, c, rfl, hF⟩ := hv
  have HF := Lib.hid hF
  have HDO := Lib.hid hdo
  clear hF hdo
  unfold fourV
  go_enter Try.func105, Try.ntmps105
  go_wp2
  have BR0 := Lib.hid (FBox.nil (W := w.alloc (.cells #[.bool (f 0), .slice (A 0) (n 0) (c 0), .bool (f 1), .slice (A 1) (n 1) (c 1), .bool (f 2), .slice (A 2) (n 2) (c 2), .bool (f 3), .slice (A 3) (n 3) (c 3)] 94)) (g := w.heap.size + 1) (by simp) 94)
  have BE0 := Lib.hid (show Below w.heap.size w ((w.alloc (.cells #[.bool (f 0), .slice (A 0) (n 0) (c 0), .bool (f 1), .slice (A 1) (n 1) (c 1), .bool (f 2), .slice (A 2) (n 2) (c 2), .bool (f 3), .slice (A 3) (n 3) (c 3)] 94)).alloc (.cells #[.bool false, .slice none 0 0, .bool false, .slice none 0 0, .bool false, .slice none 0 0, .bool false, .slice none 0 0] 94)) from (below_alloc _ _).alloc (by simp) _)
  obtain ⟨WB, hWB⟩ : ∃ WB, ((w.alloc (.cells #[.bool (f 0), .slice (A 0) (n 0) (c 0), .bool (f 1), .slice (A 1) (n 1) (c 1), .bool (f 2), .slice (A 2) (n 2) (c 2), .bool (f 3), .slice (A 3) (n 3) (c 3)] 94)).alloc (.cells #[.bool false, .slice none 0 0, .bool false, .slice none 0 0, .bool false, .slice none 0 0, .bool false, .slice none 0 0] 94)) = WB := ⟨_, rfl⟩
  rw [hWB] at BR0 BE0 ⊢
  clear hWB
  go_loopw [8] (fun i wr => ∃ (k : Nat) (f2 : Nat → Bool) (A2 : Nat → Option Addr) (n2 c2 : Nat → Nat), k ≤ 4 ∧ i = .int .i64 k ∧ Hid (FBox wr (w.heap.size + 1) f2 A2 n2 c2 (sofar g (fun _ => 0) k)) ∧ Hid (Below w.heap.size w wr)) (fun i _ => 4 - (intOf i).toNat)
  case atStart => exact ⟨0, _, _, _, _, by omega, rfl, Lib.hid (by rw [sofar_zero]; exact BR0.out), BE0⟩
  case round =>
    clear BR0 BE0
    obtain ⟨k, f2, A2, n2, c2, hk, rfl, BR, BE⟩ := hrel
    by_cases hlt : k < 4
    · have HIX := index_four f A n c k hlt
      have HC := Lib.hid (fun (u : Value) (W : World) (h : Below w.heap.size w W) (hi : IntAt W u (z k)) => HDO.out k u W hlt h hi)
      have lt := BR.out.lt
      go_wp2_with (first
        | (go_at_call 111; (with_reducible refine (HC.out _ _ ?_ ?_).mono ?_); (· exact BE.out.alloc BE.out.size _); (· exact ((HF.out.below BE.out).int k hlt).alloc _); rintro e w5 ⟨⟨v5, rfl, hv5⟩, hb5⟩; (obtain ⟨hc5, hf5⟩ := bcell hb5); (have hs5 := hb5.size); (try simp at hs5); (obtain ⟨A5, n5, c5, rfl, HN5⟩ := hv5.open_); clear hv5; ((have BR5 : FBox w5 (w.heap.size + 1) f2 A2 n2 c2 (sofar g (fun _ => 0) k) := (BR.out.alloc _).later hb5); (have m0 := BR5.c0 k hlt); (have m1 := BR5.c1 k hlt); (have m2 := BR5.f0 (k * 2)); (have m3 := BR5.f0 (k * 2 + 1)))))
      go_roundw
      case rel =>
        have be := BE.out
        have bs := BE.out.size
        exact ⟨k + 1, _, _, _, _, by omega, by go_num, Lib.hid (by rw [← sofar_step]; exact BR5.put k hlt (IntAt.mk HN5.out)), Lib.hid (FBox.below (W := w5) (w := w) (B := w.heap.size) (g := w.heap.size + 1) (by repeat (first | (with_reducible assumption) | exact Below.refl _ _ | (with_reducible refine Below.setCell ?_ (by first | (simp; done) | (simp; omega) | omega) _) | (with_reducible refine Below.alloc ?_ (by first | (simp; done) | (simp; omega) | omega) _) | (with_reducible refine below_drewN' ?_ _) | (with_reducible refine Below.drew ?_) | (refine below_after (by with_reducible assumption) ?_ (by first | (simp; done) | (simp; omega) | omega)))) (by omega) _ _ _ _)⟩
      case measure => simp [intOf]; omega
    · obtain rfl : k = 4 := by omega
      obtain ⟨⟨e0, e1, e2, e3⟩, ⟨e4, e5, e6, e7⟩⟩ := BR.out.at4
      have g0 := BR.out.f0 0
      have g1 := BR.out.f0 1
      have g2 := BR.out.f0 2
      have g3 := BR.out.f0 3
      have g4 := BR.out.f0 4
      have g5 := BR.out.f0 5
      have g6 := BR.out.f0 6
      have g7 := BR.out.f0 7
      go_wp2
      have BF := BR.out.again4
      obtain ⟨⟨r0, r1, r2, r3⟩, ⟨r4, r5, r6, r7⟩⟩ := BF.at4
      refine bodyPost_ret (v := fourV f2 A2 n2 c2) (by simp [results, Try.results105, go_sem, fourV, r0, r1, r2, r3, r4, r5, r6, r7]) rfl ?_
      exact RetB.mk (FourAt.congr ⟨_, _, _, _, rfl, BF.int⟩ (fun j hj => by unfold sofar; rw [if_pos hj])) (below8 BE.out (by omega) _ _ _ _ _ _ _ _)
end Go.Proofs.Ytcabnnfhcolcfaa
