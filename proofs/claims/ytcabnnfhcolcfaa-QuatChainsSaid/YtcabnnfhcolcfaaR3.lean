/- The walks of quat.Of, quat.Over. -/
import Derived.Test.YtcabnnfhcolcfaaR2
import Derived.Test.YtcabnnfhcolcfaaFree
namespace Go.Proofs.Ytcabnnfhcolcfaa
set_option linter.unusedSimpArgs false
set_option linter.unusedVariables false
open Go.RowKit

def pick4 {α : Type} (x0 x1 x2 x3 : α) : Nat → α := fun j => match j with | 0 => x0 | 1 => x1 | 2 => x2 | _ => x3
theorem FBox.congr {W : World} {g : Nat} {f f' : Nat → Bool} {A A' : Nat → Option Addr} {n n' c c' : Nat → Nat} {z z' : Nat → Int} (h : FBox W g f A n c z) (e : ∀ j, j < 4 → f j = f' j ∧ A j = A' j ∧ n j = n' j ∧ c j = c' j ∧ z j = z' j) : FBox W g f' A' n' c' z' := by
  refine ⟨h.lt, fun j hj => ?_, fun j hj => ?_, h.f0, ⟨fun j hj => ?_⟩⟩ <;> obtain ⟨e1, e2, e3, e4, e5⟩ := e j hj
  · rw [← e1]; exact h.c0 j hj
  · rw [← e2, ← e3, ← e4]; exact h.c1 j hj
  · rw [← e1, ← e2, ← e3, ← e4, ← e5]; exact h.int.int j hj
theorem stored_box {W : World} {g : Nat} {f : Nat → Bool} {A : Nat → Option Addr} {n c : Nat → Nat} {z : Nat → Int} (h : FBox W g f A n c z) (k : Nat) (hk : k < 4) {u v : Value} {w0 : Value} {m : Int} (hi : IntAt W w0 m) : IntAt ((W.setCell ⟨g, k * 2, none⟩ u).setCell ⟨g, k * 2 + 1, none⟩ v) w0 m :=
  (hi.stored (h.c0 k hk) (by simp) _).stored (u0 := .slice (A k) (n k) (c k)) (by rw [World.cell?_setCell_other _ _ _ _ (by simp)]; exact h.c1 k hk) (by simp) _
theorem upd4 {α : Type} (f f' : Nat → α) : ∀ j, j < 4 → upd (upd (upd (upd f 0 (f' 0)) 1 (f' 1)) 2 (f' 2)) 3 (f' 3) j = f' j := by
  refine four_cases ?_ ?_ ?_ ?_ <;> simp [upd]
theorem FBox.put4 {W : World} {g : Nat} {f f' : Nat → Bool} {A A' : Nat → Option Addr} {n c n' c' : Nat → Nat} {z z' : Nat → Int} (h : FBox W g f A n c z) (hi : Fours W f' A' n' c' z') :
    FBox ((((((((W.setCell ⟨g, 0, none⟩ (.bool (f' 0))).setCell ⟨g, 1, none⟩ (.slice (A' 0) (n' 0) (c' 0))).setCell ⟨g, 2, none⟩ (.bool (f' 1))).setCell ⟨g, 3, none⟩ (.slice (A' 1) (n' 1) (c' 1))).setCell ⟨g, 4, none⟩ (.bool (f' 2))).setCell ⟨g, 5, none⟩ (.slice (A' 2) (n' 2) (c' 2))).setCell ⟨g, 6, none⟩ (.bool (f' 3))).setCell ⟨g, 7, none⟩ (.slice (A' 3) (n' 3) (c' 3))) g f' A' n' c' z' := by
  have p0 := h.put 0 (by omega) (hi.int 0 (by omega))
  have i1 := stored_box h 0 (by omega) (u := .bool (f' 0)) (v := .slice (A' 0) (n' 0) (c' 0)) (hi.int 1 (by omega))
  have i2 := stored_box h 0 (by omega) (u := .bool (f' 0)) (v := .slice (A' 0) (n' 0) (c' 0)) (hi.int 2 (by omega))
  have i3 := stored_box h 0 (by omega) (u := .bool (f' 0)) (v := .slice (A' 0) (n' 0) (c' 0)) (hi.int 3 (by omega))
  have p1 := p0.put 1 (by omega) i1
  have j2 := stored_box p0 1 (by omega) (u := .bool (f' 1)) (v := .slice (A' 1) (n' 1) (c' 1)) i2
  have j3 := stored_box p0 1 (by omega) (u := .bool (f' 1)) (v := .slice (A' 1) (n' 1) (c' 1)) i3
  have p2 := p1.put 2 (by omega) j2
  have k3 := stored_box p1 2 (by omega) (u := .bool (f' 2)) (v := .slice (A' 2) (n' 2) (c' 2)) j3
  have p3 := p2.put 3 (by omega) k3
  exact p3.congr (fun j hj => ⟨upd4 _ _ j hj, upd4 _ _ j hj, upd4 _ _ j hj, upd4 _ _ j hj, upd4 _ _ j hj⟩)
theorem Fours.of {W : World} {f0 f1 f2 f3 : Bool} {A0 A1 A2 A3 : Option Addr} {n0 n1 n2 n3 c0 c1 c2 c3 : Nat} {a b c d : Int} (h0 : IntAt W (.agg #[.bool f0, .slice A0 n0 c0]) a) (h1 : IntAt W (.agg #[.bool f1, .slice A1 n1 c1]) b) (h2 : IntAt W (.agg #[.bool f2, .slice A2 n2 c2]) c) (h3 : IntAt W (.agg #[.bool f3, .slice A3 n3 c3]) d) :
    Fours W (pick4 f0 f1 f2 f3) (pick4 A0 A1 A2 A3) (pick4 n0 n1 n2 n3) (pick4 c0 c1 c2 c3) (pick4 a b c d) := ⟨four_cases h0 h1 h2 h3⟩
set_option maxHeartbeats 4000000 in
theorem qof_any (a b c d : Int) (w : World) (ha : I64 a) (hb : I64 b) (hc : I64 c) (hd : I64 d) : Calls Try.prog 60 #[quatV a b c d] w (RetB w fun r w' => FourAt w' r (pick4 a b c d)) := by
  unfold quatV
  have HA := Lib.hid (fun (W : World) => from_any a W ha.1 ha.2)
  have HB := Lib.hid (fun (W : World) => from_any b W hb.1 hb.2)
  have HC := Lib.hid (fun (W : World) => from_any c W hc.1 hc.2)
  have HD := Lib.hid (fun (W : World) => from_any d W hd.1 hd.2)
  clear ha hb hc hd
  go_enter Try.func60, Try.ntmps60
  go_wp2
  have BR := Lib.hid (FBox.nil (W := w.alloc (.cells #[.int .i64 a, .int .i64 b, .int .i64 c, .int .i64 d] 38)) (g := w.heap.size + 1) (by simp) 94)
  have BE := Lib.hid (show Below w.heap.size w ((w.alloc (.cells #[.int .i64 a, .int .i64 b, .int .i64 c, .int .i64 d] 38)).alloc (.cells #[.bool false, .slice none 0 0, .bool false, .slice none 0 0, .bool false, .slice none 0 0, .bool false, .slice none 0 0] 94)) from (below_alloc _ _).alloc (by simp) _)
  (refine start_ (S := (fun w' => (w'.cell? ⟨w.heap.size, 0, none⟩ = some (.int .i64 a) ∧ w'.cell? ⟨w.heap.size, 1, none⟩ = some (.int .i64 b)) ∧ (w'.cell? ⟨w.heap.size, 2, none⟩ = some (.int .i64 c) ∧ w'.cell? ⟨w.heap.size, 3, none⟩ = some (.int .i64 d)))) (ds := [13]) (n := 14) #[false, false, false, false, false, false, false, false, false, false, false, false, false, false] (by kernel_rfl) rfl rfl ?_ (fun hS0 => ?_); (· exact (by (try dsimp only); ((repeat' (with_reducible apply And.intro)) <;> (first | (with_reducible assumption) | (go_split_ands; (repeat (with_reducible refine (World.cell?_setCell_far _ _ _ _ ?_).trans ?_; (· first | (dsimp only; omega) | (simp; done) | (simp; omega)))); (with_reducible assumption)) | (go_split_ands; (first | (with_reducible assumption) | go_simp); done) | (with_reducible refine (kcell (by assumption) ?_).trans ?_; (· exact (by first | (with_reducible assumption) | omega | (simp; done) | (simp; omega))); (· first | (with_reducible assumption) | (go_split_ands; with_reducible assumption))) | (go_split_ands; (repeat (first | (with_reducible assumption) | (with_reducible refine (World.cell?_setCell_far _ _ _ _ ?_).trans ?_; (· first | (dsimp only; omega) | (simp; done) | (simp; omega))) | (with_reducible refine alloc_swap (o := ?_) ?_ ?_ _; rotate_left 1; (· first | (dsimp only; omega) | (simp; done) | (simp; omega)); (· with_reducible assumption); (all_goals skip)) | (with_reducible refine alloc_keep ?_ _) | (with_reducible refine (kcell (by assumption) ?_).trans ?_; (· exact (by first | (with_reducible assumption) | omega | (simp; done) | (simp; omega)))))); done) | fail)))))
  ((refine take_ (i := 0) (N := some 3) (v := ?_) #[true, false, false, false, false, false, false, false, false, false, false, false, false, false] rfl rfl (by kernel_rfl) (fun _ _ _ h => h) (Or.inl ⟨by rfl, ?_⟩) (by with_reducible assumption) rfl ?_; rotate_left 1; (· intro w hSw; (try dsimp only at hSw); go_simp; first | done | with_reducible rfl); (try simp only [Act.put, List.setIfInBounds_toArray, List.set_cons_zero, List.set_cons_succ])); (refine take_ (i := 1) (N := some 4) (v := ?_) #[true, true, false, false, false, false, false, false, false, false, false, false, false, false] rfl rfl (by kernel_rfl) (fun _ _ _ h => h) (Or.inl ⟨by rfl, ?_⟩) (by with_reducible assumption) rfl ?_; rotate_left 1; (· intro w hSw; (try dsimp only at hSw); go_simp; first | done | with_reducible rfl); (try simp only [Act.put, List.setIfInBounds_toArray, List.set_cons_zero, List.set_cons_succ])); (refine take_ (i := 3) (N := some 6) (v := ?_) #[true, true, false, true, false, false, false, false, false, false, false, false, false, false] rfl rfl (by kernel_rfl) (fun _ _ _ h => h) (Or.inl ⟨by rfl, ?_⟩) (by with_reducible assumption) rfl ?_; rotate_left 1; (· intro w hSw; (try dsimp only at hSw); go_simp; first | done | with_reducible rfl); (try simp only [Act.put, List.setIfInBounds_toArray, List.set_cons_zero, List.set_cons_succ])); (refine take_ (i := 4) (N := some 7) (v := ?_) #[true, true, false, true, true, false, false, false, false, false, false, false, false, false] rfl rfl (by kernel_rfl) (fun _ _ _ h => h) (Or.inl ⟨by rfl, ?_⟩) (by with_reducible assumption) rfl ?_; rotate_left 1; (· intro w hSw; (try dsimp only at hSw); go_simp; first | done | with_reducible rfl); (try simp only [Act.put, List.setIfInBounds_toArray, List.set_cons_zero, List.set_cons_succ])); (refine take_ (i := 6) (N := some 9) (v := ?_) #[true, true, false, true, true, false, true, false, false, false, false, false, false, false] rfl rfl (by kernel_rfl) (fun _ _ _ h => h) (Or.inl ⟨by rfl, ?_⟩) (by with_reducible assumption) rfl ?_; rotate_left 1; (· intro w hSw; (try dsimp only at hSw); go_simp; first | done | with_reducible rfl); (try simp only [Act.put, List.setIfInBounds_toArray, List.set_cons_zero, List.set_cons_succ])); (refine take_ (i := 7) (N := some 10) (v := ?_) #[true, true, false, true, true, false, true, true, false, false, false, false, false, false] rfl rfl (by kernel_rfl) (fun _ _ _ h => h) (Or.inl ⟨by rfl, ?_⟩) (by with_reducible assumption) rfl ?_; rotate_left 1; (· intro w hSw; (try dsimp only at hSw); go_simp; first | done | with_reducible rfl); (try simp only [Act.put, List.setIfInBounds_toArray, List.set_cons_zero, List.set_cons_succ])); (refine take_ (i := 9) (N := some 12) (v := ?_) #[true, true, false, true, true, false, true, true, false, true, false, false, false, false] rfl rfl (by kernel_rfl) (fun _ _ _ h => h) (Or.inl ⟨by rfl, ?_⟩) (by with_reducible assumption) rfl ?_; rotate_left 1; (· intro w hSw; (try dsimp only at hSw); go_simp; first | done | with_reducible rfl); (try simp only [Act.put, List.setIfInBounds_toArray, List.set_cons_zero, List.set_cons_succ])); (refine take_ (i := 10) (N := some 13) (v := ?_) #[true, true, false, true, true, false, true, true, false, true, true, false, false, false] rfl rfl (by kernel_rfl) (fun _ _ _ h => h) (Or.inl ⟨by rfl, ?_⟩) (by with_reducible assumption) rfl ?_; rotate_left 1; (· intro w hSw; (try dsimp only at hSw); go_simp; first | done | with_reducible rfl); (try simp only [Act.put, List.setIfInBounds_toArray, List.set_cons_zero, List.set_cons_succ])))
  (refine free_ (fuel := 2) (n := 16) [(2, 5), (5, 8), (8, 11), (11, 14)] (fun i v W => IntAt W v (match i with | 2 => a | 5 => b | 8 => c | _ => d)) #[true, true, true, true, true, true, true, true, true, true, true, true, false, false] rfl (by kernel_rfl) ?hst ?hsst (by with_reducible assumption) ?steps ?fin)
  case hst => exact fun i v W W' h hb => h.below hb
  case hsst => exact fun W W' h hb => ⟨⟨cell_below hb h.1.1, cell_below hb h.1.2⟩, ⟨cell_below hb h.2.1, cell_below hb h.2.2⟩⟩
  case steps =>
    (refine FreeSteps.cons (by rfl) ?_ (FreeSteps.cons (by rfl) ?_ (FreeSteps.cons (by rfl) ?_ (FreeSteps.cons (by rfl) ?_ (FreeSteps.nil)))))
    · (intro us wq hbq hSq hdq K hK; (simp only [frameOf, Act.put, List.setIfInBounds_toArray, List.set_cons_zero, List.set_cons_succ]); go_simp; (go_at_call 50; (with_reducible refine (HA.out _).mono ?_); rintro e w1 ⟨⟨v1, rfl, hv1⟩, hb1⟩; (obtain ⟨hc1, hf1⟩ := bcell hb1); (have hs1 := hb1.size); (try simp at hs1)); go_wp2_with fail; (refine hK.out _ _ ?_ ?_); (· exact hv1); (· with_reducible assumption))
    · (intro us wq hbq hSq hdq K hK; (simp only [frameOf, Act.put, List.setIfInBounds_toArray, List.set_cons_zero, List.set_cons_succ]); go_simp; (go_at_call 50; (with_reducible refine (HB.out _).mono ?_); rintro e w1 ⟨⟨v1, rfl, hv1⟩, hb1⟩; (obtain ⟨hc1, hf1⟩ := bcell hb1); (have hs1 := hb1.size); (try simp at hs1)); go_wp2_with fail; (refine hK.out _ _ ?_ ?_); (· exact hv1); (· with_reducible assumption))
    · (intro us wq hbq hSq hdq K hK; (simp only [frameOf, Act.put, List.setIfInBounds_toArray, List.set_cons_zero, List.set_cons_succ]); go_simp; (go_at_call 50; (with_reducible refine (HC.out _).mono ?_); rintro e w1 ⟨⟨v1, rfl, hv1⟩, hb1⟩; (obtain ⟨hc1, hf1⟩ := bcell hb1); (have hs1 := hb1.size); (try simp at hs1)); go_wp2_with fail; (refine hK.out _ _ ?_ ?_); (· exact hv1); (· with_reducible assumption))
    · (intro us wq hbq hSq hdq K hK; (simp only [frameOf, Act.put, List.setIfInBounds_toArray, List.set_cons_zero, List.set_cons_succ]); go_simp; (go_at_call 50; (with_reducible refine (HD.out _).mono ?_); rintro e w1 ⟨⟨v1, rfl, hv1⟩, hb1⟩; (obtain ⟨hc1, hf1⟩ := bcell hb1); (have hs1 := hb1.size); (try simp at hs1)); go_wp2_with fail; (refine hK.out _ _ ?_ ?_); (· exact hv1); (· with_reducible assumption))
  case fin =>
    intro us wq hbq hSq hdq
    have d1 : IntAt wq (us 2) a := hdq (2, 5) (by simp)
    have d2 : IntAt wq (us 5) b := hdq (5, 8) (by simp)
    have d3 : IntAt wq (us 8) c := hdq (8, 11) (by simp)
    have d4 : IntAt wq (us 11) d := hdq (11, 14) (by simp)
    obtain ⟨A1, n1, c1, e1, HN1⟩ := d1.open_
    obtain ⟨A2, n2, c2, e2, HN2⟩ := d2.open_
    obtain ⟨A3, n3, c3, e3, HN3⟩ := d3.open_
    obtain ⟨A4, n4, c4, e4, HN4⟩ := d4.open_
    simp only [frameOf, Act.put, List.setIfInBounds_toArray, List.set_cons_zero, List.set_cons_succ, e1, e2, e3, e4]
    clear d1 d2 d3 d4 e1 e2 e3 e4 hdq
    have BR1 : FBox wq (w.heap.size + 1) _ _ _ _ _ := BR.out.drew.later hbq
    have be : Below w.heap.size w wq := below_after hbq BE.out.drew (by simp; omega)
    obtain ⟨⟨k0, k1, k2, k3⟩, ⟨k4, k5, k6, k7⟩⟩ := BR1.at4
    have g0 := BR1.f0 0
    have g1 := BR1.f0 1
    have g2 := BR1.f0 2
    have g3 := BR1.f0 3
    have g4 := BR1.f0 4
    have g5 := BR1.f0 5
    have g6 := BR1.f0 6
    have g7 := BR1.f0 7
    ((refine take_ (i := 12) (N := some 15) (v := ?_) #[true, true, true, true, true, true, true, true, true, true, true, true, true, false] rfl rfl (by kernel_rfl) (fun _ _ _ h => h) (Or.inl ⟨by rfl, ?_⟩) (by with_reducible assumption) rfl ?_; rotate_left 1; (· intro w hSw; (try dsimp only at hSw); go_simp; first | done | with_reducible rfl); (try simp only [Act.put, List.setIfInBounds_toArray, List.set_cons_zero, List.set_cons_succ])))
    (refine last_ (i := 13) (N := none) #[true, true, true, true, true, true, true, true, true, true, true, true, true, true] rfl rfl (by kernel_rfl) (by simp) (fun K hK => ?_); go_simp; (refine hK.out _ _ ?_); clear hK; clear K; (try simp only [Act.put, List.setIfInBounds_toArray, List.set_cons_zero, List.set_cons_succ]))
    (refine done_ (by kernel_rfl) ?_)
    go_wp2
    have BF := BR1.put4 (Fours.of (IntAt.mk HN1.out) (IntAt.mk HN2.out) (IntAt.mk HN3.out) (IntAt.mk HN4.out))
    obtain ⟨⟨r0, r1, r2, r3⟩, ⟨r4, r5, r6, r7⟩⟩ := BF.at4
    simp only [pick4] at r0 r1 r2 r3 r4 r5 r6 r7
    refine bodyPost_ret (v := .agg #[.bool (decide (a < 0)), .slice A1 n1 c1, .bool (decide (b < 0)), .slice A2 n2 c2, .bool (decide (c < 0)), .slice A3 n3 c3, .bool (decide (d < 0)), .slice A4 n4 c4]) (by simp [results, Try.results60, go_sem, r0, r1, r2, r3, r4, r5, r6, r7]) rfl ?_
    exact RetB.mk ⟨_, _, _, _, rfl, BF.int⟩ (below8 be (by omega) _ _ _ _ _ _ _ _)
end Go.Proofs.Ytcabnnfhcolcfaa
