/- The walk of vec.Told. -/
import Derived.Test.YtcabnnfhcolcfaaRA
namespace Go.Proofs.Ytcabnnfhcolcfaa
set_option linter.unusedSimpArgs false
set_option linter.unusedVariables false
open Go.RowKit

structure V3 where
  x : Int
  y : Int
  z : Int
def vecQ (v : V3) : Value := vecV v.x v.y v.z
def goodV (v : V3) : Bool := allB [v.x, v.y, v.z]
def toldV (v : V3) : V3 := if goodV v then v else ⟨0, 0, 0⟩
def errV (v : V3) : Int := if goodV v then 0 else 2
def VecT (v : V3) (e : Int) (r : Value) (_ : World) : Prop := r = .tuple #[vecQ v, .int .i64 e]
/-- Block g holds m words. -/
structure MBox (W : World) (g m : Nat) (q : Nat → Int) : Prop where
  lt : g < W.heap.size
  c : ∀ j, j < m → W.cell? ⟨g, j, none⟩ = some (.int .i64 (q j))
  f0 : ∀ j, W.frozen? ⟨g, j, none⟩ = false
theorem MBox.made3 {W : World} {g : Nat} (hg : W.heap.size = g) (q : Nat → Int) (T : TypeId) : MBox (W.alloc (.cells #[.int .i64 (q 0), .int .i64 (q 1), .int .i64 (q 2)] T)) g 3 q := by
  subst hg
  refine ⟨by simp, fun j hj => ?_, fun j => by go_simp⟩
  match j, hj with
  | 0, _ => go_simp
  | 1, _ => go_simp
  | 2, _ => go_simp
theorem MBox.later {W W' : World} {g m : Nat} {q : Nat → Int} (h : MBox W g m q) (hb : Below W.heap.size W W') : MBox W' g m q := by
  have hs := hb.size
  have hl := h.lt
  exact ⟨by omega, fun j hj => ((bcell hb).1 _ _ hl).trans (h.c j hj), fun j => ((bcell hb).2 _ _ hl).trans (h.f0 j)⟩
theorem MBox.alloc {W : World} {g m : Nat} {q : Nat → Int} (h : MBox W g m q) (o : Obj) : MBox (W.alloc o) g m q := h.later (below_alloc W o)
theorem MBox.drew {W : World} {g m : Nat} {q : Nat → Int} (h : MBox W g m q) : MBox W.drew g m q := ⟨h.lt, h.c, h.f0⟩
theorem MBox.put {W : World} {g m : Nat} {q : Nat → Int} (h : MBox W g m q) (k : Nat) (hk : k < m) (x : Int) : MBox (W.setCell ⟨g, k, none⟩ (.int .i64 x)) g m (upd q k x) := by
  refine ⟨by simpa using h.lt, fun j hj => ?_, fun j => ?_⟩
  · by_cases e : j = k
    · subst e; rw [upd_same]; exact World.cell?_setCell_same _ _ _ (h.c j hj)
    · rw [upd_ne _ e, World.cell?_setCell_other _ _ _ _ (by intro e; simp at e <;> omega)]; exact h.c j hj
  · have := h.f0 j; simpa [go_sem] using this
theorem MBox.far {W : World} {g g2 m : Nat} {q : Nat → Int} (h : MBox W g m q) (hne : g2 ≠ g) (o : Nat) (u : Value) : MBox (W.setCell ⟨g2, o, none⟩ u) g m q :=
  ⟨by simpa using h.lt, fun j hj => cell_far (h.c j hj) hne, fun j => by have := h.f0 j; simpa [go_sem] using this⟩
theorem MBox.congr {W : World} {g m : Nat} {q q' : Nat → Int} (h : MBox W g m q) (e : ∀ j, j < m → q j = q' j) : MBox W g m q' := ⟨h.lt, fun j hj => e j hj ▸ h.c j hj, h.f0⟩
theorem three_cases {P : Nat → Prop} (h0 : P 0) (h1 : P 1) (h2 : P 2) : ∀ j, j < 3 → P j := by
  intro j hj
  match j, hj with
  | 0, _ => exact h0
  | 1, _ => exact h1
  | 2, _ => exact h2
theorem MBox.put3 {W : World} {g : Nat} {q : Nat → Int} (h : MBox W g 3 q) (a b c d : Int) : MBox (((W.setCell ⟨g, 0, none⟩ (.int .i64 a)).setCell ⟨g, 1, none⟩ (.int .i64 b)).setCell ⟨g, 2, none⟩ (.int .i64 c)) g 3 (pick4 a b c d) :=
  (((h.put 0 (by omega) a).put 1 (by omega) b).put 2 (by omega) c).congr (three_cases (by simp [upd, pick4]) (by simp [upd, pick4]) (by simp [upd, pick4]))
theorem MBox.at3 {W : World} {g : Nat} {a b c d : Int} (h : MBox W g 3 (pick4 a b c d)) : W.cell? ⟨g, 0, none⟩ = some (.int .i64 a) ∧ W.cell? ⟨g, 1, none⟩ = some (.int .i64 b) ∧ W.cell? ⟨g, 2, none⟩ = some (.int .i64 c) :=
  ⟨h.c 0 (by omega), h.c 1 (by omega), h.c 2 (by omega)⟩
theorem below3 {W w : World} {B g : Nat} (hb : Below B w W) (hg : B ≤ g) (u0 u1 u2 : Value) : Below B w (((W.setCell ⟨g, 0, none⟩ u0).setCell ⟨g, 1, none⟩ u1).setCell ⟨g, 2, none⟩ u2) :=
  ((hb.setCell hg _).setCell hg _).setCell hg _
theorem lim3_0 (a b c : Int) : lim [a, b, c] 0 = a := rfl
set_option maxHeartbeats 2000000 in
set_option maxRecDepth 100000 in
theorem vtold_any (v : Value) (q : V3) (w : World) (hv : RowR w v [q.x, q.y, q.z]) (hs : Sm q.x ∧ Sm q.y ∧ Sm q.z) :
    Calls Try.prog 69 #[v] w (RetB w (VecT (toldV q) (errV q))) := by
  obtain ⟨zs, hzs⟩ : ∃ zs, [q.x, q.y, q.z] = zs := ⟨_, rfl⟩
  have hzl : zs.length = 3 := by rw [← hzs]; rfl
  have HSM := Lib.hid (fun (k : Nat) (hk : k < 3) => show Sm (lim zs k) from hzs ▸ lim3 q.x q.y q.z Sm hs k hk)
  have HST := Lib.hid (fun (k : Nat) (hk : k < 3) (hg : goodB (lim zs k) = false) => show toldV q = ⟨0, 0, 0⟩ ∧ errV q = 2 from (by
    have h : goodV q = false := by unfold goodV; rw [hzs]; exact allB_stop zs k (by omega) hg
    unfold toldV errV; rw [h]; exact ⟨rfl, rfl⟩))
  have HEN := Lib.hid (fun (h : ∀ j, j < 3 → goodB (lim zs j) = true) => show toldV q = q ∧ errV q = 0 from (by
    have h : goodV q = true := by unfold goodV; rw [hzs]; exact allB_end zs (by rw [hzl]; exact h)
    unfold toldV errV; rw [h]; exact ⟨rfl, rfl⟩))
  have HL := Lib.hid (show lim zs 0 = q.x ∧ lim zs 1 = q.y ∧ lim zs 2 = q.z by rw [← hzs]; exact ⟨rfl, rfl, rfl⟩)
  obtain ⟨A, n, c, rfl, hl, hnc, hcc, hcell⟩ := hv
  rw [hzs] at hl hcell
  obtain rfl : n = 3 := by omega
  obtain ⟨g, o, rfl, hcel⟩ := hcell (by omega)
  have HC := Lib.hid hcel
  have gl : g < w.heap.size := by
    obtain ⟨B, m, d, h1, _⟩ := hcel 0 (by omega)
    exact World.block_lt_of_cell? w _ h1
  clear hcell hcel hs hzs hzl hl
  go_enter Try.func69, Try.ntmps69
  go_wp2
  have BR := Lib.hid ((MBox.made3 (W := w) rfl (fun _ => 0) 40).alloc (.cells #[.int .i64 0, .int .i64 0, .int .i64 0] 145))
  have BW := Lib.hid (MBox.made3 (W := w.alloc (.cells #[.int .i64 0, .int .i64 0, .int .i64 0] 40)) (g := w.heap.size + 1) (by simp) (fun _ => 0) 145)
  have BE := Lib.hid (show Below w.heap.size w ((w.alloc (.cells #[.int .i64 0, .int .i64 0, .int .i64 0] 40)).alloc (.cells #[.int .i64 0, .int .i64 0, .int .i64 0] 145)) from (below_alloc _ _).alloc (by simp) _)
  obtain ⟨WB, hWB⟩ : ∃ W, ((w.alloc (.cells #[.int .i64 0, .int .i64 0, .int .i64 0] 40)).alloc (.cells #[.int .i64 0, .int .i64 0, .int .i64 0] 145)) = W := ⟨_, rfl⟩
  rw [hWB] at BR BW BE ⊢
  clear hWB
  go_loopw [11] (fun i wr => ∃ k : Nat, k ≤ 3 ∧ i = .int .i64 k ∧ Hid (MBox wr w.heap.size 3 (fun _ => 0)) ∧ Hid (MBox wr (w.heap.size + 1) 3 (sofar (lim zs) (fun _ => 0) k)) ∧ Hid (Below w.heap.size w wr) ∧ Hid (∀ j, j < k → goodB (lim zs j) = true)) (fun i _ => 3 - (intOf i).toNat)
  case atStart => exact ⟨0, by omega, rfl, BR, Lib.hid (by rw [sofar_zero]; exact BW.out), BE, Lib.hid (fun j h => by omega)⟩
  case round =>
    clear BR BW BE
    obtain ⟨k, hk, rfl, BR, BW, BE, HG⟩ := hrel
    by_cases hlt : k < 3
    · obtain ⟨B, m, d, h1, h2, h3⟩ := HC.out k hlt
      obtain ⟨x, hx⟩ : ∃ x, lim zs k = x := ⟨_, rfl⟩
      rw [hx] at h1 h3
      have K1 := cell_below BE.out h1
      have K2 := cell_below BE.out h2
      have K3 := Lib.hid (h3.below BE.out)
      have sx := hx ▸ HSM.out k hlt
      have HX := Lib.hid hx
      have kd : (0 : Int) ≤ (k : Int) := by omega
      have kd2 : (k : Int) < 3 := by omega
      have lr := BR.out.lt
      have lw := BW.out.lt
      clear h1 h2 h3 hx
      by_cases hg : goodB x = true
      · have HT := Lib.hid (fun (v : Value) (W : World) (h : IntAt W v x) => (told_fx v x W h sx).mono (R' := RetB W fun r _ => r = .tuple #[.int .i64 x, .int .i64 0]) (by
          rintro e w' ⟨⟨v, rfl, hv⟩, hb⟩; exact ⟨⟨v, rfl, by unfold WordP at hv; rwa [if_pos hg] at hv⟩, hb⟩))
        have HGG := Lib.hid hg
        clear hg sx
        go_wp2_with (go_at_call 61; (with_reducible refine (HT.out _ _ ?_).mono ?_); (· exact (IntAt.mk K3.out).alloc _); rintro e w5 ⟨⟨v5, rfl, rfl⟩, hb5⟩; (obtain ⟨hc5, hf5⟩ := bcell hb5); (have hs5 := hb5.size); (try simp at hs5); ((have BW5 := (BW.out.alloc (.cells #[.bool (decide (x < 0)), .slice B m d] 81)).later hb5); (have m0 := BW5.c k hlt); (have m1 := BW5.f0 k); clear hc5 hf5))
        have BE5 : Below w.heap.size w w5 := below_after hb5 (BE.out.alloc BE.out.size _) (by have := BE.out.size; simp; omega)
        go_roundw
        case rel =>
          refine ⟨k + 1, by omega, by go_num, Lib.hid (((BR.out.alloc _).later hb5).far (by omega) _ _), Lib.hid ?_, Lib.hid (BE5.setCell (by simp) _), Lib.hid ?_⟩
          · have := BW5.put k hlt x
            have e : upd (sofar (lim zs) (fun _ => 0) k) k x = sofar (lim zs) (fun _ => 0) (k + 1) := by rw [← HX.out]; exact sofar_step _ _
            rwa [e] at this
          · intro j hj
            rcases Nat.lt_or_ge j k with h | h
            · exact HG.out j h
            · obtain rfl : j = k := by omega
              rw [HX.out]; exact HGG.out
        case measure => simp [intOf]; omega
      · have hg : goodB x = false := by simpa using hg
        have HT := Lib.hid (fun (v : Value) (W : World) (h : IntAt W v x) => (told_fx v x W h sx).mono (R' := RetB W fun r _ => r = .tuple #[.int .i64 0, .int .i64 2]) (by
          rintro e w' ⟨⟨v, rfl, hv⟩, hb⟩; exact ⟨⟨v, rfl, by unfold WordP at hv; rwa [if_neg (by rw [hg]; decide)] at hv⟩, hb⟩))
        have HS := Lib.hid (HST.out k hlt (by rw [HX.out]; exact hg))
        clear hg sx
        go_wp2_with (go_at_call 61; (with_reducible refine (HT.out _ _ ?_).mono ?_); (· exact (IntAt.mk K3.out).alloc _); rintro e w5 ⟨⟨v5, rfl, rfl⟩, hb5⟩; (obtain ⟨hc5, hf5⟩ := bcell hb5); (have hs5 := hb5.size); (try simp at hs5); ((have BR5 := (BR.out.alloc (.cells #[.bool (decide (x < 0)), .slice B m d] 81)).later hb5); (have m0 := BR5.c 0 (by omega)); (have m1 := BR5.c 1 (by omega)); (have m2 := BR5.c 2 (by omega)); (have m3 := BR5.f0 0); (have m4 := BR5.f0 1); (have m5 := BR5.f0 2); clear hc5 hf5))
        have BE5 : Below w.heap.size w w5 := below_after hb5 (BE.out.alloc BE.out.size _) (by have := BE.out.size; simp; omega)
        obtain ⟨r0, r1, r2⟩ := (BR5.put3 0 0 0 0).at3
        refine bodyPost_ret (v := .tuple #[.agg #[.int .i64 0, .int .i64 0, .int .i64 0], .int .i64 2]) (by simp [results, Try.results69, go_sem, r0, r1, r2]) rfl ?_
        exact RetB.mk (by rw [HS.out.1, HS.out.2]; rfl) (below3 BE5 (by omega) _ _ _)
    · obtain rfl : k = 3 := by omega
      have HE := Lib.hid (HEN.out HG.out)
      obtain ⟨l0, l1, l2⟩ := HL.out
      have b0 := BW.out.c 0 (by omega)
      have b1 := BW.out.c 1 (by omega)
      have b2 := BW.out.c 2 (by omega)
      simp only [sofar, show (0 : Nat) < 3 by omega, show (1 : Nat) < 3 by omega, show (2 : Nat) < 3 by omega, if_true, l0, l1, l2] at b0 b1 b2
      have m0 := BR.out.c 0 (by omega)
      have m1 := BR.out.c 1 (by omega)
      have m2 := BR.out.c 2 (by omega)
      have m3 := BR.out.f0 0
      have m4 := BR.out.f0 1
      have m5 := BR.out.f0 2
      clear l0 l1 l2
      go_wp2
      obtain ⟨r0, r1, r2⟩ := (BR.out.put3 q.x q.y q.z 0).at3
      refine bodyPost_ret (v := .tuple #[.agg #[.int .i64 q.x, .int .i64 q.y, .int .i64 q.z], .int .i64 0]) (by simp [results, Try.results69, go_sem, r0, r1, r2]) rfl ?_
      exact RetB.mk (by rw [HE.out.1, HE.out.2]; rfl) (below3 BE.out (by omega) _ _ _)
end Go.Proofs.Ytcabnnfhcolcfaa
