/- The walks of quat.Over, quat.rows. -/
import Derived.Test.YtcabnnfhcolcfaaR3
import Derived.Deep.WholeRow
namespace Go.Proofs.Ytcabnnfhcolcfaa
set_option linter.unusedSimpArgs false
set_option linter.unusedVariables false
open Go.RowKit

theorem FourAt.sub {w : World} {f : Nat → Bool} {A : Nat → Option Addr} {n c : Nat → Nat} {z : Nat → Int} (h : Fours w f A n c z) : FourAt w (fourV f A n c) z := ⟨f, A, n, c, rfl, h⟩
set_option maxHeartbeats 1000000 in
set_option maxRecDepth 100000 in
theorem over_any (v : Value) (z g : Nat → Int) (b : Nat) (w : World) (hv : FourAt w v z) (hb : b ≤ 100) (hs : ∀ k, k < 4 → Sl (z k)) (hg : ∀ k, k < 4 → rnd (z k) (2 ^ b) = g k) :
    Calls Try.prog 58 #[v, .int .i64 (b : Int)] w (RetB w fun r w' => FourAt w' r g) := by
  obtain ⟨f, A, n, c, rfl, hF⟩ := hv
  have HF := Lib.hid hF
  have HE := Lib.hid (fun (W : World) (gb : Nat) (h : FourAt W (fourV f A n c) z) (hc : W.cell? ⟨gb, 0, none⟩ = some (.int .i64 (b : Int))) => each_over (fourV f A n c) z g gb W h (fun k u W' hk hbb hi => over1_any u (z k) (g k) b gb W' hi (hs k hk) hb (cell_below hbb hc) (hg k hk)))
  unfold fourV at HE
  unfold fourV
  clear hF hs hg
  go_enter Try.func58, Try.ntmps58
  go_upto_region 1 with fail
  have BR := Lib.hid (FBox.nil (W := (w.alloc (.cells #[.bool (f 0), .slice (A 0) (n 0) (c 0), .bool (f 1), .slice (A 1) (n 1) (c 1), .bool (f 2), .slice (A 2) (n 2) (c 2), .bool (f 3), .slice (A 3) (n 3) (c 3)] 94)).alloc (.cells #[.int .i64 (b : Int)] 3)) (g := w.heap.size + 1 + 1) (by simp) 94)
  have BE := Lib.hid (show Below w.heap.size w (((w.alloc (.cells #[.bool (f 0), .slice (A 0) (n 0) (c 0), .bool (f 1), .slice (A 1) (n 1) (c 1), .bool (f 2), .slice (A 2) (n 2) (c 2), .bool (f 3), .slice (A 3) (n 3) (c 3)] 94)).alloc (.cells #[.int .i64 (b : Int)] 3)).alloc (.cells #[.bool false, .slice none 0 0, .bool false, .slice none 0 0, .bool false, .slice none 0 0, .bool false, .slice none 0 0] 94)) from ((below_alloc _ _).alloc (by simp) _).alloc (by simp; omega) _)
  go_wp2_with (go_at_call 105; (with_reducible refine (HE.out _ _ ?_ ?_).mono ?_); (· exact FourAt.sub (HF.out.below BE.out)); (· (go_simp; done)); rintro e w1 ⟨⟨v1, rfl, hv1⟩, hb1⟩; (obtain ⟨hc1, hf1⟩ := bcell hb1); (have hs1 := hb1.size); (try simp at hs1); ((obtain ⟨f1, A1, n1, c1, rfl, hF1⟩ := hv1); (unfold fourV); (have HF1 := Lib.hid hF1); clear hF1; (have BR1 := BR.out.later hb1); ((obtain ⟨⟨BR1_c0, BR1_c1, BR1_c2, BR1_c3⟩, ⟨BR1_c4, BR1_c5, BR1_c6, BR1_c7⟩⟩ := (BR1).at4); (have BR1_g0 := (BR1).f0 0); (have BR1_g1 := (BR1).f0 1); (have BR1_g2 := (BR1).f0 2); (have BR1_g3 := (BR1).f0 3); (have BR1_g4 := (BR1).f0 4); (have BR1_g5 := (BR1).f0 5); (have BR1_g6 := (BR1).f0 6); (have BR1_g7 := (BR1).f0 7))))
  have BF := BR1.put4 HF1.out
  obtain ⟨⟨r0, r1, r2, r3⟩, ⟨r4, r5, r6, r7⟩⟩ := BF.at4
  refine bodyPost_ret (v := .agg #[.bool (f1 0), .slice (A1 0) (n1 0) (c1 0), .bool (f1 1), .slice (A1 1) (n1 1) (c1 1), .bool (f1 2), .slice (A1 2) (n1 2) (c1 2), .bool (f1 3), .slice (A1 3) (n1 3) (c1 3)]) (by simp [results, Try.results58, go_sem, r0, r1, r2, r3, r4, r5, r6, r7]) rfl ?_
  exact RetB.mk ⟨_, _, _, _, rfl, BF.int⟩ (below8 (below_after hb1 BE.out BE.out.size) (by omega) _ _ _ _ _ _ _ _)
def R (i k j : Nat) : Int := ([[[0, 1], [1, -1], [2, -1], [3, -1]], [[1, 1], [0, 1], [3, 1], [2, -1]], [[2, 1], [3, -1], [0, 1], [1, 1]], [[3, 1], [2, 1], [1, -1], [0, 1]]].getD i []).getD k [] |>.getD j 0
def rowsV : Value := .agg #[.int .i64 (R 0 0 0), .int .i64 (R 0 0 1), .int .i64 (R 0 1 0), .int .i64 (R 0 1 1), .int .i64 (R 0 2 0), .int .i64 (R 0 2 1), .int .i64 (R 0 3 0), .int .i64 (R 0 3 1),
  .int .i64 (R 1 0 0), .int .i64 (R 1 0 1), .int .i64 (R 1 1 0), .int .i64 (R 1 1 1), .int .i64 (R 1 2 0), .int .i64 (R 1 2 1), .int .i64 (R 1 3 0), .int .i64 (R 1 3 1),
  .int .i64 (R 2 0 0), .int .i64 (R 2 0 1), .int .i64 (R 2 1 0), .int .i64 (R 2 1 1), .int .i64 (R 2 2 0), .int .i64 (R 2 2 1), .int .i64 (R 2 3 0), .int .i64 (R 2 3 1),
  .int .i64 (R 3 0 0), .int .i64 (R 3 0 1), .int .i64 (R 3 1 0), .int .i64 (R 3 1 1), .int .i64 (R 3 2 0), .int .i64 (R 3 2 1), .int .i64 (R 3 3 0), .int .i64 (R 3 3 1)]
theorem rowsV_eq : rowsV = .agg #[.int .i64 0, .int .i64 1, .int .i64 1, .int .i64 (-1), .int .i64 2, .int .i64 (-1), .int .i64 3, .int .i64 (-1), .int .i64 1, .int .i64 1, .int .i64 0, .int .i64 1, .int .i64 3, .int .i64 1, .int .i64 2, .int .i64 (-1),
  .int .i64 2, .int .i64 1, .int .i64 3, .int .i64 (-1), .int .i64 0, .int .i64 1, .int .i64 1, .int .i64 1, .int .i64 3, .int .i64 1, .int .i64 2, .int .i64 1, .int .i64 1, .int .i64 (-1), .int .i64 0, .int .i64 1] := rfl
theorem wpList_store_new {P : Program} {ops : Array Oper} {rest : List Oper} {op : Oper} {a : Act} {w : World} {Q : Exit → Act → World → Prop} (hgd : op.guard = none) (ty : TypeId) (x y : Operand) (ho : op.op = .store ty x y) (c c' : Array Value)
    (hx : a.eval x = .pointer (some ⟨w.heap.size, 0, none⟩)) (hy : a.eval y = .agg c') (hi : (P.info? ty).map (·.size) = some c'.size) (hs : c.size = c'.size) (h1 : c'.all (·.oneCell') = true)
    (h : wpList P ops Q rest (a.put op.dst undef) (w.alloc (.cells c' ty))) : wpList P ops Q (op :: rest) a (w.alloc (.cells c ty)) :=
  wpList_plain hgd fun K hK => by
    unfold Oper.wp execOp
    simp only [ho, hx, hy, Sem.run_bind, run_storeAt_new w ty c c' hi hs h1, Result.andThen_ok, Sem.run_pure]
    exact hK _ _ h
set_option maxRecDepth 100000 in
theorem rows_any (w : World) : Calls Try.prog 107 #[] w (RetB w fun r w' => r = rowsV) := by
  go_enter Try.func107, Try.ntmps107
  go_wp2_with (with_reducible refine wpList_store_new rfl 139 (.tmp 0) (.tmp 21) rfl _ #[.int .i64 0, .int .i64 1, .int .i64 1, .int .i64 (-1), .int .i64 2, .int .i64 (-1), .int .i64 3, .int .i64 (-1), .int .i64 1, .int .i64 1, .int .i64 0, .int .i64 1, .int .i64 3, .int .i64 1, .int .i64 2, .int .i64 (-1),
  .int .i64 2, .int .i64 1, .int .i64 3, .int .i64 (-1), .int .i64 0, .int .i64 1, .int .i64 1, .int .i64 1, .int .i64 3, .int .i64 1, .int .i64 2, .int .i64 1, .int .i64 1, .int .i64 (-1), .int .i64 0, .int .i64 1] ?c1 ?c2 ?c3 ?c4 ?c5 ?_)
  case c1 => rfl
  case c2 => rfl
  case c3 => kernel_rfl
  case c4 => rfl
  case c5 => simp [Value.oneCell']
  go_wp2
  refine bodyPost_ret (v := rowsV) ?_ rfl ?_
  · rw [rowsV_eq]
    exact results_cell_row (by rfl) _ _ w.heap.size _ _ _ _ (by rfl) (heap_alloc_last _ _) Try.underlying139 rfl (by kernel_rfl)
  exact RetB.mk rfl (by repeat (first | (with_reducible assumption) | exact Below.refl _ _ | (with_reducible refine Below.setCell ?_ (by first | (simp; done) | (simp; omega) | omega) _) | (with_reducible refine Below.alloc ?_ (by first | (simp; done) | (simp; omega) | omega) _) | (with_reducible refine below_drewN' ?_ _) | (with_reducible refine Below.drew ?_) | (refine below_after (by with_reducible assumption) ?_ (by first | (simp; done) | (simp; omega) | omega))))
def rowV (i : Nat) : Value := .agg #[.int .i64 (R i 0 0), .int .i64 (R i 0 1), .int .i64 (R i 1 0), .int .i64 (R i 1 1), .int .i64 (R i 2 0), .int .i64 (R i 2 1), .int .i64 (R i 3 0), .int .i64 (R i 3 1)]
theorem index_rows : ∀ (i : Nat), i < 4 → ∀ w : World, (Instr.index 139 rowsV (.int .i64 (i : Int))).run Try.prog w = .ok (rowV i) w :=
  four_cases (fun _ => by kernel_rfl) (fun _ => by kernel_rfl) (fun _ => by kernel_rfl) (fun _ => by kernel_rfl)
def pairV (i k : Nat) : Value := .agg #[.int .i64 (R i k 0), .int .i64 (R i k 1)]
theorem index_row (i : Nat) : ∀ (k : Nat), k < 4 → ∀ w : World, (Instr.index 138 (rowV i) (.int .i64 (k : Int))).run Try.prog w = .ok (pairV i k) w :=
  four_cases (fun _ => by kernel_rfl) (fun _ => by kernel_rfl) (fun _ => by kernel_rfl) (fun _ => by kernel_rfl)
theorem R_bd : ∀ i, i < 4 → ∀ k, k < 4 → (0 ≤ R i k 0 ∧ R i k 0 < 4) ∧ (R i k 1 = 1 ∨ R i k 1 = -1) :=
  four_cases (four_cases (by decide) (by decide) (by decide) (by decide)) (four_cases (by decide) (by decide) (by decide) (by decide)) (four_cases (by decide) (by decide) (by decide) (by decide)) (four_cases (by decide) (by decide) (by decide) (by decide))
end Go.Proofs.Ytcabnnfhcolcfaa
