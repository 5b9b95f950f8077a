/- The walk of quat.Told. -/
import Derived.Test.YtcabnnfhcolcfaaR6
namespace Go.Proofs.Ytcabnnfhcolcfaa
set_option linter.unusedSimpArgs false
set_option linter.unusedVariables false
open Go.RowKit

def all4 (z : Nat → Int) : Bool := goodB (z 0) && goodB (z 1) && goodB (z 2) && goodB (z 3)
theorem all4_iff (z : Nat → Int) : all4 z = true ↔ goodB (z 0) = true ∧ goodB (z 1) = true ∧ goodB (z 2) = true ∧ goodB (z 3) = true := by
  unfold all4; simp only [Bool.and_eq_true]; constructor
  · rintro ⟨⟨⟨a, b⟩, c⟩, d⟩; exact ⟨a, b, c, d⟩
  · rintro ⟨a, b, c, d⟩; exact ⟨⟨⟨a, b⟩, c⟩, d⟩
theorem badN4 (z : Nat → Int) : badN z 4 = if all4 z then 0 else 2 := by
  unfold all4
  simp only [badN, badI]
  cases goodB (z 0) <;> cases goodB (z 1) <;> cases goodB (z 2) <;> cases goodB (z 3) <;> rfl
def QuatP (z : Nat → Int) (v : Value) (_ : World) : Prop := v = if all4 z then .tuple #[quatV (z 0) (z 1) (z 2) (z 3), .int .i64 0] else .tuple #[quatV 0 0 0 0, .int .i64 2]
set_option maxHeartbeats 2000000 in
set_option maxRecDepth 100000 in
theorem qtold_any (v : Value) (z : Nat → Int) (w : World) (hv : FourAt w v z) (hs : ∀ k, k < 4 → Sm (z k)) :
    Calls Try.prog 56 #[v] w (RetB w (QuatP z)) := by
  obtain ⟨f, A, n, c, rfl, hF⟩ := hv
  have HF := Lib.hid hF
  have HE := Lib.hid (fun (W : World) (gb : Nat) (h : FourAt W (fourV f A n c) z) (h1 : W.heap[gb]? = some (.cells #[.int .i64 0] 30 (0, 0))) => each_told (fourV f A n c) z gb W h hs h1)
  unfold fourV EachT quatV at HE
  unfold fourV
  clear hF hs
  go_enter Try.func56, Try.ntmps56
  go_upto_region 2 with fail
  obtain ⟨W2, hW2⟩ : ∃ W, (((w.alloc (.cells #[.bool (f 0), .slice (A 0) (n 0) (c 0), .bool (f 1), .slice (A 1) (n 1) (c 1), .bool (f 2), .slice (A 2) (n 2) (c 2), .bool (f 3), .slice (A 3) (n 3) (c 3)] 94)).alloc (.cells #[.int .i64 0, .int .i64 0, .int .i64 0, .int .i64 0] 38)).alloc (.cells #[.int .i64 0] 30)) = W := ⟨_, rfl⟩
  have BE0 : Below w.heap.size w (((w.alloc (.cells #[.bool (f 0), .slice (A 0) (n 0) (c 0), .bool (f 1), .slice (A 1) (n 1) (c 1), .bool (f 2), .slice (A 2) (n 2) (c 2), .bool (f 3), .slice (A 3) (n 3) (c 3)] 94)).alloc (.cells #[.int .i64 0, .int .i64 0, .int .i64 0, .int .i64 0] 38)).alloc (.cells #[.int .i64 0] 30)) := ((below_alloc _ _).alloc (by simp) _).alloc (by simp; omega) _
  have FB0 := ((FBox.made (W := w) rfl HF.out 94).alloc (.cells #[.int .i64 0, .int .i64 0, .int .i64 0, .int .i64 0] 38)).alloc (.cells #[.int .i64 0] 30)
  have JR0 := (JBox.made (W := w.alloc (.cells #[.bool (f 0), .slice (A 0) (n 0) (c 0), .bool (f 1), .slice (A 1) (n 1) (c 1), .bool (f 2), .slice (A 2) (n 2) (c 2), .bool (f 3), .slice (A 3) (n 3) (c 3)] 94)) (g := w.heap.size + 1) (by simp) (fun _ => 0) 38).alloc (.cells #[.int .i64 0] 30)
  have ON0 : (((w.alloc (.cells #[.bool (f 0), .slice (A 0) (n 0) (c 0), .bool (f 1), .slice (A 1) (n 1) (c 1), .bool (f 2), .slice (A 2) (n 2) (c 2), .bool (f 3), .slice (A 3) (n 3) (c 3)] 94)).alloc (.cells #[.int .i64 0, .int .i64 0, .int .i64 0, .int .i64 0] 38)).alloc (.cells #[.int .i64 0] 30)).heap[w.heap.size + 1 + 1]? = some (.cells #[.int .i64 0] 30 (0, 0)) := by
    have := heap_alloc_new ((w.alloc (.cells #[.bool (f 0), .slice (A 0) (n 0) (c 0), .bool (f 1), .slice (A 1) (n 1) (c 1), .bool (f 2), .slice (A 2) (n 2) (c 2), .bool (f 3), .slice (A 3) (n 3) (c 3)] 94)).alloc (.cells #[.int .i64 0, .int .i64 0, .int .i64 0, .int .i64 0] 38)) (.cells #[.int .i64 0] 30)
    simpa using this
  rw [hW2] at BE0 FB0 JR0 ON0 ⊢
  clear hW2
  have BE := Lib.hid BE0
  have FB := Lib.hid FB0
  have JR := Lib.hid JR0
  have ON := Lib.hid ON0
  clear BE0 JR0 ON0
  obtain ⟨⟨e0, e1, e2, e3⟩, ⟨e4, e5, e6, e7⟩⟩ := FB0.at4
  clear FB0
  go_upto_region 3 with (go_at_call 103; (with_reducible refine (HE.out _ _ ?_ ?_).mono ?_); (· exact FourAt.sub FB.out.int); (· exact ON.out); rintro e w5 ⟨v5, rfl, rfl, hn5⟩)
  have bo := BE.out.size
  have BEw : Below w.heap.size w w5 := OnlyG.below BE.out BE.out.size hn5.only (by omega)
  have JR5 := JR.out.only hn5.only (show w.heap.size + 1 + 1 ≠ w.heap.size + 1 by omega)
  have one5 := hn5.one
  have l5 : w.heap.size + 1 + 1 < w5.heap.size := (Array.getElem?_eq_some_iff.1 one5).1
  have l6 : w.heap.size + 1 < w5.heap.size := by omega
  have hn := badN4 z
  by_cases hall : all4 z = true
  · have h4 := (all4_iff z).1 hall
    rw [if_pos hall] at hn
    rw [hn] at one5
    have t0 : tellI (z 0) = z 0 := by unfold tellI; rw [if_pos h4.1]
    have t1 : tellI (z 1) = z 1 := by unfold tellI; rw [if_pos h4.2.1]
    have t2 : tellI (z 2) = z 2 := by unfold tellI; rw [if_pos h4.2.2.1]
    have t3 : tellI (z 3) = z 3 := by unfold tellI; rw [if_pos h4.2.2.2]
    have HP := Lib.hid (fun (W : World) => show QuatP z (.tuple #[quatV (z 0) (z 1) (z 2) (z 3), .int .i64 0]) W by unfold QuatP; rw [if_pos hall])
    rw [t0, t1, t2, t3]
    have b0 := one_cell one5
    have JRH := Lib.hid JR5
    have j0 := JR5.c 0 (by omega)
    have j1 := JR5.c 1 (by omega)
    have j2 := JR5.c 2 (by omega)
    have j3 := JR5.c 3 (by omega)
    have k0 := JR5.f0 0
    have k1 := JR5.f0 1
    have k2 := JR5.f0 2
    have k3 := JR5.f0 3
    have BEH := Lib.hid BEw
    clear hn one5 JR5 hn5 t0 t1 t2 t3 h4 hall BEw e0 e1 e2 e3 e4 e5 e6 e7
    obtain ⟨z0, hz0⟩ : ∃ z0, z 0 = z0 := ⟨_, rfl⟩
    obtain ⟨z1, hz1⟩ : ∃ z1, z 1 = z1 := ⟨_, rfl⟩
    obtain ⟨z2, hz2⟩ : ∃ z2, z 2 = z2 := ⟨_, rfl⟩
    obtain ⟨z3, hz3⟩ : ∃ z3, z 3 = z3 := ⟨_, rfl⟩
    rw [hz0, hz1, hz2, hz3] at HP ⊢
    clear hz0 hz1 hz2 hz3
    go_wp2
    have JF := ((((JRH.out.put 0 (by omega) z0).put 1 (by omega) z1).put 2 (by omega) z2).put 3 (by omega) z3).alloc (.cells #[.int .i64 z0, .int .i64 z1, .int .i64 z2, .int .i64 z3] 133)
    have r0 := JF.c 0 (by omega)
    have r1 := JF.c 1 (by omega)
    have r2 := JF.c 2 (by omega)
    have r3 := JF.c 3 (by omega)
    simp [upd] at r0 r1 r2 r3
    refine bodyPost_ret (v := .tuple #[quatV z0 z1 z2 z3, .int .i64 0]) (by simp [results, Try.results56, go_sem, quatV, r0, r1, r2, r3]) rfl ?_
    refine RetB.mk (HP.out _) ?_
    exact ((((BEH.out.setCell (by simp) _).setCell (by simp) _).setCell (by simp) _).setCell (by simp) _).alloc (by simpa using BEH.out.size) _
  · rw [if_neg hall] at hn
    rw [hn] at one5
    have HP := Lib.hid (fun (W : World) => show QuatP z (.tuple #[quatV 0 0 0 0, .int .i64 2]) W by unfold QuatP; rw [if_neg hall])
    have b0 := one_cell one5
    have JRH := Lib.hid JR5
    have j0 := JR5.c 0 (by omega)
    have j1 := JR5.c 1 (by omega)
    have j2 := JR5.c 2 (by omega)
    have j3 := JR5.c 3 (by omega)
    have k0 := JR5.f0 0
    have k1 := JR5.f0 1
    have k2 := JR5.f0 2
    have k3 := JR5.f0 3
    have BEH := Lib.hid BEw
    clear hn one5 JR5 hn5 hall BEw e0 e1 e2 e3 e4 e5 e6 e7
    obtain ⟨z0, hz0⟩ : ∃ z0, tellI (z 0) = z0 := ⟨_, rfl⟩
    obtain ⟨z1, hz1⟩ : ∃ z1, tellI (z 1) = z1 := ⟨_, rfl⟩
    obtain ⟨z2, hz2⟩ : ∃ z2, tellI (z 2) = z2 := ⟨_, rfl⟩
    obtain ⟨z3, hz3⟩ : ∃ z3, tellI (z 3) = z3 := ⟨_, rfl⟩
    rw [hz0, hz1, hz2, hz3]
    clear hz0 hz1 hz2 hz3
    go_wp2
    go_region_held3 (fun w' => w'.cell? ⟨w.heap.size + 1 + 1, 0, none⟩ = some (.int .i64 2)) (((repeat' (with_reducible apply And.intro)) <;> (first | (with_reducible assumption) | (go_split_ands; (repeat (with_reducible refine (World.cell?_setCell_far _ _ _ _ ?_).trans ?_; (· first | (dsimp only; omega) | (simp; done) | (simp; omega)))); (with_reducible assumption)) | (go_split_ands; (first | (with_reducible assumption) | go_simp); done) | (with_reducible refine (kcell (by assumption) ?_).trans ?_; (· exact (by first | (with_reducible assumption) | omega | (simp; done) | (simp; omega))); (· first | (with_reducible assumption) | (go_split_ands; with_reducible assumption))) | (go_split_ands; (repeat (first | (with_reducible assumption) | (with_reducible refine (World.cell?_setCell_far _ _ _ _ ?_).trans ?_; (· first | (dsimp only; omega) | (simp; done) | (simp; omega))) | (with_reducible refine alloc_swap (o := ?_) ?_ ?_ _; rotate_left 1; (· first | (dsimp only; omega) | (simp; done) | (simp; omega)); (· with_reducible assumption); (all_goals skip)) | (with_reducible refine alloc_keep ?_ _) | (with_reducible refine (kcell (by assumption) ?_).trans ?_; (· exact (by first | (with_reducible assumption) | omega | (simp; done) | (simp; omega)))))); done) | fail))) (fail)
    go_wp2
    have JF := ((((JRH.out.put 0 (by omega) 0).put 1 (by omega) 0).put 2 (by omega) 0).put 3 (by omega) 0).alloc (.cells #[.int .i64 z0, .int .i64 z1, .int .i64 z2, .int .i64 z3] 133)
    have r0 := JF.c 0 (by omega)
    have r1 := JF.c 1 (by omega)
    have r2 := JF.c 2 (by omega)
    have r3 := JF.c 3 (by omega)
    simp [upd] at r0 r1 r2 r3
    refine bodyPost_ret (v := .tuple #[quatV 0 0 0 0, .int .i64 2]) (by simp [results, Try.results56, go_sem, quatV, r0, r1, r2, r3]) rfl ?_
    refine RetB.mk (HP.out _) ?_
    exact (((((BEH.out.setCell (by simp) _).setCell (by simp) _).setCell (by simp) _).setCell (by simp) _).alloc (by simpa using BEH.out.size) _).drew
end Go.Proofs.Ytcabnnfhcolcfaa
