/- The walks of near and of Vec of the laws; a unit, or none. -/
import Derived.Test.YtcabnnfhcolcfaaL2
import Derived.Test.YtcabnnfhcolcfaaFree2
namespace Go.Proofs.Ytcabnnfhcolcfaa
set_option linter.unusedSimpArgs false
set_option linter.unusedVariables false
open Go.RowKit

/-- Each number of a lies within d of b's. -/
def NearV (a b : V3) (d : Int) : Prop := (-d ≤ a.x - b.x ∧ a.x - b.x ≤ d) ∧ (-d ≤ a.y - b.y ∧ a.y - b.y ≤ d) ∧ (-d ≤ a.z - b.z ∧ a.z - b.z ≤ d)
set_option maxHeartbeats 4000000 in
set_option maxRecDepth 20000 in
theorem near_any (a b : V3) (d : Int) (w : World) (ha : goodV a = true) (hb : goodV b = true) (hd : d ≤ 1000) (h : NearV a b d) :
    Calls Try.prog 28 #[vecQ a, vecQ b, .int .i64 d] w (RetB w fun r _ => r = .bool true) := by
  obtain ⟨⟨h1, h2⟩, ⟨h3, h4⟩, ⟨h5, h6⟩⟩ := h
  obtain ⟨k1, k2, k3⟩ := (goodV_iff a).1 ha
  obtain ⟨k4, k5, k6⟩ := (goodV_iff b).1 hb
  unfold Wd at k1 k2 k3 k4 k5 k6
  cases a with
  | mk a0 a1 a2 =>
  cases b with
  | mk b0 b1 b2 =>
  simp only at *
  have e1 : b0 - a0 ≤ d := by omega
  have e2 : b1 - a1 ≤ d := by omega
  have e3 : b2 - a2 ≤ d := by omega
  have hd0 : 0 ≤ d := by omega
  clear ha hb
  simp only [vecQ, vecV]
  go_enter Try.func28, Try.ntmps28
  go_wp2
  go_ret
  exact RetB.mk rfl (by repeat (first | (with_reducible assumption) | exact Below.refl _ _ | (with_reducible refine Below.setCell ?_ (by first | (simp; done) | (simp; omega) | omega) _) | (with_reducible refine Below.alloc ?_ (by first | (simp; done) | (simp; omega) | omega) _) | (with_reducible refine below_drewN' ?_ _) | (with_reducible refine Below.drew ?_) | (refine below_after (by with_reducible assumption) ?_ (by first | (simp; done) | (simp; omega) | omega))))
def broughtV (v : V3) (m : Int) : V3 := ⟨brought v.x m, brought v.y m, brought v.z m⟩
def broughtQ (q : Q4) (m : Int) : Q4 := ⟨brought q.w m, brought q.x m, brought q.y m, brought q.z m⟩
set_option maxHeartbeats 2000000 in
set_option maxRecDepth 20000 in
theorem vec0_any (v : V3) (m : Int) (w : World) (hm : 0 ≤ m) (hm2 : m ≤ 2305843009213693952) :
    Calls Try.prog 26 #[vecQ v, .int .i64 m] w (RetB w fun r _ => r = vecQ (broughtV v m)) := by
  unfold broughtV
  cases v with
  | mk v0 v1 v2 =>
  simp only [vecQ, vecV]
  have HB0 := Lib.hid (fun (W : World) => brought_any v0 m W hm hm2)
  have HB1 := Lib.hid (fun (W : World) => brought_any v1 m W hm hm2)
  have HB2 := Lib.hid (fun (W : World) => brought_any v2 m W hm hm2)
  obtain ⟨b0, e0⟩ : ∃ b, brought v0 m = b := ⟨_, rfl⟩
  obtain ⟨b1, e1⟩ : ∃ b, brought v1 m = b := ⟨_, rfl⟩
  obtain ⟨b2, e2⟩ : ∃ b, brought v2 m = b := ⟨_, rfl⟩
  rw [e0] at HB0
  rw [e1] at HB1
  rw [e2] at HB2
  rw [e0, e1, e2]
  clear e0 e1 e2
  go_enter Try.func26, Try.ntmps26
  go_wp2
  go_region_held3 (fun w' => w'.cell? ⟨w.heap.size, 0, none⟩ = some (.int .i64 v0) ∧ w'.cell? ⟨w.heap.size, 1, none⟩ = some (.int .i64 v1) ∧ w'.cell? ⟨w.heap.size, 2, none⟩ = some (.int .i64 v2)) (((repeat' (with_reducible apply And.intro)) <;> (first | (with_reducible assumption) | (go_split_ands; (repeat (with_reducible refine (World.cell?_setCell_far _ _ _ _ ?_).trans ?_; (· first | (dsimp only; omega) | (simp; done) | (simp; omega)))); (with_reducible assumption)) | (go_split_ands; (first | (with_reducible assumption) | go_simp); done) | (with_reducible refine (kcell (by assumption) ?_).trans ?_; (· exact (by first | (with_reducible assumption) | omega | (simp; done) | (simp; omega))); (· first | (with_reducible assumption) | (go_split_ands; with_reducible assumption))) | (go_split_ands; (repeat (first | (with_reducible assumption) | (with_reducible refine (World.cell?_setCell_far _ _ _ _ ?_).trans ?_; (· first | (dsimp only; omega) | (simp; done) | (simp; omega))) | (with_reducible refine alloc_swap (o := ?_) ?_ ?_ _; rotate_left 1; (· first | (dsimp only; omega) | (simp; done) | (simp; omega)); (· with_reducible assumption); (all_goals skip)) | (with_reducible refine alloc_keep ?_ _) | (with_reducible refine (kcell (by assumption) ?_).trans ?_; (· exact (by first | (with_reducible assumption) | omega | (simp; done) | (simp; omega)))))); done) | fail))) (first
    | (go_at_call 25; (with_reducible refine (HB0.out _).mono ?_); rintro e w' ⟨⟨v, rfl, rfl⟩, rfl⟩)
    | (go_at_call 25; (with_reducible refine (HB1.out _).mono ?_); rintro e w' ⟨⟨v, rfl, rfl⟩, rfl⟩)
    | (go_at_call 25; (with_reducible refine (HB2.out _).mono ?_); rintro e w' ⟨⟨v, rfl, rfl⟩, rfl⟩))
  go_wp2
  refine bodyPost_ret (v := .agg #[.int .i64 b0, .int .i64 b1, .int .i64 b2]) (by simp [results, Try.results26, go_sem]) rfl ?_
  exact RetB.mk rfl (by repeat (first | (with_reducible assumption) | exact Below.refl _ _ | (with_reducible refine Below.setCell ?_ (by first | (simp; done) | (simp; omega) | omega) _) | (with_reducible refine Below.alloc ?_ (by first | (simp; done) | (simp; omega) | omega) _) | (with_reducible refine below_drewN' ?_ _) | (with_reducible refine Below.drew ?_) | (refine below_after (by with_reducible assumption) ?_ (by first | (simp; done) | (simp; omega) | omega))))
theorem unit_case (q : Q4) (hq : goodQ q = true) : ∃ (u : Q4) (e : Int), CQ 19 #[quatQ q] u e ∧ (e = 3 ∨ (e = 0 ∧ u = q.unit ∧ 0 < q.nm)) := by
  by_cases hz : zeroQ q
  · refine ⟨⟨0, 0, 0, 0⟩, 3, ?_, Or.inl rfl⟩
    intro W
    obtain ⟨h1, h2, h3, h4⟩ := hz
    cases q with
    | mk a b c d =>
    simp only at h1 h2 h3 h4
    subst h1 h2 h3 h4
    exact qunit_zero W
  · exact ⟨q.unit, 0, fun W => qunit_any q W hq hz, Or.inr ⟨rfl, rfl, nm_pos hz⟩⟩
theorem broughtQ_good (q : Q4) : goodQ (broughtQ q 1073741824) = true := by
  have b := fun v => brought_bd v 1073741824 (by decide)
  have b1 := b q.w
  have b2 := b q.x
  have b3 := b q.y
  have b4 := b q.z
  exact (goodQ_iff _).2 ⟨by unfold Wd broughtQ; simp only; omega, by unfold Wd broughtQ; simp only; omega, by unfold Wd broughtQ; simp only; omega, by unfold Wd broughtQ; simp only; omega⟩
end Go.Proofs.Ytcabnnfhcolcfaa
