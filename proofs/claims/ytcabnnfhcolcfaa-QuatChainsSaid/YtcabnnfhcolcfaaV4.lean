/- The walks of vec.Of, Good; quat.Good, Squares. -/
import Derived.Test.YtcabnnfhcolcfaaV3
namespace Go.Proofs.Ytcabnnfhcolcfaa
set_option linter.unusedSimpArgs false
set_option linter.unusedVariables false
open Go.RowKit

def vecV (x y z : Int) : Value := .agg #[.int .i64 x, .int .i64 y, .int .i64 z]
def quatV (a b c d : Int) : Value := .agg #[.int .i64 a, .int .i64 b, .int .i64 c, .int .i64 d]
theorem rdi3 {w : World} {g : Nat} (hg : w.heap.size = g) (x y z : Int) (T : TypeId) : RdI (w.alloc (.cells #[.int .i64 x, .int .i64 y, .int .i64 z] T)) (some ⟨g, 0, none⟩) 3 [x, y, z] := by
  subst hg
  exact ⟨rfl, fun _ => ⟨_, rfl, fun j hj => by
    have ha : (⟨w.heap.size, 0, none⟩ : Addr).add j = ⟨w.heap.size, j, none⟩ := by unfold Addr.add; split <;> simp_all
    rw [ha]
    match j, hj with
    | 0, _ => simp [lim]
    | 1, _ => simp [lim]
    | 2, _ => simp [lim]⟩⟩
theorem rdi4 {w : World} {g : Nat} (hg : w.heap.size = g) (x y z u : Int) (T : TypeId) : RdI (w.alloc (.cells #[.int .i64 x, .int .i64 y, .int .i64 z, .int .i64 u] T)) (some ⟨g, 0, none⟩) 4 [x, y, z, u] := by
  subst hg
  exact ⟨rfl, fun _ => ⟨_, rfl, fun j hj => by
    have ha : (⟨w.heap.size, 0, none⟩ : Addr).add j = ⟨w.heap.size, j, none⟩ := by unfold Addr.add; split <;> simp_all
    rw [ha]
    match j, hj with
    | 0, _ => simp [lim]
    | 1, _ => simp [lim]
    | 2, _ => simp [lim]
    | 3, _ => simp [lim]⟩⟩
def OfP (xs : List Int) (v : Value) (w' : World) : Prop := ∃ A c, v = .slice A xs.length c ∧ RdI w' A xs.length xs
theorem vof_any (x y z : Int) (w : World) : Calls Try.prog 67 #[vecV x y z] w (RetB w (OfP [x, y, z])) := by
  unfold vecV
  go_enter Try.func67, Try.ntmps67
  go_wp2
  go_ret
  exact RetB.mk ⟨_, _, rfl, rdi3 (by simp) x y z _⟩ (by repeat (first | (with_reducible assumption) | exact Below.refl _ _ | (with_reducible refine Below.setCell ?_ (by first | (simp; done) | (simp; omega) | omega) _) | (with_reducible refine Below.alloc ?_ (by first | (simp; done) | (simp; omega) | omega) _) | (with_reducible refine below_drewN' ?_ _) | (with_reducible refine Below.drew ?_) | (refine below_after (by with_reducible assumption) ?_ (by first | (simp; done) | (simp; omega) | omega))))
theorem vgood_any (x y z : Int) (w : World) : Calls Try.prog 64 #[vecV x y z] w (RetB w fun r _ => r = .bool (allB [x, y, z])) := by
  unfold vecV
  have HA := Lib.hid (fun (A : Option Addr) (c : Nat) (W : World) (h : RdI W A 3 [x, y, z]) => all_any A 3 c [x, y, z] W (by omega) h)
  obtain ⟨b, hb⟩ : ∃ b, allB [x, y, z] = b := ⟨_, rfl⟩
  rw [hb] at HA ⊢
  clear hb
  go_enter Try.func64, Try.ntmps64
  go_wp2_with (go_at_call 46; (with_reducible refine (HA.out _ _ _ ?_).mono ?_); (· exact rdi3 (by simp) x y z _); rintro e w' ⟨⟨v, rfl, rfl⟩, rfl⟩)
  go_ret
  exact RetB.mk rfl (by repeat (first | (with_reducible assumption) | exact Below.refl _ _ | (with_reducible refine Below.setCell ?_ (by first | (simp; done) | (simp; omega) | omega) _) | (with_reducible refine Below.alloc ?_ (by first | (simp; done) | (simp; omega) | omega) _) | (with_reducible refine below_drewN' ?_ _) | (with_reducible refine Below.drew ?_) | (refine below_after (by with_reducible assumption) ?_ (by first | (simp; done) | (simp; omega) | omega))))
theorem qgood_any (x y z u : Int) (w : World) : Calls Try.prog 54 #[quatV x y z u] w (RetB w fun r _ => r = .bool (allB [x, y, z, u])) := by
  unfold quatV
  have HA := Lib.hid (fun (A : Option Addr) (c : Nat) (W : World) (h : RdI W A 4 [x, y, z, u]) => all_any A 4 c [x, y, z, u] W (by omega) h)
  obtain ⟨b, hb⟩ : ∃ b, allB [x, y, z, u] = b := ⟨_, rfl⟩
  rw [hb] at HA ⊢
  clear hb
  go_enter Try.func54, Try.ntmps54
  go_wp2_with (go_at_call 46; (with_reducible refine (HA.out _ _ _ ?_).mono ?_); (· exact rdi4 (by simp) x y z u _); rintro e w' ⟨⟨v, rfl, rfl⟩, rfl⟩)
  go_ret
  exact RetB.mk rfl (by repeat (first | (with_reducible assumption) | exact Below.refl _ _ | (with_reducible refine Below.setCell ?_ (by first | (simp; done) | (simp; omega) | omega) _) | (with_reducible refine Below.alloc ?_ (by first | (simp; done) | (simp; omega) | omega) _) | (with_reducible refine below_drewN' ?_ _) | (with_reducible refine Below.drew ?_) | (refine below_after (by with_reducible assumption) ?_ (by first | (simp; done) | (simp; omega) | omega))))
/-- All four are words. -/
def Wd (x : Int) : Prop := -35184372088832 < x ∧ x < 35184372088832
theorem Wd.i64 {x : Int} (h : Wd x) : I64 x := by unfold Wd at h; unfold I64; omega
theorem lim4 (x y z u : Int) (P : Int → Prop) (h : P x ∧ P y ∧ P z ∧ P u) : ∀ k, k < 4 → P (lim [x, y, z, u] k) := by
  intro k hk
  match k, hk with
  | 0, _ => exact h.1
  | 1, _ => exact h.2.1
  | 2, _ => exact h.2.2.1
  | 3, _ => exact h.2.2.2
theorem lim3 (x y z : Int) (P : Int → Prop) (h : P x ∧ P y ∧ P z) : ∀ k, k < 3 → P (lim [x, y, z] k) := by
  intro k hk
  match k, hk with
  | 0, _ => exact h.1
  | 1, _ => exact h.2.1
  | 2, _ => exact h.2.2
theorem squares_any (x y z u n : Int) (w : World) (hx : I64 x) (hy : I64 y) (hz : I64 z) (hu : I64 u) (hn : sq4 x y z u = n) : Calls Try.prog 55 #[quatV x y z u] w (RetB w fun r w' => IntAt w' r n) := by
  unfold quatV
  have HS := Lib.hid (fun (A : Option Addr) (c : Nat) (W : World) (h : RdI W A 4 [x, y, z, u]) => sum_any A A 4 c c [x, y, z, u] [x, y, z, u] n W (by omega) h h (fun k hk => ⟨lim4 x y z u I64 ⟨hx, hy, hz, hu⟩ k hk, lim4 x y z u I64 ⟨hx, hy, hz, hu⟩ k hk⟩) (by rw [← hn]; simp [sumZ, sq4]; omega))
  clear hx hy hz hu hn
  go_enter Try.func55, Try.ntmps55
  go_wp2_with (go_at_call 66; (with_reducible refine (HS.out _ _ _ ?_).mono ?_); (· exact rdi4 (by simp) x y z u _); rintro e w1 ⟨⟨v1, rfl, hv1⟩, hb1⟩; (obtain ⟨hc1, hf1⟩ := bcell hb1); (have hs1 := hb1.size); (try simp at hs1); (have hz1_0 : w.heap.size < w1.heap.size := by omega); (have hz1_1 : w.heap.size + 1 < w1.heap.size := by omega); (obtain ⟨A1, n1, c1, rfl, HN1⟩ := hv1.open_); clear hv1)
  (((try (rename_i hH; clear hH)); (have e0 : w1.cell? ⟨w.heap.size + 1, 0, none⟩ = some (.bool false) := by go_simp); (have e1 : w1.cell? ⟨w.heap.size + 1, 1, none⟩ = some (.slice none 0 0) := by go_simp); (refine bodyPost_ret (v := .agg #[.bool (decide (n < 0)), .slice A1 n1 c1]) (by simp [results, Try.results55, go_sem, e0, e1]) rfl ?_); (refine RetB.mk (IntAt.put (i := n) (u0 := .bool false) (u1 := .slice none 0 0) (by simpa using HN1.out) e0 (by simp) e1 (by simp) (by first | rfl | (simp; done) | (simp; omega))) ?_); (exact (by repeat (first | (with_reducible assumption) | exact Below.refl _ _ | (with_reducible refine Below.setCell ?_ (by first | (simp; done) | (simp; omega) | omega) _) | (with_reducible refine Below.alloc ?_ (by first | (simp; done) | (simp; omega) | omega) _) | (with_reducible refine below_drewN' ?_ _) | (with_reducible refine Below.drew ?_) | (refine below_after (by with_reducible assumption) ?_ (by first | (simp; done) | (simp; omega) | omega)))))))
end Go.Proofs.Ytcabnnfhcolcfaa
