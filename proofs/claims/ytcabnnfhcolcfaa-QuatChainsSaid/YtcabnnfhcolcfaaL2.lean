/- The wakes of the fourth law, and the plain law of QuatUnits. -/
import Derived.Test.YtcabnnfhcolcfaaRC
import Derived.Test.YtcabnnfhcolcfaaL1
namespace Go.Proofs.Ytcabnnfhcolcfaa
set_option linter.unusedSimpArgs false
set_option linter.unusedVariables false
open Go.RowKit

theorem eqlv (a b c d e f : Int) (W : World) : (binOp .eql 40 (.agg #[.int .i64 a, .int .i64 b, .int .i64 c]) (.agg #[.int .i64 d, .int .i64 e, .int .i64 f])).run Try.prog W = .ok (.bool (decide (a = d ∧ b = e ∧ c = f))) W := by
  by_cases h0 : a = d <;> by_cases h1 : b = e <;> by_cases h2 : c = f <;> go_simp
  all_goals (first | rfl | simp [h0, h1, h2])
theorem wake_turn : turnV ⟨1073741824, 0, 0, 1073741824⟩ ⟨1073741824, 0, 0⟩ = ⟨0, 1073741824, 0⟩ := by
  have h1 : turnX ⟨1073741824, 0, 0, 1073741824⟩ 1073741824 0 0 = 0 := by decide +kernel
  have h2 : turnY ⟨1073741824, 0, 0, 1073741824⟩ 1073741824 0 0 = 1073741824 := by decide +kernel
  have h3 : turnZ ⟨1073741824, 0, 0, 1073741824⟩ 1073741824 0 0 = 0 := by decide +kernel
  show V3.mk _ _ _ = _
  rw [h1, h2, h3]
theorem wake_turn2 (W : World) : Calls Try.prog 65 #[quatQ ⟨1073741824, 0, 0, 1073741824⟩, vecQ ⟨1073741824, 0, 0⟩] W (RetB W (VecT ⟨0, 1073741824, 0⟩ 0)) := by
  have h := turn_any ⟨1073741824, 0, 0, 1073741824⟩ ⟨1073741824, 0, 0⟩ W (by decide) (by decide) (by unfold zeroQ; decide)
  rwa [wake_turn, show toldV ⟨0, 1073741824, 0⟩ = ⟨0, 1073741824, 0⟩ from by unfold toldV; rw [if_pos (by decide)], show errV ⟨0, 1073741824, 0⟩ = 0 from by unfold errV; rw [if_pos (by decide)]] at h
set_option maxHeartbeats 1000000 in
theorem wakes4_any (w : World) : Calls Try.prog 24 #[] w (RetB w fun r _ => r = .bool true) := by
  have HT := Lib.hid (show ∀ (W : World), Calls Try.prog 27 #[.agg #[.int .i64 1073741824, .int .i64 0, .int .i64 0, .int .i64 1073741824], .agg #[.int .i64 1073741824, .int .i64 0, .int .i64 0]] W (RetB W fun r _ => r = .tuple #[.agg #[.int .i64 0, .int .i64 1073741824, .int .i64 0], .int .i64 0]) from fun W => Turn_of ⟨1073741824, 0, 0, 1073741824⟩ ⟨1073741824, 0, 0⟩ ⟨0, 1073741824, 0⟩ 0 W (by decide) (by decide) wake_turn2)
  have HE := fun (W : World) => show (binOp .eql 40 (.agg #[.int .i64 0, .int .i64 1073741824, .int .i64 0]) (.agg #[.int .i64 0, .int .i64 1073741824, .int .i64 0])).run Try.prog W = .ok (.bool true) W from eqlv 0 1073741824 0 0 1073741824 0 W
  have HN := Lib.hid (fun (e : Int) (W : World) => num4 e W)
  go_enter Try.func24, Try.ntmps24
  go_wp2_with (first
    | (go_at_call 27; (with_reducible refine (HT.out _).mono ?_); rintro e w1 ⟨⟨v1, rfl, rfl⟩, hb1⟩; (obtain ⟨hc1, hf1⟩ := bcell hb1); (have hs1 := hb1.size); (try simp at hs1))
    | (go_at_call 22; (refine (HN.out _ _).mono ?_); rintro e w' ⟨⟨v, rfl, hv⟩, rfl⟩; (subst hv)))
  go_ret
  exact RetB.mk rfl (by repeat (first | (with_reducible assumption) | exact Below.refl _ _ | (with_reducible refine Below.setCell ?_ (by first | (simp; done) | (simp; omega) | omega) _) | (with_reducible refine Below.alloc ?_ (by first | (simp; done) | (simp; omega) | omega) _) | (with_reducible refine below_drewN' ?_ _) | (with_reducible refine Below.drew ?_) | (refine below_after (by with_reducible assumption) ?_ (by first | (simp; done) | (simp; omega) | omega))))
/-- What QuatUnits asks, in plain numbers. -/
theorem unit_word (p : Q4) (h : 0 < p.nm) (n : Int) (hn : rnd p.unit.nm (2 ^ 30) = n) : -3 ≤ n - 1073741824 ∧ n - 1073741824 ≤ 3 := by
  have h1 := unit_one p h
  have := rnd_30 p.unit.nm 2147483650 2 h1.1 h1.2 (by decide)
  rw [hn] at this
  omega
theorem good_of_nm {q : Q4} (h : q.nm ≤ 2 ^ 62) : goodQ q = true := by
  obtain ⟨h1, h2, h3, h4⟩ := Q4.sz.part (p := q) (K := 2 ^ 31) ⟨by decide, by omega⟩
  exact (goodQ_iff _).2 ⟨by unfold Wd; omega, by unfold Wd; omega, by unfold Wd; omega, by unfold Wd; omega⟩
theorem prod_word (p q : Q4) (hp : 0 < p.nm) (hq : 0 < q.nm) (m : Int) (hm : rnd (p.unit.prod q.unit).nm (2 ^ 30) = m) :
    goodQ (p.unit.prod q.unit) = true ∧ -12 ≤ m - 1073741824 ∧ m - 1073741824 ≤ 12 := by
  have h := prod_one (unit_one p hp) (unit_one q hq)
  have h2 := rnd_30 _ _ 8 h.1 h.2 (by decide)
  rw [hm] at h2
  exact ⟨good_of_nm (by have := h.2; omega), by omega⟩
theorem whole_word (p : Q4) : p.prod p.conj = ⟨rnd p.nm (2 ^ 30), 0, 0, 0⟩ := by
  have e : p.mul p.conj = ⟨p.nm, 0, 0, 0⟩ := by
    refine Q4.ext_ ?_ ?_ ?_ ?_ <;> simp only [Q4.mul, Q4.conj, Q4.nm, sq4, pw, px, py, pz] <;> grind
  unfold Q4.prod
  rw [e]
  simp only [rnd_zero _ (show (0 : Int) < 2 ^ 30 by decide)]
theorem word_good {n k : Int} (h : -k ≤ n - 1073741824 ∧ n - 1073741824 ≤ k) (hk : k ≤ 100) : goodB n = true := (goodB_iff n).2 (by omega)
theorem norm_word (q : Q4) (n : Int) (w : World) (hq : goodQ q = true) (hn : rnd q.nm (2 ^ 30) = n) (h : goodB n = true) : Calls Try.prog 21 #[quatQ q] w (RetB w fun r _ => r = .tuple #[.int .i64 n, .int .i64 0]) :=
  (norm_any q n w hq hn).mono (by
    rintro e w' ⟨⟨v, rfl, hv⟩, hb⟩; exact ⟨⟨v, rfl, by unfold WordP at hv; rwa [if_pos h] at hv⟩, hb⟩)
theorem mul_good (p q r : Q4) (w : World) (hp : goodQ p = true) (hq : goodQ q = true) (hr : p.prod q = r) (hg : goodQ r = true) : Calls Try.prog 20 #[quatQ p, quatQ q] w (RetB w (QuatT r 0)) := by
  have h := qmul_any p q w hp hq
  rw [hr] at h
  rwa [show toldQ r = r from by unfold toldQ; rw [if_pos hg], show errQ r = 0 from by unfold errQ; rw [if_pos hg]] at h
/-- The contract of a call that hands back an orientation. -/
abbrev CQ (f : Nat) (a : Array Value) (t : Q4) (e : Int) : Prop := ∀ W : World, Calls Try.prog f a W (RetB W fun r _ => r = .tuple #[.agg #[.int .i64 t.w, .int .i64 t.x, .int .i64 t.y, .int .i64 t.z], .int .i64 e])
end Go.Proofs.Ytcabnnfhcolcfaa
