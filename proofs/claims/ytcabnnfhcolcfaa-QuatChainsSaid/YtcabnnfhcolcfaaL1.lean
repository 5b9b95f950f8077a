/- The walks of what the laws share: May, MayQuat, num, Brought, Vec. -/
import Derived.Test.YtcabnnfhcolcfaaV6
namespace Go.Proofs.Ytcabnnfhcolcfaa
set_option linter.unusedSimpArgs false
set_option linter.unusedVariables false
open Go.RowKit

theorem may_any (v : Int) (w : World) : Calls Try.prog 13 #[.int .i64 v] w (Ret w (· = .bool (goodB v))) := by
  unfold goodB
  go_enter Try.func13, Try.ntmps13
  by_cases h : -35184372088832 < v
  · go_wp2
    go_ret
    exact Ret.mk (by simp [h])
  · go_wp2
    go_ret
    exact Ret.mk (by have : decide (-35184372088832 < v) = false := by simpa using h
                     simp [this])
set_option maxHeartbeats 1000000 in
theorem mayQ_any (q : Q4) (w : World) : Calls Try.prog 18 #[quatQ q] w (RetB w fun r _ => r = .bool (goodQ q)) := by
  cases q with
  | mk a b c d =>
  have hg : goodQ ⟨a, b, c, d⟩ = (goodB a && (goodB b && (goodB c && goodB d))) := by unfold goodQ allB; simp
  rw [hg]
  have HA := Lib.hid (fun (W : World) => may_any a W)
  have HB := Lib.hid (fun (W : World) => may_any b W)
  have HC := Lib.hid (fun (W : World) => may_any c W)
  have HD := Lib.hid (fun (W : World) => may_any d W)
  obtain ⟨ga, ea⟩ : ∃ x, goodB a = x := ⟨_, rfl⟩
  obtain ⟨gb, eb⟩ : ∃ x, goodB b = x := ⟨_, rfl⟩
  obtain ⟨gc, ec⟩ : ∃ x, goodB c = x := ⟨_, rfl⟩
  obtain ⟨gd, ed⟩ : ∃ x, goodB d = x := ⟨_, rfl⟩
  rw [ea] at HA
  rw [eb] at HB
  rw [ec] at HC
  rw [ed] at HD
  rw [ea, eb, ec, ed]
  clear hg ea eb ec ed
  simp only [quatQ, quatV]
  cases ga
  · go_enter Try.func18, Try.ntmps18
    go_wp2_with (first
      | (go_at_call 13; (with_reducible refine (HA.out _).mono ?_); rintro e w' ⟨⟨v, rfl, rfl⟩, rfl⟩))
    go_ret
    exact RetB.mk rfl (by repeat (first | (with_reducible assumption) | exact Below.refl _ _ | (with_reducible refine Below.setCell ?_ (by first | (simp; done) | (simp; omega) | omega) _) | (with_reducible refine Below.alloc ?_ (by first | (simp; done) | (simp; omega) | omega) _) | (with_reducible refine below_drewN' ?_ _) | (with_reducible refine Below.drew ?_) | (refine below_after (by with_reducible assumption) ?_ (by first | (simp; done) | (simp; omega) | omega))))
  cases gb
  · go_enter Try.func18, Try.ntmps18
    go_wp2_with (first
      | (go_at_call 13; (with_reducible refine (HA.out _).mono ?_); rintro e w' ⟨⟨v, rfl, rfl⟩, rfl⟩)
      | (go_at_call 13; (with_reducible refine (HB.out _).mono ?_); rintro e w' ⟨⟨v, rfl, rfl⟩, rfl⟩))
    go_ret
    exact RetB.mk rfl (by repeat (first | (with_reducible assumption) | exact Below.refl _ _ | (with_reducible refine Below.setCell ?_ (by first | (simp; done) | (simp; omega) | omega) _) | (with_reducible refine Below.alloc ?_ (by first | (simp; done) | (simp; omega) | omega) _) | (with_reducible refine below_drewN' ?_ _) | (with_reducible refine Below.drew ?_) | (refine below_after (by with_reducible assumption) ?_ (by first | (simp; done) | (simp; omega) | omega))))
  cases gc
  · go_enter Try.func18, Try.ntmps18
    go_wp2_with (first
      | (go_at_call 13; (with_reducible refine (HA.out _).mono ?_); rintro e w' ⟨⟨v, rfl, rfl⟩, rfl⟩)
      | (go_at_call 13; (with_reducible refine (HB.out _).mono ?_); rintro e w' ⟨⟨v, rfl, rfl⟩, rfl⟩)
      | (go_at_call 13; (with_reducible refine (HC.out _).mono ?_); rintro e w' ⟨⟨v, rfl, rfl⟩, rfl⟩))
    go_ret
    exact RetB.mk rfl (by repeat (first | (with_reducible assumption) | exact Below.refl _ _ | (with_reducible refine Below.setCell ?_ (by first | (simp; done) | (simp; omega) | omega) _) | (with_reducible refine Below.alloc ?_ (by first | (simp; done) | (simp; omega) | omega) _) | (with_reducible refine below_drewN' ?_ _) | (with_reducible refine Below.drew ?_) | (refine below_after (by with_reducible assumption) ?_ (by first | (simp; done) | (simp; omega) | omega))))
  go_enter Try.func18, Try.ntmps18
  go_wp2_with (first
    | (go_at_call 13; (with_reducible refine (HA.out _).mono ?_); rintro e w' ⟨⟨v, rfl, rfl⟩, rfl⟩)
    | (go_at_call 13; (with_reducible refine (HB.out _).mono ?_); rintro e w' ⟨⟨v, rfl, rfl⟩, rfl⟩)
    | (go_at_call 13; (with_reducible refine (HC.out _).mono ?_); rintro e w' ⟨⟨v, rfl, rfl⟩, rfl⟩)
    | (go_at_call 13; (with_reducible refine (HD.out _).mono ?_); rintro e w' ⟨⟨v, rfl, rfl⟩, rfl⟩))
  go_ret
  exact RetB.mk (by cases gd <;> rfl) (by repeat (first | (with_reducible assumption) | exact Below.refl _ _ | (with_reducible refine Below.setCell ?_ (by first | (simp; done) | (simp; omega) | omega) _) | (with_reducible refine Below.alloc ?_ (by first | (simp; done) | (simp; omega) | omega) _) | (with_reducible refine below_drewN' ?_ _) | (with_reducible refine Below.drew ?_) | (refine below_after (by with_reducible assumption) ?_ (by first | (simp; done) | (simp; omega) | omega))))
theorem num4 (e : Int) (w : World) : Calls Try.prog 22 #[.int .i64 e] w (Ret w (· = .int .i64 e)) := by
  go_enter Try.func22, Try.ntmps22
  go_wp2
  go_ret
  exact Ret.mk rfl
theorem num15 (e : Int) (w : World) : Calls Try.prog 32 #[.int .i64 e] w (Ret w (· = .int .i64 e)) := by
  go_enter Try.func32, Try.ntmps32
  go_wp2
  go_ret
  exact Ret.mk rfl
def brought (v m : Int) : Int := (v % 18446744073709551616) % (2 * m + 1) - m
theorem brought_bd (v m : Int) (hm : 0 ≤ m) : -m ≤ brought v m ∧ brought v m ≤ m := by
  unfold brought
  have h1 := Int.emod_nonneg (v % 18446744073709551616) (show 2 * m + 1 ≠ 0 by omega)
  have h2 := Int.emod_lt_of_pos (v % 18446744073709551616) (show 0 < 2 * m + 1 by omega)
  omega
set_option maxHeartbeats 400000 in
theorem brought_any (v m : Int) (w : World) (hm : 0 ≤ m) (hm2 : m ≤ 2305843009213693952) : Calls Try.prog 25 #[.int .i64 v, .int .i64 m] w (Ret w (· = .int .i64 (brought v m))) := by
  have hb := brought_bd v m hm
  obtain ⟨r, hr⟩ : ∃ r, brought v m = r := ⟨_, rfl⟩
  have h1 : IntKind.u64.wrap v = v % 18446744073709551616 := wrap_u64 v
  obtain ⟨u, hu⟩ : ∃ u, v % 18446744073709551616 = u := ⟨_, rfl⟩
  have hu0 : 0 ≤ u ∧ u < 18446744073709551616 := by rw [← hu]; omega
  obtain ⟨t, ht⟩ : ∃ t, u % (2 * m + 1) = t := ⟨_, rfl⟩
  have hr2 : t - m = r := by rw [← hr, ← ht, ← hu]; rfl
  rw [hu] at h1
  rw [hr] at hb ⊢
  have ht0 : 0 ≤ t ∧ t < 2 * m + 1 := by rw [← ht]; exact ⟨Int.emod_nonneg _ (by omega), Int.emod_lt_of_pos _ (by omega)⟩
  clear hr hu
  go_enter Try.func25, Try.ntmps25
  go_wp2
  go_ret
  exact Ret.mk rfl
end Go.Proofs.Ytcabnnfhcolcfaa
