/- The walks of fx: Good, All, Word, Told. -/
import Derived.Test.YtcabnnfhcolcfaaW23
namespace Go.Proofs.Ytcabnnfhcolcfaa
set_option linter.unusedSimpArgs false
set_option linter.unusedVariables false
open Go.RowKit

/-- Is it a word? -/
def goodB (v : Int) : Bool := decide (-35184372088832 < v) && decide (v < 35184372088832)
theorem goodB_iff (v : Int) : goodB v = true ↔ -35184372088832 < v ∧ v < 35184372088832 := by unfold goodB; simp
theorem good_any (v : Int) (w : World) : Calls Try.prog 88 #[.int .i64 v] w (Ret w (· = .bool (goodB v))) := by
  unfold goodB
  go_enter Try.func88, Try.ntmps88
  by_cases h : -35184372088832 < v
  · go_wp2
    go_ret
    exact Ret.mk (by simp [h])
  · go_wp2
    go_ret
    exact Ret.mk (by have : decide (-35184372088832 < v) = false := by simpa using h
                     simp [this])
/-- The slice at A, of length n, reads as these int64s. -/
def RdI (w : World) (A : Option Addr) (n : Nat) (xs : List Int) : Prop :=
  xs.length = n ∧ (0 < n → ∃ ad, A = some ad ∧ ∀ j, j < n → w.cell? (ad.add j) = some (.int .i64 (lim xs j)))
theorem RdI.at_ {w : World} {A : Option Addr} {n : Nat} {xs : List Int} (h : RdI w A n xs) (i : Nat) (hi : i < n) : ∃ ad, A = some ad ∧ w.cell? (ad.add i) = some (.int .i64 (lim xs i)) := by
  obtain ⟨ad, e, hc⟩ := h.2 (by omega)
  exact ⟨ad, e, hc i hi⟩
theorem RdI.below {w w1 : World} {A : Option Addr} {n : Nat} {xs : List Int} (h : RdI w A n xs) (hb : Below w.heap.size w w1) : RdI w1 A n xs :=
  ⟨h.1, fun hn => by
    obtain ⟨ad, e, hc⟩ := h.2 hn
    exact ⟨ad, e, fun j hj => cell_below hb (hc j hj)⟩⟩
def allB (xs : List Int) : Bool := xs.all goodB
theorem allB_stop (xs : List Int) (k : Nat) (hk : k < xs.length) (h : goodB (lim xs k) = false) : allB xs = false := by
  unfold allB
  rw [List.all_eq_false]
  refine ⟨xs[k], List.getElem_mem hk, ?_⟩
  rw [Bool.not_eq_true]
  simpa [lim, List.getD_eq_getElem?_getD, List.getElem?_eq_getElem hk] using h
theorem allB_end (xs : List Int) (h : ∀ j, j < xs.length → goodB (lim xs j) = true) : allB xs = true := by
  unfold allB
  rw [List.all_eq_true]
  intro x hx
  obtain ⟨j, hj, rfl⟩ := List.getElem_of_mem hx
  simpa [lim, List.getD_eq_getElem?_getD, List.getElem?_eq_getElem hj] using h j hj
set_option maxHeartbeats 400000 in
theorem all_any (A : Option Addr) (n c : Nat) (xs : List Int) (w : World) (hn : n ≤ 1000) (hr : RdI w A n xs) :
    Calls Try.prog 46 #[.slice A n c] w (Ret w (· = .bool (allB xs))) := by
  have HR := Lib.hid hr
  clear hr
  go_enter Try.func46, Try.ntmps46
  go_wp2
  go_loop [7] (fun v => ∃ k : Nat, k ≤ n ∧ v = .int .i64 k ∧ Hid (∀ j, j < k → goodB (lim xs j) = true)) (fun v => n - (intOf v).toNat)
  case atStart => exact ⟨0, by omega, rfl, Lib.hid fun j h => by omega⟩
  case round =>
    obtain ⟨k, hk, rfl, HZ⟩ := hrel
    by_cases hlt : k < n
    · obtain ⟨ad, rfl, hcell⟩ := HR.out.at_ k hlt
      by_cases hg : goodB (lim xs k) = true
      · have HG := Lib.hid (fun (W : World) => hg ▸ good_any (lim xs k) W)
        have HGG := Lib.hid hg
        clear hg
        go_wp2_with (go_at_call 88; (refine (HG.out _).mono ?_); rintro e w' ⟨⟨v, rfl, hv⟩, rfl⟩; (subst hv))
        go_round
        case rel => exact ⟨k + 1, by omega, by go_num, Lib.hid fun j h2 => by
          rcases Nat.lt_or_ge j k with h4 | h4
          · exact HZ.out j h4
          · obtain rfl : j = k := by omega
            exact HGG.out⟩
        case measure => simp [intOf]; omega
      · have hg : goodB (lim xs k) = false := by simpa using hg
        have HG := Lib.hid (fun (W : World) => hg ▸ good_any (lim xs k) W)
        have HGG := Lib.hid hg
        clear hg
        go_wp2_with (go_at_call 88; (refine (HG.out _).mono ?_); rintro e w' ⟨⟨v, rfl, hv⟩, rfl⟩; (subst hv))
        go_ret
        exact Ret.mk (by rw [allB_stop xs k (by rw [HR.out.1]; exact hlt) HGG.out]; rfl)
    · obtain rfl : k = n := by omega
      go_wp2
      go_ret
      exact Ret.mk (by rw [allB_end xs (by rw [HR.out.1]; exact HZ.out)]; rfl)
def WordP (v : Int) (r : Value) (_ : World) : Prop := r = if goodB v then .tuple #[.int .i64 v, .int .i64 0] else .tuple #[.int .i64 0, .int .i64 2]
set_option maxHeartbeats 400000 in
theorem word_fx (v : Int) (w : World) : Calls Try.prog 109 #[.int .i64 v] w (RetB w (WordP v)) := by
  by_cases hg : goodB v = true
  · have HG := Lib.hid (fun (W : World) => hg ▸ good_any v W)
    have HP := Lib.hid (show WordP v (.tuple #[.int .i64 v, .int .i64 0]) w by unfold WordP; rw [if_pos hg])
    clear hg
    go_enter Try.func109, Try.ntmps109
    go_wp2_with (go_at_call 88; (refine (HG.out _).mono ?_); rintro e w' ⟨⟨v, rfl, hv⟩, rfl⟩; (subst hv))
    go_ret2
    exact RetB.mk HP.out (Below.refl _ _)
  · have hg : goodB v = false := by simpa using hg
    have HG := Lib.hid (fun (W : World) => hg ▸ good_any v W)
    have HP := Lib.hid (show WordP v (.tuple #[.int .i64 0, .int .i64 2]) w by unfold WordP; rw [if_neg (by rw [hg]; decide)])
    clear hg
    go_enter Try.func109, Try.ntmps109
    go_wp2_with (go_at_call 88; (refine (HG.out _).mono ?_); rintro e w' ⟨⟨v, rfl, hv⟩, rfl⟩; (subst hv))
    go_ret2
    exact RetB.mk HP.out (Below.refl _ _)
theorem goodB_i64 {v : Int} (h : goodB v = true) : -9223372036854775808 ≤ v ∧ v ≤ 9223372036854775807 := by have := (goodB_iff v).1 h; omega
set_option maxHeartbeats 1000000 in
theorem told_fx (v : Value) (i : Int) (w : World) (hv : IntAt w v i) (hs : Sm i) : Calls Try.prog 61 #[v] w (RetB w (WordP i)) := by
  obtain ⟨A, n, c, rfl, HN⟩ := hv.open_
  have HV := Lib.hid hv
  clear hv
  by_cases hi : -9223372036854775808 ≤ i ∧ i ≤ 9223372036854775807
  · have HS := Lib.hid (fun (W : World) (h : IntAt W (.agg #[.bool (decide (i < 0)), .slice A n c]) i) => (small_any _ i W h hs).mono (R' := RetB W fun v _ => v = .tuple #[.int .i64 i, .bool true]) (by
      rintro e w' ⟨⟨v, rfl, hv⟩, hb⟩; exact ⟨⟨v, rfl, by unfold SmallP at hv; rwa [if_pos hi] at hv⟩, hb⟩))
    have HW := Lib.hid (fun (W : World) => word_fx i W)
    clear hs hi
    go_enter Try.func61, Try.ntmps61
    by_cases hg : goodB i = true
    · have HP := Lib.hid (show ∀ W, WordP i (.tuple #[.int .i64 i, .int .i64 0]) W by intro W; unfold WordP; rw [if_pos hg])
      have HW2 := Lib.hid (fun (W : World) => (HW.out W).mono (R' := RetB W fun v _ => v = .tuple #[.int .i64 i, .int .i64 0]) (by
        rintro e w' ⟨⟨v, rfl, hv⟩, hb⟩; exact ⟨⟨v, rfl, by unfold WordP at hv; rwa [if_pos hg] at hv⟩, hb⟩))
      clear hg
      go_wp2_with (first
        | (go_at_call 102; (with_reducible refine (HS.out _ ?_).mono ?_); (· exact (HV.out).below (by repeat (first | (with_reducible assumption) | exact Below.refl _ _ | (with_reducible refine Below.setCell ?_ (by first | (simp; done) | (simp; omega) | omega) _) | (with_reducible refine Below.alloc ?_ (by first | (simp; done) | (simp; omega) | omega) _) | (with_reducible refine below_drewN' ?_ _) | (with_reducible refine Below.drew ?_) | (refine below_after (by with_reducible assumption) ?_ (by first | (simp; done) | (simp; omega) | omega))))); rintro e w1 ⟨⟨v1, rfl, rfl⟩, hb1⟩; (obtain ⟨hc1, hf1⟩ := bcell hb1); (have hs1 := hb1.size); (try simp at hs1); (have hz1_0 : w.heap.size < w1.heap.size := by omega))
        | (go_at_call 109; (with_reducible refine (HW2.out _).mono ?_); rintro e w2 ⟨⟨v2, rfl, rfl⟩, hb2⟩; (obtain ⟨hc2, hf2⟩ := bcell hb2); (have hs2 := hb2.size); (try simp at hs2); (have hz2_0 : w.heap.size < w2.heap.size := by omega)))
      go_ret2
      exact RetB.mk (HP.out _) (by repeat (first | (with_reducible assumption) | exact Below.refl _ _ | (with_reducible refine Below.setCell ?_ (by first | (simp; done) | (simp; omega) | omega) _) | (with_reducible refine Below.alloc ?_ (by first | (simp; done) | (simp; omega) | omega) _) | (with_reducible refine below_drewN' ?_ _) | (with_reducible refine Below.drew ?_) | (refine below_after (by with_reducible assumption) ?_ (by first | (simp; done) | (simp; omega) | omega))))
    · have hg : goodB i = false := by simpa using hg
      have HP := Lib.hid (show ∀ W, WordP i (.tuple #[.int .i64 0, .int .i64 2]) W by intro W; unfold WordP; rw [if_neg (by rw [hg]; decide)])
      have HW2 := Lib.hid (fun (W : World) => (HW.out W).mono (R' := RetB W fun v _ => v = .tuple #[.int .i64 0, .int .i64 2]) (by
        rintro e w' ⟨⟨v, rfl, hv⟩, hb⟩; exact ⟨⟨v, rfl, by unfold WordP at hv; rwa [if_neg (by rw [hg]; decide)] at hv⟩, hb⟩))
      clear hg
      go_wp2_with (first
        | (go_at_call 102; (with_reducible refine (HS.out _ ?_).mono ?_); (· exact (HV.out).below (by repeat (first | (with_reducible assumption) | exact Below.refl _ _ | (with_reducible refine Below.setCell ?_ (by first | (simp; done) | (simp; omega) | omega) _) | (with_reducible refine Below.alloc ?_ (by first | (simp; done) | (simp; omega) | omega) _) | (with_reducible refine below_drewN' ?_ _) | (with_reducible refine Below.drew ?_) | (refine below_after (by with_reducible assumption) ?_ (by first | (simp; done) | (simp; omega) | omega))))); rintro e w1 ⟨⟨v1, rfl, rfl⟩, hb1⟩; (obtain ⟨hc1, hf1⟩ := bcell hb1); (have hs1 := hb1.size); (try simp at hs1); (have hz1_0 : w.heap.size < w1.heap.size := by omega))
        | (go_at_call 109; (with_reducible refine (HW2.out _).mono ?_); rintro e w2 ⟨⟨v2, rfl, rfl⟩, hb2⟩; (obtain ⟨hc2, hf2⟩ := bcell hb2); (have hs2 := hb2.size); (try simp at hs2); (have hz2_0 : w.heap.size < w2.heap.size := by omega)))
      go_ret2
      exact RetB.mk (HP.out _) (by repeat (first | (with_reducible assumption) | exact Below.refl _ _ | (with_reducible refine Below.setCell ?_ (by first | (simp; done) | (simp; omega) | omega) _) | (with_reducible refine Below.alloc ?_ (by first | (simp; done) | (simp; omega) | omega) _) | (with_reducible refine below_drewN' ?_ _) | (with_reducible refine Below.drew ?_) | (refine below_after (by with_reducible assumption) ?_ (by first | (simp; done) | (simp; omega) | omega))))
  · have HS := Lib.hid (fun (W : World) (h : IntAt W (.agg #[.bool (decide (i < 0)), .slice A n c]) i) => (small_any _ i W h hs).mono (R' := RetB W fun v _ => v = .tuple #[.int .i64 0, .bool false]) (by
      rintro e w' ⟨⟨v, rfl, hv⟩, hb⟩; exact ⟨⟨v, rfl, by unfold SmallP at hv; rwa [if_neg hi] at hv⟩, hb⟩))
    have hg : goodB i = false := by
      cases h : goodB i with
      | false => rfl
      | true => exact absurd (goodB_i64 h) hi
    have HP := Lib.hid (show ∀ W, WordP i (.tuple #[.int .i64 0, .int .i64 2]) W by intro W; unfold WordP; rw [if_neg (by rw [hg]; decide)])
    clear hs hi hg
    go_enter Try.func61, Try.ntmps61
    go_wp2_with (go_at_call 102; (with_reducible refine (HS.out _ ?_).mono ?_); (· exact (HV.out).below (by repeat (first | (with_reducible assumption) | exact Below.refl _ _ | (with_reducible refine Below.setCell ?_ (by first | (simp; done) | (simp; omega) | omega) _) | (with_reducible refine Below.alloc ?_ (by first | (simp; done) | (simp; omega) | omega) _) | (with_reducible refine below_drewN' ?_ _) | (with_reducible refine Below.drew ?_) | (refine below_after (by with_reducible assumption) ?_ (by first | (simp; done) | (simp; omega) | omega))))); rintro e w1 ⟨⟨v1, rfl, rfl⟩, hb1⟩; (obtain ⟨hc1, hf1⟩ := bcell hb1); (have hs1 := hb1.size); (try simp at hs1); (have hz1_0 : w.heap.size < w1.heap.size := by omega))
    go_ret2
    exact RetB.mk (HP.out _) (by repeat (first | (with_reducible assumption) | exact Below.refl _ _ | (with_reducible refine Below.setCell ?_ (by first | (simp; done) | (simp; omega) | omega) _) | (with_reducible refine Below.alloc ?_ (by first | (simp; done) | (simp; omega) | omega) _) | (with_reducible refine below_drewN' ?_ _) | (with_reducible refine Below.drew ?_) | (refine below_after (by with_reducible assumption) ?_ (by first | (simp; done) | (simp; omega) | omega))))
end Go.Proofs.Ytcabnnfhcolcfaa
