/- The walk of QuatUnits. -/
import Derived.Test.YtcabnnfhcolcfaaL2
namespace Go.Proofs.Ytcabnnfhcolcfaa
set_option linter.unusedSimpArgs false
set_option linter.unusedVariables false
open Go.RowKit

/-- The slice at A, of length n, holds elements of m int64s each. -/
def Cut (m : Nat) (w : World) (A : Option Addr) (n : Nat) (f : Nat → Nat → Int) : Prop :=
  0 < n → ∃ g o, A = some ⟨g, o, none⟩ ∧ ∀ j, j < n → ∀ c, c < m → w.cell? ⟨g, o + j * m + c, none⟩ = some (.int .i64 (f j c))
theorem Cut.below {m : Nat} {w w' : World} {A : Option Addr} {n : Nat} {f : Nat → Nat → Int} (h : Cut m w A n f) (hb : Below w.heap.size w w') : Cut m w' A n f := fun h0 => by
  obtain ⟨g, o, e, k⟩ := h h0
  exact ⟨g, o, e, fun j hj c hc => cell_below hb (k j hj c hc)⟩
set_option maxRecDepth 20000 in
theorem MBox.made14 {W : World} {g : Nat} (hg : W.heap.size = g) (q : Nat → Int) (T : TypeId) : MBox (W.alloc (.cells #[.int .i64 (q 0), .int .i64 (q 1), .int .i64 (q 2), .int .i64 (q 3), .int .i64 (q 4), .int .i64 (q 5), .int .i64 (q 6), .int .i64 (q 7), .int .i64 (q 8), .int .i64 (q 9), .int .i64 (q 10), .int .i64 (q 11), .int .i64 (q 12), .int .i64 (q 13)] T)) g 14 q := by
  subst hg
  refine ⟨by simp, fun j hj => ?_, fun j => by go_simp⟩
  match j, hj with
  | 0, _ => go_simp
  | 1, _ => go_simp
  | 2, _ => go_simp
  | 3, _ => go_simp
  | 4, _ => go_simp
  | 5, _ => go_simp
  | 6, _ => go_simp
  | 7, _ => go_simp
  | 8, _ => go_simp
  | 9, _ => go_simp
  | 10, _ => go_simp
  | 11, _ => go_simp
  | 12, _ => go_simp
  | 13, _ => go_simp
theorem mayQ_is (q : Q4) (b : Bool) (h : goodQ q = b) (w : World) : Calls Try.prog 18 #[quatQ q] w (RetB w fun r _ => r = .bool b) := h ▸ mayQ_any q w
set_option maxHeartbeats 8000000 in
set_option maxRecDepth 100000 in
theorem quat_units_any (A : Option Addr) (n c : Nat) (f : Nat → Nat → Int) (w : World) (hn : n ≤ 9223372036854775807) (hr : Cut 14 w A n f) :
    Calls Try.prog 5 #[.slice A n c] w (RetB w fun r _ => r = .bool true) := by
  have HR := Lib.hid hr
  have HWK := Lib.hid (fun (W : World) => wakes4_any W)
  have HNUM := Lib.hid (fun (e : Int) (W : World) => num4 e W)
  clear hr
  go_enter Try.func5, Try.ntmps5
  go_wp2
  go_loopw [3] (fun i wr => ∃ k : Nat, k ≤ 12 ∧ k ≤ n ∧ i = .int .i64 k ∧ Hid (Below w.heap.size w wr)) (fun i _ => 12 - (intOf i).toNat)
  case atStart => exact ⟨0, by omega, by omega, rfl, Lib.hid (by repeat (first | (with_reducible assumption) | exact Below.refl _ _ | (with_reducible refine Below.setCell ?_ (by first | (simp; done) | (simp; omega) | omega) _) | (with_reducible refine Below.alloc ?_ (by first | (simp; done) | (simp; omega) | omega) _) | (with_reducible refine below_drewN' ?_ _) | (with_reducible refine Below.drew ?_) | (refine below_after (by with_reducible assumption) ?_ (by first | (simp; done) | (simp; omega) | omega))))⟩
  case round =>
    obtain ⟨k, hk, hkn, rfl, BE⟩ := hrel
    by_cases hlt : k < n
    · by_cases hl2 : k < 12
      · obtain ⟨g, o, rfl, hcell⟩ := HR.out (by omega)
        obtain ⟨x, hx⟩ : ∃ x, f k = x := ⟨_, rfl⟩
        have HC := hcell k hlt
        rw [hx] at HC
        have bes := BE.out.size
        have c0 := cell_below BE.out (HC 0 (by omega))
        have c1 := cell_below BE.out (HC 1 (by omega))
        have c2 := cell_below BE.out (HC 2 (by omega))
        have c3 := cell_below BE.out (HC 3 (by omega))
        have c4 := cell_below BE.out (HC 4 (by omega))
        have c5 := cell_below BE.out (HC 5 (by omega))
        have c6 := cell_below BE.out (HC 6 (by omega))
        have c7 := cell_below BE.out (HC 7 (by omega))
        have c8 := cell_below BE.out (HC 8 (by omega))
        have c9 := cell_below BE.out (HC 9 (by omega))
        have c10 := cell_below BE.out (HC 10 (by omega))
        have c11 := cell_below BE.out (HC 11 (by omega))
        have c12 := cell_below BE.out (HC 12 (by omega))
        have c13 := cell_below BE.out (HC 13 (by omega))
        rw [Nat.add_zero] at c0
        have kd : (0 : Int) ≤ (k : Int) := by omega
        have kd2 : (k : Int) < (n : Int) := by omega
        have kd3 : (k : Int) < 12 := by omega
        clear hcell HC hx HR
        go_upto_region 5 with fail
        have MB := Lib.hid (MBox.made14 (W := wr) rfl x 42)
        have BE4 := Lib.hid (show Below w.heap.size w (wr.alloc (.cells #[.int .i64 (x 0), .int .i64 (x 1), .int .i64 (x 2), .int .i64 (x 3), .int .i64 (x 4), .int .i64 (x 5), .int .i64 (x 6), .int .i64 (x 7), .int .i64 (x 8), .int .i64 (x 9), .int .i64 (x 10), .int .i64 (x 11), .int .i64 (x 12), .int .i64 (x 13)] 42)) from BE.out.alloc bes _)
        obtain ⟨g4, hg4⟩ : ∃ g, wr.heap.size = g := ⟨_, rfl⟩
        obtain ⟨W4, hW4⟩ : ∃ W, wr.alloc (.cells #[.int .i64 (x 0), .int .i64 (x 1), .int .i64 (x 2), .int .i64 (x 3), .int .i64 (x 4), .int .i64 (x 5), .int .i64 (x 6), .int .i64 (x 7), .int .i64 (x 8), .int .i64 (x 9), .int .i64 (x 10), .int .i64 (x 11), .int .i64 (x 12), .int .i64 (x 13)] 42) = W := ⟨_, rfl⟩
        rw [hW4] at MB BE4
        rw [hg4] at MB
        rw [hg4, hW4]
        have bes := BE4.out.size
        clear hg4 hW4 BE c0 c1 c2 c3 c4 c5 c6 c7 c8 c9 c10 c11 c12 c13
        have m0 := MB.out.c 0 (by omega)
        have m1 := MB.out.c 1 (by omega)
        have m2 := MB.out.c 2 (by omega)
        have m3 := MB.out.c 3 (by omega)
        have m4 := MB.out.c 4 (by omega)
        have m5 := MB.out.c 5 (by omega)
        have m6 := MB.out.c 6 (by omega)
        have m7 := MB.out.c 7 (by omega)
        obtain ⟨gp, hgp⟩ : ∃ b, goodQ ⟨x 0, x 1, x 2, x 3⟩ = b := ⟨_, rfl⟩
        obtain ⟨gq, hgq⟩ : ∃ b, goodQ ⟨x 4, x 5, x 6, x 7⟩ = b := ⟨_, rfl⟩
        have HM1 := Lib.hid (show ∀ W : World, Calls Try.prog 18 #[.agg #[.int .i64 (x 0), .int .i64 (x 1), .int .i64 (x 2), .int .i64 (x 3)]] W (RetB W fun r _ => r = .bool gp) from fun W => mayQ_is ⟨x 0, x 1, x 2, x 3⟩ gp hgp W)
        have HM2 := Lib.hid (show ∀ W : World, Calls Try.prog 18 #[.agg #[.int .i64 (x 4), .int .i64 (x 5), .int .i64 (x 6), .int .i64 (x 7)]] W (RetB W fun r _ => r = .bool gq) from fun W => mayQ_is ⟨x 4, x 5, x 6, x 7⟩ gq hgq W)
        cases gp
        · clear HM2 hgp hgq
          go_wp2_with (go_at_call 18; (with_reducible refine (HM1.out _).mono ?_); rintro e w1 ⟨⟨v1, rfl, rfl⟩, hb1⟩; (obtain ⟨hc1, hf1⟩ := bcell hb1); (have hs1 := hb1.size); (try simp at hs1); ((have a0 := (MB.out.later hb1).c 0 (by omega)); (have a1 := (MB.out.later hb1).c 1 (by omega)); (have a2 := (MB.out.later hb1).c 2 (by omega)); (have a3 := (MB.out.later hb1).c 3 (by omega)); (have a4 := (MB.out.later hb1).c 4 (by omega)); (have a5 := (MB.out.later hb1).c 5 (by omega)); (have a6 := (MB.out.later hb1).c 6 (by omega)); (have a7 := (MB.out.later hb1).c 7 (by omega)); clear hc1 hf1))
          go_roundw
          case rel => exact ⟨k + 1, by omega, by omega, by go_num, Lib.hid (below_after hb1 BE4.out bes)⟩
          case measure => simp [intOf]; omega
        cases gq
        · clear hgp hgq
          go_wp2_with (first | (go_at_call 18; (with_reducible refine (HM1.out _).mono ?_); rintro e w1 ⟨⟨v1, rfl, rfl⟩, hb1⟩; (obtain ⟨hc1, hf1⟩ := bcell hb1); (have hs1 := hb1.size); (try simp at hs1); ((have a0 := (MB.out.later hb1).c 0 (by omega)); (have a1 := (MB.out.later hb1).c 1 (by omega)); (have a2 := (MB.out.later hb1).c 2 (by omega)); (have a3 := (MB.out.later hb1).c 3 (by omega)); (have a4 := (MB.out.later hb1).c 4 (by omega)); (have a5 := (MB.out.later hb1).c 5 (by omega)); (have a6 := (MB.out.later hb1).c 6 (by omega)); (have a7 := (MB.out.later hb1).c 7 (by omega)); clear hc1 hf1)) | (go_at_call 18; (with_reducible refine (HM2.out _).mono ?_); rintro e w2 ⟨⟨v2, rfl, rfl⟩, hb2⟩; (obtain ⟨hc2, hf2⟩ := bcell hb2); (have hs2 := hb2.size); (try simp at hs2); ((have b0 := ((MB.out.later hb1).later hb2).c 0 (by omega)); (have b1 := ((MB.out.later hb1).later hb2).c 1 (by omega)); (have b2 := ((MB.out.later hb1).later hb2).c 2 (by omega)); (have b3 := ((MB.out.later hb1).later hb2).c 3 (by omega)); (have b4 := ((MB.out.later hb1).later hb2).c 4 (by omega)); (have b5 := ((MB.out.later hb1).later hb2).c 5 (by omega)); (have b6 := ((MB.out.later hb1).later hb2).c 6 (by omega)); (have b7 := ((MB.out.later hb1).later hb2).c 7 (by omega)); clear hc2 hf2)))
          go_roundw
          case rel => exact ⟨k + 1, by omega, by omega, by go_num, Lib.hid (below_after hb2 (below_after hb1 BE4.out bes) (by have := BE4.out.size; omega))⟩
          case measure => simp [intOf]; omega
        by_cases hzp : zeroQ ⟨x 0, x 1, x 2, x 3⟩
        · have HEP := fun (W : World) => show (binOp .eql 38 (.agg #[.int .i64 (x 0), .int .i64 (x 1), .int .i64 (x 2), .int .i64 (x 3)]) (.agg #[.int .i64 0, .int .i64 0, .int .i64 0, .int .i64 0])).run Try.prog W = .ok (.bool true) W from by rw [eqlq, decide_eq_true (show x 0 = 0 ∧ x 1 = 0 ∧ x 2 = 0 ∧ x 3 = 0 from hzp)]
          clear hgp hgq hzp
          go_wp2_with (first | (go_at_call 18; (with_reducible refine (HM1.out _).mono ?_); rintro e w1 ⟨⟨v1, rfl, rfl⟩, hb1⟩; (obtain ⟨hc1, hf1⟩ := bcell hb1); (have hs1 := hb1.size); (try simp at hs1); ((have a0 := (MB.out.later hb1).c 0 (by omega)); (have a1 := (MB.out.later hb1).c 1 (by omega)); (have a2 := (MB.out.later hb1).c 2 (by omega)); (have a3 := (MB.out.later hb1).c 3 (by omega)); (have a4 := (MB.out.later hb1).c 4 (by omega)); (have a5 := (MB.out.later hb1).c 5 (by omega)); (have a6 := (MB.out.later hb1).c 6 (by omega)); (have a7 := (MB.out.later hb1).c 7 (by omega)); clear hc1 hf1)) | (go_at_call 18; (with_reducible refine (HM2.out _).mono ?_); rintro e w2 ⟨⟨v2, rfl, rfl⟩, hb2⟩; (obtain ⟨hc2, hf2⟩ := bcell hb2); (have hs2 := hb2.size); (try simp at hs2); ((have b0 := ((MB.out.later hb1).later hb2).c 0 (by omega)); (have b1 := ((MB.out.later hb1).later hb2).c 1 (by omega)); (have b2 := ((MB.out.later hb1).later hb2).c 2 (by omega)); (have b3 := ((MB.out.later hb1).later hb2).c 3 (by omega)); (have b4 := ((MB.out.later hb1).later hb2).c 4 (by omega)); (have b5 := ((MB.out.later hb1).later hb2).c 5 (by omega)); (have b6 := ((MB.out.later hb1).later hb2).c 6 (by omega)); (have b7 := ((MB.out.later hb1).later hb2).c 7 (by omega)); clear hc2 hf2)))
          go_roundw
          case rel => exact ⟨k + 1, by omega, by omega, by go_num, Lib.hid (below_after hb2 (below_after hb1 BE4.out bes) (by have := BE4.out.size; omega))⟩
          case measure => simp [intOf]; omega
        have HEP := fun (W : World) => show (binOp .eql 38 (.agg #[.int .i64 (x 0), .int .i64 (x 1), .int .i64 (x 2), .int .i64 (x 3)]) (.agg #[.int .i64 0, .int .i64 0, .int .i64 0, .int .i64 0])).run Try.prog W = .ok (.bool false) W from by rw [eqlq, decide_eq_false (show ¬ (x 0 = 0 ∧ x 1 = 0 ∧ x 2 = 0 ∧ x 3 = 0) from hzp)]
        by_cases hzq : zeroQ ⟨x 4, x 5, x 6, x 7⟩
        · have HEQ := fun (W : World) => show (binOp .eql 38 (.agg #[.int .i64 (x 4), .int .i64 (x 5), .int .i64 (x 6), .int .i64 (x 7)]) (.agg #[.int .i64 0, .int .i64 0, .int .i64 0, .int .i64 0])).run Try.prog W = .ok (.bool true) W from by rw [eqlq, decide_eq_true (show x 4 = 0 ∧ x 5 = 0 ∧ x 6 = 0 ∧ x 7 = 0 from hzq)]
          clear hgp hgq hzp hzq
          go_wp2_with (first | (go_at_call 18; (with_reducible refine (HM1.out _).mono ?_); rintro e w1 ⟨⟨v1, rfl, rfl⟩, hb1⟩; (obtain ⟨hc1, hf1⟩ := bcell hb1); (have hs1 := hb1.size); (try simp at hs1); ((have a0 := (MB.out.later hb1).c 0 (by omega)); (have a1 := (MB.out.later hb1).c 1 (by omega)); (have a2 := (MB.out.later hb1).c 2 (by omega)); (have a3 := (MB.out.later hb1).c 3 (by omega)); (have a4 := (MB.out.later hb1).c 4 (by omega)); (have a5 := (MB.out.later hb1).c 5 (by omega)); (have a6 := (MB.out.later hb1).c 6 (by omega)); (have a7 := (MB.out.later hb1).c 7 (by omega)); clear hc1 hf1)) | (go_at_call 18; (with_reducible refine (HM2.out _).mono ?_); rintro e w2 ⟨⟨v2, rfl, rfl⟩, hb2⟩; (obtain ⟨hc2, hf2⟩ := bcell hb2); (have hs2 := hb2.size); (try simp at hs2); ((have b0 := ((MB.out.later hb1).later hb2).c 0 (by omega)); (have b1 := ((MB.out.later hb1).later hb2).c 1 (by omega)); (have b2 := ((MB.out.later hb1).later hb2).c 2 (by omega)); (have b3 := ((MB.out.later hb1).later hb2).c 3 (by omega)); (have b4 := ((MB.out.later hb1).later hb2).c 4 (by omega)); (have b5 := ((MB.out.later hb1).later hb2).c 5 (by omega)); (have b6 := ((MB.out.later hb1).later hb2).c 6 (by omega)); (have b7 := ((MB.out.later hb1).later hb2).c 7 (by omega)); clear hc2 hf2)))
          go_roundw
          case rel => exact ⟨k + 1, by omega, by omega, by go_num, Lib.hid (below_after hb2 (below_after hb1 BE4.out bes) (by have := BE4.out.size; omega))⟩
          case measure => simp [intOf]; omega
        have HEQ := fun (W : World) => show (binOp .eql 38 (.agg #[.int .i64 (x 4), .int .i64 (x 5), .int .i64 (x 6), .int .i64 (x 7)]) (.agg #[.int .i64 0, .int .i64 0, .int .i64 0, .int .i64 0])).run Try.prog W = .ok (.bool false) W from by rw [eqlq, decide_eq_false (show ¬ (x 4 = 0 ∧ x 5 = 0 ∧ x 6 = 0 ∧ x 7 = 0) from hzq)]
        have pp := nm_pos hzp
        have pq := nm_pos hzq
        have HU1 := Lib.hid (fun W : World => qunit_any ⟨x 0, x 1, x 2, x 3⟩ W hgp hzp)
        have HU2 := Lib.hid (fun W : World => qunit_any ⟨x 4, x 5, x 6, x 7⟩ W hgq hzq)
        have gu := unit_good _ pp
        have gv := unit_good _ pq
        obtain ⟨nn, hnn⟩ : ∃ nn, rnd (Q4.unit ⟨x 0, x 1, x 2, x 3⟩).nm (2 ^ 30) = nn := ⟨_, rfl⟩
        obtain ⟨m, hm⟩ : ∃ m, rnd ((Q4.unit ⟨x 0, x 1, x 2, x 3⟩).prod (Q4.unit ⟨x 4, x 5, x 6, x 7⟩)).nm (2 ^ 30) = m := ⟨_, rfl⟩
        have bn := unit_word _ pp nn hnn
        have ⟨gr, bm⟩ := prod_word _ _ pp pq m hm
        obtain ⟨u, hu⟩ : ∃ u, Q4.unit ⟨x 0, x 1, x 2, x 3⟩ = u := ⟨_, rfl⟩
        obtain ⟨v, hv⟩ : ∃ v, Q4.unit ⟨x 4, x 5, x 6, x 7⟩ = v := ⟨_, rfl⟩
        rw [hu] at HU1 gu hnn hm gr
        rw [hv] at HU2 gv hm gr
        obtain ⟨r, hr⟩ : ∃ r, u.prod v = r := ⟨_, rfl⟩
        rw [hr] at hm gr
        have HP := Lib.hid (fun W : World => mul_good u v r W gu gv hr gr)
        have HN1 := Lib.hid (fun W : World => norm_word u nn W gu hnn (word_good bn (by omega)))
        have HN2 := Lib.hid (fun W : World => norm_word r m W gr hm (word_good bm (by omega)))
        have HJ := Lib.hid (fun W : World => conj_any u W gu)
        have hw : u.prod u.conj = ⟨nn, 0, 0, 0⟩ := hnn ▸ whole_word u
        have gj := conj_good gu
        obtain ⟨j, hj⟩ : ∃ j, u.conj = j := ⟨_, rfl⟩
        rw [hj] at HJ hw gj
        have HP2 := Lib.hid (fun W : World => mul_good u j ⟨nn, 0, 0, 0⟩ W gu gj hw ((goodQ_iff _).2 ⟨by unfold Wd; simp only; omega, by unfold Wd; simp only; omega, by unfold Wd; simp only; omega, by unfold Wd; simp only; omega⟩))
        clear hj hw gj hr gr gu gv hu hv hm hnn pp pq hzp hzq hgp hgq
        cases u with
        | mk u0 u1 u2 u3 =>
        cases v with
        | mk v0 v1 v2 v3 =>
        cases r with
        | mk r0 r1 r2 r3 =>
        cases j with
        | mk j0 j1 j2 j3 =>
        have HU1 := Lib.hid (show ∀ W : World, Calls Try.prog 19 #[.agg #[.int .i64 (x 0), .int .i64 (x 1), .int .i64 (x 2), .int .i64 (x 3)]] W (RetB W fun r _ => r = .tuple #[.agg #[.int .i64 u0, .int .i64 u1, .int .i64 u2, .int .i64 u3], .int .i64 0]) from HU1.out)
        have HU2 := Lib.hid (show ∀ W : World, Calls Try.prog 19 #[.agg #[.int .i64 (x 4), .int .i64 (x 5), .int .i64 (x 6), .int .i64 (x 7)]] W (RetB W fun r _ => r = .tuple #[.agg #[.int .i64 v0, .int .i64 v1, .int .i64 v2, .int .i64 v3], .int .i64 0]) from HU2.out)
        have HP := Lib.hid (show ∀ W : World, Calls Try.prog 20 #[.agg #[.int .i64 u0, .int .i64 u1, .int .i64 u2, .int .i64 u3], .agg #[.int .i64 v0, .int .i64 v1, .int .i64 v2, .int .i64 v3]] W (RetB W fun r _ => r = .tuple #[.agg #[.int .i64 r0, .int .i64 r1, .int .i64 r2, .int .i64 r3], .int .i64 0]) from HP.out)
        have HN1 := Lib.hid (show ∀ W : World, Calls Try.prog 21 #[.agg #[.int .i64 u0, .int .i64 u1, .int .i64 u2, .int .i64 u3]] W (RetB W fun r _ => r = .tuple #[.int .i64 nn, .int .i64 0]) from HN1.out)
        have HN2 := Lib.hid (show ∀ W : World, Calls Try.prog 21 #[.agg #[.int .i64 r0, .int .i64 r1, .int .i64 r2, .int .i64 r3]] W (RetB W fun r _ => r = .tuple #[.int .i64 m, .int .i64 0]) from HN2.out)
        have HJ := Lib.hid (show ∀ W : World, Calls Try.prog 23 #[.agg #[.int .i64 u0, .int .i64 u1, .int .i64 u2, .int .i64 u3]] W (RetB W fun r _ => r = .tuple #[.agg #[.int .i64 j0, .int .i64 j1, .int .i64 j2, .int .i64 j3], .int .i64 0]) from HJ.out)
        have HP2 := Lib.hid (show ∀ W : World, Calls Try.prog 20 #[.agg #[.int .i64 u0, .int .i64 u1, .int .i64 u2, .int .i64 u3], .agg #[.int .i64 j0, .int .i64 j1, .int .i64 j2, .int .i64 j3]] W (RetB W fun r _ => r = .tuple #[.agg #[.int .i64 nn, .int .i64 0, .int .i64 0, .int .i64 0], .int .i64 0]) from HP2.out)
        go_upto_region 6 with (first | (go_at_call 18; (with_reducible refine (HM1.out _).mono ?_); rintro e w1 ⟨⟨v1, rfl, rfl⟩, hb1⟩; (obtain ⟨hc1, hf1⟩ := bcell hb1); (have hs1 := hb1.size); (try simp at hs1); ((have a0 := (MB.out.later hb1).c 0 (by omega)); (have a1 := (MB.out.later hb1).c 1 (by omega)); (have a2 := (MB.out.later hb1).c 2 (by omega)); (have a3 := (MB.out.later hb1).c 3 (by omega)); (have a4 := (MB.out.later hb1).c 4 (by omega)); (have a5 := (MB.out.later hb1).c 5 (by omega)); (have a6 := (MB.out.later hb1).c 6 (by omega)); (have a7 := (MB.out.later hb1).c 7 (by omega)); clear hc1 hf1)) | (go_at_call 18; (with_reducible refine (HM2.out _).mono ?_); rintro e w2 ⟨⟨v2, rfl, rfl⟩, hb2⟩; (obtain ⟨hc2, hf2⟩ := bcell hb2); (have hs2 := hb2.size); (try simp at hs2); ((have b0 := ((MB.out.later hb1).later hb2).c 0 (by omega)); (have b1 := ((MB.out.later hb1).later hb2).c 1 (by omega)); (have b2 := ((MB.out.later hb1).later hb2).c 2 (by omega)); (have b3 := ((MB.out.later hb1).later hb2).c 3 (by omega)); (have b4 := ((MB.out.later hb1).later hb2).c 4 (by omega)); (have b5 := ((MB.out.later hb1).later hb2).c 5 (by omega)); (have b6 := ((MB.out.later hb1).later hb2).c 6 (by omega)); (have b7 := ((MB.out.later hb1).later hb2).c 7 (by omega)); clear hc2 hf2)))
        have MB := Lib.hid ((MB.out.later hb1).later hb2)
        have BE4 := Lib.hid (below_after hb2 (below_after hb1 BE4.out bes) (by have := BE4.out.size; omega))
        have bes := BE4.out.size
        clear hs1 hs2 HM1 HM2 HEP HEQ hb1 hb2 m0 m1 m2 m3 m4 m5 m6 m7 a0 a1 a2 a3 a4 a5 a6 a7 b0 b1 b2 b3 b4 b5 b6 b7
        have m0 := MB.out.c 0 (by omega)
        have m1 := MB.out.c 1 (by omega)
        have m2 := MB.out.c 2 (by omega)
        have m3 := MB.out.c 3 (by omega)
        have m4 := MB.out.c 4 (by omega)
        have m5 := MB.out.c 5 (by omega)
        have m6 := MB.out.c 6 (by omega)
        have m7 := MB.out.c 7 (by omega)
        go_upto_region 7 with (go_at_call 19; (with_reducible refine (HU1.out _).mono ?_); rintro e w3 ⟨⟨v3, rfl, rfl⟩, hb3⟩; (obtain ⟨hc3, hf3⟩ := bcell hb3); (have hs3 := hb3.size); (try simp at hs3))
        clear m0 m1 m2 m3 m4 m5 m6 m7
        have MB := Lib.hid ((MB.out.later hb3).alloc (.cells #[.int .i64 u0, .int .i64 u1, .int .i64 u2, .int .i64 u3] 38))
        have JU : Hid (JBox (w3.alloc (.cells #[.int .i64 u0, .int .i64 u1, .int .i64 u2, .int .i64 u3] 38)) w3.heap.size (pick4 u0 u1 u2 u3)) := Lib.hid (JBox.made (W := w3) rfl (pick4 u0 u1 u2 u3) 38)
        have BE4 := Lib.hid (show Below w.heap.size w (w3.alloc (.cells #[.int .i64 u0, .int .i64 u1, .int .i64 u2, .int .i64 u3] 38)) from (below_after hb3 BE4.out bes).alloc (by have := BE4.out.size; omega) _)
        obtain ⟨g3, hg⟩ : ∃ g, w3.heap.size = g := ⟨_, rfl⟩
        obtain ⟨W3, hW⟩ : ∃ W, w3.alloc (.cells #[.int .i64 u0, .int .i64 u1, .int .i64 u2, .int .i64 u3] 38) = W := ⟨_, rfl⟩
        rw [hW] at JU BE4 MB
        rw [hg] at JU
        rw [hg, hW]
        clear hg hW hb3 hs3 hc3 hf3
        have bes := BE4.out.size
        have m0 := MB.out.c 0 (by omega)
        have m1 := MB.out.c 1 (by omega)
        have m2 := MB.out.c 2 (by omega)
        have m3 := MB.out.c 3 (by omega)
        have m4 := MB.out.c 4 (by omega)
        have m5 := MB.out.c 5 (by omega)
        have m6 := MB.out.c 6 (by omega)
        have m7 := MB.out.c 7 (by omega)
        go_upto_region 8 with (go_at_call 19; (with_reducible refine (HU2.out _).mono ?_); rintro e w4 ⟨⟨v4, rfl, rfl⟩, hb4⟩; (obtain ⟨hc4, hf4⟩ := bcell hb4); (have hs4 := hb4.size); (try simp at hs4))
        clear m0 m1 m2 m3 m4 m5 m6 m7
        have JU := Lib.hid ((JU.out.later hb4).alloc (.cells #[.int .i64 v0, .int .i64 v1, .int .i64 v2, .int .i64 v3] 38))
        have JV : Hid (JBox (w4.alloc (.cells #[.int .i64 v0, .int .i64 v1, .int .i64 v2, .int .i64 v3] 38)) w4.heap.size (pick4 v0 v1 v2 v3)) := Lib.hid (JBox.made (W := w4) rfl (pick4 v0 v1 v2 v3) 38)
        have BE4 := Lib.hid (show Below w.heap.size w (w4.alloc (.cells #[.int .i64 v0, .int .i64 v1, .int .i64 v2, .int .i64 v3] 38)) from (below_after hb4 BE4.out bes).alloc (by have := BE4.out.size; omega) _)
        obtain ⟨g4, hg⟩ : ∃ g, w4.heap.size = g := ⟨_, rfl⟩
        obtain ⟨W4, hW⟩ : ∃ W, w4.alloc (.cells #[.int .i64 v0, .int .i64 v1, .int .i64 v2, .int .i64 v3] 38) = W := ⟨_, rfl⟩
        rw [hW] at JV BE4 JU
        rw [hg] at JV
        rw [hg, hW]
        clear hg hW hb4 hs4 hc4 hf4
        have bes := BE4.out.size
        obtain ⟨p0, p1, p2, p3⟩ := JU.out.at4
        obtain ⟨q0, q1, q2, q3⟩ := JV.out.at4
        go_upto_region 9 with (go_at_call 20; (with_reducible refine (HP.out _).mono ?_); rintro e w5 ⟨⟨v5, rfl, rfl⟩, hb5⟩; (obtain ⟨hc5, hf5⟩ := bcell hb5); (have hs5 := hb5.size); (try simp at hs5))
        clear p0 p1 p2 p3 q0 q1 q2 q3
        have JU := Lib.hid ((JU.out.later hb5).alloc (.cells #[.int .i64 r0, .int .i64 r1, .int .i64 r2, .int .i64 r3] 38))
        have JR : Hid (JBox (w5.alloc (.cells #[.int .i64 r0, .int .i64 r1, .int .i64 r2, .int .i64 r3] 38)) w5.heap.size (pick4 r0 r1 r2 r3)) := Lib.hid (JBox.made (W := w5) rfl (pick4 r0 r1 r2 r3) 38)
        have BE4 := Lib.hid (show Below w.heap.size w (w5.alloc (.cells #[.int .i64 r0, .int .i64 r1, .int .i64 r2, .int .i64 r3] 38)) from (below_after hb5 BE4.out bes).alloc (by have := BE4.out.size; omega) _)
        obtain ⟨g5, hg⟩ : ∃ g, w5.heap.size = g := ⟨_, rfl⟩
        obtain ⟨W5, hW⟩ : ∃ W, w5.alloc (.cells #[.int .i64 r0, .int .i64 r1, .int .i64 r2, .int .i64 r3] 38) = W := ⟨_, rfl⟩
        rw [hW] at JR BE4 JU
        rw [hg] at JR
        rw [hg, hW]
        clear hg hW hb5 hs5 hc5 hf5
        have bes := BE4.out.size
        obtain ⟨p0, p1, p2, p3⟩ := JU.out.at4
        go_upto_region 10 with (go_at_call 21; (with_reducible refine (HN1.out _).mono ?_); rintro e w6 ⟨⟨v6, rfl, rfl⟩, hb6⟩; (obtain ⟨hc6, hf6⟩ := bcell hb6); (have hs6 := hb6.size); (try simp at hs6))
        clear p0 p1 p2 p3
        have JU := Lib.hid (JU.out.later hb6)
        have JR := Lib.hid (JR.out.later hb6)
        have BE4 := Lib.hid (below_after hb6 BE4.out bes)
        clear hs6 hc6 hf6
        have bes := BE4.out.size
        obtain ⟨p0, p1, p2, p3⟩ := JR.out.at4
        go_upto_region 11 with (go_at_call 21; (with_reducible refine (HN2.out _).mono ?_); rintro e w7 ⟨⟨v7, rfl, rfl⟩, hb7⟩; (obtain ⟨hc7, hf7⟩ := bcell hb7); (have hs7 := hb7.size); (try simp at hs7))
        clear p0 p1 p2 p3
        have JU := Lib.hid (JU.out.later hb7)
        have BE4 := Lib.hid (below_after hb7 BE4.out bes)
        clear hs7 hc7 hf7
        have bes := BE4.out.size
        obtain ⟨p0, p1, p2, p3⟩ := JU.out.at4
        go_upto_region 13 with (go_at_call 22; (refine (HNUM.out _ _).mono ?_); rintro e w' ⟨⟨v, rfl, hv⟩, rfl⟩; (subst hv))
        go_upto_region 14 with (go_at_call 23; (with_reducible refine (HJ.out _).mono ?_); rintro e w8 ⟨⟨v8, rfl, rfl⟩, hb8⟩; (obtain ⟨hc8, hf8⟩ := bcell hb8); (have hs8 := hb8.size); (try simp at hs8))
        clear p0 p1 p2 p3
        have JU := Lib.hid ((JU.out.later hb8).alloc (.cells #[.int .i64 j0, .int .i64 j1, .int .i64 j2, .int .i64 j3] 38))
        have JJ : Hid (JBox (w8.alloc (.cells #[.int .i64 j0, .int .i64 j1, .int .i64 j2, .int .i64 j3] 38)) w8.heap.size (pick4 j0 j1 j2 j3)) := Lib.hid (JBox.made (W := w8) rfl (pick4 j0 j1 j2 j3) 38)
        have BE4 := Lib.hid (show Below w.heap.size w (w8.alloc (.cells #[.int .i64 j0, .int .i64 j1, .int .i64 j2, .int .i64 j3] 38)) from (below_after hb8 BE4.out bes).alloc (by have := BE4.out.size; omega) _)
        obtain ⟨g8, hg⟩ : ∃ g, w8.heap.size = g := ⟨_, rfl⟩
        obtain ⟨W8, hW⟩ : ∃ W, w8.alloc (.cells #[.int .i64 j0, .int .i64 j1, .int .i64 j2, .int .i64 j3] 38) = W := ⟨_, rfl⟩
        rw [hW] at JJ BE4 JU
        rw [hg] at JJ
        rw [hg, hW]
        clear hg hW hb8 hs8 hc8 hf8
        have bes := BE4.out.size
        obtain ⟨p0, p1, p2, p3⟩ := JU.out.at4
        obtain ⟨q0, q1, q2, q3⟩ := JJ.out.at4
        go_upto_region 15 with (go_at_call 20; (with_reducible refine (HP2.out _).mono ?_); rintro e w9 ⟨⟨v9, rfl, rfl⟩, hb9⟩; (obtain ⟨hc9, hf9⟩ := bcell hb9); (have hs9 := hb9.size); (try simp at hs9))
        clear p0 p1 p2 p3 q0 q1 q2 q3
        have JH : Hid (JBox (w9.alloc (.cells #[.int .i64 nn, .int .i64 0, .int .i64 0, .int .i64 0] 38)) w9.heap.size (pick4 nn 0 0 0)) := Lib.hid (JBox.made (W := w9) rfl (pick4 nn 0 0 0) 38)
        have BE4 := Lib.hid (show Below w.heap.size w (w9.alloc (.cells #[.int .i64 nn, .int .i64 0, .int .i64 0, .int .i64 0] 38)) from (below_after hb9 BE4.out bes).alloc (by have := BE4.out.size; omega) _)
        obtain ⟨g9, hg⟩ : ∃ g, w9.heap.size = g := ⟨_, rfl⟩
        obtain ⟨W9, hW⟩ : ∃ W, w9.alloc (.cells #[.int .i64 nn, .int .i64 0, .int .i64 0, .int .i64 0] 38) = W := ⟨_, rfl⟩
        rw [hW] at JH BE4
        rw [hg] at JH
        rw [hg, hW]
        clear hg hW hb9 hs9 hc9 hf9
        have bes := BE4.out.size
        obtain ⟨p0, p1, p2, p3⟩ := JH.out.at4
        go_wp2_with (go_at_call 22; (refine (HNUM.out _ _).mono ?_); rintro e w' ⟨⟨v, rfl, hv⟩, rfl⟩; (subst hv))
        go_roundw
        case rel => exact ⟨k + 1, by omega, by omega, by go_num, Lib.hid (BE4.out)⟩
        case measure => simp [intOf]; omega
      · have kd : (k : Int) = 12 := by omega
        have kd2 : (k : Int) < (n : Int) := by omega
        go_wp2_with (go_at_call 24; (with_reducible refine (HWK.out _).mono ?_); rintro e w1 ⟨⟨v1, rfl, rfl⟩, hb1⟩; (obtain ⟨hc1, hf1⟩ := bcell hb1); (have hs1 := hb1.size); (try simp at hs1))
        go_ret
        exact RetB.mk rfl (below_after hb1 BE.out BE.out.size)
    · have kd2 : (k : Int) = (n : Int) := by omega
      go_wp2_with (go_at_call 24; (with_reducible refine (HWK.out _).mono ?_); rintro e w1 ⟨⟨v1, rfl, rfl⟩, hb1⟩; (obtain ⟨hc1, hf1⟩ := bcell hb1); (have hs1 := hb1.size); (try simp at hs1))
      go_ret
      exact RetB.mk rfl (below_after hb1 BE.out BE.out.size)
end Go.Proofs.Ytcabnnfhcolcfaa
