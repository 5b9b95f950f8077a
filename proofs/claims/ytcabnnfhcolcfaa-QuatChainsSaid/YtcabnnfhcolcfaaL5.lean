/- The walk of QuatChains. -/
import Derived.Test.YtcabnnfhcolcfaaL3
import Derived.Test.YtcabnnfhcolcfaaL4
namespace Go.Proofs.Ytcabnnfhcolcfaa
set_option linter.unusedSimpArgs false
set_option linter.unusedVariables false
open Go.RowKit

theorem neqv (a b c : Int) (W : World) : (binOp .neq 40 (.agg #[.int .i64 a, .int .i64 b, .int .i64 c]) (.agg #[.int .i64 a, .int .i64 b, .int .i64 c])).run Try.prog W = .ok (.bool false) W := by
  go_simp
/-- The contract of a call that hands back a vector. -/
abbrev CV (f : Nat) (a : Array Value) (t : V3) (e : Int) : Prop := ∀ W : World, Calls Try.prog f a W (RetB W fun r _ => r = .tuple #[.agg #[.int .i64 t.x, .int .i64 t.y, .int .i64 t.z], .int .i64 e])
theorem nz_of {q : Q4} (h : 0 < q.nm) : ¬ zeroQ q := fun hz => by
  obtain ⟨h1, h2, h3, h4⟩ := hz
  simp only [Q4.nm, sq4, h1, h2, h3, h4] at h
  omega
theorem turn_good (q : Q4) (v t : V3) (hq : goodQ q = true) (hp : 0 < q.nm) (hv : goodV v = true) (ht : turnV q v = t) (hg : goodV t = true) (W : World) : Calls Try.prog 65 #[quatQ q, vecQ v] W (RetB W (VecT t 0)) := by
  have h := turn_any q v W hq hv (nz_of hp)
  rw [ht] at h
  rwa [show toldV t = t from by unfold toldV; rw [if_pos hg], show errV t = 0 from by unfold errV; rw [if_pos hg]] at h
theorem Turn_good (q : Q4) (v t : V3) (hq : goodQ q = true) (hp : 0 < q.nm) (hv : goodV v = true) (ht : turnV q v = t) (hg : goodV t = true) : CV 27 #[quatQ q, vecQ v] t 0 :=
  fun W => Turn_of q v t 0 W hq hv (turn_good q v t hq hp hv ht hg)
theorem Back_good (q : Q4) (v t : V3) (hq : goodQ q = true) (hp : 0 < q.nm) (hv : goodV v = true) (ht : turnV q.conj v = t) (hg : goodV t = true) : CV 29 #[quatQ q, vecQ v] t 0 :=
  fun W => Back_of q v t 0 W hq hv (turn_good q.conj v t (conj_good hq) (by rw [Q4.nm_conj]; exact hp) hv ht hg)
theorem sq_bd {a k : Int} (h1 : -k ≤ a) (h2 : a ≤ k) : a * a ≤ k * k := by
  have := Int.mul_nonneg (show 0 ≤ k - a by omega) (show 0 ≤ k + a by omega)
  grind
/-- Each number of v at most k. -/
def LeV (v : V3) (k : Int) : Prop := (-k ≤ v.x ∧ v.x ≤ k) ∧ (-k ≤ v.y ∧ v.y ≤ k) ∧ (-k ≤ v.z ∧ v.z ≤ k)
theorem LeV.good {v : V3} {k : Int} (h : LeV v k) (hk : k ≤ 2 ^ 40) : goodV v = true := by
  obtain ⟨h1, h2, h3⟩ := h
  exact (goodV_iff v).2 ⟨by unfold Wd; omega, by unfold Wd; omega, by unfold Wd; omega⟩
theorem LeV.sq {v : V3} {k : Int} (h : LeV v k) : v.x * v.x + v.y * v.y + v.z * v.z ≤ 3 * (k * k) := by
  obtain ⟨h1, h2, h3⟩ := h
  have := sq_bd h1.1 h1.2
  have := sq_bd h2.1 h2.2
  have := sq_bd h3.1 h3.2
  omega
theorem turn_le {q : Q4} {v : V3} {k : Int} (hp : 0 < q.nm) (h : LeV v k) (hk : 0 ≤ k) : LeV (turnV q v) (2 * k) := by
  have h1 := h.sq
  have h2 := turn_bd q v.x v.y v.z (2 * k) hp (by have e : 2 * k * (2 * k) = 4 * (k * k) := by grind
                                                  have := Int.mul_nonneg hk hk
                                                  omega) (by omega)
  exact h2
theorem broughtV_le (v : V3) : LeV (broughtV v 1073741824) 1073741824 := by
  have b := fun v => brought_bd v 1073741824 (by decide)
  exact ⟨b v.x, b v.y, b v.z⟩
/-- What QuatChains asks, in plain numbers. -/
theorem chains_plain (p q : Q4) (v : V3) (hp : p.one_ 2147483650) (hq : q.one_ 2147483650) (hv : LeV v 1073741824) : NearV (turnV (p.prod q) v) (turnV p (turnV q v)) 16 := by
  obtain ⟨h1, h2, h3⟩ := chain p q v.x v.y v.z hp hq (by have := hv.sq; omega)
  refine ⟨?_, ?_, ?_⟩
  · show -16 ≤ turnX (p.prod q) v.x v.y v.z - turnX p (turnX q v.x v.y v.z) (turnY q v.x v.y v.z) (turnZ q v.x v.y v.z) ∧ _ ≤ (16 : Int)
    exact ⟨by omega, by show turnX (p.prod q) v.x v.y v.z - turnX p (turnX q v.x v.y v.z) (turnY q v.x v.y v.z) (turnZ q v.x v.y v.z) ≤ 16; omega⟩
  · exact ⟨by show -16 ≤ turnY (p.prod q) v.x v.y v.z - turnY p (turnX q v.x v.y v.z) (turnY q v.x v.y v.z) (turnZ q v.x v.y v.z); omega, by show turnY (p.prod q) v.x v.y v.z - turnY p (turnX q v.x v.y v.z) (turnY q v.x v.y v.z) (turnZ q v.x v.y v.z) ≤ 16; omega⟩
  · exact ⟨by show -16 ≤ turnZ (p.prod q) v.x v.y v.z - turnZ p (turnX q v.x v.y v.z) (turnY q v.x v.y v.z) (turnZ q v.x v.y v.z); omega, by show turnZ (p.prod q) v.x v.y v.z - turnZ p (turnX q v.x v.y v.z) (turnY q v.x v.y v.z) (turnZ q v.x v.y v.z) ≤ 16; omega⟩
theorem one_pos {p : Q4} {e : Int} (h : p.one_ e) (he : e ≤ 2 ^ 40) : 0 < p.nm := by have := h.1; omega
theorem JBox.far4 {W : World} {g g2 : Nat} {q : Nat → Int} (h : JBox W g q) (hne : g2 ≠ g) (u0 u1 u2 u3 : Value) : JBox ((((W.setCell ⟨g2, 0, none⟩ u0).setCell ⟨g2, 1, none⟩ u1).setCell ⟨g2, 2, none⟩ u2).setCell ⟨g2, 3, none⟩ u3) g q :=
  ((((h.m.far hne _ _).far hne _ _).far hne _ _).far hne _ _).j
theorem MBox.far4 {W : World} {g g2 m : Nat} {q : Nat → Int} (h : MBox W g m q) (hne : g2 ≠ g) (u0 u1 u2 u3 : Value) : MBox ((((W.setCell ⟨g2, 0, none⟩ u0).setCell ⟨g2, 1, none⟩ u1).setCell ⟨g2, 2, none⟩ u2).setCell ⟨g2, 3, none⟩ u3) g m q :=
  (((h.far hne _ _).far hne _ _).far hne _ _).far hne _ _
set_option maxHeartbeats 2000000 in
set_option maxRecDepth 100000 in
theorem quat_chains_any (A : Option Addr) (n c : Nat) (f : Nat → Nat → Int) (w : World) (hn : n ≤ 9223372036854775807) (hr : Cut 14 w A n f) :
    Calls Try.prog 6 #[.slice A n c] w (RetB w fun r _ => r = .bool true) := by
  have HR := Lib.hid hr
  have HWK := Lib.hid (fun (W : World) => wakes4_any W)
  have HNUM := Lib.hid (fun (e : Int) (W : World) => num4 e W)
  clear hr
  go_enter Try.func6, Try.ntmps6
  go_wp2
  go_loopw [3] (fun i wr => ∃ k : Nat, k ≤ 12 ∧ k ≤ n ∧ i = .int .i64 k ∧ Hid (Below w.heap.size w wr)) (fun i _ => 12 - (intOf i).toNat)
  case atStart => exact ⟨0, by omega, by omega, rfl, Lib.hid (by repeat (first | (with_reducible assumption) | exact Below.refl _ _ | (with_reducible refine Below.setCell ?_ (by first | (simp; done) | (simp; omega) | omega) _) | (with_reducible refine Below.alloc ?_ (by first | (simp; done) | (simp; omega) | omega) _) | (with_reducible refine below_drewN' ?_ _) | (with_reducible refine Below.drew ?_) | (refine below_after (by with_reducible assumption) ?_ (by first | (simp; done) | (simp; omega) | omega))))⟩
  case round =>
    obtain ⟨k, hk, hkn, rfl, BE⟩ := hrel
    by_cases hlt : k < n
    · by_cases hl2 : k < 12
      · obtain ⟨g, o, rfl, hcell⟩ := HR.out (by omega)
        obtain ⟨x, hx⟩ : ∃ x, f k = x := ⟨_, rfl⟩
        have HC := hcell k hlt
        rw [hx] at HC
        have bes := BE.out.size
        have c0 := cell_below BE.out (HC 0 (by omega))
        have c1 := cell_below BE.out (HC 1 (by omega))
        have c2 := cell_below BE.out (HC 2 (by omega))
        have c3 := cell_below BE.out (HC 3 (by omega))
        have c4 := cell_below BE.out (HC 4 (by omega))
        have c5 := cell_below BE.out (HC 5 (by omega))
        have c6 := cell_below BE.out (HC 6 (by omega))
        have c7 := cell_below BE.out (HC 7 (by omega))
        have c8 := cell_below BE.out (HC 8 (by omega))
        have c9 := cell_below BE.out (HC 9 (by omega))
        have c10 := cell_below BE.out (HC 10 (by omega))
        have c11 := cell_below BE.out (HC 11 (by omega))
        have c12 := cell_below BE.out (HC 12 (by omega))
        have c13 := cell_below BE.out (HC 13 (by omega))
        rw [Nat.add_zero] at c0
        have kd : (0 : Int) ≤ (k : Int) := by omega
        have kd2 : (k : Int) < (n : Int) := by omega
        have kd3 : (k : Int) < 12 := by omega
        clear hcell HC hx HR
        go_upto_region 5 with fail
        have MB := Lib.hid (MBox.made14 (W := wr) rfl x 42)
        have BE4 := Lib.hid (show Below w.heap.size w (wr.alloc (.cells #[.int .i64 (x 0), .int .i64 (x 1), .int .i64 (x 2), .int .i64 (x 3), .int .i64 (x 4), .int .i64 (x 5), .int .i64 (x 6), .int .i64 (x 7), .int .i64 (x 8), .int .i64 (x 9), .int .i64 (x 10), .int .i64 (x 11), .int .i64 (x 12), .int .i64 (x 13)] 42)) from BE.out.alloc bes _)
        obtain ⟨g4, hg4⟩ : ∃ g, wr.heap.size = g := ⟨_, rfl⟩
        obtain ⟨W4, hW4⟩ : ∃ W, wr.alloc (.cells #[.int .i64 (x 0), .int .i64 (x 1), .int .i64 (x 2), .int .i64 (x 3), .int .i64 (x 4), .int .i64 (x 5), .int .i64 (x 6), .int .i64 (x 7), .int .i64 (x 8), .int .i64 (x 9), .int .i64 (x 10), .int .i64 (x 11), .int .i64 (x 12), .int .i64 (x 13)] 42) = W := ⟨_, rfl⟩
        rw [hW4] at MB BE4
        rw [hg4] at MB
        rw [hg4, hW4]
        have bes := BE4.out.size
        have mbl := MB.out.lt
        clear hg4 hW4 BE c0 c1 c2 c3 c4 c5 c6 c7 c8 c9 c10 c11 c12 c13
        have HB0 := Lib.hid (fun (W : World) => brought_any (x 0) 1073741824 W (by decide) (by decide))
        have HB1 := Lib.hid (fun (W : World) => brought_any (x 1) 1073741824 W (by decide) (by decide))
        have HB2 := Lib.hid (fun (W : World) => brought_any (x 2) 1073741824 W (by decide) (by decide))
        have HB3 := Lib.hid (fun (W : World) => brought_any (x 3) 1073741824 W (by decide) (by decide))
        have HB4 := Lib.hid (fun (W : World) => brought_any (x 4) 1073741824 W (by decide) (by decide))
        have HB5 := Lib.hid (fun (W : World) => brought_any (x 5) 1073741824 W (by decide) (by decide))
        have HB6 := Lib.hid (fun (W : World) => brought_any (x 6) 1073741824 W (by decide) (by decide))
        have HB7 := Lib.hid (fun (W : World) => brought_any (x 7) 1073741824 W (by decide) (by decide))
        have HBV := Lib.hid (fun (W : World) => vec0_any ⟨x 8, x 9, x 10⟩ 1073741824 W (by decide) (by decide))
        have hlv := broughtV_le ⟨x 8, x 9, x 10⟩
        obtain ⟨u, e1, HU1, cu⟩ := unit_case _ (broughtQ_good ⟨x 0, x 1, x 2, x 3⟩)
        obtain ⟨v, e2, HU2, cv⟩ := unit_case _ (broughtQ_good ⟨x 4, x 5, x 6, x 7⟩)
        have gu : e1 = 3 ∨ e1 = 0 ∧ goodQ u = true ∧ u.one_ 2147483650 := by
          rcases cu with h | ⟨h1, h2, h3⟩
          · exact Or.inl h
          · exact Or.inr ⟨h1, by rw [h2]; exact unit_good _ h3, by rw [h2]; exact unit_one _ h3⟩
        have gv : e2 = 3 ∨ e2 = 0 ∧ goodQ v = true ∧ v.one_ 2147483650 := by
          rcases cv with h | ⟨h1, h2, h3⟩
          · exact Or.inl h
          · exact Or.inr ⟨h1, by rw [h2]; exact unit_good _ h3, by rw [h2]; exact unit_one _ h3⟩
        obtain ⟨t, htt⟩ : ∃ t, broughtV ⟨x 8, x 9, x 10⟩ 1073741824 = t := ⟨_, rfl⟩
        rw [htt] at HBV hlv
        obtain ⟨b0, hbr⟩ : ∃ b, brought (x 0) 1073741824 = b := ⟨_, rfl⟩
        rw [hbr] at HB0
        simp only [broughtQ, hbr] at HU1
        clear hbr
        obtain ⟨b1, hbr⟩ : ∃ b, brought (x 1) 1073741824 = b := ⟨_, rfl⟩
        rw [hbr] at HB1
        simp only [broughtQ, hbr] at HU1
        clear hbr
        obtain ⟨b2, hbr⟩ : ∃ b, brought (x 2) 1073741824 = b := ⟨_, rfl⟩
        rw [hbr] at HB2
        simp only [broughtQ, hbr] at HU1
        clear hbr
        obtain ⟨b3, hbr⟩ : ∃ b, brought (x 3) 1073741824 = b := ⟨_, rfl⟩
        rw [hbr] at HB3
        simp only [broughtQ, hbr] at HU1
        clear hbr
        obtain ⟨b4, hbr⟩ : ∃ b, brought (x 4) 1073741824 = b := ⟨_, rfl⟩
        rw [hbr] at HB4
        simp only [broughtQ, hbr] at HU2
        clear hbr
        obtain ⟨b5, hbr⟩ : ∃ b, brought (x 5) 1073741824 = b := ⟨_, rfl⟩
        rw [hbr] at HB5
        simp only [broughtQ, hbr] at HU2
        clear hbr
        obtain ⟨b6, hbr⟩ : ∃ b, brought (x 6) 1073741824 = b := ⟨_, rfl⟩
        rw [hbr] at HB6
        simp only [broughtQ, hbr] at HU2
        clear hbr
        obtain ⟨b7, hbr⟩ : ∃ b, brought (x 7) 1073741824 = b := ⟨_, rfl⟩
        rw [hbr] at HB7
        simp only [broughtQ, hbr] at HU2
        clear hbr
        clear cu cv htt
        have HW := Lib.hid (And.intro gu (And.intro gv hlv))
        obtain ⟨u0, hu0⟩ : ∃ a, u.w = a := ⟨_, rfl⟩
        obtain ⟨u1, hu1⟩ : ∃ a, u.x = a := ⟨_, rfl⟩
        obtain ⟨u2, hu2⟩ : ∃ a, u.y = a := ⟨_, rfl⟩
        obtain ⟨u3, hu3⟩ : ∃ a, u.z = a := ⟨_, rfl⟩
        obtain ⟨v0, hv0⟩ : ∃ a, v.w = a := ⟨_, rfl⟩
        obtain ⟨v1, hv1⟩ : ∃ a, v.x = a := ⟨_, rfl⟩
        obtain ⟨v2, hv2⟩ : ∃ a, v.y = a := ⟨_, rfl⟩
        obtain ⟨v3, hv3⟩ : ∃ a, v.z = a := ⟨_, rfl⟩
        have HU1 := Lib.hid (show ∀ W : World, Calls Try.prog 19 #[.agg #[.int .i64 b0, .int .i64 b1, .int .i64 b2, .int .i64 b3]] W (RetB W fun r _ => r = .tuple #[.agg #[.int .i64 u0, .int .i64 u1, .int .i64 u2, .int .i64 u3], .int .i64 e1]) from by rw [← hu0, ← hu1, ← hu2, ← hu3]; exact HU1)
        have HU2 := Lib.hid (show ∀ W : World, Calls Try.prog 19 #[.agg #[.int .i64 b4, .int .i64 b5, .int .i64 b6, .int .i64 b7]] W (RetB W fun r _ => r = .tuple #[.agg #[.int .i64 v0, .int .i64 v1, .int .i64 v2, .int .i64 v3], .int .i64 e2]) from by rw [← hv0, ← hv1, ← hv2, ← hv3]; exact HU2)
        have HEQU := Lib.hid (show u = ⟨u0, u1, u2, u3⟩ from by rw [← hu0, ← hu1, ← hu2, ← hu3])
        have HEQV := Lib.hid (show v = ⟨v0, v1, v2, v3⟩ from by rw [← hv0, ← hv1, ← hv2, ← hv3])
        clear hu0 hu1 hu2 hu3 hv0 hv1 hv2 hv3 gu gv hlv
        have m0 := MB.out.c 0 (by omega)
        have m1 := MB.out.c 1 (by omega)
        have m2 := MB.out.c 2 (by omega)
        have m3 := MB.out.c 3 (by omega)
        (refine start_ (S := (fun w' => (w'.cell? ⟨g4, 0, none⟩ = some (.int .i64 (x 0)) ∧ w'.cell? ⟨g4, 1, none⟩ = some (.int .i64 (x 1))) ∧ (w'.cell? ⟨g4, 2, none⟩ = some (.int .i64 (x 2)) ∧ w'.cell? ⟨g4, 3, none⟩ = some (.int .i64 (x 3))))) (ds := [22]) (n := 24) #[false, false, false, false, false, false, false, false, false, false, false, false, false, false, false, false, false, false, false, false, false, false, false, false] (by kernel_rfl) rfl rfl ?_ (fun hS0 => ?_); (· exact (by (try dsimp only); ((repeat' (with_reducible apply And.intro)) <;> (first | (with_reducible assumption) | (go_split_ands; (repeat (with_reducible refine (World.cell?_setCell_far _ _ _ _ ?_).trans ?_; (· first | (dsimp only; omega) | (simp; done) | (simp; omega)))); (with_reducible assumption)) | (go_split_ands; (first | (with_reducible assumption) | go_simp); done) | (with_reducible refine (kcell (by assumption) ?_).trans ?_; (· exact (by first | (with_reducible assumption) | omega | (simp; done) | (simp; omega))); (· first | (with_reducible assumption) | (go_split_ands; with_reducible assumption))) | (go_split_ands; (repeat (first | (with_reducible assumption) | (with_reducible refine (World.cell?_setCell_far _ _ _ _ ?_).trans ?_; (· first | (dsimp only; omega) | (simp; done) | (simp; omega))) | (with_reducible refine alloc_swap (o := ?_) ?_ ?_ _; rotate_left 1; (· first | (dsimp only; omega) | (simp; done) | (simp; omega)); (· with_reducible assumption); (all_goals skip)) | (with_reducible refine alloc_keep ?_ _) | (with_reducible refine (kcell (by assumption) ?_).trans ?_; (· exact (by first | (with_reducible assumption) | omega | (simp; done) | (simp; omega)))))); done) | fail)))))
        ((refine take_ (i := 0) (N := some 39) (v := ?_) #[true, false, false, false, false, false, false, false, false, false, false, false, false, false, false, false, false, false, false, false, false, false, false, false] rfl rfl (by kernel_rfl) (fun _ _ _ h => h) (Or.inl ⟨by rfl, ?_⟩) (by with_reducible assumption) rfl ?_; rotate_left 1; (· intro w hSw; (try dsimp only at hSw); go_simp; first | done | with_reducible rfl); (try simp only [Act.put, List.setIfInBounds_toArray, List.set_cons_zero, List.set_cons_succ])); (refine take_ (i := 1) (N := some 40) (v := ?_) #[true, true, false, false, false, false, false, false, false, false, false, false, false, false, false, false, false, false, false, false, false, false, false, false] rfl rfl (by kernel_rfl) (fun _ _ _ h => h) (Or.inl ⟨by rfl, ?_⟩) (by with_reducible assumption) rfl ?_; rotate_left 1; (· intro w hSw; (try dsimp only at hSw); go_simp; first | done | with_reducible rfl); (try simp only [Act.put, List.setIfInBounds_toArray, List.set_cons_zero, List.set_cons_succ])); (refine take_ (i := 2) (N := some 41) (v := ?_) #[true, true, true, false, false, false, false, false, false, false, false, false, false, false, false, false, false, false, false, false, false, false, false, false] rfl rfl (by kernel_rfl) (fun _ _ _ h => h) (Or.inl ⟨by rfl, ?_⟩) (by with_reducible assumption) rfl ?_; rotate_left 1; (· intro w hSw; (try dsimp only at hSw); go_simp; first | done | with_reducible rfl); (try simp only [Act.put, List.setIfInBounds_toArray, List.set_cons_zero, List.set_cons_succ])); (refine take_ (i := 4) (N := some 43) (v := ?_) #[true, true, true, false, true, false, false, false, false, false, false, false, false, false, false, false, false, false, false, false, false, false, false, false] rfl rfl (by kernel_rfl) (fun _ _ _ h => h) (Or.inl ⟨by rfl, ?_⟩) (by with_reducible assumption) rfl ?_; rotate_left 1; (· intro w hSw; (try dsimp only at hSw); go_simp; first | done | with_reducible rfl); (try simp only [Act.put, List.setIfInBounds_toArray, List.set_cons_zero, List.set_cons_succ])); (refine take_ (i := 5) (N := some 44) (v := ?_) #[true, true, true, false, true, true, false, false, false, false, false, false, false, false, false, false, false, false, false, false, false, false, false, false] rfl rfl (by kernel_rfl) (fun _ _ _ h => h) (Or.inl ⟨by rfl, ?_⟩) (by with_reducible assumption) rfl ?_; rotate_left 1; (· intro w hSw; (try dsimp only at hSw); go_simp; first | done | with_reducible rfl); (try simp only [Act.put, List.setIfInBounds_toArray, List.set_cons_zero, List.set_cons_succ])); (refine take_ (i := 6) (N := some 45) (v := ?_) #[true, true, true, false, true, true, true, false, false, false, false, false, false, false, false, false, false, false, false, false, false, false, false, false] rfl rfl (by kernel_rfl) (fun _ _ _ h => h) (Or.inl ⟨by rfl, ?_⟩) (by with_reducible assumption) rfl ?_; rotate_left 1; (· intro w hSw; (try dsimp only at hSw); go_simp; first | done | with_reducible rfl); (try simp only [Act.put, List.setIfInBounds_toArray, List.set_cons_zero, List.set_cons_succ])); (refine take_ (i := 8) (N := some 47) (v := ?_) #[true, true, true, false, true, true, true, false, true, false, false, false, false, false, false, false, false, false, false, false, false, false, false, false] rfl rfl (by kernel_rfl) (fun _ _ _ h => h) (Or.inl ⟨by rfl, ?_⟩) (by with_reducible assumption) rfl ?_; rotate_left 1; (· intro w hSw; (try dsimp only at hSw); go_simp; first | done | with_reducible rfl); (try simp only [Act.put, List.setIfInBounds_toArray, List.set_cons_zero, List.set_cons_succ])); (refine take_ (i := 9) (N := some 48) (v := ?_) #[true, true, true, false, true, true, true, false, true, true, false, false, false, false, false, false, false, false, false, false, false, false, false, false] rfl rfl (by kernel_rfl) (fun _ _ _ h => h) (Or.inl ⟨by rfl, ?_⟩) (by with_reducible assumption) rfl ?_; rotate_left 1; (· intro w hSw; (try dsimp only at hSw); go_simp; first | done | with_reducible rfl); (try simp only [Act.put, List.setIfInBounds_toArray, List.set_cons_zero, List.set_cons_succ])); (refine take_ (i := 10) (N := some 49) (v := ?_) #[true, true, true, false, true, true, true, false, true, true, true, false, false, false, false, false, false, false, false, false, false, false, false, false] rfl rfl (by kernel_rfl) (fun _ _ _ h => h) (Or.inl ⟨by rfl, ?_⟩) (by with_reducible assumption) rfl ?_; rotate_left 1; (· intro w hSw; (try dsimp only at hSw); go_simp; first | done | with_reducible rfl); (try simp only [Act.put, List.setIfInBounds_toArray, List.set_cons_zero, List.set_cons_succ])); (refine take_ (i := 12) (N := some 51) (v := ?_) #[true, true, true, false, true, true, true, false, true, true, true, false, true, false, false, false, false, false, false, false, false, false, false, false] rfl rfl (by kernel_rfl) (fun _ _ _ h => h) (Or.inl ⟨by rfl, ?_⟩) (by with_reducible assumption) rfl ?_; rotate_left 1; (· intro w hSw; (try dsimp only at hSw); go_simp; first | done | with_reducible rfl); (try simp only [Act.put, List.setIfInBounds_toArray, List.set_cons_zero, List.set_cons_succ])); (refine take_ (i := 13) (N := some 52) (v := ?_) #[true, true, true, false, true, true, true, false, true, true, true, false, true, true, false, false, false, false, false, false, false, false, false, false] rfl rfl (by kernel_rfl) (fun _ _ _ h => h) (Or.inl ⟨by rfl, ?_⟩) (by with_reducible assumption) rfl ?_; rotate_left 1; (· intro w hSw; (try dsimp only at hSw); go_simp; first | done | with_reducible rfl); (try simp only [Act.put, List.setIfInBounds_toArray, List.set_cons_zero, List.set_cons_succ])); (refine take_ (i := 14) (N := some 53) (v := ?_) #[true, true, true, false, true, true, true, false, true, true, true, false, true, true, true, false, false, false, false, false, false, false, false, false] rfl rfl (by kernel_rfl) (fun _ _ _ h => h) (Or.inl ⟨by rfl, ?_⟩) (by with_reducible assumption) rfl ?_; rotate_left 1; (· intro w hSw; (try dsimp only at hSw); go_simp; first | done | with_reducible rfl); (try simp only [Act.put, List.setIfInBounds_toArray, List.set_cons_zero, List.set_cons_succ])))
        (refine free2_ (fuel := 2) (n := 175) [(3, 42), (7, 46), (11, 50), (15, 54), (16, 55), (17, 56), (18, 38), (19, 57), (21, 5), (20, 58)] [20] (fun i v W => if i = 21 then ∃ g8, v = .pointer (some ⟨g8, 0, none⟩) ∧ W4.heap.size ≤ g8 ∧ JBox W g8 (fun _ => 0) else v = (if i = 3 then .int .i64 b0 else (if i = 7 then .int .i64 b1 else (if i = 11 then .int .i64 b2 else (if i = 15 then .int .i64 b3 else (if i = 16 then .agg #[.int .i64 b0, .int .i64 b1, .int .i64 b2, .int .i64 b3] else (if i = 17 then .tuple #[.agg #[.int .i64 u0, .int .i64 u1, .int .i64 u2, .int .i64 u3], .int .i64 e1] else (if i = 18 then .tuple #[.agg #[.int .i64 u0, .int .i64 u1, .int .i64 u2, .int .i64 u3], .int .i64 e1] else (if i = 19 then .agg #[.int .i64 u0, .int .i64 u1, .int .i64 u2, .int .i64 u3] else .int .i64 e1))))))))) #[true, true, true, true, true, true, true, true, true, true, true, true, true, true, true, true, true, true, true, true, true, true, false, false] rfl (by kernel_rfl) ?hst ?hsst (by with_reducible assumption) (fun _ _ _ _ _ h => h) ?steps ?fin)
        case hst =>
          intro i v W W' h hb
          by_cases hi : i = 21
          · rw [if_pos hi] at h ⊢
            obtain ⟨g8, e1, e2, e3⟩ := h
            exact ⟨g8, e1, e2, e3.later hb⟩
          · rw [if_neg hi] at h ⊢
            exact h
        case hsst => exact fun W W' h hb => ⟨⟨cell_below hb h.1.1, cell_below hb h.1.2⟩, ⟨cell_below hb h.2.1, cell_below hb h.2.2⟩⟩
        case steps =>
          (refine FreeSteps2.cons (by rfl) (by rfl) (by rfl) ?_ (FreeSteps2.cons (by rfl) (by rfl) (by rfl) ?_ (FreeSteps2.cons (by rfl) (by rfl) (by rfl) ?_ (FreeSteps2.cons (by rfl) (by rfl) (by rfl) ?_ (FreeSteps2.cons (by rfl) (by rfl) (by rfl) ?_ (FreeSteps2.cons (by rfl) (by rfl) (by rfl) ?_ (FreeSteps2.cons (by rfl) (by rfl) (by rfl) ?_ (FreeSteps2.cons (by rfl) (by rfl) (by rfl) ?_ (FreeSteps2.cons (by rfl) (by rfl) (by rfl) ?_ (FreeSteps2.loose (by rfl) (by rfl) ?_ (FreeSteps2.nil)))))))))))
          · intro us wq hbq hSq hdq K hK; (simp only [frameOf, Act.put, List.setIfInBounds_toArray, List.set_cons_zero, List.set_cons_succ] at hK ⊢); go_simp; (go_at_call 25; (with_reducible refine (HB0.out _).mono ?_); rintro e w' ⟨⟨v, rfl, rfl⟩, rfl⟩); go_wp2_with fail; (refine hK.out _ _ ?_ ?_); (· exact rfl); (· exact Below.refl _ _)
          · intro us wq hbq hSq hdq K hK; (simp only [frameOf, Act.put, List.setIfInBounds_toArray, List.set_cons_zero, List.set_cons_succ] at hK ⊢); go_simp; (go_at_call 25; (with_reducible refine (HB1.out _).mono ?_); rintro e w' ⟨⟨v, rfl, rfl⟩, rfl⟩); go_wp2_with fail; (refine hK.out _ _ ?_ ?_); (· exact rfl); (· exact Below.refl _ _)
          · intro us wq hbq hSq hdq K hK; (simp only [frameOf, Act.put, List.setIfInBounds_toArray, List.set_cons_zero, List.set_cons_succ] at hK ⊢); go_simp; (go_at_call 25; (with_reducible refine (HB2.out _).mono ?_); rintro e w' ⟨⟨v, rfl, rfl⟩, rfl⟩); go_wp2_with fail; (refine hK.out _ _ ?_ ?_); (· exact rfl); (· exact Below.refl _ _)
          · intro us wq hbq hSq hdq K hK; (simp only [frameOf, Act.put, List.setIfInBounds_toArray, List.set_cons_zero, List.set_cons_succ] at hK ⊢); go_simp; (go_at_call 25; (with_reducible refine (HB3.out _).mono ?_); rintro e w' ⟨⟨v, rfl, rfl⟩, rfl⟩); go_wp2_with fail; (refine hK.out _ _ ?_ ?_); (· exact rfl); (· exact Below.refl _ _)
          · intro us wq hbq hSq hdq K hK; (have d3 : us 3 = .int .i64 b0 := hdq (3, 42) (by simp) (by kernel_rfl)); (have d7 : us 7 = .int .i64 b1 := hdq (7, 46) (by simp) (by kernel_rfl)); (have d11 : us 11 = .int .i64 b2 := hdq (11, 50) (by simp) (by kernel_rfl)); (have d15 : us 15 = .int .i64 b3 := hdq (15, 54) (by simp) (by kernel_rfl)); (simp only [frameOf, Act.put, List.setIfInBounds_toArray, List.set_cons_zero, List.set_cons_succ] at hK ⊢); simp only [d3, d7, d11, d15] at hK ⊢; go_simp; go_wp2_with fail; (refine hK.out _ _ ?_ ?_); (· exact rfl); (· exact Below.refl _ _)
          · intro us wq hbq hSq hdq K hK; (have d16 : us 16 = .agg #[.int .i64 b0, .int .i64 b1, .int .i64 b2, .int .i64 b3] := hdq (16, 55) (by simp) (by kernel_rfl)); (simp only [frameOf, Act.put, List.setIfInBounds_toArray, List.set_cons_zero, List.set_cons_succ] at hK ⊢); simp only [d16] at hK ⊢; go_simp; (go_at_call 19; (with_reducible refine (HU1.out _).mono ?_); rintro e w3 ⟨⟨v3, rfl, rfl⟩, hb3⟩; (obtain ⟨hc3, hf3⟩ := bcell hb3); (have hs3 := hb3.size); (try simp at hs3)); go_wp2_with fail; (refine hK.out _ _ ?_ ?_); (· exact rfl); (· with_reducible assumption)
          · intro us wq hbq hSq hdq K hK; (have d17 : us 17 = .tuple #[.agg #[.int .i64 u0, .int .i64 u1, .int .i64 u2, .int .i64 u3], .int .i64 e1] := hdq (17, 56) (by simp) (by kernel_rfl)); (simp only [frameOf, Act.put, List.setIfInBounds_toArray, List.set_cons_zero, List.set_cons_succ] at hK ⊢); simp only [d17] at hK ⊢; go_simp; go_wp2_with fail; (refine hK.out _ _ ?_ ?_); (· exact rfl); (· exact Below.refl _ _)
          · intro us wq hbq hSq hdq K hK; (have d18 : us 18 = .tuple #[.agg #[.int .i64 u0, .int .i64 u1, .int .i64 u2, .int .i64 u3], .int .i64 e1] := hdq (18, 38) (by simp) (by kernel_rfl)); (simp only [frameOf, Act.put, List.setIfInBounds_toArray, List.set_cons_zero, List.set_cons_succ] at hK ⊢); simp only [d18] at hK ⊢; go_simp; go_wp2_with fail; (refine hK.out _ _ ?_ ?_); (· exact rfl); (· exact Below.refl _ _)
          · intro us wq hbq hSq hdq K hK; (simp only [frameOf, Act.put, List.setIfInBounds_toArray, List.set_cons_zero, List.set_cons_succ] at hK ⊢); go_simp; go_wp2_with fail; (refine hK.out _ _ ?_ ?_); (· exact ⟨_, rfl, hbq.size, JBox.made rfl (fun _ => 0) _⟩); (· exact below_alloc _ _)
          · intro us wq hbq hSq hdq; (have d18 : us 18 = .tuple #[.agg #[.int .i64 u0, .int .i64 u1, .int .i64 u2, .int .i64 u3], .int .i64 e1] := hdq (18, 38) (by simp) (by kernel_rfl)); refine ⟨.int .i64 e1, Or.inl ⟨by rfl, fun W => ?_⟩, rfl⟩; (simp only [frameOf, Act.put, List.setIfInBounds_toArray, List.set_cons_zero, List.set_cons_succ]); simp only [d18]; go_simp
        case fin =>
          intro us wq hbq hSq hdq
          have d3 : us 3 = .int .i64 b0 := hdq (3, 42) (by simp)
          have d7 : us 7 = .int .i64 b1 := hdq (7, 46) (by simp)
          have d11 : us 11 = .int .i64 b2 := hdq (11, 50) (by simp)
          have d15 : us 15 = .int .i64 b3 := hdq (15, 54) (by simp)
          have d16 : us 16 = .agg #[.int .i64 b0, .int .i64 b1, .int .i64 b2, .int .i64 b3] := hdq (16, 55) (by simp)
          have d17 : us 17 = .tuple #[.agg #[.int .i64 u0, .int .i64 u1, .int .i64 u2, .int .i64 u3], .int .i64 e1] := hdq (17, 56) (by simp)
          have d18 : us 18 = .tuple #[.agg #[.int .i64 u0, .int .i64 u1, .int .i64 u2, .int .i64 u3], .int .i64 e1] := hdq (18, 38) (by simp)
          have d19 : us 19 = .agg #[.int .i64 u0, .int .i64 u1, .int .i64 u2, .int .i64 u3] := hdq (19, 57) (by simp)
          have d20 : us 20 = .int .i64 e1 := hdq (20, 58) (by simp)
          obtain ⟨g5, d21, hgg, BJ⟩ : ∃ g8, us 21 = .pointer (some ⟨g8, 0, none⟩) ∧ W4.heap.size ≤ g8 ∧ JBox wq g8 (fun _ => 0) := hdq (21, 5) (by simp)
          simp only [frameOf, Act.put, List.setIfInBounds_toArray, List.set_cons_zero, List.set_cons_succ, d3, d7, d11, d15, d16, d17, d18, d19, d20, d21]
          clear hdq d3 d7 d11 d15 d16 d17 d18 d19 d20 d21
          have MB := Lib.hid ((MB.out.drew.later hbq).far4 (show g5 ≠ g4 by omega) (.int .i64 u0) (.int .i64 u1) (.int .i64 u2) (.int .i64 u3))
          have JU := Lib.hid (BJ.put4 u0 u1 u2 u3)
          have BE4 := Lib.hid (below4 (below_after hbq BE4.out.drew bes) (show w.heap.size ≤ g5 by omega) (.int .i64 u0) (.int .i64 u1) (.int .i64 u2) (.int .i64 u3))
          have j0 := BJ.c 0 (by omega)
          have jf0 := BJ.f0 0
          have j1 := BJ.c 1 (by omega)
          have jf1 := BJ.f0 1
          have j2 := BJ.c 2 (by omega)
          have jf2 := BJ.f0 2
          have j3 := BJ.c 3 (by omega)
          have jf3 := BJ.f0 3
          have bjl := BJ.lt
          obtain ⟨W5, hW⟩ : ∃ W, ((((wq.setCell ⟨g5, 0, none⟩ (.int .i64 u0)).setCell ⟨g5, 1, none⟩ (.int .i64 u1)).setCell ⟨g5, 2, none⟩ (.int .i64 u2)).setCell ⟨g5, 3, none⟩ (.int .i64 u3)) = W := ⟨_, rfl⟩
          (refine last_ (i := 22) (N := none) #[true, true, true, true, true, true, true, true, true, true, true, true, true, true, true, true, true, true, true, true, true, true, true, false] rfl rfl (by kernel_rfl) (by simp) (fun K hK => ?_); go_simp; (refine hK.out _ _ ?_); clear hK; clear K; (try simp only [Act.put, List.setIfInBounds_toArray, List.set_cons_zero, List.set_cons_succ]))
          (refine pure_ (i := 23) (N := some 6) (v := ?_) #[true, true, true, true, true, true, true, true, true, true, true, true, true, true, true, true, true, true, true, true, true, true, true, true] rfl rfl (by kernel_rfl) (fun _ _ _ h => h) (Or.inl ⟨by rfl, ?_⟩) rfl ?_; rotate_left 1; (· intro w; go_simp; first | done | with_reducible rfl); (try simp only [Act.put, List.setIfInBounds_toArray, List.set_cons_zero, List.set_cons_succ]))
          (refine done_ (by kernel_rfl) ?_)
          rw [hW] at MB JU BE4
          clear hW hbq hSq j0 j1 j2 j3 jf0 jf1 jf2 jf3 BJ m0 m1 m2 m3
          have bes := BE4.out.size
          have mbl := MB.out.lt
          have bxl := JU.out.lt
          go_upto_region 6 with fail
          have m0 := MB.out.c 4 (by omega)
          have m1 := MB.out.c 5 (by omega)
          have m2 := MB.out.c 6 (by omega)
          have m3 := MB.out.c 7 (by omega)
          (refine start_ (S := (fun w' => (w'.cell? ⟨g4, 4, none⟩ = some (.int .i64 (x 4)) ∧ w'.cell? ⟨g4, 5, none⟩ = some (.int .i64 (x 5))) ∧ (w'.cell? ⟨g4, 6, none⟩ = some (.int .i64 (x 6)) ∧ w'.cell? ⟨g4, 7, none⟩ = some (.int .i64 (x 7))))) (ds := [22]) (n := 24) #[false, false, false, false, false, false, false, false, false, false, false, false, false, false, false, false, false, false, false, false, false, false, false, false] (by kernel_rfl) rfl rfl ?_ (fun hS0 => ?_); (· exact (by (try dsimp only); ((repeat' (with_reducible apply And.intro)) <;> (first | (with_reducible assumption) | (go_split_ands; (repeat (with_reducible refine (World.cell?_setCell_far _ _ _ _ ?_).trans ?_; (· first | (dsimp only; omega) | (simp; done) | (simp; omega)))); (with_reducible assumption)) | (go_split_ands; (first | (with_reducible assumption) | go_simp); done) | (with_reducible refine (kcell (by assumption) ?_).trans ?_; (· exact (by first | (with_reducible assumption) | omega | (simp; done) | (simp; omega))); (· first | (with_reducible assumption) | (go_split_ands; with_reducible assumption))) | (go_split_ands; (repeat (first | (with_reducible assumption) | (with_reducible refine (World.cell?_setCell_far _ _ _ _ ?_).trans ?_; (· first | (dsimp only; omega) | (simp; done) | (simp; omega))) | (with_reducible refine alloc_swap (o := ?_) ?_ ?_ _; rotate_left 1; (· first | (dsimp only; omega) | (simp; done) | (simp; omega)); (· with_reducible assumption); (all_goals skip)) | (with_reducible refine alloc_keep ?_ _) | (with_reducible refine (kcell (by assumption) ?_).trans ?_; (· exact (by first | (with_reducible assumption) | omega | (simp; done) | (simp; omega)))))); done) | fail)))))
          ((refine take_ (i := 0) (N := some 60) (v := ?_) #[true, false, false, false, false, false, false, false, false, false, false, false, false, false, false, false, false, false, false, false, false, false, false, false] rfl rfl (by kernel_rfl) (fun _ _ _ h => h) (Or.inl ⟨by rfl, ?_⟩) (by with_reducible assumption) rfl ?_; rotate_left 1; (· intro w hSw; (try dsimp only at hSw); go_simp; first | done | with_reducible rfl); (try simp only [Act.put, List.setIfInBounds_toArray, List.set_cons_zero, List.set_cons_succ])); (refine take_ (i := 1) (N := some 61) (v := ?_) #[true, true, false, false, false, false, false, false, false, false, false, false, false, false, false, false, false, false, false, false, false, false, false, false] rfl rfl (by kernel_rfl) (fun _ _ _ h => h) (Or.inl ⟨by rfl, ?_⟩) (by with_reducible assumption) rfl ?_; rotate_left 1; (· intro w hSw; (try dsimp only at hSw); go_simp; first | done | with_reducible rfl); (try simp only [Act.put, List.setIfInBounds_toArray, List.set_cons_zero, List.set_cons_succ])); (refine take_ (i := 2) (N := some 62) (v := ?_) #[true, true, true, false, false, false, false, false, false, false, false, false, false, false, false, false, false, false, false, false, false, false, false, false] rfl rfl (by kernel_rfl) (fun _ _ _ h => h) (Or.inl ⟨by rfl, ?_⟩) (by with_reducible assumption) rfl ?_; rotate_left 1; (· intro w hSw; (try dsimp only at hSw); go_simp; first | done | with_reducible rfl); (try simp only [Act.put, List.setIfInBounds_toArray, List.set_cons_zero, List.set_cons_succ])); (refine take_ (i := 4) (N := some 64) (v := ?_) #[true, true, true, false, true, false, false, false, false, false, false, false, false, false, false, false, false, false, false, false, false, false, false, false] rfl rfl (by kernel_rfl) (fun _ _ _ h => h) (Or.inl ⟨by rfl, ?_⟩) (by with_reducible assumption) rfl ?_; rotate_left 1; (· intro w hSw; (try dsimp only at hSw); go_simp; first | done | with_reducible rfl); (try simp only [Act.put, List.setIfInBounds_toArray, List.set_cons_zero, List.set_cons_succ])); (refine take_ (i := 5) (N := some 65) (v := ?_) #[true, true, true, false, true, true, false, false, false, false, false, false, false, false, false, false, false, false, false, false, false, false, false, false] rfl rfl (by kernel_rfl) (fun _ _ _ h => h) (Or.inl ⟨by rfl, ?_⟩) (by with_reducible assumption) rfl ?_; rotate_left 1; (· intro w hSw; (try dsimp only at hSw); go_simp; first | done | with_reducible rfl); (try simp only [Act.put, List.setIfInBounds_toArray, List.set_cons_zero, List.set_cons_succ])); (refine take_ (i := 6) (N := some 66) (v := ?_) #[true, true, true, false, true, true, true, false, false, false, false, false, false, false, false, false, false, false, false, false, false, false, false, false] rfl rfl (by kernel_rfl) (fun _ _ _ h => h) (Or.inl ⟨by rfl, ?_⟩) (by with_reducible assumption) rfl ?_; rotate_left 1; (· intro w hSw; (try dsimp only at hSw); go_simp; first | done | with_reducible rfl); (try simp only [Act.put, List.setIfInBounds_toArray, List.set_cons_zero, List.set_cons_succ])); (refine take_ (i := 8) (N := some 68) (v := ?_) #[true, true, true, false, true, true, true, false, true, false, false, false, false, false, false, false, false, false, false, false, false, false, false, false] rfl rfl (by kernel_rfl) (fun _ _ _ h => h) (Or.inl ⟨by rfl, ?_⟩) (by with_reducible assumption) rfl ?_; rotate_left 1; (· intro w hSw; (try dsimp only at hSw); go_simp; first | done | with_reducible rfl); (try simp only [Act.put, List.setIfInBounds_toArray, List.set_cons_zero, List.set_cons_succ])); (refine take_ (i := 9) (N := some 69) (v := ?_) #[true, true, true, false, true, true, true, false, true, true, false, false, false, false, false, false, false, false, false, false, false, false, false, false] rfl rfl (by kernel_rfl) (fun _ _ _ h => h) (Or.inl ⟨by rfl, ?_⟩) (by with_reducible assumption) rfl ?_; rotate_left 1; (· intro w hSw; (try dsimp only at hSw); go_simp; first | done | with_reducible rfl); (try simp only [Act.put, List.setIfInBounds_toArray, List.set_cons_zero, List.set_cons_succ])); (refine take_ (i := 10) (N := some 70) (v := ?_) #[true, true, true, false, true, true, true, false, true, true, true, false, false, false, false, false, false, false, false, false, false, false, false, false] rfl rfl (by kernel_rfl) (fun _ _ _ h => h) (Or.inl ⟨by rfl, ?_⟩) (by with_reducible assumption) rfl ?_; rotate_left 1; (· intro w hSw; (try dsimp only at hSw); go_simp; first | done | with_reducible rfl); (try simp only [Act.put, List.setIfInBounds_toArray, List.set_cons_zero, List.set_cons_succ])); (refine take_ (i := 12) (N := some 72) (v := ?_) #[true, true, true, false, true, true, true, false, true, true, true, false, true, false, false, false, false, false, false, false, false, false, false, false] rfl rfl (by kernel_rfl) (fun _ _ _ h => h) (Or.inl ⟨by rfl, ?_⟩) (by with_reducible assumption) rfl ?_; rotate_left 1; (· intro w hSw; (try dsimp only at hSw); go_simp; first | done | with_reducible rfl); (try simp only [Act.put, List.setIfInBounds_toArray, List.set_cons_zero, List.set_cons_succ])); (refine take_ (i := 13) (N := some 73) (v := ?_) #[true, true, true, false, true, true, true, false, true, true, true, false, true, true, false, false, false, false, false, false, false, false, false, false] rfl rfl (by kernel_rfl) (fun _ _ _ h => h) (Or.inl ⟨by rfl, ?_⟩) (by with_reducible assumption) rfl ?_; rotate_left 1; (· intro w hSw; (try dsimp only at hSw); go_simp; first | done | with_reducible rfl); (try simp only [Act.put, List.setIfInBounds_toArray, List.set_cons_zero, List.set_cons_succ])); (refine take_ (i := 14) (N := some 74) (v := ?_) #[true, true, true, false, true, true, true, false, true, true, true, false, true, true, true, false, false, false, false, false, false, false, false, false] rfl rfl (by kernel_rfl) (fun _ _ _ h => h) (Or.inl ⟨by rfl, ?_⟩) (by with_reducible assumption) rfl ?_; rotate_left 1; (· intro w hSw; (try dsimp only at hSw); go_simp; first | done | with_reducible rfl); (try simp only [Act.put, List.setIfInBounds_toArray, List.set_cons_zero, List.set_cons_succ])))
          (refine free2_ (fuel := 2) (n := 175) [(3, 63), (7, 67), (11, 71), (15, 75), (16, 76), (17, 77), (18, 59), (19, 78), (21, 7), (20, 79)] [20] (fun i v W => if i = 21 then ∃ g8, v = .pointer (some ⟨g8, 0, none⟩) ∧ W5.heap.size ≤ g8 ∧ JBox W g8 (fun _ => 0) else v = (if i = 3 then .int .i64 b4 else (if i = 7 then .int .i64 b5 else (if i = 11 then .int .i64 b6 else (if i = 15 then .int .i64 b7 else (if i = 16 then .agg #[.int .i64 b4, .int .i64 b5, .int .i64 b6, .int .i64 b7] else (if i = 17 then .tuple #[.agg #[.int .i64 v0, .int .i64 v1, .int .i64 v2, .int .i64 v3], .int .i64 e2] else (if i = 18 then .tuple #[.agg #[.int .i64 v0, .int .i64 v1, .int .i64 v2, .int .i64 v3], .int .i64 e2] else (if i = 19 then .agg #[.int .i64 v0, .int .i64 v1, .int .i64 v2, .int .i64 v3] else .int .i64 e2))))))))) #[true, true, true, true, true, true, true, true, true, true, true, true, true, true, true, true, true, true, true, true, true, true, false, false] rfl (by kernel_rfl) ?hst ?hsst (by with_reducible assumption) (fun _ _ _ _ _ h => h) ?steps ?fin)
          case hst =>
            intro i v W W' h hb
            by_cases hi : i = 21
            · rw [if_pos hi] at h ⊢
              obtain ⟨g8, e1, e2, e3⟩ := h
              exact ⟨g8, e1, e2, e3.later hb⟩
            · rw [if_neg hi] at h ⊢
              exact h
          case hsst => exact fun W W' h hb => ⟨⟨cell_below hb h.1.1, cell_below hb h.1.2⟩, ⟨cell_below hb h.2.1, cell_below hb h.2.2⟩⟩
          case steps =>
            (refine FreeSteps2.cons (by rfl) (by rfl) (by rfl) ?_ (FreeSteps2.cons (by rfl) (by rfl) (by rfl) ?_ (FreeSteps2.cons (by rfl) (by rfl) (by rfl) ?_ (FreeSteps2.cons (by rfl) (by rfl) (by rfl) ?_ (FreeSteps2.cons (by rfl) (by rfl) (by rfl) ?_ (FreeSteps2.cons (by rfl) (by rfl) (by rfl) ?_ (FreeSteps2.cons (by rfl) (by rfl) (by rfl) ?_ (FreeSteps2.cons (by rfl) (by rfl) (by rfl) ?_ (FreeSteps2.cons (by rfl) (by rfl) (by rfl) ?_ (FreeSteps2.loose (by rfl) (by rfl) ?_ (FreeSteps2.nil)))))))))))
            · intro us wq hbq hSq hdq K hK; (simp only [frameOf, Act.put, List.setIfInBounds_toArray, List.set_cons_zero, List.set_cons_succ] at hK ⊢); go_simp; (go_at_call 25; (with_reducible refine (HB4.out _).mono ?_); rintro e w' ⟨⟨v, rfl, rfl⟩, rfl⟩); go_wp2_with fail; (refine hK.out _ _ ?_ ?_); (· exact rfl); (· exact Below.refl _ _)
            · intro us wq hbq hSq hdq K hK; (simp only [frameOf, Act.put, List.setIfInBounds_toArray, List.set_cons_zero, List.set_cons_succ] at hK ⊢); go_simp; (go_at_call 25; (with_reducible refine (HB5.out _).mono ?_); rintro e w' ⟨⟨v, rfl, rfl⟩, rfl⟩); go_wp2_with fail; (refine hK.out _ _ ?_ ?_); (· exact rfl); (· exact Below.refl _ _)
            · intro us wq hbq hSq hdq K hK; (simp only [frameOf, Act.put, List.setIfInBounds_toArray, List.set_cons_zero, List.set_cons_succ] at hK ⊢); go_simp; (go_at_call 25; (with_reducible refine (HB6.out _).mono ?_); rintro e w' ⟨⟨v, rfl, rfl⟩, rfl⟩); go_wp2_with fail; (refine hK.out _ _ ?_ ?_); (· exact rfl); (· exact Below.refl _ _)
            · intro us wq hbq hSq hdq K hK; (simp only [frameOf, Act.put, List.setIfInBounds_toArray, List.set_cons_zero, List.set_cons_succ] at hK ⊢); go_simp; (go_at_call 25; (with_reducible refine (HB7.out _).mono ?_); rintro e w' ⟨⟨v, rfl, rfl⟩, rfl⟩); go_wp2_with fail; (refine hK.out _ _ ?_ ?_); (· exact rfl); (· exact Below.refl _ _)
            · intro us wq hbq hSq hdq K hK; (have d3 : us 3 = .int .i64 b4 := hdq (3, 63) (by simp) (by kernel_rfl)); (have d7 : us 7 = .int .i64 b5 := hdq (7, 67) (by simp) (by kernel_rfl)); (have d11 : us 11 = .int .i64 b6 := hdq (11, 71) (by simp) (by kernel_rfl)); (have d15 : us 15 = .int .i64 b7 := hdq (15, 75) (by simp) (by kernel_rfl)); (simp only [frameOf, Act.put, List.setIfInBounds_toArray, List.set_cons_zero, List.set_cons_succ] at hK ⊢); simp only [d3, d7, d11, d15] at hK ⊢; go_simp; go_wp2_with fail; (refine hK.out _ _ ?_ ?_); (· exact rfl); (· exact Below.refl _ _)
            · intro us wq hbq hSq hdq K hK; (have d16 : us 16 = .agg #[.int .i64 b4, .int .i64 b5, .int .i64 b6, .int .i64 b7] := hdq (16, 76) (by simp) (by kernel_rfl)); (simp only [frameOf, Act.put, List.setIfInBounds_toArray, List.set_cons_zero, List.set_cons_succ] at hK ⊢); simp only [d16] at hK ⊢; go_simp; (go_at_call 19; (with_reducible refine (HU2.out _).mono ?_); rintro e w3 ⟨⟨v3, rfl, rfl⟩, hb3⟩; (obtain ⟨hc3, hf3⟩ := bcell hb3); (have hs3 := hb3.size); (try simp at hs3)); go_wp2_with fail; (refine hK.out _ _ ?_ ?_); (· exact rfl); (· with_reducible assumption)
            · intro us wq hbq hSq hdq K hK; (have d17 : us 17 = .tuple #[.agg #[.int .i64 v0, .int .i64 v1, .int .i64 v2, .int .i64 v3], .int .i64 e2] := hdq (17, 77) (by simp) (by kernel_rfl)); (simp only [frameOf, Act.put, List.setIfInBounds_toArray, List.set_cons_zero, List.set_cons_succ] at hK ⊢); simp only [d17] at hK ⊢; go_simp; go_wp2_with fail; (refine hK.out _ _ ?_ ?_); (· exact rfl); (· exact Below.refl _ _)
            · intro us wq hbq hSq hdq K hK; (have d18 : us 18 = .tuple #[.agg #[.int .i64 v0, .int .i64 v1, .int .i64 v2, .int .i64 v3], .int .i64 e2] := hdq (18, 59) (by simp) (by kernel_rfl)); (simp only [frameOf, Act.put, List.setIfInBounds_toArray, List.set_cons_zero, List.set_cons_succ] at hK ⊢); simp only [d18] at hK ⊢; go_simp; go_wp2_with fail; (refine hK.out _ _ ?_ ?_); (· exact rfl); (· exact Below.refl _ _)
            · intro us wq hbq hSq hdq K hK; (simp only [frameOf, Act.put, List.setIfInBounds_toArray, List.set_cons_zero, List.set_cons_succ] at hK ⊢); go_simp; go_wp2_with fail; (refine hK.out _ _ ?_ ?_); (· exact ⟨_, rfl, hbq.size, JBox.made rfl (fun _ => 0) _⟩); (· exact below_alloc _ _)
            · intro us wq hbq hSq hdq; (have d18 : us 18 = .tuple #[.agg #[.int .i64 v0, .int .i64 v1, .int .i64 v2, .int .i64 v3], .int .i64 e2] := hdq (18, 59) (by simp) (by kernel_rfl)); refine ⟨.int .i64 e2, Or.inl ⟨by rfl, fun W => ?_⟩, rfl⟩; (simp only [frameOf, Act.put, List.setIfInBounds_toArray, List.set_cons_zero, List.set_cons_succ]); simp only [d18]; go_simp
          case fin =>
            intro us wq hbq hSq hdq
            have d3 : us 3 = .int .i64 b4 := hdq (3, 63) (by simp)
            have d7 : us 7 = .int .i64 b5 := hdq (7, 67) (by simp)
            have d11 : us 11 = .int .i64 b6 := hdq (11, 71) (by simp)
            have d15 : us 15 = .int .i64 b7 := hdq (15, 75) (by simp)
            have d16 : us 16 = .agg #[.int .i64 b4, .int .i64 b5, .int .i64 b6, .int .i64 b7] := hdq (16, 76) (by simp)
            have d17 : us 17 = .tuple #[.agg #[.int .i64 v0, .int .i64 v1, .int .i64 v2, .int .i64 v3], .int .i64 e2] := hdq (17, 77) (by simp)
            have d18 : us 18 = .tuple #[.agg #[.int .i64 v0, .int .i64 v1, .int .i64 v2, .int .i64 v3], .int .i64 e2] := hdq (18, 59) (by simp)
            have d19 : us 19 = .agg #[.int .i64 v0, .int .i64 v1, .int .i64 v2, .int .i64 v3] := hdq (19, 78) (by simp)
            have d20 : us 20 = .int .i64 e2 := hdq (20, 79) (by simp)
            obtain ⟨g6, d21, hgg, BJ⟩ : ∃ g8, us 21 = .pointer (some ⟨g8, 0, none⟩) ∧ W5.heap.size ≤ g8 ∧ JBox wq g8 (fun _ => 0) := hdq (21, 7) (by simp)
            simp only [frameOf, Act.put, List.setIfInBounds_toArray, List.set_cons_zero, List.set_cons_succ, d3, d7, d11, d15, d16, d17, d18, d19, d20, d21]
            clear hdq d3 d7 d11 d15 d16 d17 d18 d19 d20 d21
            have MB := Lib.hid ((MB.out.drew.later hbq).far4 (show g6 ≠ g4 by omega) (.int .i64 v0) (.int .i64 v1) (.int .i64 v2) (.int .i64 v3))
            have JU := Lib.hid ((JU.out.drew.later hbq).far4 (show g6 ≠ g5 by omega) (.int .i64 v0) (.int .i64 v1) (.int .i64 v2) (.int .i64 v3))
            have JV := Lib.hid (BJ.put4 v0 v1 v2 v3)
            have BE4 := Lib.hid (below4 (below_after hbq BE4.out.drew bes) (show w.heap.size ≤ g6 by omega) (.int .i64 v0) (.int .i64 v1) (.int .i64 v2) (.int .i64 v3))
            have j0 := BJ.c 0 (by omega)
            have jf0 := BJ.f0 0
            have j1 := BJ.c 1 (by omega)
            have jf1 := BJ.f0 1
            have j2 := BJ.c 2 (by omega)
            have jf2 := BJ.f0 2
            have j3 := BJ.c 3 (by omega)
            have jf3 := BJ.f0 3
            have bjl := BJ.lt
            obtain ⟨W6, hW⟩ : ∃ W, ((((wq.setCell ⟨g6, 0, none⟩ (.int .i64 v0)).setCell ⟨g6, 1, none⟩ (.int .i64 v1)).setCell ⟨g6, 2, none⟩ (.int .i64 v2)).setCell ⟨g6, 3, none⟩ (.int .i64 v3)) = W := ⟨_, rfl⟩
            (refine last_ (i := 22) (N := none) #[true, true, true, true, true, true, true, true, true, true, true, true, true, true, true, true, true, true, true, true, true, true, true, false] rfl rfl (by kernel_rfl) (by simp) (fun K hK => ?_); go_simp; (refine hK.out _ _ ?_); clear hK; clear K; (try simp only [Act.put, List.setIfInBounds_toArray, List.set_cons_zero, List.set_cons_succ]))
            (refine pure_ (i := 23) (N := some 8) (v := ?_) #[true, true, true, true, true, true, true, true, true, true, true, true, true, true, true, true, true, true, true, true, true, true, true, true] rfl rfl (by kernel_rfl) (fun _ _ _ h => h) (Or.inl ⟨by rfl, ?_⟩) rfl ?_; rotate_left 1; (· intro w; go_simp; first | done | with_reducible rfl); (try simp only [Act.put, List.setIfInBounds_toArray, List.set_cons_zero, List.set_cons_succ]))
            (refine done_ (by kernel_rfl) ?_)
            rw [hW] at MB JV JU BE4
            clear hW hbq hSq j0 j1 j2 j3 jf0 jf1 jf2 jf3 BJ m0 m1 m2 m3
            have bes := BE4.out.size
            have mbl := MB.out.lt
            have bxl := JV.out.lt
            obtain ⟨gu, gv, hlv⟩ := HW.out
            rcases gu with rfl | ⟨rfl, gu⟩
            · clear HU1 HU2 gv
              go_wp2_with (go_at_call 22; (refine (HNUM.out _ _).mono ?_); rintro e w' ⟨⟨v, rfl, hv⟩, rfl⟩; (subst hv))
              go_roundw
              case rel => exact ⟨k + 1, by omega, by omega, by go_num, Lib.hid (BE4.out)⟩
              case measure => simp [intOf]; omega
            rcases gv with rfl | ⟨rfl, gv⟩
            · clear HU1 HU2
              go_wp2_with (go_at_call 22; (refine (HNUM.out _ _).mono ?_); rintro e w' ⟨⟨v, rfl, hv⟩, rfl⟩; (subst hv))
              go_roundw
              case rel => exact ⟨k + 1, by omega, by omega, by go_num, Lib.hid (BE4.out)⟩
              case measure => simp [intOf]; omega
            have hpu := one_pos gu.2 (by decide)
            have hpv := one_pos gv.2 (by decide)
            have hone := prod_one gu.2 gv.2
            have hpr := one_pos hone (by decide)
            have gr : goodQ (u.prod v) = true := good_of_nm (by have := hone.2; omega)
            have l1 := turn_le hpr hlv (by decide)
            have l2 := turn_le hpv hlv (by decide)
            have l3 := turn_le hpu l2 (by decide)
            have l4 := turn_le (q := u.conj) (by rw [Q4.nm_conj]; exact hpu) hlv (by decide)
            have gt := hlv.good (by decide)
            have gj := conj_good gu.1
            have hnear := chains_plain u v t gu.2 gv.2 hlv
            have HP := fun W : World => mul_good u v (u.prod v) W gu.1 gv.1 rfl gr
            have HT1 := Turn_good (u.prod v) t _ gr hpr gt rfl (l1.good (by decide))
            have HT2 := Turn_good v t _ gv.1 hpv gt rfl (l2.good (by decide))
            have HT3 := Turn_good u (turnV v t) _ gu.1 hpu (l2.good (by decide)) rfl (l3.good (by decide))
            have HT4 := Turn_good u.conj t _ gj (by rw [Q4.nm_conj]; exact hpu) gt rfl (l4.good (by decide))
            have HT5 := Back_good u t _ gu.1 hpu gt rfl (l4.good (by decide))
            have HNR := fun W : World => near_any (turnV (u.prod v) t) (turnV u (turnV v t)) 16 W (l1.good (by decide)) (l3.good (by decide)) (by decide) hnear
            have HJ := fun W : World => conj_any u W gu.1
            have equ := HEQU.out
            have eqv := HEQV.out
            clear hpu hpv hone hpr gr l1 l2 l3 l4 gt gj hnear gu gv hlv HEQU HEQV HW
            obtain ⟨r, hr⟩ : ∃ r, u.prod v = r := ⟨_, rfl⟩
            rw [hr] at HP HT1 HNR
            obtain ⟨a1, ha1⟩ : ∃ a, turnV r t = a := ⟨_, rfl⟩
            rw [ha1] at HT1 HNR
            obtain ⟨a2, ha2⟩ : ∃ a, turnV v t = a := ⟨_, rfl⟩
            rw [ha2] at HT2 HT3 HNR
            obtain ⟨a3, ha3⟩ : ∃ a, turnV u a2 = a := ⟨_, rfl⟩
            rw [ha3] at HT3 HNR
            obtain ⟨a4, ha4⟩ : ∃ a, turnV u.conj t = a := ⟨_, rfl⟩
            rw [ha4] at HT4 HT5
            obtain ⟨j, hj⟩ : ∃ j, u.conj = j := ⟨_, rfl⟩
            rw [hj] at HT4 HJ
            clear hr ha1 ha2 ha3 ha4 hj
            subst equ
            subst eqv
            cases r with
            | mk r0 r1 r2 r3 =>
            cases j with
            | mk j0 j1 j2 j3 =>
            cases t with
            | mk t0 t1 t2 =>
            cases a1 with
            | mk a10 a11 a12 =>
            cases a2 with
            | mk a20 a21 a22 =>
            cases a3 with
            | mk a30 a31 a32 =>
            cases a4 with
            | mk a40 a41 a42 =>
            have HP := Lib.hid (show ∀ W : World, Calls Try.prog 20 #[.agg #[.int .i64 u0, .int .i64 u1, .int .i64 u2, .int .i64 u3], .agg #[.int .i64 v0, .int .i64 v1, .int .i64 v2, .int .i64 v3]] W (RetB W fun r _ => r = .tuple #[.agg #[.int .i64 r0, .int .i64 r1, .int .i64 r2, .int .i64 r3], .int .i64 0]) from HP)
            have HT1 := Lib.hid (show ∀ W : World, Calls Try.prog 27 #[.agg #[.int .i64 r0, .int .i64 r1, .int .i64 r2, .int .i64 r3], .agg #[.int .i64 t0, .int .i64 t1, .int .i64 t2]] W (RetB W fun r _ => r = .tuple #[.agg #[.int .i64 a10, .int .i64 a11, .int .i64 a12], .int .i64 0]) from HT1)
            have HT2 := Lib.hid (show ∀ W : World, Calls Try.prog 27 #[.agg #[.int .i64 v0, .int .i64 v1, .int .i64 v2, .int .i64 v3], .agg #[.int .i64 t0, .int .i64 t1, .int .i64 t2]] W (RetB W fun r _ => r = .tuple #[.agg #[.int .i64 a20, .int .i64 a21, .int .i64 a22], .int .i64 0]) from HT2)
            have HT3 := Lib.hid (show ∀ W : World, Calls Try.prog 27 #[.agg #[.int .i64 u0, .int .i64 u1, .int .i64 u2, .int .i64 u3], .agg #[.int .i64 a20, .int .i64 a21, .int .i64 a22]] W (RetB W fun r _ => r = .tuple #[.agg #[.int .i64 a30, .int .i64 a31, .int .i64 a32], .int .i64 0]) from HT3)
            have HT4 := Lib.hid (show ∀ W : World, Calls Try.prog 27 #[.agg #[.int .i64 j0, .int .i64 j1, .int .i64 j2, .int .i64 j3], .agg #[.int .i64 t0, .int .i64 t1, .int .i64 t2]] W (RetB W fun r _ => r = .tuple #[.agg #[.int .i64 a40, .int .i64 a41, .int .i64 a42], .int .i64 0]) from HT4)
            have HT5 := Lib.hid (show ∀ W : World, Calls Try.prog 29 #[.agg #[.int .i64 u0, .int .i64 u1, .int .i64 u2, .int .i64 u3], .agg #[.int .i64 t0, .int .i64 t1, .int .i64 t2]] W (RetB W fun r _ => r = .tuple #[.agg #[.int .i64 a40, .int .i64 a41, .int .i64 a42], .int .i64 0]) from HT5)
            have HJ := Lib.hid (show ∀ W : World, Calls Try.prog 23 #[.agg #[.int .i64 u0, .int .i64 u1, .int .i64 u2, .int .i64 u3]] W (RetB W fun r _ => r = .tuple #[.agg #[.int .i64 j0, .int .i64 j1, .int .i64 j2, .int .i64 j3], .int .i64 0]) from HJ)
            have HNR := Lib.hid (show ∀ W : World, Calls Try.prog 28 #[.agg #[.int .i64 a10, .int .i64 a11, .int .i64 a12], .agg #[.int .i64 a30, .int .i64 a31, .int .i64 a32], .int .i64 16] W (RetB W fun r _ => r = .bool true) from HNR)
            have HBV := Lib.hid (show ∀ W : World, Calls Try.prog 26 #[.agg #[.int .i64 (x 8), .int .i64 (x 9), .int .i64 (x 10)], .int .i64 1073741824] W (RetB W fun r _ => r = .agg #[.int .i64 t0, .int .i64 t1, .int .i64 t2]) from HBV.out)
            have HNE := neqv a40 a41 a42
            have m8 := MB.out.c 8 (by omega)
            have m9 := MB.out.c 9 (by omega)
            have m10 := MB.out.c 10 (by omega)
            go_upto_region 9 with (first | (go_at_call 22; (refine (HNUM.out _ _).mono ?_); rintro e w' ⟨⟨v, rfl, hv⟩, rfl⟩; (subst hv)) | (go_at_call 26; (with_reducible refine (HBV.out _).mono ?_); rintro e w1 ⟨⟨v1, rfl, rfl⟩, hb1⟩; (obtain ⟨hc1, hf1⟩ := bcell hb1); (have hs1 := hb1.size); (try simp at hs1)))
            clear m8 m9 m10 MB
            have JU := Lib.hid ((JU.out.later hb1).alloc (.cells #[.int .i64 t0, .int .i64 t1, .int .i64 t2] 40))
            have JV := Lib.hid ((JV.out.later hb1).alloc (.cells #[.int .i64 t0, .int .i64 t1, .int .i64 t2] 40))
            have MT : Hid (MBox (w1.alloc (.cells #[.int .i64 t0, .int .i64 t1, .int .i64 t2] 40)) w1.heap.size 3 (pick4 t0 t1 t2 0)) := Lib.hid (MBox.made3 (W := w1) rfl (pick4 t0 t1 t2 0) 40)
            have BE4 := Lib.hid (show Below w.heap.size w (w1.alloc (.cells #[.int .i64 t0, .int .i64 t1, .int .i64 t2] 40)) from (below_after hb1 BE4.out bes).alloc (by have := BE4.out.size; omega) _)
            obtain ⟨gg1, hg⟩ : ∃ g, w1.heap.size = g := ⟨_, rfl⟩
            obtain ⟨WW1, hW⟩ : ∃ W, w1.alloc (.cells #[.int .i64 t0, .int .i64 t1, .int .i64 t2] 40) = W := ⟨_, rfl⟩
            rw [hW] at MT BE4 JU JV
            rw [hg] at MT
            rw [hg, hW]
            clear hg hW hb1 hs1 hc1 hf1
            have bes := BE4.out.size
            obtain ⟨p0, p1, p2, p3⟩ := JU.out.at4
            obtain ⟨q0, q1, q2, q3⟩ := JV.out.at4
            go_upto_region 10 with (go_at_call 20; (with_reducible refine (HP.out _).mono ?_); rintro e w2 ⟨⟨v2, rfl, rfl⟩, hb2⟩; (obtain ⟨hc2, hf2⟩ := bcell hb2); (have hs2 := hb2.size); (try simp at hs2))
            clear p0 p1 p2 p3 q0 q1 q2 q3
            have JU := Lib.hid ((JU.out.later hb2).alloc (.cells #[.int .i64 r0, .int .i64 r1, .int .i64 r2, .int .i64 r3] 38))
            have JV := Lib.hid ((JV.out.later hb2).alloc (.cells #[.int .i64 r0, .int .i64 r1, .int .i64 r2, .int .i64 r3] 38))
            have MT := Lib.hid ((MT.out.later hb2).alloc (.cells #[.int .i64 r0, .int .i64 r1, .int .i64 r2, .int .i64 r3] 38))
            have JR : Hid (JBox (w2.alloc (.cells #[.int .i64 r0, .int .i64 r1, .int .i64 r2, .int .i64 r3] 38)) w2.heap.size (pick4 r0 r1 r2 r3)) := Lib.hid (JBox.made (W := w2) rfl (pick4 r0 r1 r2 r3) 38)
            have BE4 := Lib.hid (show Below w.heap.size w (w2.alloc (.cells #[.int .i64 r0, .int .i64 r1, .int .i64 r2, .int .i64 r3] 38)) from (below_after hb2 BE4.out bes).alloc (by have := BE4.out.size; omega) _)
            obtain ⟨gg2, hg⟩ : ∃ g, w2.heap.size = g := ⟨_, rfl⟩
            obtain ⟨WW2, hW⟩ : ∃ W, w2.alloc (.cells #[.int .i64 r0, .int .i64 r1, .int .i64 r2, .int .i64 r3] 38) = W := ⟨_, rfl⟩
            rw [hW] at JR BE4 JU JV MT
            rw [hg] at JR
            rw [hg, hW]
            clear hg hW hb2 hs2 hc2 hf2
            have bes := BE4.out.size
            obtain ⟨p0, p1, p2, p3⟩ := JR.out.at4
            obtain ⟨q0, q1, q2⟩ := MT.out.at3
            go_upto_region 11 with (go_at_call 27; (with_reducible refine (HT1.out _).mono ?_); rintro e w3 ⟨⟨v3, rfl, rfl⟩, hb3⟩; (obtain ⟨hc3, hf3⟩ := bcell hb3); (have hs3 := hb3.size); (try simp at hs3))
            clear p0 p1 p2 p3 q0 q1 q2
            have JU := Lib.hid ((JU.out.later hb3).alloc (.cells #[.int .i64 a10, .int .i64 a11, .int .i64 a12] 40))
            have JV := Lib.hid ((JV.out.later hb3).alloc (.cells #[.int .i64 a10, .int .i64 a11, .int .i64 a12] 40))
            have MT := Lib.hid ((MT.out.later hb3).alloc (.cells #[.int .i64 a10, .int .i64 a11, .int .i64 a12] 40))
            have M1 : Hid (MBox (w3.alloc (.cells #[.int .i64 a10, .int .i64 a11, .int .i64 a12] 40)) w3.heap.size 3 (pick4 a10 a11 a12 0)) := Lib.hid (MBox.made3 (W := w3) rfl (pick4 a10 a11 a12 0) 40)
            have BE4 := Lib.hid (show Below w.heap.size w (w3.alloc (.cells #[.int .i64 a10, .int .i64 a11, .int .i64 a12] 40)) from (below_after hb3 BE4.out bes).alloc (by have := BE4.out.size; omega) _)
            obtain ⟨gg3, hg⟩ : ∃ g, w3.heap.size = g := ⟨_, rfl⟩
            obtain ⟨WW3, hW⟩ : ∃ W, w3.alloc (.cells #[.int .i64 a10, .int .i64 a11, .int .i64 a12] 40) = W := ⟨_, rfl⟩
            rw [hW] at M1 BE4 JU JV MT
            rw [hg] at M1
            rw [hg, hW]
            clear hg hW hb3 hs3 hc3 hf3
            have bes := BE4.out.size
            obtain ⟨p0, p1, p2, p3⟩ := JV.out.at4
            obtain ⟨q0, q1, q2⟩ := MT.out.at3
            go_upto_region 12 with (go_at_call 27; (with_reducible refine (HT2.out _).mono ?_); rintro e w4 ⟨⟨v4, rfl, rfl⟩, hb4⟩; (obtain ⟨hc4, hf4⟩ := bcell hb4); (have hs4 := hb4.size); (try simp at hs4))
            clear p0 p1 p2 p3 q0 q1 q2
            have JU := Lib.hid ((JU.out.later hb4).alloc (.cells #[.int .i64 a20, .int .i64 a21, .int .i64 a22] 40))
            have MT := Lib.hid ((MT.out.later hb4).alloc (.cells #[.int .i64 a20, .int .i64 a21, .int .i64 a22] 40))
            have M1 := Lib.hid ((M1.out.later hb4).alloc (.cells #[.int .i64 a20, .int .i64 a21, .int .i64 a22] 40))
            have M2 : Hid (MBox (w4.alloc (.cells #[.int .i64 a20, .int .i64 a21, .int .i64 a22] 40)) w4.heap.size 3 (pick4 a20 a21 a22 0)) := Lib.hid (MBox.made3 (W := w4) rfl (pick4 a20 a21 a22 0) 40)
            have BE4 := Lib.hid (show Below w.heap.size w (w4.alloc (.cells #[.int .i64 a20, .int .i64 a21, .int .i64 a22] 40)) from (below_after hb4 BE4.out bes).alloc (by have := BE4.out.size; omega) _)
            obtain ⟨gg4, hg⟩ : ∃ g, w4.heap.size = g := ⟨_, rfl⟩
            obtain ⟨WW4, hW⟩ : ∃ W, w4.alloc (.cells #[.int .i64 a20, .int .i64 a21, .int .i64 a22] 40) = W := ⟨_, rfl⟩
            rw [hW] at M2 BE4 JU MT M1
            rw [hg] at M2
            rw [hg, hW]
            clear hg hW hb4 hs4 hc4 hf4
            have bes := BE4.out.size
            obtain ⟨p0, p1, p2, p3⟩ := JU.out.at4
            obtain ⟨q0, q1, q2⟩ := M2.out.at3
            go_upto_region 13 with (go_at_call 27; (with_reducible refine (HT3.out _).mono ?_); rintro e w5 ⟨⟨v5, rfl, rfl⟩, hb5⟩; (obtain ⟨hc5, hf5⟩ := bcell hb5); (have hs5 := hb5.size); (try simp at hs5))
            clear p0 p1 p2 p3 q0 q1 q2
            have JU := Lib.hid ((JU.out.later hb5).alloc (.cells #[.int .i64 a30, .int .i64 a31, .int .i64 a32] 40))
            have MT := Lib.hid ((MT.out.later hb5).alloc (.cells #[.int .i64 a30, .int .i64 a31, .int .i64 a32] 40))
            have M1 := Lib.hid ((M1.out.later hb5).alloc (.cells #[.int .i64 a30, .int .i64 a31, .int .i64 a32] 40))
            have M3 : Hid (MBox (w5.alloc (.cells #[.int .i64 a30, .int .i64 a31, .int .i64 a32] 40)) w5.heap.size 3 (pick4 a30 a31 a32 0)) := Lib.hid (MBox.made3 (W := w5) rfl (pick4 a30 a31 a32 0) 40)
            have BE4 := Lib.hid (show Below w.heap.size w (w5.alloc (.cells #[.int .i64 a30, .int .i64 a31, .int .i64 a32] 40)) from (below_after hb5 BE4.out bes).alloc (by have := BE4.out.size; omega) _)
            obtain ⟨gg5, hg⟩ : ∃ g, w5.heap.size = g := ⟨_, rfl⟩
            obtain ⟨WW5, hW⟩ : ∃ W, w5.alloc (.cells #[.int .i64 a30, .int .i64 a31, .int .i64 a32] 40) = W := ⟨_, rfl⟩
            rw [hW] at M3 BE4 JU MT M1
            rw [hg] at M3
            rw [hg, hW]
            clear hg hW hb5 hs5 hc5 hf5
            have bes := BE4.out.size
            obtain ⟨p0, p1, p2⟩ := M1.out.at3
            obtain ⟨q0, q1, q2⟩ := M3.out.at3
            go_upto_region 15 with (first | (go_at_call 22; (refine (HNUM.out _ _).mono ?_); rintro e w' ⟨⟨v, rfl, hv⟩, rfl⟩; (subst hv)) | (go_at_call 28; (with_reducible refine (HNR.out _).mono ?_); rintro e w6 ⟨⟨v6, rfl, rfl⟩, hb6⟩; (obtain ⟨hc6, hf6⟩ := bcell hb6); (have hs6 := hb6.size); (try simp at hs6)))
            clear p0 p1 p2 q0 q1 q2
            have JU := Lib.hid (JU.out.later hb6)
            have MT := Lib.hid (MT.out.later hb6)
            have BE4 := Lib.hid (below_after hb6 BE4.out bes)
            clear hs6 hc6 hf6 hb6
            have bes := BE4.out.size
            obtain ⟨p0, p1, p2, p3⟩ := JU.out.at4
            go_upto_region 16 with (go_at_call 23; (with_reducible refine (HJ.out _).mono ?_); rintro e w7 ⟨⟨v7, rfl, rfl⟩, hb7⟩; (obtain ⟨hc7, hf7⟩ := bcell hb7); (have hs7 := hb7.size); (try simp at hs7))
            clear p0 p1 p2 p3
            have JU := Lib.hid ((JU.out.later hb7).alloc (.cells #[.int .i64 j0, .int .i64 j1, .int .i64 j2, .int .i64 j3] 38))
            have MT := Lib.hid ((MT.out.later hb7).alloc (.cells #[.int .i64 j0, .int .i64 j1, .int .i64 j2, .int .i64 j3] 38))
            have JJ : Hid (JBox (w7.alloc (.cells #[.int .i64 j0, .int .i64 j1, .int .i64 j2, .int .i64 j3] 38)) w7.heap.size (pick4 j0 j1 j2 j3)) := Lib.hid (JBox.made (W := w7) rfl (pick4 j0 j1 j2 j3) 38)
            have BE4 := Lib.hid (show Below w.heap.size w (w7.alloc (.cells #[.int .i64 j0, .int .i64 j1, .int .i64 j2, .int .i64 j3] 38)) from (below_after hb7 BE4.out bes).alloc (by have := BE4.out.size; omega) _)
            obtain ⟨gg7, hg⟩ : ∃ g, w7.heap.size = g := ⟨_, rfl⟩
            obtain ⟨WW7, hW⟩ : ∃ W, w7.alloc (.cells #[.int .i64 j0, .int .i64 j1, .int .i64 j2, .int .i64 j3] 38) = W := ⟨_, rfl⟩
            rw [hW] at JJ BE4 JU MT
            rw [hg] at JJ
            rw [hg, hW]
            clear hg hW hb7 hs7 hc7 hf7
            have bes := BE4.out.size
            obtain ⟨p0, p1, p2, p3⟩ := JJ.out.at4
            obtain ⟨q0, q1, q2⟩ := MT.out.at3
            go_upto_region 17 with (go_at_call 27; (with_reducible refine (HT4.out _).mono ?_); rintro e w8 ⟨⟨v8, rfl, rfl⟩, hb8⟩; (obtain ⟨hc8, hf8⟩ := bcell hb8); (have hs8 := hb8.size); (try simp at hs8))
            clear p0 p1 p2 p3 q0 q1 q2
            have JU := Lib.hid ((JU.out.later hb8).alloc (.cells #[.int .i64 a40, .int .i64 a41, .int .i64 a42] 40))
            have MT := Lib.hid ((MT.out.later hb8).alloc (.cells #[.int .i64 a40, .int .i64 a41, .int .i64 a42] 40))
            have M4 : Hid (MBox (w8.alloc (.cells #[.int .i64 a40, .int .i64 a41, .int .i64 a42] 40)) w8.heap.size 3 (pick4 a40 a41 a42 0)) := Lib.hid (MBox.made3 (W := w8) rfl (pick4 a40 a41 a42 0) 40)
            have BE4 := Lib.hid (show Below w.heap.size w (w8.alloc (.cells #[.int .i64 a40, .int .i64 a41, .int .i64 a42] 40)) from (below_after hb8 BE4.out bes).alloc (by have := BE4.out.size; omega) _)
            obtain ⟨gg8, hg⟩ : ∃ g, w8.heap.size = g := ⟨_, rfl⟩
            obtain ⟨WW8, hW⟩ : ∃ W, w8.alloc (.cells #[.int .i64 a40, .int .i64 a41, .int .i64 a42] 40) = W := ⟨_, rfl⟩
            rw [hW] at M4 BE4 JU MT
            rw [hg] at M4
            rw [hg, hW]
            clear hg hW hb8 hs8 hc8 hf8
            have bes := BE4.out.size
            obtain ⟨p0, p1, p2, p3⟩ := JU.out.at4
            obtain ⟨q0, q1, q2⟩ := MT.out.at3
            go_upto_region 18 with (go_at_call 29; (with_reducible refine (HT5.out _).mono ?_); rintro e w9 ⟨⟨v9, rfl, rfl⟩, hb9⟩; (obtain ⟨hc9, hf9⟩ := bcell hb9); (have hs9 := hb9.size); (try simp at hs9))
            clear p0 p1 p2 p3 q0 q1 q2
            have M4 := Lib.hid ((M4.out.later hb9).alloc (.cells #[.int .i64 a40, .int .i64 a41, .int .i64 a42] 40))
            have M5 : Hid (MBox (w9.alloc (.cells #[.int .i64 a40, .int .i64 a41, .int .i64 a42] 40)) w9.heap.size 3 (pick4 a40 a41 a42 0)) := Lib.hid (MBox.made3 (W := w9) rfl (pick4 a40 a41 a42 0) 40)
            have BE4 := Lib.hid (show Below w.heap.size w (w9.alloc (.cells #[.int .i64 a40, .int .i64 a41, .int .i64 a42] 40)) from (below_after hb9 BE4.out bes).alloc (by have := BE4.out.size; omega) _)
            obtain ⟨gg9, hg⟩ : ∃ g, w9.heap.size = g := ⟨_, rfl⟩
            obtain ⟨WW9, hW⟩ : ∃ W, w9.alloc (.cells #[.int .i64 a40, .int .i64 a41, .int .i64 a42] 40) = W := ⟨_, rfl⟩
            rw [hW] at M5 BE4 M4
            rw [hg] at M5
            rw [hg, hW]
            clear hg hW hb9 hs9 hc9 hf9
            have bes := BE4.out.size
            obtain ⟨p0, p1, p2⟩ := M4.out.at3
            obtain ⟨q0, q1, q2⟩ := M5.out.at3
            go_wp2_with (go_at_call 22; (refine (HNUM.out _ _).mono ?_); rintro e w' ⟨⟨v, rfl, hv⟩, rfl⟩; (subst hv))
            go_roundw
            case rel => exact ⟨k + 1, by omega, by omega, by go_num, Lib.hid (BE4.out)⟩
            case measure => simp [intOf]; omega
      · have kd : (k : Int) = 12 := by omega
        have kd2 : (k : Int) < (n : Int) := by omega
        go_wp2_with (go_at_call 24; (with_reducible refine (HWK.out _).mono ?_); rintro e w1 ⟨⟨v1, rfl, rfl⟩, hb1⟩; (obtain ⟨hc1, hf1⟩ := bcell hb1); (have hs1 := hb1.size); (try simp at hs1))
        go_ret
        exact RetB.mk rfl (below_after hb1 BE.out BE.out.size)
    · have kd2 : (k : Int) = (n : Int) := by omega
      go_wp2_with (go_at_call 24; (with_reducible refine (HWK.out _).mono ?_); rintro e w1 ⟨⟨v1, rfl, rfl⟩, hb1⟩; (obtain ⟨hc1, hf1⟩ := bcell hb1); (have hs1 := hb1.size); (try simp at hs1))
      go_ret
      exact RetB.mk rfl (below_after hb1 BE.out BE.out.size)
end Go.Proofs.Ytcabnnfhcolcfaa
