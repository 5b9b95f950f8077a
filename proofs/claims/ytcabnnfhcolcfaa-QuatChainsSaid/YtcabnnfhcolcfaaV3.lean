/- The walk of vec.Sum: the sum of products of two rows. -/
import Derived.Test.YtcabnnfhcolcfaaV2
namespace Go.Proofs.Ytcabnnfhcolcfaa
set_option linter.unusedSimpArgs false
set_option linter.unusedVariables false
open Go.RowKit

/-- A row of whole numbers that can be read. -/
def RowR (w : World) (v : Value) (zs : List Int) : Prop :=
  ∃ A n c, v = .slice A n c ∧ zs.length = n ∧ n ≤ c ∧ c ≤ 9223372036854775807 ∧ (0 < n → ∃ g o, A = some ⟨g, o, none⟩ ∧ ∀ j, j < n → ∃ B m d, w.cell? ⟨g, o + j * 2, none⟩ = some (.bool (decide (lim zs j < 0))) ∧ w.cell? ⟨g, o + j * 2 + 1, none⟩ = some (.slice B m d) ∧ NatAt w (.slice B m d) (lim zs j).natAbs)
theorem RowR.below {w w' : World} {v : Value} {zs : List Int} (h : RowR w v zs) (hb : Below w.heap.size w w') : RowR w' v zs := by
  obtain ⟨A, n, c, e, hl, hnc, hc, h⟩ := h
  refine ⟨A, n, c, e, hl, hnc, hc, fun h0 => ?_⟩
  obtain ⟨g, o, e2, h⟩ := h h0
  refine ⟨g, o, e2, fun j hj => ?_⟩
  obtain ⟨B, m, d, h1, h2, h3⟩ := h j hj
  exact ⟨B, m, d, cell_below hb h1, cell_below hb h2, h3.below hb⟩
theorem RowR.alloc {w : World} {v : Value} {zs : List Int} (h : RowR w v zs) (o : Obj) : RowR (w.alloc o) v zs := h.below (below_alloc w o)
theorem RowR.drew {w : World} {v : Value} {zs : List Int} (h : RowR w v zs) : RowR w.drew v zs := h
theorem RowR.drewN {w : World} {v : Value} {zs : List Int} (h : RowR w v zs) (n : Nat) : RowR (w.drewN n) v zs := h
theorem RowZ.read {w : World} {base : Nat} {v : Value} {zs : List Int} (h : RowZ w base v zs) : RowR w v zs := by
  obtain ⟨ms, hms, how, hnu, hmz⟩ := h
  have hl : ms.length = zs.length := by rw [← hms, List.length_map]
  rcases how.2 with ⟨rfl, h0⟩ | ⟨g, cap, cur, rfl, hb, hg, hnc, hcm, hcs, htake⟩
  · exact ⟨none, 0, 0, rfl, by omega, by omega, by omega, fun h => by omega⟩
  · refine ⟨_, _, _, rfl, rfl, hnc, by unfold maxLen at hcm; omega, fun h0 => ⟨g, 0, rfl, fun j hj => ?_⟩⟩
    have hjm : j < ms.length := by omega
    obtain ⟨c1, c2⟩ := cellsZ_at ms j ms[j] (List.getElem?_eq_getElem hjm)
    have hlz : lim zs j = ms[j].1 := by
      unfold lim
      rw [List.getD_eq_getElem?_getD, ← hms, List.getElem?_map, List.getElem?_eq_getElem hjm]; rfl
    obtain ⟨B, m, d, e, hn⟩ := hmz ms[j] (List.getElem_mem hjm)
    have ha : ∀ i, (⟨g, 0, none⟩ : Addr).add i = ⟨g, i, none⟩ := fun i => by unfold Addr.add; split <;> simp_all
    have k1 := how.cells (g := g) rfl (2 * j) _ c1
    have k2 := how.cells (g := g) rfl (2 * j + 1) _ c2
    rw [ha] at k1 k2
    rw [hlz, e] at *
    rw [Nat.zero_add, Nat.mul_comm j 2]
    exact ⟨B, m, d, k1, k2, hn⟩
/-- A store into a box leaves a row that lies elsewhere. -/
theorem RowR.put {w : World} {A : Option Addr} {n c : Nat} {zs : List Int} {g : Nat} {f : Bool} {A2 : Option Addr} {n2 c2 : Nat} {i : Int} (h : RowR w (.slice A n c) zs) (k : IBox w g f A2 n2 c2 i) (u v : Value) (hne : ∀ ad, A = some ad → ad.block ≠ g) : RowR ((w.setCell ⟨g, 0, none⟩ u).setCell ⟨g, 1, none⟩ v) (.slice A n c) zs := by
  obtain ⟨A', n', c', e, hl, hnc, hc, h⟩ := h
  cases e
  refine ⟨A, n, c, rfl, hl, hnc, hc, fun h0 => ?_⟩
  obtain ⟨b, o, e2, h⟩ := h h0
  have hb : g ≠ b := fun e => hne _ e2 e.symm
  refine ⟨b, o, e2, fun j hj => ?_⟩
  obtain ⟨B, m, d, h1, h2, h3⟩ := h j hj
  have h4 := (IntAt.mk h3).put2 k.c0 k.c1 u v
  exact ⟨B, m, d, cell_far (cell_far h1 hb) hb, cell_far (cell_far h2 hb) hb, h4.nat.1⟩
theorem rowz_ne {w : World} {base g : Nat} {v : Value} {zs : List Int} (h : RowZ w base v zs) (hg : g < base) : ∀ ad : Addr, v.ownBlock = some ad.block → ad.block ≠ g := fun ad e => by
  obtain ⟨ms, hms, how, hnu, hmz⟩ := h
  have := (how.lt _ e).1
  omega
def sumZ : List Int → Int
  | [] => 0
  | x :: r => x + sumZ r
theorem sumZ_snoc (l : List Int) (x : Int) : sumZ (l ++ [x]) = sumZ l + x := by
  induction l with
  | nil => simp [sumZ]
  | cons y r ih => simp only [List.cons_append, sumZ, ih]; omega
theorem Sp.bnd {m : Int} {K : Int} {P : Nat} (hK : K < 2 ^ P) (h : -K ≤ m) (h2 : m ≤ K) : Sp P m := ⟨P, Nat.le_refl _, by omega, by omega⟩
theorem sumZ_bd (l : List Int) (K : Int) (hK : 0 ≤ K) (h : ∀ x ∈ l, -K ≤ x ∧ x ≤ K) : -(l.length * K) ≤ sumZ l ∧ sumZ l ≤ l.length * K := by
  induction l with
  | nil => simp [sumZ]
  | cons y r ih =>
    have h1 := h y (by simp)
    have h2 := ih (fun x hx => h x (by simp [hx]))
    simp only [sumZ, List.length_cons]
    have e : ((r.length + 1 : Nat) : Int) * K = r.length * K + K := by rw [Int.natCast_add]; grind
    rw [e]
    omega
set_option maxHeartbeats 1000000 in
set_option maxRecDepth 100000 in
theorem sum_any (A B : Option Addr) (n c d : Nat) (xs ys : List Int) (s : Int) (w : World) (hn : n ≤ 1000) (hr : RdI w A n xs) (hs : RdI w B n ys) (hx : ∀ k, k < n → I64 (lim xs k) ∧ I64 (lim ys k)) (hsum : sumZ (List.zipWith (· * ·) xs ys) = s) :
    Calls Try.prog 66 #[.slice A n c, .slice B n d] w (RetB w fun r w' => IntAt w' r s) := by
  obtain ⟨zs, hzs⟩ : ∃ zs, List.zipWith (· * ·) xs ys = zs := ⟨_, rfl⟩
  have hzl : zs.length = n := by rw [← hzs, List.length_zipWith, hr.1, hs.1]; omega
  have hzk : ∀ k, k < n → zs[k]? = some (lim xs k * lim ys k) := fun k hk => hzs ▸ lim_zip _ xs ys k (by rw [hr.1]; exact hk) (by rw [hs.1]; exact hk)
  have hlz : ∀ k, k < n → lim zs k = lim xs k * lim ys k := fun k hk => by unfold lim; rw [List.getD_eq_getElem?_getD, hzk k hk]; rfl
  have HZ := Lib.hid (fun (k : Nat) (hk : k < n) => show zs[k]? = some (lim zs k) by rw [hlz k hk]; exact hzk k hk)
  have HZL := Lib.hid hzl
  have hbd : ∀ x ∈ zs, -(85070591730234615865843651857942052864 : Int) ≤ x ∧ x ≤ 85070591730234615865843651857942052864 := by
    intro x hx2
    obtain ⟨k, hk, rfl⟩ := List.getElem_of_mem hx2
    have h1 := hzk k (by omega)
    rw [List.getElem?_eq_getElem hk] at h1
    injection h1 with h1
    rw [h1]
    obtain ⟨h2, h3⟩ := hx k (by omega)
    have := mul_bd (x := lim xs k) (y := lim ys k) (p := 9223372036854775808) (q := 9223372036854775808) (ab_le_of (by unfold I64 at h2; omega) (by unfold I64 at h2; omega)) (ab_le_of (by unfold I64 at h3; omega) (by unfold I64 at h3; omega))
    omega
  have HSL := Lib.hid (fun (k : Nat) (hk : k ≤ n) => show Sl (sumZ (zs.take k)) from (by
    have h := sumZ_bd (zs.take k) 85070591730234615865843651857942052864 (by omega) (fun x hx => hbd x (List.mem_of_mem_take hx))
    rw [List.length_take, hzl, Nat.min_eq_left hk] at h
    exact (Sp.bnd (P := 140) (K := 85070591730234615865843651857942052864 * 1000) (by decide) (by omega) (by omega)).sl (by omega)))
  have HZS := Lib.hid (fun (k : Nat) (hk : k < n) => show Sl (lim zs k) from (by
    have h := hbd (lim zs k) (List.mem_of_getElem? ((hzk k hk).trans (by rw [hlz k hk])))
    exact (Sp.bnd (P := 140) (K := 85070591730234615865843651857942052864) (by decide) (by omega) (by omega)).sl (by omega)))
  have HE := Lib.hid (fun (W : World) (h1 : RdI W A n xs) (h2 : RdI W B n ys) => hzs ▸ each_times (· * ·) A B n c d xs ys W hn h1 h2 (fun k W hk => times_any _ _ _ W (hx k hk).1 (hx k hk).2 rfl))
  rw [hzs] at hsum
  have HS := Lib.hid hsum
  have HR := Lib.hid hr
  have HR2 := Lib.hid hs
  clear hr hs hx hzs hzl hzk hlz hbd hsum
  go_enter Try.func66, Try.ntmps66
  go_wp2_with (go_at_call 112; (with_reducible refine (HE.out _ ?_ ?_).mono ?_); (· exact (HR.out.below (below_alloc _ _))); (· exact (HR2.out.below (below_alloc _ _))); rintro e w1 ⟨⟨v1, rfl, hv1⟩, hb1⟩; (obtain ⟨hc1, hf1⟩ := bcell hb1); (have hs1 := hb1.size); (try simp at hs1); (have hz1_0 : w.heap.size < w1.heap.size := by omega); ((have HNE := Lib.hid (rowz_ne hv1 (show w.heap.size < _ by simp))); (have HRW := Lib.hid hv1.read); clear hv1; (obtain ⟨A1, n1, c1, rfl, e1, hnc, hcc, _⟩ := HRW.out); (have e2 := HZL.out); (obtain rfl : n = n1 := by omega); clear e1 e2))
  have BO := Lib.hid ((boxes_o w 81).1.later hb1)
  have BE := Lib.hid (show Below w.heap.size w w1 from (by repeat (first | (with_reducible assumption) | exact Below.refl _ _ | (with_reducible refine Below.setCell ?_ (by first | (simp; done) | (simp; omega) | omega) _) | (with_reducible refine Below.alloc ?_ (by first | (simp; done) | (simp; omega) | omega) _) | (with_reducible refine below_drewN' ?_ _) | (with_reducible refine Below.drew ?_) | (refine below_after (by with_reducible assumption) ?_ (by first | (simp; done) | (simp; omega) | omega)))))
  obtain ⟨WB, hWB⟩ : ∃ W, w1 = W := ⟨_, rfl⟩
  rw [hWB] at BO BE HRW ⊢
  clear hWB hc1 hf1 hb1 hs1 hz1_0 HE HR HR2
  go_loopw [11] (fun i wr => ∃ (k : Nat) (f : Bool) (A2 : Option Addr) (n2 c2 : Nat), k ≤ n ∧ i = .int .i64 k ∧ Hid (IBox wr w.heap.size f A2 n2 c2 (sumZ (zs.take k))) ∧ Hid (RowR wr (.slice A1 n c1) zs) ∧ Hid (Below w.heap.size w wr)) (fun i _ => n - (intOf i).toNat)
  case atStart => exact ⟨0, _, _, _, _, by omega, rfl, BO, HRW, BE⟩
  case round =>
    clear BO BE HRW
    obtain ⟨k, f, A2, n2, c2, hk, rfl, BO, HRW, BE⟩ := hrel
    by_cases hlt : k < n
    · obtain ⟨A', n', c', e, hl, hnc2, hcc2, hcl⟩ := HRW.out
      cases e
      obtain ⟨g, o, rfl, hcel⟩ := hcl (by omega)
      obtain ⟨B3, m3, d3, k1, k2, k3⟩ := hcel k hlt
      have K3 := Lib.hid k3
      clear hl hcl hcel k3
      obtain ⟨s0, hs0⟩ : ∃ s0, sumZ (zs.take k) = s0 := ⟨_, rfl⟩
      obtain ⟨x0, hx0⟩ : ∃ x0, lim zs k = x0 := ⟨_, rfl⟩
      obtain ⟨s1, hs1⟩ : ∃ s1, s0 + x0 = s1 := ⟨_, rfl⟩
      have hsn : sumZ (zs.take (k + 1)) = s1 := by rw [take_snoc_of (HZ.out k hlt), sumZ_snoc, hs0, hx0, hs1]
      have HSN := Lib.hid hsn
      have q0 : Sl s0 := hs0 ▸ HSL.out k hk
      have q1 : Sl x0 := hx0 ▸ HZS.out k hlt
      rw [hs0] at BO
      rw [hx0] at K3 k1
      have HA := Lib.hid (fun (v u : Value) (W : World) (h : IntAt W v s0) (k : IntAt W u x0) => add_int v u s0 x0 s1 W h k q0 q1 hs1)
      clear hs0 hx0 hs1 hsn q0 q1
      ((have BO_0 := (BO.out).c0); (have BO_1 := (BO.out).c1); (have BO_2 := (BO.out).f0); (have BO_3 := (BO.out).f1); (have BO_4 := (BO.out).lt))
      go_wp2_with (go_at_call 94; (with_reducible refine (HA.out _ _ _ ?_ ?_).mono ?_); (· exact BO.out.int.alloc _); (· exact (IntAt.mk K3.out).alloc _); rintro e w5 ⟨⟨v5, rfl, hv5⟩, hb5⟩; (obtain ⟨hc5, hf5⟩ := bcell hb5); (have hs5 := hb5.size); (try simp at hs5); (obtain ⟨A5, n5, c5, rfl, HN5⟩ := hv5.open_); clear hv5; ((have BO2 : IBox w5 w.heap.size f A2 n2 c2 s0 := (BO.out.alloc _).later hb5); (have m0 := BO2.c0); (have m1 := BO2.c1); (have m2 := BO2.f0); (have m3 := BO2.f1)))
      go_roundw
      case rel =>
        have be := BE.out
        exact ⟨k + 1, _, _, _, _, by omega, by go_num, Lib.hid (by rw [HSN.out]; exact BO2.put (IntAt.mk HN5.out)), Lib.hid (RowR.put (((HRW.out).alloc _).below hb5) BO2 _ _ (fun ad e => HNE.out ad (by cases e; rfl))), Lib.hid (BO2.below (by repeat (first | (with_reducible assumption) | exact Below.refl _ _ | (with_reducible refine Below.setCell ?_ (by first | (simp; done) | (simp; omega) | omega) _) | (with_reducible refine Below.alloc ?_ (by first | (simp; done) | (simp; omega) | omega) _) | (with_reducible refine below_drewN' ?_ _) | (with_reducible refine Below.drew ?_) | (refine below_after (by with_reducible assumption) ?_ (by first | (simp; done) | (simp; omega) | omega)))) (Nat.le_refl _) _ _)⟩
      case measure => simp [intOf]; omega
    · obtain rfl : k = n := by omega
      have h1 : sumZ (zs.take k) = s := by rw [List.take_of_length_le (by rw [HZL.out]; omega)]; exact HS.out
      rw [h1] at BO
      clear h1
      ((have BO_0 := (BO.out).c0); (have BO_1 := (BO.out).c1); (have BO_2 := (BO.out).f0); (have BO_3 := (BO.out).f1); (have BO_4 := (BO.out).lt))
      go_wp2
      refine bodyPost_ret (v := .agg #[.bool f, .slice A2 n2 c2]) (by simp [results, Try.results66, go_sem, BO_0, BO_1]) rfl ?_
      exact RetB.mk (BO.out.put BO.out.int).int (BO.out.below BE.out (Nat.le_refl _) _ _)
end Go.Proofs.Ytcabnnfhcolcfaa
