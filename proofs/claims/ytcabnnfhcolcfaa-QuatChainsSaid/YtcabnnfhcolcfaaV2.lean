/- The walk of vec.Each: a row of whole numbers out of two rows of words. -/
import Derived.Test.YtcabnnfhcolcfaaA1
namespace Go.Proofs.Ytcabnnfhcolcfaa
set_option linter.unusedSimpArgs false
set_option linter.unusedVariables false
open Go.RowKit

def cellsZ : List (Int × Value) → List Value
  | [] => []
  | p :: r => .bool (decide (p.1 < 0)) :: p.2 :: cellsZ r
theorem cellsZ_append (a b : List (Int × Value)) : cellsZ (a ++ b) = cellsZ a ++ cellsZ b := by
  induction a with
  | nil => rfl
  | cons p r ih => simp only [List.cons_append, cellsZ, ih]
theorem cellsZ_length (a : List (Int × Value)) : (cellsZ a).length = a.length * 2 := by
  induction a with
  | nil => rfl
  | cons p r ih => simp only [cellsZ, List.length_cons, ih]; omega
theorem cellsZ_at : ∀ (a : List (Int × Value)) (j : Nat) (p : Int × Value), a[j]? = some p → (cellsZ a)[2 * j]? = some (.bool (decide (p.1 < 0))) ∧ (cellsZ a)[2 * j + 1]? = some p.2
  | [], j, p, h => by simp at h
  | q :: r, 0, p, h => by simp at h; subst h; simp [cellsZ]
  | q :: r, j + 1, p, h => by
    have := cellsZ_at r j p (by simpa using h)
    rw [show 2 * (j + 1) = 2 * j + 1 + 1 by omega, show 2 * j + 1 + 1 + 1 = (2 * j + 1) + 1 + 1 by omega]
    simpa [cellsZ] using this
/-- A row of whole numbers of the call's own. -/
def RowZ (w : World) (base : Nat) (v : Value) (zs : List Int) : Prop :=
  ∃ ms : List (Int × Value), ms.map Prod.fst = zs ∧ w.ownsRow base 81 2 v zs.length (cellsZ ms) ∧ NUrow w v ∧ ∀ p ∈ ms, ∃ A n c, p.2 = .slice A n c ∧ NatAt w p.2 p.1.natAbs
theorem RowZ.nil (w : World) (base : Nat) : RowZ w base (.slice none 0 0) [] :=
  ⟨[], rfl, World.ownsRow_nil w base _ 2, fun g h => by simp [Value.ownBlock] at h, fun p h => by cases h⟩
theorem ownsRow_below {w w' : World} {base e size n : Nat} {v : Value} {xs : List Value} (h : w.ownsRow base e size v n xs) (hb : Below w.heap.size w w') : w'.ownsRow base e size v n xs := by
  refine ⟨h.1, ?_⟩
  rcases h.2 with hn | ⟨g, cap, cur, rfl, hbb, hgg, rest⟩
  · exact .inl hn
  · exact .inr ⟨g, cap, cur, rfl, hbb, (hb.block g (Array.getElem?_eq_some_iff.1 hgg).1).trans hgg, rest⟩
theorem NUrow.below {w w' : World} {v : Value} {base e size n : Nat} {xs : List Value} (h : NUrow w v) (ho : w.ownsRow base e size v n xs) (hb : Below w.heap.size w w') : NUrow w' v := by
  intro g hg cur e fr hc
  have hlt := (ho.lt g hg).2
  exact h g hg cur e fr ((hb.block g hlt).symm.trans hc)
theorem RowZ.below {w w' : World} {base : Nat} {v : Value} {zs : List Int} (h : RowZ w base v zs) (hb : Below w.heap.size w w') : RowZ w' base v zs := by
  obtain ⟨ms, h1, h2, h3, h4⟩ := h
  refine ⟨ms, h1, ownsRow_below h2 hb, h3.below h2 hb, fun p hp => ?_⟩
  obtain ⟨A, n, c, e, hn⟩ := h4 p hp
  exact ⟨A, n, c, e, hn.below hb⟩
theorem RowZ.alloc {w : World} {base : Nat} {v : Value} {zs : List Int} (h : RowZ w base v zs) (o : Obj) : RowZ (w.alloc o) base v zs := h.below (below_alloc w o)
theorem grown_below {B : Nat} {w0 w w' : World} {row : Option Nat} (hb : Below B w0 w) (hB : B ≤ w.heap.size) (hg : w.grownBy w' row) (hr : ∀ g, row = some g → B ≤ g) : Below B w0 w' :=
  ⟨hg.os.trans hb.os, hg.tape.trans hb.tape, hg.output.trans hb.output, Nat.le_trans hb.size hg.size, fun i hi => (hg.block i (Nat.lt_of_lt_of_le hi hB) (fun e => by
    have := hr i (by first | exact e | exact e.symm)
    omega)).trans (hb.block i hi)⟩
theorem lim_zip (g : Int → Int → Int) (xs ys : List Int) (k : Nat) (hx : k < xs.length) (hy : k < ys.length) : (List.zipWith g xs ys)[k]? = some (g (lim xs k) (lim ys k)) := by
  simp [lim, List.getD_eq_getElem?_getD, List.getElem?_zipWith, List.getElem?_eq_getElem hx, List.getElem?_eq_getElem hy]
theorem take_snoc_of {l : List Int} {k : Nat} {x : Int} (h : l[k]? = some x) : l.take (k + 1) = l.take k ++ [x] := by
  obtain ⟨hk, e⟩ := List.getElem?_eq_some_iff.1 h
  rw [List.take_succ_eq_append_getElem hk, e]
theorem cells_new2 (w : World) (x y : Value) (t : TypeId) : ∀ j u, [x, y][j]? = some u → (w.alloc (.cells #[x, y] t)).cell? ((⟨w.heap.size, 0, none⟩ : Addr).add j) = some u := by
  intro j u hj
  match j, hj with
  | 0, hj => simp at hj; subst hj; simp [Addr.add]
  | 1, hj => simp at hj; subst hj; simp [Addr.add]
  | (j + 2), hj => simp at hj
theorem nu2 (b : Bool) (A : Option Addr) (n c : Nat) : ∀ u ∈ [Value.bool b, .slice A n c], NU u := by
  intro u hu
  simp at hu
  rcases hu with rfl | rfl <;> intro x <;> simp
set_option maxHeartbeats 1000000 in
set_option maxRecDepth 100000 in
theorem each_times (g : Int → Int → Int) (A B : Option Addr) (n c d : Nat) (xs ys : List Int) (w : World) (hn : n ≤ 1000) (hr : RdI w A n xs) (hs : RdI w B n ys)
    (hdo : ∀ (k : Nat) (W : World), k < n → Calls Try.prog 73 #[.int .i64 (lim xs k), .int .i64 (lim ys k)] W (RetB W fun r w' => IntAt w' r (g (lim xs k) (lim ys k)))) :
    Calls Try.prog 112 #[.slice A n c, .slice B n d, .func (.func 73) #[] #[]] w (RetB w fun r w' => RowZ w' w.heap.size r (List.zipWith g xs ys)) := by
  obtain ⟨i0, hi, hz0, hz1, hz2⟩ := info_parts infoZ
  have hzn : ∀ u ∈ (Value.agg #[.bool false, .slice none 0 0]).cells.toList, NU u := by
    intro u hu; simp [Value.cells] at hu; rcases hu with rfl | rfl <;> intro x <;> simp
  obtain ⟨zs, hzs⟩ : ∃ zs, List.zipWith g xs ys = zs := ⟨_, rfl⟩
  have hzl : zs.length = n := by rw [← hzs, List.length_zipWith, hr.1, hs.1]; omega
  have HZ := Lib.hid (fun (k : Nat) (hk : k < n) => show zs[k]? = some (g (lim xs k) (lim ys k)) from hzs ▸ lim_zip g xs ys k (by rw [hr.1]; exact hk) (by rw [hs.1]; exact hk))
  have HZL := Lib.hid hzl
  rw [hzs]
  have HR := Lib.hid hr
  have HS := Lib.hid hs
  have HDO := Lib.hid hdo
  clear hr hs hdo hzs hzl
  go_enter Try.func112, Try.ntmps112
  go_wp2
  go_loopw [6, 11] (fun r i wr => ∃ k : Nat, k ≤ n ∧ i = .int .i64 k ∧ Hid (RowZ wr w.heap.size r (zs.take k)) ∧ Hid (Below w.heap.size w wr)) (fun _ i _ => n - (intOf i).toNat)
  case atStart => exact ⟨0, by omega, rfl, Lib.hid (RowZ.nil _ _), Lib.hid (Below.refl _ _)⟩
  case round =>
    obtain ⟨k, hk, rfl, HRW, HB⟩ := hrel
    by_cases hlt : k < n
    · obtain ⟨ad, rfl, hca⟩ := (HR.out.below HB.out).at_ k hlt
      obtain ⟨bd, rfl, hcb⟩ := (HS.out.below HB.out).at_ k hlt
      obtain ⟨z, hz⟩ : ∃ z, g (lim xs k) (lim ys k) = z := ⟨_, rfl⟩
      have HC := Lib.hid (fun (W : World) => hz ▸ HDO.out k W hlt)
      have HZK := Lib.hid (hz ▸ HZ.out k hlt)
      clear hz
      obtain ⟨ms, hms, how, hnu, hmz⟩ := HRW.out
      have hkl : (zs.take k).length = k := by rw [List.length_take, HZL.out]; omega
      rw [hkl] at how
      have HOW := Lib.hid (And.intro how (And.intro hnu (And.intro hms hmz)))
      clear how hnu hms hmz hkl HRW
      go_wp2_with (first
        | (go_at_call 73; (with_reducible refine (HC.out _).mono ?_); rintro e w1 ⟨⟨v1, rfl, hv1⟩, hb1⟩; (obtain ⟨hc1, hf1⟩ := bcell hb1); (have hs1 := hb1.size); (try simp at hs1); (obtain ⟨A1, n1, c1, rfl, HN1⟩ := hv1.open_); clear hv1)
        | (at_builtin; refine wpList_append_z rfl _ _ 110 rfl w.heap.size 81 i0 (.agg #[.bool false, .slice none 0 0]) 32 Try.underlying110 hi hz0 hz1 hz2 rfl hzn _ k (cellsZ ms) rfl ?c1 ?c2 ⟨w1.heap.size, 0, none⟩ 1 1 [.bool (decide (z < 0)), .slice A1 n1 c1] rfl rfl (by decide) ?c3 ?c4 ?c5 ?c6 ?c7 ?c8 ?_))
      case c1 => exact ownsRow_below (ownsRow_below HOW.out.1 hb1) (below_alloc _ _)
      case c2 => exact NUrow.below (NUrow.below HOW.out.2.1 HOW.out.1 hb1) (ownsRow_below HOW.out.1 hb1) (below_alloc _ _)
      case c3 => exact cells_new2 _ _ _ _
      case c4 => simp [Value.oneCell']
      case c5 => exact nu2 _ _ _ _
      case c6 => unfold maxLen; omega
      case c7 => omega
      case c8 => have h1 := HB.out.size; have h2 := hb1.size; simp; omega
      intro v' w' o1 o2 o3 o4
      have HN := Lib.hid (And.intro o1 (And.intro o2 (And.intro o3 o4)))
      clear o1 o2 o3 o4 hc1 hf1
      go_wp2
      go_roundw
      case rel =>
        obtain ⟨o1, o2, o3, o4⟩ := HN.out
        obtain ⟨how, hnu, hms, hmz⟩ := HOW.out
        refine ⟨k + 1, by omega, by go_num, Lib.hid ⟨ms ++ [(z, .slice A1 n1 c1)], ?_, ?_, o2, ?_⟩, Lib.hid ?_⟩
        · rw [take_snoc_of HZK.out, List.map_append, hms]; rfl
        · rw [cellsZ_append, List.length_take, HZL.out, Nat.min_eq_left (by omega)]; exact o1
        · intro p hp
          rcases List.mem_append.1 hp with hp | hp
          · obtain ⟨A, n, c, e, hn⟩ := hmz p hp
            exact ⟨A, n, c, e, ((hn.below hb1).alloc _).keeps o4⟩
          · obtain rfl : p = (z, .slice A1 n1 c1) := by simpa using hp
            exact ⟨A1, n1, c1, rfl, (HN1.out.alloc _).keeps o4⟩
        · exact grown_below ((below_after hb1 HB.out HB.out.size).alloc (by have h1 := HB.out.size; have h2 := hb1.size; omega) _) (by have h1 := HB.out.size; have h2 := hb1.size; simp; omega) o3 (fun g hg => (how.lt g hg).1)
      case measure => simp [intOf]; omega
    · obtain rfl : k = n := by omega
      have HB1 := HB
      go_wp2
      go_ret
      refine RetB.mk ?_ HB1.out
      have h := HRW.out
      rwa [List.take_of_length_le (by rw [HZL.out]; omega)] at h
set_option maxHeartbeats 1000000 in
set_option maxRecDepth 100000 in
theorem each_scale (g : Int → Int → Int) (A B : Option Addr) (n c d : Nat) (xs ys : List Int) (w : World) (hn : n ≤ 1000) (hr : RdI w A n xs) (hs : RdI w B n ys)
    (hdo : ∀ (k : Nat) (W : World), k < n → Calls Try.prog 71 #[.int .i64 (lim xs k), .int .i64 (lim ys k)] W (RetB W fun r w' => IntAt w' r (g (lim xs k) (lim ys k)))) :
    Calls Try.prog 112 #[.slice A n c, .slice B n d, .func (.func 71) #[] #[]] w (RetB w fun r w' => RowZ w' w.heap.size r (List.zipWith g xs ys)) := by
  obtain ⟨i0, hi, hz0, hz1, hz2⟩ := info_parts infoZ
  have hzn : ∀ u ∈ (Value.agg #[.bool false, .slice none 0 0]).cells.toList, NU u := by
    intro u hu; simp [Value.cells] at hu; rcases hu with rfl | rfl <;> intro x <;> simp
  obtain ⟨zs, hzs⟩ : ∃ zs, List.zipWith g xs ys = zs := ⟨_, rfl⟩
  have hzl : zs.length = n := by rw [← hzs, List.length_zipWith, hr.1, hs.1]; omega
  have HZ := Lib.hid (fun (k : Nat) (hk : k < n) => show zs[k]? = some (g (lim xs k) (lim ys k)) from hzs ▸ lim_zip g xs ys k (by rw [hr.1]; exact hk) (by rw [hs.1]; exact hk))
  have HZL := Lib.hid hzl
  rw [hzs]
  have HR := Lib.hid hr
  have HS := Lib.hid hs
  have HDO := Lib.hid hdo
  clear hr hs hdo hzs hzl
  go_enter Try.func112, Try.ntmps112
  go_wp2
  go_loopw [6, 11] (fun r i wr => ∃ k : Nat, k ≤ n ∧ i = .int .i64 k ∧ Hid (RowZ wr w.heap.size r (zs.take k)) ∧ Hid (Below w.heap.size w wr)) (fun _ i _ => n - (intOf i).toNat)
  case atStart => exact ⟨0, by omega, rfl, Lib.hid (RowZ.nil _ _), Lib.hid (Below.refl _ _)⟩
  case round =>
    obtain ⟨k, hk, rfl, HRW, HB⟩ := hrel
    by_cases hlt : k < n
    · obtain ⟨ad, rfl, hca⟩ := (HR.out.below HB.out).at_ k hlt
      obtain ⟨bd, rfl, hcb⟩ := (HS.out.below HB.out).at_ k hlt
      obtain ⟨z, hz⟩ : ∃ z, g (lim xs k) (lim ys k) = z := ⟨_, rfl⟩
      have HC := Lib.hid (fun (W : World) => hz ▸ HDO.out k W hlt)
      have HZK := Lib.hid (hz ▸ HZ.out k hlt)
      clear hz
      obtain ⟨ms, hms, how, hnu, hmz⟩ := HRW.out
      have hkl : (zs.take k).length = k := by rw [List.length_take, HZL.out]; omega
      rw [hkl] at how
      have HOW := Lib.hid (And.intro how (And.intro hnu (And.intro hms hmz)))
      clear how hnu hms hmz hkl HRW
      go_wp2_with (first
        | (go_at_call 71; (with_reducible refine (HC.out _).mono ?_); rintro e w1 ⟨⟨v1, rfl, hv1⟩, hb1⟩; (obtain ⟨hc1, hf1⟩ := bcell hb1); (have hs1 := hb1.size); (try simp at hs1); (obtain ⟨A1, n1, c1, rfl, HN1⟩ := hv1.open_); clear hv1)
        | (at_builtin; refine wpList_append_z rfl _ _ 110 rfl w.heap.size 81 i0 (.agg #[.bool false, .slice none 0 0]) 32 Try.underlying110 hi hz0 hz1 hz2 rfl hzn _ k (cellsZ ms) rfl ?c1 ?c2 ⟨w1.heap.size, 0, none⟩ 1 1 [.bool (decide (z < 0)), .slice A1 n1 c1] rfl rfl (by decide) ?c3 ?c4 ?c5 ?c6 ?c7 ?c8 ?_))
      case c1 => exact ownsRow_below (ownsRow_below HOW.out.1 hb1) (below_alloc _ _)
      case c2 => exact NUrow.below (NUrow.below HOW.out.2.1 HOW.out.1 hb1) (ownsRow_below HOW.out.1 hb1) (below_alloc _ _)
      case c3 => exact cells_new2 _ _ _ _
      case c4 => simp [Value.oneCell']
      case c5 => exact nu2 _ _ _ _
      case c6 => unfold maxLen; omega
      case c7 => omega
      case c8 => have h1 := HB.out.size; have h2 := hb1.size; simp; omega
      intro v' w' o1 o2 o3 o4
      have HN := Lib.hid (And.intro o1 (And.intro o2 (And.intro o3 o4)))
      clear o1 o2 o3 o4 hc1 hf1
      go_wp2
      go_roundw
      case rel =>
        obtain ⟨o1, o2, o3, o4⟩ := HN.out
        obtain ⟨how, hnu, hms, hmz⟩ := HOW.out
        refine ⟨k + 1, by omega, by go_num, Lib.hid ⟨ms ++ [(z, .slice A1 n1 c1)], ?_, ?_, o2, ?_⟩, Lib.hid ?_⟩
        · rw [take_snoc_of HZK.out, List.map_append, hms]; rfl
        · rw [cellsZ_append, List.length_take, HZL.out, Nat.min_eq_left (by omega)]; exact o1
        · intro p hp
          rcases List.mem_append.1 hp with hp | hp
          · obtain ⟨A, n, c, e, hn⟩ := hmz p hp
            exact ⟨A, n, c, e, ((hn.below hb1).alloc _).keeps o4⟩
          · obtain rfl : p = (z, .slice A1 n1 c1) := by simpa using hp
            exact ⟨A1, n1, c1, rfl, (HN1.out.alloc _).keeps o4⟩
        · exact grown_below ((below_after hb1 HB.out HB.out.size).alloc (by have h1 := HB.out.size; have h2 := hb1.size; omega) _) (by have h1 := HB.out.size; have h2 := hb1.size; simp; omega) o3 (fun g hg => (how.lt g hg).1)
      case measure => simp [intOf]; omega
    · obtain rfl : k = n := by omega
      have HB1 := HB
      go_wp2
      go_ret
      refine RetB.mk ?_ HB1.out
      have h := HRW.out
      rwa [List.take_of_length_le (by rw [HZL.out]; omega)] at h
set_option maxHeartbeats 1000000 in
set_option maxRecDepth 100000 in
theorem each_sub (g : Int → Int → Int) (A B : Option Addr) (n c d : Nat) (xs ys : List Int) (w : World) (hn : n ≤ 1000) (hr : RdI w A n xs) (hs : RdI w B n ys)
    (hdo : ∀ (k : Nat) (W : World), k < n → Calls Try.prog 76 #[.int .i64 (lim xs k), .int .i64 (lim ys k)] W (RetB W fun r w' => IntAt w' r (g (lim xs k) (lim ys k)))) :
    Calls Try.prog 112 #[.slice A n c, .slice B n d, .func (.func 76) #[] #[]] w (RetB w fun r w' => RowZ w' w.heap.size r (List.zipWith g xs ys)) := by
  obtain ⟨i0, hi, hz0, hz1, hz2⟩ := info_parts infoZ
  have hzn : ∀ u ∈ (Value.agg #[.bool false, .slice none 0 0]).cells.toList, NU u := by
    intro u hu; simp [Value.cells] at hu; rcases hu with rfl | rfl <;> intro x <;> simp
  obtain ⟨zs, hzs⟩ : ∃ zs, List.zipWith g xs ys = zs := ⟨_, rfl⟩
  have hzl : zs.length = n := by rw [← hzs, List.length_zipWith, hr.1, hs.1]; omega
  have HZ := Lib.hid (fun (k : Nat) (hk : k < n) => show zs[k]? = some (g (lim xs k) (lim ys k)) from hzs ▸ lim_zip g xs ys k (by rw [hr.1]; exact hk) (by rw [hs.1]; exact hk))
  have HZL := Lib.hid hzl
  rw [hzs]
  have HR := Lib.hid hr
  have HS := Lib.hid hs
  have HDO := Lib.hid hdo
  clear hr hs hdo hzs hzl
  go_enter Try.func112, Try.ntmps112
  go_wp2
  go_loopw [6, 11] (fun r i wr => ∃ k : Nat, k ≤ n ∧ i = .int .i64 k ∧ Hid (RowZ wr w.heap.size r (zs.take k)) ∧ Hid (Below w.heap.size w wr)) (fun _ i _ => n - (intOf i).toNat)
  case atStart => exact ⟨0, by omega, rfl, Lib.hid (RowZ.nil _ _), Lib.hid (Below.refl _ _)⟩
  case round =>
    obtain ⟨k, hk, rfl, HRW, HB⟩ := hrel
    by_cases hlt : k < n
    · obtain ⟨ad, rfl, hca⟩ := (HR.out.below HB.out).at_ k hlt
      obtain ⟨bd, rfl, hcb⟩ := (HS.out.below HB.out).at_ k hlt
      obtain ⟨z, hz⟩ : ∃ z, g (lim xs k) (lim ys k) = z := ⟨_, rfl⟩
      have HC := Lib.hid (fun (W : World) => hz ▸ HDO.out k W hlt)
      have HZK := Lib.hid (hz ▸ HZ.out k hlt)
      clear hz
      obtain ⟨ms, hms, how, hnu, hmz⟩ := HRW.out
      have hkl : (zs.take k).length = k := by rw [List.length_take, HZL.out]; omega
      rw [hkl] at how
      have HOW := Lib.hid (And.intro how (And.intro hnu (And.intro hms hmz)))
      clear how hnu hms hmz hkl HRW
      go_wp2_with (first
        | (go_at_call 76; (with_reducible refine (HC.out _).mono ?_); rintro e w1 ⟨⟨v1, rfl, hv1⟩, hb1⟩; (obtain ⟨hc1, hf1⟩ := bcell hb1); (have hs1 := hb1.size); (try simp at hs1); (obtain ⟨A1, n1, c1, rfl, HN1⟩ := hv1.open_); clear hv1)
        | (at_builtin; refine wpList_append_z rfl _ _ 110 rfl w.heap.size 81 i0 (.agg #[.bool false, .slice none 0 0]) 32 Try.underlying110 hi hz0 hz1 hz2 rfl hzn _ k (cellsZ ms) rfl ?c1 ?c2 ⟨w1.heap.size, 0, none⟩ 1 1 [.bool (decide (z < 0)), .slice A1 n1 c1] rfl rfl (by decide) ?c3 ?c4 ?c5 ?c6 ?c7 ?c8 ?_))
      case c1 => exact ownsRow_below (ownsRow_below HOW.out.1 hb1) (below_alloc _ _)
      case c2 => exact NUrow.below (NUrow.below HOW.out.2.1 HOW.out.1 hb1) (ownsRow_below HOW.out.1 hb1) (below_alloc _ _)
      case c3 => exact cells_new2 _ _ _ _
      case c4 => simp [Value.oneCell']
      case c5 => exact nu2 _ _ _ _
      case c6 => unfold maxLen; omega
      case c7 => omega
      case c8 => have h1 := HB.out.size; have h2 := hb1.size; simp; omega
      intro v' w' o1 o2 o3 o4
      have HN := Lib.hid (And.intro o1 (And.intro o2 (And.intro o3 o4)))
      clear o1 o2 o3 o4 hc1 hf1
      go_wp2
      go_roundw
      case rel =>
        obtain ⟨o1, o2, o3, o4⟩ := HN.out
        obtain ⟨how, hnu, hms, hmz⟩ := HOW.out
        refine ⟨k + 1, by omega, by go_num, Lib.hid ⟨ms ++ [(z, .slice A1 n1 c1)], ?_, ?_, o2, ?_⟩, Lib.hid ?_⟩
        · rw [take_snoc_of HZK.out, List.map_append, hms]; rfl
        · rw [cellsZ_append, List.length_take, HZL.out, Nat.min_eq_left (by omega)]; exact o1
        · intro p hp
          rcases List.mem_append.1 hp with hp | hp
          · obtain ⟨A, n, c, e, hn⟩ := hmz p hp
            exact ⟨A, n, c, e, ((hn.below hb1).alloc _).keeps o4⟩
          · obtain rfl : p = (z, .slice A1 n1 c1) := by simpa using hp
            exact ⟨A1, n1, c1, rfl, (HN1.out.alloc _).keeps o4⟩
        · exact grown_below ((below_after hb1 HB.out HB.out.size).alloc (by have h1 := HB.out.size; have h2 := hb1.size; omega) _) (by have h1 := HB.out.size; have h2 := hb1.size; simp; omega) o3 (fun g hg => (how.lt g hg).1)
      case measure => simp [intOf]; omega
    · obtain rfl : k = n := by omega
      have HB1 := HB
      go_wp2
      go_ret
      refine RetB.mk ?_ HB1.out
      have h := HRW.out
      rwa [List.take_of_length_le (by rw [HZL.out]; omega)] at h
end Go.Proofs.Ytcabnnfhcolcfaa
