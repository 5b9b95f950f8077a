/- The walks of quat.Told, with its closure, which notes what is no word. -/
import Derived.Test.YtcabnnfhcolcfaaR5
namespace Go.Proofs.Ytcabnnfhcolcfaa
set_option linter.unusedSimpArgs false
set_option linter.unusedVariables false
open Go.RowKit

/-- Block g holds one number, and nothing else old has turned. -/
structure Noted (w w' : World) (g : Nat) (b : Int) : Prop where
  only : OnlyG w w' g
  one : w'.heap[g]? = some (.cells #[.int .i64 b] 30 (0, 0))
theorem one_cell {w : World} {g : Nat} {b : Int} (h : w.heap[g]? = some (.cells #[.int .i64 b] 30 (0, 0))) : w.cell? ⟨g, 0, none⟩ = some (.int .i64 b) := by simp [World.cell?, h]
theorem one_free {w : World} {g : Nat} {b : Int} (h : w.heap[g]? = some (.cells #[.int .i64 b] 30 (0, 0))) : w.frozen? ⟨g, 0, none⟩ = false := by simp [World.frozen?, h]
theorem one_set {w : World} {g : Nat} {b : Int} (h : w.heap[g]? = some (.cells #[.int .i64 b] 30 (0, 0))) (b' : Int) : (w.setCell ⟨g, 0, none⟩ (.int .i64 b')).heap[g]? = some (.cells #[.int .i64 b'] 30 (0, 0)) := by
  simp [World.setCell, Array.getElem?_modify, h]
theorem only_below {w w1 : World} {g : Nat} (hb : Below w.heap.size w w1) : OnlyG w w1 g := ⟨hb.os, hb.tape, hb.output, hb.size, fun k hk _ => hb.block k hk⟩
theorem OnlyG.trans {w w1 w2 : World} {g : Nat} (h : OnlyG w w1 g) (k : OnlyG w1 w2 g) : OnlyG w w2 g :=
  ⟨k.os.trans h.os, k.tape.trans h.tape, k.output.trans h.output, Nat.le_trans h.size k.size, fun i hi hne => (k.block i (Nat.lt_of_lt_of_le hi h.size) hne).trans (h.block i hi hne)⟩
theorem OnlyG.below {B : Nat} {w0 w w' : World} {g : Nat} (hb : Below B w0 w) (hB : B ≤ w.heap.size) (h : OnlyG w w' g) (hg : B ≤ g) : Below B w0 w' := grown_below hb hB h (fun i e => by injection e with e; omega)
theorem OnlyG.keeps {w w' : World} {g : Nat} {b : Int} (h : OnlyG w w' g) (h1 : w.heap[g]? = some (.cells #[.int .i64 b] 30 (0, 0))) : Keeps w w' :=
  keeps_of h (fun i e cur ty fr hc u hu => by
    injection e with e
    subst e
    rw [h1] at hc
    simp only [Option.some.injEq, Obj.cells.injEq] at hc
    rw [← hc.1] at hu
    simp at hu
    subst hu
    intro x; simp)
def tellI (z : Int) : Int := if goodB z then z else 0
def badI (b z : Int) : Int := if goodB z then b else 2
def ToldP (w : World) (g : Nat) (b z : Int) (v : Value) (w' : World) : Prop := v = .int .i64 (tellI z) ∧ Noted w w' g (badI b z)
def RetG (w : World) (g : Nat) (P : Value → World → Prop) (e : Ending) (w' : World) : Prop := ∃ v, e = .returned v ∧ P v w'
set_option maxHeartbeats 1000000 in
theorem told1_any (v : Value) (z b : Int) (g : Nat) (w : World) (hv : IntAt w v z) (hs : Sm z) (h1 : w.heap[g]? = some (.cells #[.int .i64 b] 30 (0, 0))) :
    Calls Try.prog 104 #[v, .pointer (some ⟨g, 0, none⟩)] w (RetG w g (ToldP w g b z)) := by
  obtain ⟨A, n, c, rfl, HN⟩ := hv.open_
  have HV := Lib.hid hv
  have H1 := Lib.hid h1
  have gl : g < w.heap.size := (Array.getElem?_eq_some_iff.1 h1).1
  clear hv h1
  by_cases hg : goodB z = true
  · have HT := Lib.hid (fun (W : World) (h : IntAt W (.agg #[.bool (decide (z < 0)), .slice A n c]) z) => (told_fx _ z W h hs).mono (R' := RetB W fun v _ => v = .tuple #[.int .i64 z, .int .i64 0]) (by
      rintro e w' ⟨⟨v, rfl, hv⟩, hb⟩; exact ⟨⟨v, rfl, by unfold WordP at hv; rwa [if_pos hg] at hv⟩, hb⟩))
    have HP := Lib.hid (show tellI z = z ∧ badI b z = b by unfold tellI badI; rw [if_pos hg, if_pos hg]; exact ⟨rfl, rfl⟩)
    clear hg hs
    go_enter Try.func104, Try.ntmps104
    go_wp2_with (go_at_call 61; (with_reducible refine (HT.out _ ?_).mono ?_); (· exact (HV.out).below (by repeat (first | (with_reducible assumption) | exact Below.refl _ _ | (with_reducible refine Below.setCell ?_ (by first | (simp; done) | (simp; omega) | omega) _) | (with_reducible refine Below.alloc ?_ (by first | (simp; done) | (simp; omega) | omega) _) | (with_reducible refine below_drewN' ?_ _) | (with_reducible refine Below.drew ?_) | (refine below_after (by with_reducible assumption) ?_ (by first | (simp; done) | (simp; omega) | omega))))); rintro e w1 ⟨⟨v1, rfl, rfl⟩, hb1⟩; (obtain ⟨hc1, hf1⟩ := bcell hb1); (have hs1 := hb1.size); (try simp at hs1); (have hz1_0 : w.heap.size < w1.heap.size := by omega))
    go_ret
    have hbw : Below w.heap.size w w1 := (by repeat (first | (with_reducible assumption) | exact Below.refl _ _ | (with_reducible refine Below.setCell ?_ (by first | (simp; done) | (simp; omega) | omega) _) | (with_reducible refine Below.alloc ?_ (by first | (simp; done) | (simp; omega) | omega) _) | (with_reducible refine below_drewN' ?_ _) | (with_reducible refine Below.drew ?_) | (refine below_after (by with_reducible assumption) ?_ (by first | (simp; done) | (simp; omega) | omega))))
    refine ⟨_, rfl, ?_, only_below hbw, ?_⟩
    · rw [HP.out.1]; rfl
    · rw [HP.out.2, hbw.block g gl]; exact H1.out
  · have hg : goodB z = false := by simpa using hg
    have HT := Lib.hid (fun (W : World) (h : IntAt W (.agg #[.bool (decide (z < 0)), .slice A n c]) z) => (told_fx _ z W h hs).mono (R' := RetB W fun v _ => v = .tuple #[.int .i64 0, .int .i64 2]) (by
      rintro e w' ⟨⟨v, rfl, hv⟩, hb⟩; exact ⟨⟨v, rfl, by unfold WordP at hv; rwa [if_neg (by rw [hg]; decide)] at hv⟩, hb⟩))
    have HP := Lib.hid (show tellI z = 0 ∧ badI b z = 2 by unfold tellI badI; rw [if_neg (by rw [hg]; decide), if_neg (by rw [hg]; decide)]; exact ⟨rfl, rfl⟩)
    clear hg hs
    go_enter Try.func104, Try.ntmps104
    go_wp2_with (go_at_call 61; (with_reducible refine (HT.out _ ?_).mono ?_); (· exact (HV.out).below (by repeat (first | (with_reducible assumption) | exact Below.refl _ _ | (with_reducible refine Below.setCell ?_ (by first | (simp; done) | (simp; omega) | omega) _) | (with_reducible refine Below.alloc ?_ (by first | (simp; done) | (simp; omega) | omega) _) | (with_reducible refine below_drewN' ?_ _) | (with_reducible refine Below.drew ?_) | (refine below_after (by with_reducible assumption) ?_ (by first | (simp; done) | (simp; omega) | omega))))); rintro e w1 ⟨⟨v1, rfl, rfl⟩, hb1⟩; (obtain ⟨hc1, hf1⟩ := bcell hb1); (have hs1 := hb1.size); (try simp at hs1); (have hz1_0 : w.heap.size < w1.heap.size := by omega); ((have hbw : Below w.heap.size w w1 := (by repeat (first | (with_reducible assumption) | exact Below.refl _ _ | (with_reducible refine Below.setCell ?_ (by first | (simp; done) | (simp; omega) | omega) _) | (with_reducible refine Below.alloc ?_ (by first | (simp; done) | (simp; omega) | omega) _) | (with_reducible refine below_drewN' ?_ _) | (with_reducible refine Below.drew ?_) | (refine below_after (by with_reducible assumption) ?_ (by first | (simp; done) | (simp; omega) | omega))))); (have one1 : w1.heap[g]? = some (.cells #[.int .i64 b] 30 (0, 0)) := (hbw.block g gl).trans H1.out); (have ONE := Lib.hid one1); (have c0 := one_cell one1); (have c1 := one_free one1); clear one1 hc1 hf1))
    go_ret
    refine ⟨_, rfl, ?_, (only_below hbw).set_ 0 _, ?_⟩
    · rw [HP.out.1]; rfl
    · rw [HP.out.2]; exact one_set ONE.out 2
/-- Block g holds four words. -/
structure JBox (W : World) (g : Nat) (q : Nat → Int) : Prop where
  lt : g < W.heap.size
  c : ∀ j, j < 4 → W.cell? ⟨g, j, none⟩ = some (.int .i64 (q j))
  f0 : ∀ j, W.frozen? ⟨g, j, none⟩ = false
theorem JBox.made {W : World} {g : Nat} (hg : W.heap.size = g) (q : Nat → Int) (T : TypeId) : JBox (W.alloc (.cells #[.int .i64 (q 0), .int .i64 (q 1), .int .i64 (q 2), .int .i64 (q 3)] T)) g q := by
  subst hg
  exact ⟨by simp, four_cases (by go_simp) (by go_simp) (by go_simp) (by go_simp), fun j => by go_simp⟩
theorem JBox.only {W W' : World} {g gb : Nat} {q : Nat → Int} (h : JBox W g q) (ho : OnlyG W W' gb) (hne : gb ≠ g) : JBox W' g q := by
  have hs := ho.size
  have hl := h.lt
  have hb : W'.heap[g]? = W.heap[g]? := ho.block g hl (fun e => by injection e with e; exact hne e.symm)
  exact ⟨by omega, fun j hj => by have := h.c j hj; unfold World.cell? at this ⊢; rw [hb]; exact this, fun j => by have := h.f0 j; unfold World.frozen? at this ⊢; rw [hb]; exact this⟩
theorem JBox.later {W W' : World} {g : Nat} {q : Nat → Int} (h : JBox W g q) (hb : Below W.heap.size W W') : JBox W' g q := by
  have hs := hb.size
  have hl := h.lt
  exact ⟨by omega, fun j hj => ((bcell hb).1 _ _ hl).trans (h.c j hj), fun j => ((bcell hb).2 _ _ hl).trans (h.f0 j)⟩
theorem JBox.alloc {W : World} {g : Nat} {q : Nat → Int} (h : JBox W g q) (o : Obj) : JBox (W.alloc o) g q := h.later (below_alloc W o)
theorem JBox.put {W : World} {g : Nat} {q : Nat → Int} (h : JBox W g q) (k : Nat) (hk : k < 4) (x : Int) : JBox (W.setCell ⟨g, k, none⟩ (.int .i64 x)) g (upd q k x) := by
  refine ⟨by simpa using h.lt, fun j hj => ?_, fun j => ?_⟩
  · by_cases e : j = k
    · subst e; rw [upd_same]; exact World.cell?_setCell_same _ _ _ (h.c j hj)
    · rw [upd_ne _ e, World.cell?_setCell_other _ _ _ _ (by intro e; simp at e <;> omega)]; exact h.c j hj
  · have := h.f0 j; simpa [go_sem] using this
theorem JBox.again4 {W : World} {g : Nat} {q : Nat → Int} (h : JBox W g q) :
    JBox ((((W.setCell ⟨g, 0, none⟩ (.int .i64 (q 0))).setCell ⟨g, 1, none⟩ (.int .i64 (q 1))).setCell ⟨g, 2, none⟩ (.int .i64 (q 2))).setCell ⟨g, 3, none⟩ (.int .i64 (q 3))) g q := by
  have h0 := h.put 0 (by omega) (q 0)
  rw [upd_self] at h0
  have h1 := h0.put 1 (by omega) (q 1)
  rw [upd_self] at h1
  have h2 := h1.put 2 (by omega) (q 2)
  rw [upd_self] at h2
  have h3 := h2.put 3 (by omega) (q 3)
  rwa [upd_self] at h3
theorem Noted.store {w W : World} {gb g : Nat} {b : Int} (h : Noted w W gb b) (hg : w.heap.size ≤ g) (hne : gb ≠ g) (o : Nat) (u : Value) : Noted w (W.setCell ⟨g, o, none⟩ u) gb b :=
  ⟨⟨h.only.os, h.only.tape, h.only.output, by simpa [World.setCell] using h.only.size, fun k hk hn => (Below.heap_setCell W ⟨g, o, none⟩ u k (by simp; omega)).trans (h.only.block k hk hn)⟩, (Below.heap_setCell W ⟨g, o, none⟩ u gb (by simpa using hne)).trans h.one⟩
def badN (z : Nat → Int) : Nat → Int
  | 0 => 0
  | k + 1 => badI (badN z k) (z k)
def EachT (w : World) (g : Nat) (z : Nat → Int) (v : Value) (w' : World) : Prop := v = quatV (tellI (z 0)) (tellI (z 1)) (tellI (z 2)) (tellI (z 3)) ∧ Noted w w' g (badN z 4)
set_option maxHeartbeats 1000000 in
set_option maxRecDepth 100000 in
theorem each_told (v : Value) (z : Nat → Int) (gb : Nat) (w : World) (hv : FourAt w v z) (hs : ∀ k, k < 4 → Sm (z k)) (h1 : w.heap[gb]? = some (.cells #[.int .i64 0] 30 (0, 0))) :
    Calls Try.prog 103 #[v, .func (.func 104) #[] #[.pointer (some ⟨gb, 0, none⟩)]] w (RetG w gb (EachT w gb z)) := by
  obtain ⟨f, A, n, c, rfl, hF⟩ := hv
  have HF := Lib.hid hF
  have H1 := Lib.hid h1
  have HDO := Lib.hid (fun (k : Nat) (hk : k < 4) (b : Int) (u : Value) (W : World) (h : IntAt W u (z k)) (h1 : W.heap[gb]? = some (.cells #[.int .i64 b] 30 (0, 0))) => told1_any u (z k) b gb W h (hs k hk) h1)
  have gl : gb < w.heap.size := (Array.getElem?_eq_some_iff.1 h1).1
  clear hF hs h1
  unfold fourV
  go_enter Try.func103, Try.ntmps103
  go_wp2
  have BR0 := Lib.hid (JBox.made (W := w.alloc (.cells #[.bool (f 0), .slice (A 0) (n 0) (c 0), .bool (f 1), .slice (A 1) (n 1) (c 1), .bool (f 2), .slice (A 2) (n 2) (c 2), .bool (f 3), .slice (A 3) (n 3) (c 3)] 94)) (g := w.heap.size + 1) (by simp) (fun _ => 0) 133)
  have hbw : Below w.heap.size w ((w.alloc (.cells #[.bool (f 0), .slice (A 0) (n 0) (c 0), .bool (f 1), .slice (A 1) (n 1) (c 1), .bool (f 2), .slice (A 2) (n 2) (c 2), .bool (f 3), .slice (A 3) (n 3) (c 3)] 94)).alloc (.cells #[.int .i64 0, .int .i64 0, .int .i64 0, .int .i64 0] 133)) := (below_alloc _ _).alloc (by simp) _
  have BE0 := Lib.hid (show Noted w ((w.alloc (.cells #[.bool (f 0), .slice (A 0) (n 0) (c 0), .bool (f 1), .slice (A 1) (n 1) (c 1), .bool (f 2), .slice (A 2) (n 2) (c 2), .bool (f 3), .slice (A 3) (n 3) (c 3)] 94)).alloc (.cells #[.int .i64 0, .int .i64 0, .int .i64 0, .int .i64 0] 133)) gb 0 from ⟨only_below hbw, (hbw.block gb gl).trans H1.out⟩)
  obtain ⟨WB, hWB⟩ : ∃ WB, ((w.alloc (.cells #[.bool (f 0), .slice (A 0) (n 0) (c 0), .bool (f 1), .slice (A 1) (n 1) (c 1), .bool (f 2), .slice (A 2) (n 2) (c 2), .bool (f 3), .slice (A 3) (n 3) (c 3)] 94)).alloc (.cells #[.int .i64 0, .int .i64 0, .int .i64 0, .int .i64 0] 133)) = WB := ⟨_, rfl⟩
  rw [hWB] at BR0 BE0 ⊢
  clear hWB hbw
  go_loopw [8] (fun i wr => ∃ k : Nat, k ≤ 4 ∧ i = .int .i64 k ∧ Hid (JBox wr (w.heap.size + 1) (sofar (fun j => tellI (z j)) (fun _ => 0) k)) ∧ Hid (Noted w wr gb (badN z k))) (fun i _ => 4 - (intOf i).toNat)
  case atStart => exact ⟨0, by omega, rfl, Lib.hid (by rw [sofar_zero]; exact BR0.out), BE0⟩
  case round =>
    clear BR0 BE0
    obtain ⟨k, hk, rfl, BR, BE⟩ := hrel
    by_cases hlt : k < 4
    · have HIX := index_four f A n c k hlt
      obtain ⟨b, hb⟩ : ∃ b, badN z k = b := ⟨_, rfl⟩
      rw [hb] at BE
      obtain ⟨tk, htk⟩ : ∃ tk, tellI (z k) = tk := ⟨_, rfl⟩
      have HBK := Lib.hid (And.intro hb htk)
      have HC := Lib.hid (fun (u : Value) (W : World) (h : IntAt W u (z k)) (h1 : W.heap[gb]? = some (.cells #[.int .i64 b] 30 (0, 0))) => HDO.out k hlt b u W h h1)
      unfold ToldP at HC
      simp only [htk] at HC
      clear hb htk
      have kd : (0 : Int) ≤ (k : Int) := by omega
      have kd2 : (k : Int) < 4 := by omega
      have lt := BR.out.lt
      go_wp2_with (first
        | (go_at_call 104; (with_reducible refine (HC.out _ _ ?_ ?_).mono ?_); (· exact ((HF.out.int k hlt).keeps (BE.out.only.keeps H1.out)).alloc _); (· exact ((below_alloc _ _).block gb (by have := BE.out.only.size; omega)).trans BE.out.one); rintro e w5 ⟨v5, rfl, rfl, hn5⟩; (have BR5 := (BR.out.alloc (.cells #[.bool (f k), .slice (A k) (n k) (c k)] 81)).only hn5.only (show gb ≠ w.heap.size + 1 by omega)); (have m0 := BR5.c k hlt); (have m2 := BR5.f0 k)))
      have N5 : Noted w w5 gb (badI b (z k)) := ⟨(BE.out.only.trans (only_below (below_alloc _ _))).trans hn5.only, hn5.one⟩
      go_roundw
      case rel =>
        refine ⟨k + 1, by omega, by go_num, Lib.hid ?_, Lib.hid ?_⟩
        · rw [← sofar_step, HBK.out.2]; exact BR5.put k hlt tk
        · show Noted w _ gb (badI (badN z k) (z k))
          rw [HBK.out.1]; exact N5.store (by omega) (by omega) k _
      case measure => simp [intOf]; omega
    · obtain rfl : k = 4 := by omega
      have BRx := BR.out
      have e0 := BRx.c 0 (by omega)
      have e1 := BRx.c 1 (by omega)
      have e2 := BRx.c 2 (by omega)
      have e3 := BRx.c 3 (by omega)
      have g0 := BRx.f0 0
      have g1 := BRx.f0 1
      have g2 := BRx.f0 2
      have g3 := BRx.f0 3
      simp only [sofar, show (0 : Nat) < 4 by omega, show (1 : Nat) < 4 by omega, show (2 : Nat) < 4 by omega, show (3 : Nat) < 4 by omega, if_true] at e0 e1 e2 e3
      go_wp2
      have BF := BRx.again4
      have r0 := BF.c 0 (by omega)
      have r1 := BF.c 1 (by omega)
      have r2 := BF.c 2 (by omega)
      have r3 := BF.c 3 (by omega)
      simp only [sofar, show (0 : Nat) < 4 by omega, show (1 : Nat) < 4 by omega, show (2 : Nat) < 4 by omega, show (3 : Nat) < 4 by omega, if_true] at r0 r1 r2 r3
      refine bodyPost_ret (v := quatV (tellI (z 0)) (tellI (z 1)) (tellI (z 2)) (tellI (z 3))) (by simp [results, Try.results103, go_sem, quatV, r0, r1, r2, r3]) rfl ?_
      exact ⟨_, rfl, rfl, (((BE.out.store (by omega) (by omega) _ _).store (by omega) (by omega) _ _).store (by omega) (by omega) _ _).store (by omega) (by omega) _ _⟩
end Go.Proofs.Ytcabnnfhcolcfaa
