/- Four whole numbers in a block; the walks of quat.Over's and turn's closures, and of quat.each with them. -/
import Derived.Test.YtcabnnfhcolcfaaV5
namespace Go.Proofs.Ytcabnnfhcolcfaa
set_option linter.unusedSimpArgs false
set_option linter.unusedVariables false
open Go.RowKit

def fourV (f : Nat → Bool) (A : Nat → Option Addr) (n c : Nat → Nat) : Value :=
  .agg #[.bool (f 0), .slice (A 0) (n 0) (c 0), .bool (f 1), .slice (A 1) (n 1) (c 1), .bool (f 2), .slice (A 2) (n 2) (c 2), .bool (f 3), .slice (A 3) (n 3) (c 3)]
/-- Four whole numbers by value. -/
structure Fours (w : World) (f : Nat → Bool) (A : Nat → Option Addr) (n c : Nat → Nat) (z : Nat → Int) : Prop where mk ::
  int : ∀ j, j < 4 → IntAt w (.agg #[.bool (f j), .slice (A j) (n j) (c j)]) (z j)
theorem Fours.below {w w' : World} {f : Nat → Bool} {A : Nat → Option Addr} {n c : Nat → Nat} {z : Nat → Int} (h : Fours w f A n c z) (hb : Below w.heap.size w w') : Fours w' f A n c z := ⟨fun j hj => (h.int j hj).below hb⟩
theorem Fours.alloc {w : World} {f : Nat → Bool} {A : Nat → Option Addr} {n c : Nat → Nat} {z : Nat → Int} (h : Fours w f A n c z) (o : Obj) : Fours (w.alloc o) f A n c z := h.below (below_alloc w o)
theorem Fours.drew {w : World} {f : Nat → Bool} {A : Nat → Option Addr} {n c : Nat → Nat} {z : Nat → Int} (h : Fours w f A n c z) : Fours w.drew f A n c z := ⟨fun j hj => (h.int j hj).drew⟩
theorem Fours.drewN {w : World} {f : Nat → Bool} {A : Nat → Option Addr} {n c : Nat → Nat} {z : Nat → Int} (h : Fours w f A n c z) (m : Nat) : Fours (w.drewN m) f A n c z := ⟨fun j hj => (h.int j hj).drewN m⟩
def FourAt (w : World) (v : Value) (z : Nat → Int) : Prop := ∃ f A n c, v = fourV f A n c ∧ Fours w f A n c z
theorem FourAt.below {w w' : World} {v : Value} {z : Nat → Int} (h : FourAt w v z) (hb : Below w.heap.size w w') : FourAt w' v z := by
  obtain ⟨f, A, n, c, e, h⟩ := h; exact ⟨f, A, n, c, e, h.below hb⟩
theorem FourAt.alloc {w : World} {v : Value} {z : Nat → Int} (h : FourAt w v z) (o : Obj) : FourAt (w.alloc o) v z := h.below (below_alloc w o)
theorem FourAt.drew {w : World} {v : Value} {z : Nat → Int} (h : FourAt w v z) : FourAt w.drew v z := by
  obtain ⟨f, A, n, c, e, h⟩ := h; exact ⟨f, A, n, c, e, h.drew⟩
theorem FourAt.drewN {w : World} {v : Value} {z : Nat → Int} (h : FourAt w v z) (m : Nat) : FourAt (w.drewN m) v z := by
  obtain ⟨f, A, n, c, e, h⟩ := h; exact ⟨f, A, n, c, e, h.drewN m⟩
theorem FourAt.stored {w : World} {v : Value} {z : Nat → Int} (h : FourAt w v z) {p : Addr} {u0 : Value} (hc : w.cell? p = some u0) (hne : ∀ x, u0 ≠ .int .u64 x) (u : Value) : FourAt (w.setCell p u) v z := by
  obtain ⟨f, A, n, c, e, h⟩ := h; exact ⟨f, A, n, c, e, ⟨fun j hj => (h.int j hj).stored hc hne u⟩⟩
theorem FourAt.congr {w : World} {v : Value} {z z' : Nat → Int} (h : FourAt w v z) (e : ∀ j, j < 4 → z j = z' j) : FourAt w v z' := by
  obtain ⟨f, A, n, c, e1, h⟩ := h; exact ⟨f, A, n, c, e1, ⟨fun j hj => e j hj ▸ h.int j hj⟩⟩
/-- Block g holds four whole numbers. -/
structure FBox (W : World) (g : Nat) (f : Nat → Bool) (A : Nat → Option Addr) (n c : Nat → Nat) (z : Nat → Int) : Prop where
  lt : g < W.heap.size
  c0 : ∀ j, j < 4 → W.cell? ⟨g, j * 2, none⟩ = some (.bool (f j))
  c1 : ∀ j, j < 4 → W.cell? ⟨g, j * 2 + 1, none⟩ = some (.slice (A j) (n j) (c j))
  f0 : ∀ j, W.frozen? ⟨g, j, none⟩ = false
  int : Fours W f A n c z
theorem FBox.later {W W' : World} {g : Nat} {f : Nat → Bool} {A : Nat → Option Addr} {n c : Nat → Nat} {z : Nat → Int} (h : FBox W g f A n c z) (hb : Below W.heap.size W W') : FBox W' g f A n c z := by
  have hs := hb.size
  have hl := h.lt
  exact ⟨by omega, fun j hj => ((bcell hb).1 _ _ hl).trans (h.c0 j hj), fun j hj => ((bcell hb).1 _ _ hl).trans (h.c1 j hj), fun j => ((bcell hb).2 _ _ hl).trans (h.f0 j), h.int.below hb⟩
theorem FBox.alloc {W : World} {g : Nat} {f : Nat → Bool} {A : Nat → Option Addr} {n c : Nat → Nat} {z : Nat → Int} (h : FBox W g f A n c z) (o : Obj) : FBox (W.alloc o) g f A n c z := h.later (below_alloc W o)
theorem FBox.drew {W : World} {g : Nat} {f : Nat → Bool} {A : Nat → Option Addr} {n c : Nat → Nat} {z : Nat → Int} (h : FBox W g f A n c z) : FBox W.drew g f A n c z := ⟨h.lt, h.c0, h.c1, h.f0, h.int.drew⟩
theorem FBox.drewN {W : World} {g : Nat} {f : Nat → Bool} {A : Nat → Option Addr} {n c : Nat → Nat} {z : Nat → Int} (h : FBox W g f A n c z) (m : Nat) : FBox (W.drewN m) g f A n c z := ⟨h.lt, h.c0, h.c1, h.f0, h.int.drewN m⟩
theorem four_cases {P : Nat → Prop} (h0 : P 0) (h1 : P 1) (h2 : P 2) (h3 : P 3) : ∀ j, j < 4 → P j := by
  intro j hj
  match j, hj with
  | 0, _ => exact h0
  | 1, _ => exact h1
  | 2, _ => exact h2
  | 3, _ => exact h3
theorem FBox.made {W : World} {g : Nat} {f : Nat → Bool} {A : Nat → Option Addr} {n c : Nat → Nat} {z : Nat → Int} (hg : W.heap.size = g) (h : Fours W f A n c z) (T : TypeId) :
    FBox (W.alloc (.cells #[.bool (f 0), .slice (A 0) (n 0) (c 0), .bool (f 1), .slice (A 1) (n 1) (c 1), .bool (f 2), .slice (A 2) (n 2) (c 2), .bool (f 3), .slice (A 3) (n 3) (c 3)] T)) g f A n c z := by
  subst hg
  exact ⟨by simp, four_cases (by go_simp) (by go_simp) (by go_simp) (by go_simp), four_cases (by go_simp) (by go_simp) (by go_simp) (by go_simp), fun j => by go_simp, h.alloc _⟩
theorem Fours.zero (w : World) : Fours w (fun _ => false) (fun _ => none) (fun _ => 0) (fun _ => 0) (fun _ => 0) := ⟨fun _ _ => IntAt.none w⟩
theorem FBox.nil {W : World} {g : Nat} (hg : W.heap.size = g) (T : TypeId) :
    FBox (W.alloc (.cells #[.bool false, .slice none 0 0, .bool false, .slice none 0 0, .bool false, .slice none 0 0, .bool false, .slice none 0 0] T)) g (fun _ => false) (fun _ => none) (fun _ => 0) (fun _ => 0) (fun _ => 0) := FBox.made hg (Fours.zero W) T
/-- A function turned at one place. -/
def upd {α : Type} (f : Nat → α) (k : Nat) (x : α) : Nat → α := fun j => if j = k then x else f j
theorem upd_same {α : Type} (f : Nat → α) (k : Nat) (x : α) : upd f k x k = x := by unfold upd; rw [if_pos rfl]
theorem upd_ne {α : Type} (f : Nat → α) {k j : Nat} (h : j ≠ k) (x : α) : upd f k x j = f j := by unfold upd; rw [if_neg h]
theorem FBox.put {W : World} {g : Nat} {f : Nat → Bool} {A : Nat → Option Addr} {n c : Nat → Nat} {z : Nat → Int} (h : FBox W g f A n c z) (k : Nat) (hk : k < 4) {f' : Bool} {A' : Option Addr} {n' c' : Nat} {i : Int} (hi : IntAt W (.agg #[.bool f', .slice A' n' c']) i) :
    FBox ((W.setCell ⟨g, k * 2, none⟩ (.bool f')).setCell ⟨g, k * 2 + 1, none⟩ (.slice A' n' c')) g (upd f k f') (upd A k A') (upd n k n') (upd c k c') (upd z k i) := by
  have st : ∀ v m, IntAt W v m → IntAt ((W.setCell ⟨g, k * 2, none⟩ (.bool f')).setCell ⟨g, k * 2 + 1, none⟩ (.slice A' n' c')) v m := fun v m hv =>
    (hv.stored (h.c0 k hk) (by simp) _).stored (u0 := .slice (A k) (n k) (c k)) (by rw [World.cell?_setCell_other _ _ _ _ (by simp)]; exact h.c1 k hk) (by simp) _
  refine ⟨by simpa using h.lt, fun j hj => ?_, fun j hj => ?_, fun j => ?_, ⟨fun j hj => ?_⟩⟩
  · rw [World.cell?_setCell_other _ _ _ _ (by intro e; simp at e <;> omega)]
    by_cases e : j = k
    · subst e; rw [upd_same]; exact World.cell?_setCell_same _ _ _ (h.c0 j hj)
    · rw [upd_ne _ e, World.cell?_setCell_other _ _ _ _ (by intro e; simp at e <;> omega)]; exact h.c0 j hj
  · by_cases e : j = k
    · subst e; rw [upd_same, upd_same, upd_same]; exact World.cell?_setCell_same _ _ _ (by rw [World.cell?_setCell_other _ _ _ _ (by simp)]; exact h.c1 j hj)
    · rw [upd_ne _ e, upd_ne _ e, upd_ne _ e, World.cell?_setCell_other _ _ _ _ (by intro e; simp at e <;> omega), World.cell?_setCell_other _ _ _ _ (by intro e; simp at e <;> omega)]; exact h.c1 j hj
  · have := h.f0 j; simpa [go_sem] using this
  · by_cases e : j = k
    · subst e; rw [upd_same, upd_same, upd_same, upd_same, upd_same]; exact st _ _ hi
    · rw [upd_ne _ e, upd_ne _ e, upd_ne _ e, upd_ne _ e, upd_ne _ e]; exact st _ _ (h.int.int j hj)
theorem FBox.below {W w : World} {g B : Nat} (hb : Below B w W) (hg : B ≤ g) (j l : Nat) (u v : Value) : Below B w ((W.setCell ⟨g, j, none⟩ u).setCell ⟨g, l, none⟩ v) := (hb.setCell hg _).setCell hg _
theorem FBox.at4 {W : World} {g : Nat} {f : Nat → Bool} {A : Nat → Option Addr} {n c : Nat → Nat} {z : Nat → Int} (h : FBox W g f A n c z) :
    (W.cell? ⟨g, 0, none⟩ = some (.bool (f 0)) ∧ W.cell? ⟨g, 1, none⟩ = some (.slice (A 0) (n 0) (c 0)) ∧ W.cell? ⟨g, 2, none⟩ = some (.bool (f 1)) ∧ W.cell? ⟨g, 3, none⟩ = some (.slice (A 1) (n 1) (c 1))) ∧
    (W.cell? ⟨g, 4, none⟩ = some (.bool (f 2)) ∧ W.cell? ⟨g, 5, none⟩ = some (.slice (A 2) (n 2) (c 2)) ∧ W.cell? ⟨g, 6, none⟩ = some (.bool (f 3)) ∧ W.cell? ⟨g, 7, none⟩ = some (.slice (A 3) (n 3) (c 3))) :=
  ⟨⟨h.c0 0 (by omega), h.c1 0 (by omega), h.c0 1 (by omega), h.c1 1 (by omega)⟩, ⟨h.c0 2 (by omega), h.c1 2 (by omega), h.c0 3 (by omega), h.c1 3 (by omega)⟩⟩
theorem index_four (f : Nat → Bool) (A : Nat → Option Addr) (n c : Nat → Nat) : ∀ (k : Nat), k < 4 → ∀ w : World,
    (Instr.index 94 (.agg #[.bool (f 0), .slice (A 0) (n 0) (c 0), .bool (f 1), .slice (A 1) (n 1) (c 1), .bool (f 2), .slice (A 2) (n 2) (c 2), .bool (f 3), .slice (A 3) (n 3) (c 3)]) (.int .i64 (k : Int))).run Try.prog w = .ok (.agg #[.bool (f k), .slice (A k) (n k) (c k)]) w :=
  four_cases (fun _ => by kernel_rfl) (fun _ => by kernel_rfl) (fun _ => by kernel_rfl) (fun _ => by kernel_rfl)
end Go.Proofs.Ytcabnnfhcolcfaa
