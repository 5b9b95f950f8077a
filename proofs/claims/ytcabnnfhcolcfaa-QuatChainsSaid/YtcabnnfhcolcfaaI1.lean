/- A block that holds a whole number: what is known of it, and what stores leave. -/
import Derived.Test.YtcabnnfhcolcfaaF1
namespace Go.Proofs.Ytcabnnfhcolcfaa
set_option linter.unusedSimpArgs false
set_option linter.unusedVariables false
open Go.RowKit

/-- Block g holds a whole number. -/
structure IBox (W : World) (g : Nat) (f : Bool) (A : Option Addr) (n c : Nat) (i : Int) : Prop where
  lt : g < W.heap.size
  c0 : W.cell? ⟨g, 0, none⟩ = some (.bool f)
  c1 : W.cell? ⟨g, 1, none⟩ = some (.slice A n c)
  f0 : W.frozen? ⟨g, 0, none⟩ = false
  f1 : W.frozen? ⟨g, 1, none⟩ = false
  int : IntAt W (.agg #[.bool f, .slice A n c]) i
theorem IBox.later {W W' : World} {g : Nat} {f : Bool} {A : Option Addr} {n c : Nat} {i : Int} (h : IBox W g f A n c i) (hb : Below W.heap.size W W') : IBox W' g f A n c i := by
  have hs := hb.size
  have hl := h.lt
  exact ⟨by omega, ((bcell hb).1 _ _ hl).trans h.c0, ((bcell hb).1 _ _ hl).trans h.c1, ((bcell hb).2 _ _ hl).trans h.f0, ((bcell hb).2 _ _ hl).trans h.f1, h.int.below hb⟩
theorem IBox.drew {W : World} {g : Nat} {f : Bool} {A : Option Addr} {n c : Nat} {i : Int} (h : IBox W g f A n c i) : IBox W.drew g f A n c i := ⟨h.lt, h.c0, h.c1, h.f0, h.f1, h.int.drew⟩
theorem IBox.drewN {W : World} {g : Nat} {f : Bool} {A : Option Addr} {n c : Nat} {i : Int} (h : IBox W g f A n c i) (m : Nat) : IBox (W.drewN m) g f A n c i := ⟨h.lt, h.c0, h.c1, h.f0, h.f1, h.int.drewN m⟩
theorem IBox.alloc {W : World} {g : Nat} {f : Bool} {A : Option Addr} {n c : Nat} {i : Int} (h : IBox W g f A n c i) (o : Obj) : IBox (W.alloc o) g f A n c i := h.later ((Below.refl _ _).alloc (Nat.le_refl _) _)
theorem IBox.made {W : World} {f : Bool} {A : Option Addr} {n c : Nat} {i : Int} (h : IntAt W (.agg #[.bool f, .slice A n c]) i) (T : TypeId) : IBox (W.alloc (.cells #[.bool f, .slice A n c] T)) W.heap.size f A n c i :=
  ⟨by simp, by go_simp, by go_simp, by go_simp, by go_simp, h.alloc _⟩
theorem IntAt.none (W : World) : IntAt W (.agg #[.bool false, .slice none 0 0]) 0 := ⟨_, rfl, NatAt.zero _ _ _ (by omega)⟩
theorem IBox.nil (W : World) (T : TypeId) : IBox (W.alloc (.cells #[.bool false, .slice none 0 0] T)) W.heap.size false none 0 0 0 := IBox.made (IntAt.none W) T
theorem IBox.put {W : World} {g : Nat} {f f' : Bool} {A A' : Option Addr} {n c n' c' : Nat} {i i' : Int} (h : IBox W g f A n c i) (k : IntAt W (.agg #[.bool f', .slice A' n' c']) i') : IBox ((W.setCell ⟨g, 0, none⟩ (.bool f')).setCell ⟨g, 1, none⟩ (.slice A' n' c')) g f' A' n' c' i' := by
  refine ⟨by simpa using h.lt, ?_, ?_, ?_, ?_, k.put2 h.c0 h.c1 _ _⟩
  · rw [World.cell?_setCell_other _ _ _ _ (by simp)]; exact World.cell?_setCell_same _ _ _ h.c0
  · exact World.cell?_setCell_same _ _ _ (by rw [World.cell?_setCell_other _ _ _ _ (by simp)]; exact h.c1)
  · have := h.f0; simpa [go_sem] using this
  · have := h.f1; simpa [go_sem] using this
theorem IBox.far {W : World} {g g2 : Nat} {f f2 : Bool} {A A2 : Option Addr} {n c n2 c2 : Nat} {i i2 : Int} (h : IBox W g f A n c i) (k : IBox W g2 f2 A2 n2 c2 i2) (hne : g2 ≠ g) (u v : Value) : IBox ((W.setCell ⟨g2, 0, none⟩ u).setCell ⟨g2, 1, none⟩ v) g f A n c i := by
  refine ⟨by simpa using h.lt, cell_far (cell_far h.c0 hne) hne, cell_far (cell_far h.c1 hne) hne, ?_, ?_, h.int.put2 k.c0 k.c1 _ _⟩
  · have := h.f0; simpa [go_sem] using this
  · have := h.f1; simpa [go_sem] using this
theorem IBox.sign {W : World} {g : Nat} {f : Bool} {A : Option Addr} {n c : Nat} {i : Int} (h : IBox W g f A n c i) : f = decide (i < 0) := h.int.nat.2
/-- A store into a box leaves what was below. -/
theorem IBox.below {W w : World} {g B : Nat} {f : Bool} {A : Option Addr} {n c : Nat} {i : Int} (h : IBox W g f A n c i) (hb : Below B w W) (hg : B ≤ g) (u v : Value) : Below B w ((W.setCell ⟨g, 0, none⟩ u).setCell ⟨g, 1, none⟩ v) := (hb.setCell hg _).setCell hg _
theorem alloc_keep {W : World} {a : Addr} {v : Value} (h : W.cell? a = some v) (o : Obj) : (W.alloc o).cell? a = some v := (World.cell?_alloc_some W _ o (by rw [h]; rfl)).trans h
theorem alloc_swap {W : World} {a : Addr} {v : Value} {o : Obj} (hl : a.block < W.heap.size) (h : (W.alloc o).cell? a = some v) (o' : Obj) : (W.alloc o').cell? a = some v := by
  simp only [World.cell?, World.alloc, Array.getElem?_push_lt hl] at h ⊢
  exact h
theorem IBox.made' {W : World} {g : Nat} {f : Bool} {A : Option Addr} {n c : Nat} {i : Int} (hg : W.heap.size = g) (h : IntAt W (.agg #[.bool f, .slice A n c]) i) (T : TypeId) : IBox (W.alloc (.cells #[.bool f, .slice A n c] T)) g f A n c i := by subst hg; exact IBox.made h T
theorem below_alloc (w : World) (o : Obj) : Below w.heap.size w (w.alloc o) := (Below.refl _ _).alloc (Nat.le_refl _) _
/-- The result's block alone. -/
theorem boxes_o (w : World) (T : TypeId) : IBox (w.alloc (.cells #[.bool false, .slice none 0 0] T)) w.heap.size false none 0 0 0 ∧ Below w.heap.size w (w.alloc (.cells #[.bool false, .slice none 0 0] T)) := ⟨IBox.nil w T, below_alloc w _⟩
/-- A parameter's block, the result's block. -/
theorem boxes_ao {w : World} {f : Bool} {A : Option Addr} {n c : Nat} {a : Int} (h : IntAt w (.agg #[.bool f, .slice A n c]) a) (T T' : TypeId) :
    IBox ((w.alloc (.cells #[.bool f, .slice A n c] T)).alloc (.cells #[.bool false, .slice none 0 0] T')) w.heap.size f A n c a ∧ IBox ((w.alloc (.cells #[.bool f, .slice A n c] T)).alloc (.cells #[.bool false, .slice none 0 0] T')) (w.heap.size + 1) false none 0 0 0 ∧
    Below w.heap.size w ((w.alloc (.cells #[.bool f, .slice A n c] T)).alloc (.cells #[.bool false, .slice none 0 0] T')) :=
  ⟨(IBox.made h T).alloc _, IBox.made' (by simp) (IntAt.none _) T', (below_alloc w _).alloc (by simp) _⟩
/-- Two parameters' blocks, the result's block. -/
theorem boxes_abo {w : World} {f f' : Bool} {A B : Option Addr} {n c m d : Nat} {a b : Int} (h : IntAt w (.agg #[.bool f, .slice A n c]) a) (k : IntAt w (.agg #[.bool f', .slice B m d]) b) (T T' T'' : TypeId) :
    IBox (((w.alloc (.cells #[.bool f, .slice A n c] T)).alloc (.cells #[.bool f', .slice B m d] T')).alloc (.cells #[.bool false, .slice none 0 0] T'')) w.heap.size f A n c a ∧
    IBox (((w.alloc (.cells #[.bool f, .slice A n c] T)).alloc (.cells #[.bool f', .slice B m d] T')).alloc (.cells #[.bool false, .slice none 0 0] T'')) (w.heap.size + 1) f' B m d b ∧
    IBox (((w.alloc (.cells #[.bool f, .slice A n c] T)).alloc (.cells #[.bool f', .slice B m d] T')).alloc (.cells #[.bool false, .slice none 0 0] T'')) (w.heap.size + 1 + 1) false none 0 0 0 ∧
    Below w.heap.size w (((w.alloc (.cells #[.bool f, .slice A n c] T)).alloc (.cells #[.bool f', .slice B m d] T')).alloc (.cells #[.bool false, .slice none 0 0] T'')) :=
  ⟨((IBox.made h T).alloc _).alloc _, (IBox.made' (by simp) (k.alloc _) T').alloc _, IBox.made' (by simp) (IntAt.none _) T'', ((below_alloc w _).alloc (by simp) _).alloc (by simp; omega) _⟩
end Go.Proofs.Ytcabnnfhcolcfaa
