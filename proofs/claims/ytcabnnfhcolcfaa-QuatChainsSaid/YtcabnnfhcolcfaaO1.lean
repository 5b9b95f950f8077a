/- What a slice of structs of int64s that came in holds. -/
import Derived.Test.YtcabnnfhcolcfaaL3
import Derived.Deep.Slices
import Derived.WalkKit
import Derived.ProofKit
import Derived.OpenShut
import Derived.ShutString
import Derived.ChangeOld
import Derived.Below
import Derived.SizedLaws
namespace Go.Proofs.Ytcabnnfhcolcfaa
set_option linter.unusedVariables false
open Go.ChangeShapes Go.WideShapes Go.ChangeAt Go.RowKit

/-- A value of type t is m int64 cells. -/
def Ints (P : Program) (t : TypeId) (m : Nat) : Prop := P.cellsOf t = m ∧ ∀ (H : Type) (enc : TypeId × Value → H) (w : World) (base : Nat) (spare : Nat → Bool) (held : Bool) (fuel : Nat) (cs : List Value) (x : DataW H × List MemPlace),
  DataW.trod enc P w base spare held fuel t cs = some x → cs.length = m ∧ ∀ j, j < m → ∃ z, cs[j]? = some (.int .i64 z)
theorem Ints.int {P : Program} {t : TypeId} (ht : P.underlying t = some (.int .i64)) (hc : P.cellsOf t = 1) : Ints P t 1 := by
  refine ⟨hc, fun H enc w base spare held fuel cs x h => ?_⟩
  obtain ⟨n, rfl, _, _⟩ := DataW.trod_int ht h
  refine ⟨rfl, fun j hj => ⟨n, ?_⟩⟩
  obtain rfl : j = 0 := by omega
  rfl
theorem Ints.struct {P : Program} {t : TypeId} {fs : Array Field} (m : Nat) (ht : P.underlying t = some (.struct fs)) (hc : P.cellsOf t = m)
    (hf : ∀ j, j < m → ∃ (i : Nat) (f : Field) (k : Nat), fs[i]? = some f ∧ Ints P f.type k ∧ f.offset ≤ j ∧ j < f.offset + k) : Ints P t m := by
  refine ⟨hc, fun H enc w base spare held fuel cs x h => ?_⟩
  obtain ⟨xs, n, _, _, hl, hxl, hx⟩ := DataW.trod_struct ht h
  refine ⟨hl.trans hc, fun j hj => ?_⟩
  obtain ⟨i, f, k, h1, h2, h3, h4⟩ := hf j hj
  have hi := hx i f h1
  have hi2 : i < xs.length := by rw [hxl]; exact (Array.getElem?_eq_some_iff.1 h1).1
  rw [List.getElem?_eq_getElem hi2] at hi
  obtain ⟨k1, k2⟩ := h2.2 H enc w base spare held n _ _ hi
  obtain ⟨z, hz⟩ := k2 (j - f.offset) (by omega)
  rw [h2.1, List.getElem?_take_of_lt (by omega), List.getElem?_drop, show f.offset + (j - f.offset) = j by omega] at hz
  exact ⟨z, hz⟩
/-- A slice of such values, opened. -/
theorem open_cut {H : Type} {enc : TypeId × Value → H} {P : Program} {w : World} {spare : Nat → Bool} {held : Bool} {t e : TypeId} {m fuel : Nat} {A : Option Addr} {n c : Nat} {x : DataW H × List MemPlace} (ht : P.underlying t = some (.slice e)) (he : Ints P e m) (hm : 0 < m)
    (h : DataW.trod enc P w 0 spare held fuel t [.slice A n c] = some x) : n ≤ 9223372036854775807 ∧ ∃ f : Nat → Nat → Int, Cut m w A n f := by
  rcases Go.Deep.open_slice ht h with ⟨hcs, _⟩ | ⟨a, l, cp, m2, n2, D, Pl, hcs, _, hl, hcm, hm2, _, hx⟩
  · simp only [List.cons.injEq, Value.slice.injEq, and_true] at hcs
    obtain ⟨rfl, rfl, rfl⟩ := hcs
    exact ⟨by omega, fun _ _ => 0, fun h0 => absurd h0 (by omega)⟩
  · simp only [List.cons.injEq, Value.slice.injEq, and_true] at hcs
    obtain ⟨rfl, rfl, rfl⟩ := hcs
    have hlm : n ≤ m2 := by rw [hm2]; split <;> omega
    have K : ∀ j, j < n → ∀ q, q < m → ∃ z, w.cell? ((a.add (j * m)).add q) = some (.int .i64 z) := by
      intro j hj q hq
      obtain ⟨cs, h1, h2⟩ := hx j (by omega)
      rw [he.1] at h1
      obtain ⟨_, h3, h4⟩ := World.cells?_some h1
      obtain ⟨k1, k2⟩ := he.2 H enc w 0 spare held n2 cs _ h2
      obtain ⟨z, hz⟩ := k2 q hq
      exact ⟨z, (h4 q hq).trans hz⟩
    refine ⟨Nat.le_trans (Nat.le_trans hl hcm) (by decide), fun j q => match w.cell? ((a.add (j * m)).add q) with | some (.int _ z) => z | _ => 0, fun h0 => ?_⟩
    obtain ⟨g, o, sp⟩ := a
    have hsp : sp = none := by
      obtain ⟨z, hz⟩ := K 0 h0 0 hm
      rw [show 0 * m = 0 by omega] at hz
      unfold Addr.add World.cell? at hz
      simp only [if_true] at hz
      cases sp with
      | none => rfl
      | some s =>
        exfalso
        revert hz
        split <;> simp
    subst hsp
    refine ⟨g, o, rfl, fun j hj q hq => ?_⟩
    obtain ⟨z, hz⟩ := K j hj q hq
    have e : ((⟨g, o, none⟩ : Addr).add (j * m)).add q = ⟨g, o + j * m + q, none⟩ := by
      unfold Addr.add
      by_cases h1 : j * m = 0 <;> by_cases h2 : q = 0 <;> simp [h1, h2]
    show w.cell? ⟨g, o + j * m + q, none⟩ = some (Value.int .i64 (match w.cell? (((⟨g, o, none⟩ : Addr).add (j * m)).add q) with | some (.int _ z) => z | _ => 0))
    rw [e] at hz ⊢
    rw [hz]
set_option maxRecDepth 100000 in
theorem Q_ints : Ints Try.prog 38 4 :=
  have I := Ints.int (P := Try.prog) Try.underlying2 (by kernel_rfl)
  Ints.struct 4 Try.underlying38 (by kernel_rfl) fun j hj => match j, hj with
    | 0, _ => ⟨0, _, 1, rfl, I, by decide, by decide⟩
    | 1, _ => ⟨1, _, 1, rfl, I, by decide, by decide⟩
    | 2, _ => ⟨2, _, 1, rfl, I, by decide, by decide⟩
    | 3, _ => ⟨3, _, 1, rfl, I, by decide, by decide⟩
set_option maxRecDepth 100000 in
theorem V_ints : Ints Try.prog 40 3 :=
  have I := Ints.int (P := Try.prog) Try.underlying2 (by kernel_rfl)
  Ints.struct 3 Try.underlying40 (by kernel_rfl) fun j hj => match j, hj with
    | 0, _ => ⟨0, _, 1, rfl, I, by decide, by decide⟩
    | 1, _ => ⟨1, _, 1, rfl, I, by decide, by decide⟩
    | 2, _ => ⟨2, _, 1, rfl, I, by decide, by decide⟩
set_option maxRecDepth 100000 in
theorem Two_ints : Ints Try.prog 42 14 :=
  Ints.struct 14 Try.underlying42 (by kernel_rfl) fun j hj => by
    by_cases h0 : j < 4
    · exact ⟨0, _, 4, rfl, Q_ints, Nat.zero_le _, h0⟩
    · by_cases h1 : j < 8
      · exact ⟨1, _, 4, rfl, Q_ints, by show 4 ≤ j; omega, h1⟩
      · by_cases h2 : j < 11
        · exact ⟨2, _, 3, rfl, V_ints, by show 8 ≤ j; omega, h2⟩
        · exact ⟨3, _, 3, rfl, V_ints, by show 11 ≤ j; omega, hj⟩
end Go.Proofs.Ytcabnnfhcolcfaa
