/-
  No cell of these rows narrows 'for every input' (looked for: loops, veiled, ifaces, maps, wideKeys, modest, calm, conditions, laid).
  DERIVED. THE GIVEN ROWS OF THIS SEAT. 8 by the template 'for every input the law returns true; each argument reads behind the call as it read before'; 0 by the template 'total and deterministic' (their statements: YtcabnnfhcolcfaaTotals.lean).
  GIVEN WITH THE SEED: the statements are not yours to turn. If you find one false, say at which input.
  Laid BY PROGRAM, IN A SANDBOX (cutbox-rows.mjs): the forced cells as the released guide's own fill.sh prints them over the translation e2c04010660fb0b9… (all of the seat's roots in one cut). By AI agents, Wed Nov 11 2026. No macro, syntax, notation, axiom, sorry.
-/
import Derived.Test.YtcabnnfhcolcfaaChecked
import GoSem.Claim
import GoSem.ClaimJoined
import GoSem.ClaimMapViews
import Derived.JoinedTies
import Derived.KernelRfl
namespace Go.Proofs.Ytcabnnfhcolcfaa
/- THE CELL 'sum', in the pinned program and in every row, IS THE sha256 OF THE DUMP (.gsa) THAT YtcabnnfhcolcfaaProg.lean LOADS. Nothing in Lean hashes anything: it is a label: what it is worth is what the hold of that sum in a sandbox is worth. -/
noncomputable def Try.pinned : Pinned := { name := "ytcabnnfhcolcfaa", sum := "e2c04010660fb0b9b99a5c3aa9706ded4e6a03062bc41174aa495ccff2867f3c", checked := Try.checked }
namespace Rows
def none {H : Type} : Left H := { results := [], args := [] }

/-- 'gimballaw2.TrigTurns': WHATEVER THE INPUT: true; the input reads as it did. -/
def trigTurnsSpec : ChangeSpec := { name := "trigTurns", fn := fun _ => fun
  | [d] => { results := [.lit (.bool true)], args := [d] }
  | _ => none }
def trigTurnsRow : OpenClaim := { program := "ytcabnnfhcolcfaa", sum := "e2c04010660fb0b9b99a5c3aa9706ded4e6a03062bc41174aa495ccff2867f3c", func := "gimbal/gimballaw2.TrigTurns", spec := "trigTurns", inPlace := ["math/bits.Add64", "math/bits.Sub64"], unfollowed := true, recurses := true, named := ["math/bits.divideError", "math/bits.overflowError"], apart := false }
def TrigTurnsSaid : Prop := trigTurnsRow.holds Try.pinned (OpenSpec.ofChange trigTurnsSpec)

/-- ITS FALSE NEIGHBOUR: 'it returns false'. Refute it at one input. -/
def trigTurnsWrong : ChangeSpec := { name := "trigTurns", fn := fun _ => fun
  | [d] => { results := [.lit (.bool false)], args := [d] }
  | _ => none }
def TrigTurnsWrongFalsely : Prop := trigTurnsRow.holds Try.pinned (OpenSpec.ofChange trigTurnsWrong)

/-- 'gimballaw2.TrigBack': WHATEVER THE INPUT: true; the input reads as it did. -/
def trigBackSpec : ChangeSpec := { name := "trigBack", fn := fun _ => fun
  | [d] => { results := [.lit (.bool true)], args := [d] }
  | _ => none }
def trigBackRow : OpenClaim := { program := "ytcabnnfhcolcfaa", sum := "e2c04010660fb0b9b99a5c3aa9706ded4e6a03062bc41174aa495ccff2867f3c", func := "gimbal/gimballaw2.TrigBack", spec := "trigBack", inPlace := ["math/bits.Add64", "math/bits.Sub64"], unfollowed := true, recurses := true, named := ["math/bits.divideError", "math/bits.overflowError"], apart := false }
def TrigBackSaid : Prop := trigBackRow.holds Try.pinned (OpenSpec.ofChange trigBackSpec)

/-- ITS FALSE NEIGHBOUR: 'it returns false'. Refute it at one input. -/
def trigBackWrong : ChangeSpec := { name := "trigBack", fn := fun _ => fun
  | [d] => { results := [.lit (.bool false)], args := [d] }
  | _ => none }
def TrigBackWrongFalsely : Prop := trigBackRow.holds Try.pinned (OpenSpec.ofChange trigBackWrong)

/-- 'gimballaw4.QuatUnits': WHATEVER THE INPUT: true; the input reads as it did. -/
def quatUnitsSpec : ChangeSpec := { name := "quatUnits", fn := fun _ => fun
  | [d] => { results := [.lit (.bool true)], args := [d] }
  | _ => none }
def quatUnitsRow : OpenClaim := { program := "ytcabnnfhcolcfaa", sum := "e2c04010660fb0b9b99a5c3aa9706ded4e6a03062bc41174aa495ccff2867f3c", func := "gimbal/gimballaw4.QuatUnits", spec := "quatUnits", inPlace := ["math/bits.Add64", "math/bits.Sub64"], unfollowed := true, recurses := true, named := ["math/bits.divideError", "math/bits.overflowError"], apart := false }
def QuatUnitsSaid : Prop := quatUnitsRow.holds Try.pinned (OpenSpec.ofChange quatUnitsSpec)

/-- ITS FALSE NEIGHBOUR: 'it returns false'. Refute it at one input. -/
def quatUnitsWrong : ChangeSpec := { name := "quatUnits", fn := fun _ => fun
  | [d] => { results := [.lit (.bool false)], args := [d] }
  | _ => none }
def QuatUnitsWrongFalsely : Prop := quatUnitsRow.holds Try.pinned (OpenSpec.ofChange quatUnitsWrong)

/-- 'gimballaw4.QuatChains': WHATEVER THE INPUT: true; the input reads as it did. -/
def quatChainsSpec : ChangeSpec := { name := "quatChains", fn := fun _ => fun
  | [d] => { results := [.lit (.bool true)], args := [d] }
  | _ => none }
def quatChainsRow : OpenClaim := { program := "ytcabnnfhcolcfaa", sum := "e2c04010660fb0b9b99a5c3aa9706ded4e6a03062bc41174aa495ccff2867f3c", func := "gimbal/gimballaw4.QuatChains", spec := "quatChains", inPlace := ["math/bits.Add64", "math/bits.Sub64"], unfollowed := true, recurses := true, named := ["math/bits.divideError", "math/bits.overflowError"], apart := false }
def QuatChainsSaid : Prop := quatChainsRow.holds Try.pinned (OpenSpec.ofChange quatChainsSpec)

/-- ITS FALSE NEIGHBOUR: 'it returns false'. Refute it at one input. -/
def quatChainsWrong : ChangeSpec := { name := "quatChains", fn := fun _ => fun
  | [d] => { results := [.lit (.bool false)], args := [d] }
  | _ => none }
def QuatChainsWrongFalsely : Prop := quatChainsRow.holds Try.pinned (OpenSpec.ofChange quatChainsWrong)

/-- 'gimballaw15.FuseUp': WHATEVER THE INPUT: true; the input reads as it did. -/
def fuseUpSpec : ChangeSpec := { name := "fuseUp", fn := fun _ => fun
  | [d] => { results := [.lit (.bool true)], args := [d] }
  | _ => none }
def fuseUpRow : OpenClaim := { program := "ytcabnnfhcolcfaa", sum := "e2c04010660fb0b9b99a5c3aa9706ded4e6a03062bc41174aa495ccff2867f3c", func := "gimbal/gimballaw15.FuseUp", spec := "fuseUp", inPlace := ["math/bits.Add64", "math/bits.Sub64"], unfollowed := true, recurses := true, named := ["math/bits.divideError", "math/bits.overflowError"], apart := false }
def FuseUpSaid : Prop := fuseUpRow.holds Try.pinned (OpenSpec.ofChange fuseUpSpec)

/-- ITS FALSE NEIGHBOUR: 'it returns false'. Refute it at one input. -/
def fuseUpWrong : ChangeSpec := { name := "fuseUp", fn := fun _ => fun
  | [d] => { results := [.lit (.bool false)], args := [d] }
  | _ => none }
def FuseUpWrongFalsely : Prop := fuseUpRow.holds Try.pinned (OpenSpec.ofChange fuseUpWrong)

/-- 'gimballaw15.FuseGates': WHATEVER THE INPUT: true; the input reads as it did. -/
def fuseGatesSpec : ChangeSpec := { name := "fuseGates", fn := fun _ => fun
  | [d] => { results := [.lit (.bool true)], args := [d] }
  | _ => none }
def fuseGatesRow : OpenClaim := { program := "ytcabnnfhcolcfaa", sum := "e2c04010660fb0b9b99a5c3aa9706ded4e6a03062bc41174aa495ccff2867f3c", func := "gimbal/gimballaw15.FuseGates", spec := "fuseGates", inPlace := ["math/bits.Add64", "math/bits.Sub64"], unfollowed := true, recurses := true, named := ["math/bits.divideError", "math/bits.overflowError"], apart := false }
def FuseGatesSaid : Prop := fuseGatesRow.holds Try.pinned (OpenSpec.ofChange fuseGatesSpec)

/-- ITS FALSE NEIGHBOUR: 'it returns false'. Refute it at one input. -/
def fuseGatesWrong : ChangeSpec := { name := "fuseGates", fn := fun _ => fun
  | [d] => { results := [.lit (.bool false)], args := [d] }
  | _ => none }
def FuseGatesWrongFalsely : Prop := fuseGatesRow.holds Try.pinned (OpenSpec.ofChange fuseGatesWrong)

/-- 'gimballaw15.FuseSpins': WHATEVER THE INPUT: true; the input reads as it did. -/
def fuseSpinsSpec : ChangeSpec := { name := "fuseSpins", fn := fun _ => fun
  | [d] => { results := [.lit (.bool true)], args := [d] }
  | _ => none }
def fuseSpinsRow : OpenClaim := { program := "ytcabnnfhcolcfaa", sum := "e2c04010660fb0b9b99a5c3aa9706ded4e6a03062bc41174aa495ccff2867f3c", func := "gimbal/gimballaw15.FuseSpins", spec := "fuseSpins", inPlace := ["math/bits.Add64", "math/bits.Sub64"], unfollowed := true, recurses := true, named := ["math/bits.divideError", "math/bits.overflowError"], apart := false }
def FuseSpinsSaid : Prop := fuseSpinsRow.holds Try.pinned (OpenSpec.ofChange fuseSpinsSpec)

/-- ITS FALSE NEIGHBOUR: 'it returns false'. Refute it at one input. -/
def fuseSpinsWrong : ChangeSpec := { name := "fuseSpins", fn := fun _ => fun
  | [d] => { results := [.lit (.bool false)], args := [d] }
  | _ => none }
def FuseSpinsWrongFalsely : Prop := fuseSpinsRow.holds Try.pinned (OpenSpec.ofChange fuseSpinsWrong)

/-- 'gimballaw15.FuseSigns': WHATEVER THE INPUT: true; the input reads as it did. -/
def fuseSignsSpec : ChangeSpec := { name := "fuseSigns", fn := fun _ => fun
  | [d] => { results := [.lit (.bool true)], args := [d] }
  | _ => none }
def fuseSignsRow : OpenClaim := { program := "ytcabnnfhcolcfaa", sum := "e2c04010660fb0b9b99a5c3aa9706ded4e6a03062bc41174aa495ccff2867f3c", func := "gimbal/gimballaw15.FuseSigns", spec := "fuseSigns", inPlace := ["math/bits.Add64", "math/bits.Sub64"], unfollowed := true, recurses := true, named := ["math/bits.divideError", "math/bits.overflowError"], apart := false }
def FuseSignsSaid : Prop := fuseSignsRow.holds Try.pinned (OpenSpec.ofChange fuseSignsSpec)

/-- ITS FALSE NEIGHBOUR: 'it returns false'. Refute it at one input. -/
def fuseSignsWrong : ChangeSpec := { name := "fuseSigns", fn := fun _ => fun
  | [d] => { results := [.lit (.bool false)], args := [d] }
  | _ => none }
def FuseSignsWrongFalsely : Prop := fuseSignsRow.holds Try.pinned (OpenSpec.ofChange fuseSignsWrong)

/- THE SECOND FORM. 'bulk': how many values and letters a reading holds, each counted each time it is reached (what is shared counts as often as it is met; a slice's spare places count too). A statement '..UptoSaid' is the law's where the arguments, and the package variables that the reading takes, are together of bulk at most 1048576: NARROWER than '..Said'. Prove '..Said' where nothing that the law and all that it calls make is longer than what came in: it says more and counts as full. Else prove '..UptoSaid'. A law counts once. -/
mutual
def uptoBulk {H : Type} : DataW H → Nat
  | .lit (.string bytes) => bytes.length + 1
  | .lit _ => 1
  | .nil => 1
  | .ptr d => uptoBulk d + 1
  | .slice elems spare => uptoBulkAll elems + uptoBulkAll spare + 1
  | .agg parts => uptoBulkAll parts + 1
  | .iface _ d => uptoBulk d + 1
  | .map entries => uptoBulkEntries entries + 1
  | .held _ => 1
def uptoBulkAll {H : Type} : List (DataW H) → Nat
  | [] => 0
  | d :: r => uptoBulk d + uptoBulkAll r
def uptoBulkEntries {H : Type} : List (Lit × DataW H) → Nat
  | [] => 0
  | x :: r => uptoBulkEntry x + uptoBulkEntries r
def uptoBulkEntry {H : Type} : Lit × DataW H → Nat
  | (.string bytes, d) => bytes.length + uptoBulk d + 1
  | (_, d) => uptoBulk d + 1
 end
def uptoSmall : (H : Type) → List (DataW H) → Bool := fun _ ds => decide (uptoBulkAll ds ≤ 1048576)
def OpenSpec.upto (s : _root_.Go.ChangeSpec) : _root_.Go.OpenSpec := { _root_.Go.OpenSpec.ofChange s with cond := some uptoSmall }

/-- 'gimballaw2.TrigTurns', WHERE WHAT IT READS IS OF BULK AT MOST 1048576: true; the input reads as it did. -/
def trigTurnsUptoRow : OpenClaim := { program := "ytcabnnfhcolcfaa", sum := "e2c04010660fb0b9b99a5c3aa9706ded4e6a03062bc41174aa495ccff2867f3c", func := "gimbal/gimballaw2.TrigTurns", spec := "trigTurns", inPlace := ["math/bits.Add64", "math/bits.Sub64"], unfollowed := true, recurses := true, named := ["math/bits.divideError", "math/bits.overflowError"], apart := false, narrowed := true }
def TrigTurnsUptoSaid : Prop := trigTurnsUptoRow.holds Try.pinned (OpenSpec.upto trigTurnsSpec)

/-- 'gimballaw2.TrigBack', WHERE WHAT IT READS IS OF BULK AT MOST 1048576: true; the input reads as it did. -/
def trigBackUptoRow : OpenClaim := { program := "ytcabnnfhcolcfaa", sum := "e2c04010660fb0b9b99a5c3aa9706ded4e6a03062bc41174aa495ccff2867f3c", func := "gimbal/gimballaw2.TrigBack", spec := "trigBack", inPlace := ["math/bits.Add64", "math/bits.Sub64"], unfollowed := true, recurses := true, named := ["math/bits.divideError", "math/bits.overflowError"], apart := false, narrowed := true }
def TrigBackUptoSaid : Prop := trigBackUptoRow.holds Try.pinned (OpenSpec.upto trigBackSpec)

/-- 'gimballaw4.QuatUnits', WHERE WHAT IT READS IS OF BULK AT MOST 1048576: true; the input reads as it did. -/
def quatUnitsUptoRow : OpenClaim := { program := "ytcabnnfhcolcfaa", sum := "e2c04010660fb0b9b99a5c3aa9706ded4e6a03062bc41174aa495ccff2867f3c", func := "gimbal/gimballaw4.QuatUnits", spec := "quatUnits", inPlace := ["math/bits.Add64", "math/bits.Sub64"], unfollowed := true, recurses := true, named := ["math/bits.divideError", "math/bits.overflowError"], apart := false, narrowed := true }
def QuatUnitsUptoSaid : Prop := quatUnitsUptoRow.holds Try.pinned (OpenSpec.upto quatUnitsSpec)

/-- 'gimballaw4.QuatChains', WHERE WHAT IT READS IS OF BULK AT MOST 1048576: true; the input reads as it did. -/
def quatChainsUptoRow : OpenClaim := { program := "ytcabnnfhcolcfaa", sum := "e2c04010660fb0b9b99a5c3aa9706ded4e6a03062bc41174aa495ccff2867f3c", func := "gimbal/gimballaw4.QuatChains", spec := "quatChains", inPlace := ["math/bits.Add64", "math/bits.Sub64"], unfollowed := true, recurses := true, named := ["math/bits.divideError", "math/bits.overflowError"], apart := false, narrowed := true }
def QuatChainsUptoSaid : Prop := quatChainsUptoRow.holds Try.pinned (OpenSpec.upto quatChainsSpec)

/-- 'gimballaw15.FuseUp', WHERE WHAT IT READS IS OF BULK AT MOST 1048576: true; the input reads as it did. -/
def fuseUpUptoRow : OpenClaim := { program := "ytcabnnfhcolcfaa", sum := "e2c04010660fb0b9b99a5c3aa9706ded4e6a03062bc41174aa495ccff2867f3c", func := "gimbal/gimballaw15.FuseUp", spec := "fuseUp", inPlace := ["math/bits.Add64", "math/bits.Sub64"], unfollowed := true, recurses := true, named := ["math/bits.divideError", "math/bits.overflowError"], apart := false, narrowed := true }
def FuseUpUptoSaid : Prop := fuseUpUptoRow.holds Try.pinned (OpenSpec.upto fuseUpSpec)

/-- 'gimballaw15.FuseGates', WHERE WHAT IT READS IS OF BULK AT MOST 1048576: true; the input reads as it did. -/
def fuseGatesUptoRow : OpenClaim := { program := "ytcabnnfhcolcfaa", sum := "e2c04010660fb0b9b99a5c3aa9706ded4e6a03062bc41174aa495ccff2867f3c", func := "gimbal/gimballaw15.FuseGates", spec := "fuseGates", inPlace := ["math/bits.Add64", "math/bits.Sub64"], unfollowed := true, recurses := true, named := ["math/bits.divideError", "math/bits.overflowError"], apart := false, narrowed := true }
def FuseGatesUptoSaid : Prop := fuseGatesUptoRow.holds Try.pinned (OpenSpec.upto fuseGatesSpec)

/-- 'gimballaw15.FuseSpins', WHERE WHAT IT READS IS OF BULK AT MOST 1048576: true; the input reads as it did. -/
def fuseSpinsUptoRow : OpenClaim := { program := "ytcabnnfhcolcfaa", sum := "e2c04010660fb0b9b99a5c3aa9706ded4e6a03062bc41174aa495ccff2867f3c", func := "gimbal/gimballaw15.FuseSpins", spec := "fuseSpins", inPlace := ["math/bits.Add64", "math/bits.Sub64"], unfollowed := true, recurses := true, named := ["math/bits.divideError", "math/bits.overflowError"], apart := false, narrowed := true }
def FuseSpinsUptoSaid : Prop := fuseSpinsUptoRow.holds Try.pinned (OpenSpec.upto fuseSpinsSpec)

/-- 'gimballaw15.FuseSigns', WHERE WHAT IT READS IS OF BULK AT MOST 1048576: true; the input reads as it did. -/
def fuseSignsUptoRow : OpenClaim := { program := "ytcabnnfhcolcfaa", sum := "e2c04010660fb0b9b99a5c3aa9706ded4e6a03062bc41174aa495ccff2867f3c", func := "gimbal/gimballaw15.FuseSigns", spec := "fuseSigns", inPlace := ["math/bits.Add64", "math/bits.Sub64"], unfollowed := true, recurses := true, named := ["math/bits.divideError", "math/bits.overflowError"], apart := false, narrowed := true }
def FuseSignsUptoSaid : Prop := fuseSignsUptoRow.holds Try.pinned (OpenSpec.upto fuseSignsSpec)

end Rows
end Go.Proofs.Ytcabnnfhcolcfaa
