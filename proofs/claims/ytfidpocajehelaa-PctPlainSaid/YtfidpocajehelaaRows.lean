/-
  No cell of these rows narrows 'for every input' (looked for: loops, veiled, ifaces, maps, wideKeys, modest, calm, conditions, laid).
  DERIVED. THE GIVEN ROWS OF THIS SEAT. 5 by the template 'for every input the law returns true; each argument reads behind the call as it read before'; 0 by the template 'total and deterministic' (their statements: YtfidpocajehelaaTotals.lean).
  GIVEN WITH THE SEED: the statements are not yours to turn. If you find one false, say at which input.
  Laid BY PROGRAM, IN A SANDBOX (cutbox-rows.mjs): the forced cells as the released guide's own fill.sh prints them over the translation d66adf6c7f6a9f25… (all of the seat's roots in one cut). By AI agents, Wed Nov 11 2026. No macro, syntax, notation, axiom, sorry.
-/
import Derived.Test.YtfidpocajehelaaChecked
import GoSem.Claim
import GoSem.ClaimJoined
import GoSem.ClaimMapViews
import Derived.JoinedTies
import Derived.KernelRfl
namespace Go.Proofs.Ytfidpocajehelaa
/- THE CELL 'sum', in the pinned program and in every row, IS THE sha256 OF THE DUMP (.gsa) THAT YtfidpocajehelaaProg.lean LOADS. Nothing in Lean hashes anything: it is a label: what it is worth is what the hold of that sum in a sandbox is worth. -/
noncomputable def Try.pinned : Pinned := { name := "ytfidpocajehelaa", sum := "d66adf6c7f6a9f25470d96dead1f63b7961fb9f6e4567b31177b70f605931f69", checked := Try.checked }
namespace Rows
def none {H : Type} : Left H := { results := [], args := [] }

/-- 'sprlaw6.PctSets': WHATEVER THE INPUT: true; the input reads as it did. -/
def pctSetsSpec : ChangeSpec := { name := "pctSets", fn := fun _ => fun
  | [d1, d2] => { results := [.lit (.bool true)], args := [d1, d2] }
  | _ => none }
def pctSetsRow : OpenClaim := { program := "ytfidpocajehelaa", sum := "d66adf6c7f6a9f25470d96dead1f63b7961fb9f6e4567b31177b70f605931f69", func := "springhouse/sprlaw6.PctSets", spec := "pctSets", inPlace := ["internal/bytealg.IndexByteString"], recurses := true, apart := false }
def PctSetsSaid : Prop := pctSetsRow.holds Try.pinned (OpenSpec.ofChange pctSetsSpec)

/-- ITS FALSE NEIGHBOUR: 'it returns false'. Refute it at one input. -/
def pctSetsWrong : ChangeSpec := { name := "pctSets", fn := fun _ => fun
  | [d1, d2] => { results := [.lit (.bool false)], args := [d1, d2] }
  | _ => none }
def PctSetsWrongFalsely : Prop := pctSetsRow.holds Try.pinned (OpenSpec.ofChange pctSetsWrong)

/-- 'sprlaw6.PctCodes': WHATEVER THE INPUT: true; the input reads as it did. -/
def pctCodesSpec : ChangeSpec := { name := "pctCodes", fn := fun _ => fun
  | [d1, d2, d3] => { results := [.lit (.bool true)], args := [d1, d2, d3] }
  | _ => none }
def pctCodesRow : OpenClaim := { program := "ytfidpocajehelaa", sum := "d66adf6c7f6a9f25470d96dead1f63b7961fb9f6e4567b31177b70f605931f69", func := "springhouse/sprlaw6.PctCodes", spec := "pctCodes", inPlace := ["internal/bytealg.IndexByteString"], recurses := true, apart := false }
def PctCodesSaid : Prop := pctCodesRow.holds Try.pinned (OpenSpec.ofChange pctCodesSpec)

/-- ITS FALSE NEIGHBOUR: 'it returns false'. Refute it at one input. -/
def pctCodesWrong : ChangeSpec := { name := "pctCodes", fn := fun _ => fun
  | [d1, d2, d3] => { results := [.lit (.bool false)], args := [d1, d2, d3] }
  | _ => none }
def PctCodesWrongFalsely : Prop := pctCodesRow.holds Try.pinned (OpenSpec.ofChange pctCodesWrong)

/-- 'sprlaw6.PctBack': WHATEVER THE INPUT: true; the input reads as it did. -/
def pctBackSpec : ChangeSpec := { name := "pctBack", fn := fun _ => fun
  | [d1, d2] => { results := [.lit (.bool true)], args := [d1, d2] }
  | _ => none }
def pctBackRow : OpenClaim := { program := "ytfidpocajehelaa", sum := "d66adf6c7f6a9f25470d96dead1f63b7961fb9f6e4567b31177b70f605931f69", func := "springhouse/sprlaw6.PctBack", spec := "pctBack", inPlace := ["internal/bytealg.IndexByteString"], recurses := true, apart := false }
def PctBackSaid : Prop := pctBackRow.holds Try.pinned (OpenSpec.ofChange pctBackSpec)

/-- ITS FALSE NEIGHBOUR: 'it returns false'. Refute it at one input. -/
def pctBackWrong : ChangeSpec := { name := "pctBack", fn := fun _ => fun
  | [d1, d2] => { results := [.lit (.bool false)], args := [d1, d2] }
  | _ => none }
def PctBackWrongFalsely : Prop := pctBackRow.holds Try.pinned (OpenSpec.ofChange pctBackWrong)

/-- 'sprlaw6.PctRise': WHATEVER THE INPUT: true; the input reads as it did. -/
def pctRiseSpec : ChangeSpec := { name := "pctRise", fn := fun _ => fun
  | [d1, d2, d3, d4] => { results := [.lit (.bool true)], args := [d1, d2, d3, d4] }
  | _ => none }
def pctRiseRow : OpenClaim := { program := "ytfidpocajehelaa", sum := "d66adf6c7f6a9f25470d96dead1f63b7961fb9f6e4567b31177b70f605931f69", func := "springhouse/sprlaw6.PctRise", spec := "pctRise", inPlace := ["internal/bytealg.IndexByteString"], recurses := true, apart := false }
def PctRiseSaid : Prop := pctRiseRow.holds Try.pinned (OpenSpec.ofChange pctRiseSpec)

/-- ITS FALSE NEIGHBOUR: 'it returns false'. Refute it at one input. -/
def pctRiseWrong : ChangeSpec := { name := "pctRise", fn := fun _ => fun
  | [d1, d2, d3, d4] => { results := [.lit (.bool false)], args := [d1, d2, d3, d4] }
  | _ => none }
def PctRiseWrongFalsely : Prop := pctRiseRow.holds Try.pinned (OpenSpec.ofChange pctRiseWrong)

/-- 'sprlaw6.PctPlain': WHATEVER THE INPUT: true; the input reads as it did. -/
def pctPlainSpec : ChangeSpec := { name := "pctPlain", fn := fun _ => fun
  | [d1, d2] => { results := [.lit (.bool true)], args := [d1, d2] }
  | _ => none }
def pctPlainRow : OpenClaim := { program := "ytfidpocajehelaa", sum := "d66adf6c7f6a9f25470d96dead1f63b7961fb9f6e4567b31177b70f605931f69", func := "springhouse/sprlaw6.PctPlain", spec := "pctPlain", inPlace := ["internal/bytealg.IndexByteString"], recurses := true, apart := false }
def PctPlainSaid : Prop := pctPlainRow.holds Try.pinned (OpenSpec.ofChange pctPlainSpec)

/-- ITS FALSE NEIGHBOUR: 'it returns false'. Refute it at one input. -/
def pctPlainWrong : ChangeSpec := { name := "pctPlain", fn := fun _ => fun
  | [d1, d2] => { results := [.lit (.bool false)], args := [d1, d2] }
  | _ => none }
def PctPlainWrongFalsely : Prop := pctPlainRow.holds Try.pinned (OpenSpec.ofChange pctPlainWrong)

/- THE SECOND FORM. 'bulk': how many values and letters a reading holds, each counted each time it is reached (what is shared counts as often as it is met; a slice's spare places count too). A statement '..UptoSaid' is the law's where the arguments, and the package variables that the reading takes, are together of bulk at most 1048576: NARROWER than '..Said'. Prove '..Said' where nothing that the law and all that it calls make is longer than what came in: it says more and counts as full. Else prove '..UptoSaid'. A law counts once. -/
mutual
def uptoBulk {H : Type} : DataW H → Nat
  | .lit (.string bytes) => bytes.length + 1
  | .lit _ => 1
  | .nil => 1
  | .ptr d => uptoBulk d + 1
  | .slice elems spare => uptoBulkAll elems + uptoBulkAll spare + 1
  | .agg parts => uptoBulkAll parts + 1
  | .iface _ d => uptoBulk d + 1
  | .map entries => uptoBulkEntries entries + 1
  | .held _ => 1
def uptoBulkAll {H : Type} : List (DataW H) → Nat
  | [] => 0
  | d :: r => uptoBulk d + uptoBulkAll r
def uptoBulkEntries {H : Type} : List (Lit × DataW H) → Nat
  | [] => 0
  | x :: r => uptoBulkEntry x + uptoBulkEntries r
def uptoBulkEntry {H : Type} : Lit × DataW H → Nat
  | (.string bytes, d) => bytes.length + uptoBulk d + 1
  | (_, d) => uptoBulk d + 1
 end
def uptoSmall : (H : Type) → List (DataW H) → Bool := fun _ ds => decide (uptoBulkAll ds ≤ 1048576)
def OpenSpec.upto (s : _root_.Go.ChangeSpec) : _root_.Go.OpenSpec := { _root_.Go.OpenSpec.ofChange s with cond := some uptoSmall }

/-- 'sprlaw6.PctSets', WHERE WHAT IT READS IS OF BULK AT MOST 1048576: true; the input reads as it did. -/
def pctSetsUptoRow : OpenClaim := { program := "ytfidpocajehelaa", sum := "d66adf6c7f6a9f25470d96dead1f63b7961fb9f6e4567b31177b70f605931f69", func := "springhouse/sprlaw6.PctSets", spec := "pctSets", inPlace := ["internal/bytealg.IndexByteString"], recurses := true, apart := false, narrowed := true }
def PctSetsUptoSaid : Prop := pctSetsUptoRow.holds Try.pinned (OpenSpec.upto pctSetsSpec)

/-- 'sprlaw6.PctCodes', WHERE WHAT IT READS IS OF BULK AT MOST 1048576: true; the input reads as it did. -/
def pctCodesUptoRow : OpenClaim := { program := "ytfidpocajehelaa", sum := "d66adf6c7f6a9f25470d96dead1f63b7961fb9f6e4567b31177b70f605931f69", func := "springhouse/sprlaw6.PctCodes", spec := "pctCodes", inPlace := ["internal/bytealg.IndexByteString"], recurses := true, apart := false, narrowed := true }
def PctCodesUptoSaid : Prop := pctCodesUptoRow.holds Try.pinned (OpenSpec.upto pctCodesSpec)

/-- 'sprlaw6.PctBack', WHERE WHAT IT READS IS OF BULK AT MOST 1048576: true; the input reads as it did. -/
def pctBackUptoRow : OpenClaim := { program := "ytfidpocajehelaa", sum := "d66adf6c7f6a9f25470d96dead1f63b7961fb9f6e4567b31177b70f605931f69", func := "springhouse/sprlaw6.PctBack", spec := "pctBack", inPlace := ["internal/bytealg.IndexByteString"], recurses := true, apart := false, narrowed := true }
def PctBackUptoSaid : Prop := pctBackUptoRow.holds Try.pinned (OpenSpec.upto pctBackSpec)

/-- 'sprlaw6.PctRise', WHERE WHAT IT READS IS OF BULK AT MOST 1048576: true; the input reads as it did. -/
def pctRiseUptoRow : OpenClaim := { program := "ytfidpocajehelaa", sum := "d66adf6c7f6a9f25470d96dead1f63b7961fb9f6e4567b31177b70f605931f69", func := "springhouse/sprlaw6.PctRise", spec := "pctRise", inPlace := ["internal/bytealg.IndexByteString"], recurses := true, apart := false, narrowed := true }
def PctRiseUptoSaid : Prop := pctRiseUptoRow.holds Try.pinned (OpenSpec.upto pctRiseSpec)

/-- 'sprlaw6.PctPlain', WHERE WHAT IT READS IS OF BULK AT MOST 1048576: true; the input reads as it did. -/
def pctPlainUptoRow : OpenClaim := { program := "ytfidpocajehelaa", sum := "d66adf6c7f6a9f25470d96dead1f63b7961fb9f6e4567b31177b70f605931f69", func := "springhouse/sprlaw6.PctPlain", spec := "pctPlain", inPlace := ["internal/bytealg.IndexByteString"], recurses := true, apart := false, narrowed := true }
def PctPlainUptoSaid : Prop := pctPlainUptoRow.holds Try.pinned (OpenSpec.upto pctPlainSpec)

end Rows
end Go.Proofs.Ytfidpocajehelaa
