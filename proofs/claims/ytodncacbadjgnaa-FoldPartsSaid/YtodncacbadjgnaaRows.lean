/-
  No cell of these rows narrows 'for every input' (looked for: loops, veiled, ifaces, maps, wideKeys, modest, calm, conditions, laid).
  DERIVED. THE GIVEN ROWS OF THIS SEAT. 4 by the template 'for every input the law returns true; each argument reads behind the call as it read before'; 0 by the template 'total and deterministic' (their statements: YtodncacbadjgnaaTotals.lean).
  GIVEN WITH THE SEED: the statements are not yours to turn. If you find one false, say at which input.
  Laid BY PROGRAM, IN A SANDBOX (cutbox-rows.mjs): the forced cells as the released guide's own fill.sh prints them over the translation cde0e1fcf91f5367… (all of the seat's roots in one cut). By AI agents, Wed Nov 11 2026. No macro, syntax, notation, axiom, sorry.
-/
import Derived.Test.YtodncacbadjgnaaChecked
import GoSem.Claim
import GoSem.ClaimJoined
import GoSem.ClaimMapViews
import Derived.JoinedTies
import Derived.KernelRfl
namespace Go.Proofs.Ytodncacbadjgnaa
/- THE CELL 'sum', in the pinned program and in every row, IS THE sha256 OF THE DUMP (.gsa) THAT YtodncacbadjgnaaProg.lean LOADS. Nothing in Lean hashes anything: it is a label: what it is worth is what the hold of that sum in a sandbox is worth. -/
noncomputable def Try.pinned : Pinned := { name := "ytodncacbadjgnaa", sum := "cde0e1fcf91f53673d26d2c98abb57360e49f79d768ddf2f0f3e96bfdfde7f26", checked := Try.checked }
namespace Rows
def none {H : Type} : Left H := { results := [], args := [] }

/-- 'sprlaw3.FoldSigns': WHATEVER THE INPUT: true; the input reads as it did. -/
def foldSignsSpec : ChangeSpec := { name := "foldSigns", fn := fun _ => fun
  | [d] => { results := [.lit (.bool true)], args := [d] }
  | _ => none }
def foldSignsRow : OpenClaim := { program := "ytodncacbadjgnaa", sum := "cde0e1fcf91f53673d26d2c98abb57360e49f79d768ddf2f0f3e96bfdfde7f26", func := "springhouse/sprlaw3.FoldSigns", spec := "foldSigns", apart := false }
def FoldSignsSaid : Prop := foldSignsRow.holds Try.pinned (OpenSpec.ofChange foldSignsSpec)

/-- ITS FALSE NEIGHBOUR: 'it returns false'. Refute it at one input. -/
def foldSignsWrong : ChangeSpec := { name := "foldSigns", fn := fun _ => fun
  | [d] => { results := [.lit (.bool false)], args := [d] }
  | _ => none }
def FoldSignsWrongFalsely : Prop := foldSignsRow.holds Try.pinned (OpenSpec.ofChange foldSignsWrong)

/-- 'sprlaw3.FoldMaps': WHATEVER THE INPUT: true; the input reads as it did. -/
def foldMapsSpec : ChangeSpec := { name := "foldMaps", fn := fun _ => fun
  | [d] => { results := [.lit (.bool true)], args := [d] }
  | _ => none }
def foldMapsRow : OpenClaim := { program := "ytodncacbadjgnaa", sum := "cde0e1fcf91f53673d26d2c98abb57360e49f79d768ddf2f0f3e96bfdfde7f26", func := "springhouse/sprlaw3.FoldMaps", spec := "foldMaps", apart := false }
def FoldMapsSaid : Prop := foldMapsRow.holds Try.pinned (OpenSpec.ofChange foldMapsSpec)

/-- ITS FALSE NEIGHBOUR: 'it returns false'. Refute it at one input. -/
def foldMapsWrong : ChangeSpec := { name := "foldMaps", fn := fun _ => fun
  | [d] => { results := [.lit (.bool false)], args := [d] }
  | _ => none }
def FoldMapsWrongFalsely : Prop := foldMapsRow.holds Try.pinned (OpenSpec.ofChange foldMapsWrong)

/-- 'sprlaw3.FoldStays': WHATEVER THE INPUT: true; the input reads as it did. -/
def foldStaysSpec : ChangeSpec := { name := "foldStays", fn := fun _ => fun
  | [d1, d2] => { results := [.lit (.bool true)], args := [d1, d2] }
  | _ => none }
def foldStaysRow : OpenClaim := { program := "ytodncacbadjgnaa", sum := "cde0e1fcf91f53673d26d2c98abb57360e49f79d768ddf2f0f3e96bfdfde7f26", func := "springhouse/sprlaw3.FoldStays", spec := "foldStays", apart := false }
def FoldStaysSaid : Prop := foldStaysRow.holds Try.pinned (OpenSpec.ofChange foldStaysSpec)

/-- ITS FALSE NEIGHBOUR: 'it returns false'. Refute it at one input. -/
def foldStaysWrong : ChangeSpec := { name := "foldStays", fn := fun _ => fun
  | [d1, d2] => { results := [.lit (.bool false)], args := [d1, d2] }
  | _ => none }
def FoldStaysWrongFalsely : Prop := foldStaysRow.holds Try.pinned (OpenSpec.ofChange foldStaysWrong)

/-- 'sprlaw3.FoldParts': WHATEVER THE INPUT: true; the input reads as it did. -/
def foldPartsSpec : ChangeSpec := { name := "foldParts", fn := fun _ => fun
  | [d1, d2] => { results := [.lit (.bool true)], args := [d1, d2] }
  | _ => none }
def foldPartsRow : OpenClaim := { program := "ytodncacbadjgnaa", sum := "cde0e1fcf91f53673d26d2c98abb57360e49f79d768ddf2f0f3e96bfdfde7f26", func := "springhouse/sprlaw3.FoldParts", spec := "foldParts", apart := false }
def FoldPartsSaid : Prop := foldPartsRow.holds Try.pinned (OpenSpec.ofChange foldPartsSpec)

/-- ITS FALSE NEIGHBOUR: 'it returns false'. Refute it at one input. -/
def foldPartsWrong : ChangeSpec := { name := "foldParts", fn := fun _ => fun
  | [d1, d2] => { results := [.lit (.bool false)], args := [d1, d2] }
  | _ => none }
def FoldPartsWrongFalsely : Prop := foldPartsRow.holds Try.pinned (OpenSpec.ofChange foldPartsWrong)

/- THE SECOND FORM. 'bulk': how many values and letters a reading holds, each counted each time it is reached (what is shared counts as often as it is met; a slice's spare places count too). A statement '..UptoSaid' is the law's where the arguments, and the package variables that the reading takes, are together of bulk at most 1048576: NARROWER than '..Said'. Prove '..Said' where nothing that the law and all that it calls make is longer than what came in: it says more and counts as full. Else prove '..UptoSaid'. A law counts once. -/
mutual
def uptoBulk {H : Type} : DataW H → Nat
  | .lit (.string bytes) => bytes.length + 1
  | .lit _ => 1
  | .nil => 1
  | .ptr d => uptoBulk d + 1
  | .slice elems spare => uptoBulkAll elems + uptoBulkAll spare + 1
  | .agg parts => uptoBulkAll parts + 1
  | .iface _ d => uptoBulk d + 1
  | .map entries => uptoBulkEntries entries + 1
  | .held _ => 1
def uptoBulkAll {H : Type} : List (DataW H) → Nat
  | [] => 0
  | d :: r => uptoBulk d + uptoBulkAll r
def uptoBulkEntries {H : Type} : List (Lit × DataW H) → Nat
  | [] => 0
  | x :: r => uptoBulkEntry x + uptoBulkEntries r
def uptoBulkEntry {H : Type} : Lit × DataW H → Nat
  | (.string bytes, d) => bytes.length + uptoBulk d + 1
  | (_, d) => uptoBulk d + 1
 end
def uptoSmall : (H : Type) → List (DataW H) → Bool := fun _ ds => decide (uptoBulkAll ds ≤ 1048576)
def OpenSpec.upto (s : _root_.Go.ChangeSpec) : _root_.Go.OpenSpec := { _root_.Go.OpenSpec.ofChange s with cond := some uptoSmall }

/-- 'sprlaw3.FoldSigns', WHERE WHAT IT READS IS OF BULK AT MOST 1048576: true; the input reads as it did. -/
def foldSignsUptoRow : OpenClaim := { program := "ytodncacbadjgnaa", sum := "cde0e1fcf91f53673d26d2c98abb57360e49f79d768ddf2f0f3e96bfdfde7f26", func := "springhouse/sprlaw3.FoldSigns", spec := "foldSigns", apart := false, narrowed := true }
def FoldSignsUptoSaid : Prop := foldSignsUptoRow.holds Try.pinned (OpenSpec.upto foldSignsSpec)

/-- 'sprlaw3.FoldMaps', WHERE WHAT IT READS IS OF BULK AT MOST 1048576: true; the input reads as it did. -/
def foldMapsUptoRow : OpenClaim := { program := "ytodncacbadjgnaa", sum := "cde0e1fcf91f53673d26d2c98abb57360e49f79d768ddf2f0f3e96bfdfde7f26", func := "springhouse/sprlaw3.FoldMaps", spec := "foldMaps", apart := false, narrowed := true }
def FoldMapsUptoSaid : Prop := foldMapsUptoRow.holds Try.pinned (OpenSpec.upto foldMapsSpec)

/-- 'sprlaw3.FoldStays', WHERE WHAT IT READS IS OF BULK AT MOST 1048576: true; the input reads as it did. -/
def foldStaysUptoRow : OpenClaim := { program := "ytodncacbadjgnaa", sum := "cde0e1fcf91f53673d26d2c98abb57360e49f79d768ddf2f0f3e96bfdfde7f26", func := "springhouse/sprlaw3.FoldStays", spec := "foldStays", apart := false, narrowed := true }
def FoldStaysUptoSaid : Prop := foldStaysUptoRow.holds Try.pinned (OpenSpec.upto foldStaysSpec)

/-- 'sprlaw3.FoldParts', WHERE WHAT IT READS IS OF BULK AT MOST 1048576: true; the input reads as it did. -/
def foldPartsUptoRow : OpenClaim := { program := "ytodncacbadjgnaa", sum := "cde0e1fcf91f53673d26d2c98abb57360e49f79d768ddf2f0f3e96bfdfde7f26", func := "springhouse/sprlaw3.FoldParts", spec := "foldParts", apart := false, narrowed := true }
def FoldPartsUptoSaid : Prop := foldPartsUptoRow.holds Try.pinned (OpenSpec.upto foldPartsSpec)

end Rows
end Go.Proofs.Ytodncacbadjgnaa
