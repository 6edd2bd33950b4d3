/-
  No cell of these rows narrows 'for every input' (looked for: loops, veiled, ifaces, maps, wideKeys, modest, calm, conditions, laid).
  DERIVED. THE GIVEN ROWS OF THIS SEAT. 8 by the template 'for every input the law returns true; each argument reads behind the call as it read before'; 0 by the template 'total and deterministic' (their statements: YtfknnppphijfpaaTotals.lean).
  GIVEN WITH THE SEED: the statements are not yours to turn. If you find one false, say at which input.
  Laid BY PROGRAM, IN A SANDBOX (cutbox-rows.mjs): the forced cells as the released guide's own fill.sh prints them over the translation 3dbc7f03691a17c9… (all of the seat's roots in one cut). By AI agents, Wed Nov 11 2026. No macro, syntax, notation, axiom, sorry.
-/
import Derived.Test.YtfknnppphijfpaaChecked
import GoSem.Claim
import GoSem.ClaimJoined
import GoSem.ClaimMapViews
import Derived.JoinedTies
import Derived.KernelRfl
namespace Go.Proofs.Ytfknnppphijfpaa
/- THE CELL 'sum', in the pinned program and in every row, IS THE sha256 OF THE DUMP (.gsa) THAT YtfknnppphijfpaaProg.lean LOADS. Nothing in Lean hashes anything: it is a label: what it is worth is what the hold of that sum in a sandbox is worth. -/
noncomputable def Try.pinned : Pinned := { name := "ytfknnppphijfpaa", sum := "3dbc7f03691a17c91aaddca36b9551c74fdcf077b937f4b9e9099af5f645244c", checked := Try.checked }
namespace Rows
def none {H : Type} : Left H := { results := [], args := [] }

/-- 'sprlaw1.BitsSums': WHATEVER THE INPUT: true; the input reads as it did. -/
def bitsSumsSpec : ChangeSpec := { name := "bitsSums", fn := fun _ => fun
  | [d1, d2, d3] => { results := [.lit (.bool true)], args := [d1, d2, d3] }
  | _ => none }
def bitsSumsRow : OpenClaim := { program := "ytfknnppphijfpaa", sum := "3dbc7f03691a17c91aaddca36b9551c74fdcf077b937f4b9e9099af5f645244c", func := "springhouse/sprlaw1.BitsSums", spec := "bitsSums", apart := false }
def BitsSumsSaid : Prop := bitsSumsRow.holds Try.pinned (OpenSpec.ofChange bitsSumsSpec)

/-- ITS FALSE NEIGHBOUR: 'it returns false'. Refute it at one input. -/
def bitsSumsWrong : ChangeSpec := { name := "bitsSums", fn := fun _ => fun
  | [d1, d2, d3] => { results := [.lit (.bool false)], args := [d1, d2, d3] }
  | _ => none }
def BitsSumsWrongFalsely : Prop := bitsSumsRow.holds Try.pinned (OpenSpec.ofChange bitsSumsWrong)

/-- 'sprlaw1.BitsTurns': WHATEVER THE INPUT: true; the input reads as it did. -/
def bitsTurnsSpec : ChangeSpec := { name := "bitsTurns", fn := fun _ => fun
  | [d1, d2, d3] => { results := [.lit (.bool true)], args := [d1, d2, d3] }
  | _ => none }
def bitsTurnsRow : OpenClaim := { program := "ytfknnppphijfpaa", sum := "3dbc7f03691a17c91aaddca36b9551c74fdcf077b937f4b9e9099af5f645244c", func := "springhouse/sprlaw1.BitsTurns", spec := "bitsTurns", apart := false }
def BitsTurnsSaid : Prop := bitsTurnsRow.holds Try.pinned (OpenSpec.ofChange bitsTurnsSpec)

/-- ITS FALSE NEIGHBOUR: 'it returns false'. Refute it at one input. -/
def bitsTurnsWrong : ChangeSpec := { name := "bitsTurns", fn := fun _ => fun
  | [d1, d2, d3] => { results := [.lit (.bool false)], args := [d1, d2, d3] }
  | _ => none }
def BitsTurnsWrongFalsely : Prop := bitsTurnsRow.holds Try.pinned (OpenSpec.ofChange bitsTurnsWrong)

/-- 'sprlaw1.BitsCrcs': WHATEVER THE INPUT: true; the input reads as it did. -/
def bitsCrcsSpec : ChangeSpec := { name := "bitsCrcs", fn := fun _ => fun
  | [d1, d2, d3, d4, d5] => { results := [.lit (.bool true)], args := [d1, d2, d3, d4, d5] }
  | _ => none }
def bitsCrcsRow : OpenClaim := { program := "ytfknnppphijfpaa", sum := "3dbc7f03691a17c91aaddca36b9551c74fdcf077b937f4b9e9099af5f645244c", func := "springhouse/sprlaw1.BitsCrcs", spec := "bitsCrcs", apart := false }
def BitsCrcsSaid : Prop := bitsCrcsRow.holds Try.pinned (OpenSpec.ofChange bitsCrcsSpec)

/-- ITS FALSE NEIGHBOUR: 'it returns false'. Refute it at one input. -/
def bitsCrcsWrong : ChangeSpec := { name := "bitsCrcs", fn := fun _ => fun
  | [d1, d2, d3, d4, d5] => { results := [.lit (.bool false)], args := [d1, d2, d3, d4, d5] }
  | _ => none }
def BitsCrcsWrongFalsely : Prop := bitsCrcsRow.holds Try.pinned (OpenSpec.ofChange bitsCrcsWrong)

/-- 'sprlaw1.BitsSecs': WHATEVER THE INPUT: true; the input reads as it did. -/
def bitsSecsSpec : ChangeSpec := { name := "bitsSecs", fn := fun _ => fun
  | [d1, d2] => { results := [.lit (.bool true)], args := [d1, d2] }
  | _ => none }
def bitsSecsRow : OpenClaim := { program := "ytfknnppphijfpaa", sum := "3dbc7f03691a17c91aaddca36b9551c74fdcf077b937f4b9e9099af5f645244c", func := "springhouse/sprlaw1.BitsSecs", spec := "bitsSecs", apart := false }
def BitsSecsSaid : Prop := bitsSecsRow.holds Try.pinned (OpenSpec.ofChange bitsSecsSpec)

/-- ITS FALSE NEIGHBOUR: 'it returns false'. Refute it at one input. -/
def bitsSecsWrong : ChangeSpec := { name := "bitsSecs", fn := fun _ => fun
  | [d1, d2] => { results := [.lit (.bool false)], args := [d1, d2] }
  | _ => none }
def BitsSecsWrongFalsely : Prop := bitsSecsRow.holds Try.pinned (OpenSpec.ofChange bitsSecsWrong)

/-- 'sprlaw1.BitsSaturate': WHATEVER THE INPUT: true; the input reads as it did. -/
def bitsSaturateSpec : ChangeSpec := { name := "bitsSaturate", fn := fun _ => fun
  | [d1, d2, d3] => { results := [.lit (.bool true)], args := [d1, d2, d3] }
  | _ => none }
def bitsSaturateRow : OpenClaim := { program := "ytfknnppphijfpaa", sum := "3dbc7f03691a17c91aaddca36b9551c74fdcf077b937f4b9e9099af5f645244c", func := "springhouse/sprlaw1.BitsSaturate", spec := "bitsSaturate", apart := false }
def BitsSaturateSaid : Prop := bitsSaturateRow.holds Try.pinned (OpenSpec.ofChange bitsSaturateSpec)

/-- ITS FALSE NEIGHBOUR: 'it returns false'. Refute it at one input. -/
def bitsSaturateWrong : ChangeSpec := { name := "bitsSaturate", fn := fun _ => fun
  | [d1, d2, d3] => { results := [.lit (.bool false)], args := [d1, d2, d3] }
  | _ => none }
def BitsSaturateWrongFalsely : Prop := bitsSaturateRow.holds Try.pinned (OpenSpec.ofChange bitsSaturateWrong)

/-- 'sprlaw1.BitsNumbers': WHATEVER THE INPUT: true; the input reads as it did. -/
def bitsNumbersSpec : ChangeSpec := { name := "bitsNumbers", fn := fun _ => fun
  | [d1, d2, d3, d4] => { results := [.lit (.bool true)], args := [d1, d2, d3, d4] }
  | _ => none }
def bitsNumbersRow : OpenClaim := { program := "ytfknnppphijfpaa", sum := "3dbc7f03691a17c91aaddca36b9551c74fdcf077b937f4b9e9099af5f645244c", func := "springhouse/sprlaw1.BitsNumbers", spec := "bitsNumbers", apart := false }
def BitsNumbersSaid : Prop := bitsNumbersRow.holds Try.pinned (OpenSpec.ofChange bitsNumbersSpec)

/-- ITS FALSE NEIGHBOUR: 'it returns false'. Refute it at one input. -/
def bitsNumbersWrong : ChangeSpec := { name := "bitsNumbers", fn := fun _ => fun
  | [d1, d2, d3, d4] => { results := [.lit (.bool false)], args := [d1, d2, d3, d4] }
  | _ => none }
def BitsNumbersWrongFalsely : Prop := bitsNumbersRow.holds Try.pinned (OpenSpec.ofChange bitsNumbersWrong)

/-- 'sprlaw1.BitsTexts': WHATEVER THE INPUT: true; the input reads as it did. -/
def bitsTextsSpec : ChangeSpec := { name := "bitsTexts", fn := fun _ => fun
  | [d1, d2] => { results := [.lit (.bool true)], args := [d1, d2] }
  | _ => none }
def bitsTextsRow : OpenClaim := { program := "ytfknnppphijfpaa", sum := "3dbc7f03691a17c91aaddca36b9551c74fdcf077b937f4b9e9099af5f645244c", func := "springhouse/sprlaw1.BitsTexts", spec := "bitsTexts", inPlace := ["internal/bytealg.IndexByteString"], apart := false }
def BitsTextsSaid : Prop := bitsTextsRow.holds Try.pinned (OpenSpec.ofChange bitsTextsSpec)

/-- ITS FALSE NEIGHBOUR: 'it returns false'. Refute it at one input. -/
def bitsTextsWrong : ChangeSpec := { name := "bitsTexts", fn := fun _ => fun
  | [d1, d2] => { results := [.lit (.bool false)], args := [d1, d2] }
  | _ => none }
def BitsTextsWrongFalsely : Prop := bitsTextsRow.holds Try.pinned (OpenSpec.ofChange bitsTextsWrong)

/-- 'sprlaw1.BitsBack': WHATEVER THE INPUT: true; the input reads as it did. -/
def bitsBackSpec : ChangeSpec := { name := "bitsBack", fn := fun _ => fun
  | [d1, d2, d3] => { results := [.lit (.bool true)], args := [d1, d2, d3] }
  | _ => none }
def bitsBackRow : OpenClaim := { program := "ytfknnppphijfpaa", sum := "3dbc7f03691a17c91aaddca36b9551c74fdcf077b937f4b9e9099af5f645244c", func := "springhouse/sprlaw1.BitsBack", spec := "bitsBack", inPlace := ["internal/bytealg.IndexByteString"], apart := false }
def BitsBackSaid : Prop := bitsBackRow.holds Try.pinned (OpenSpec.ofChange bitsBackSpec)

/-- ITS FALSE NEIGHBOUR: 'it returns false'. Refute it at one input. -/
def bitsBackWrong : ChangeSpec := { name := "bitsBack", fn := fun _ => fun
  | [d1, d2, d3] => { results := [.lit (.bool false)], args := [d1, d2, d3] }
  | _ => none }
def BitsBackWrongFalsely : Prop := bitsBackRow.holds Try.pinned (OpenSpec.ofChange bitsBackWrong)

/- THE SECOND FORM. 'bulk': how many values and letters a reading holds, each counted each time it is reached (what is shared counts as often as it is met; a slice's spare places count too). A statement '..UptoSaid' is the law's where the arguments, and the package variables that the reading takes, are together of bulk at most 1048576: NARROWER than '..Said'. Prove '..Said' where nothing that the law and all that it calls make is longer than what came in: it says more and counts as full. Else prove '..UptoSaid'. A law counts once. -/
mutual
def uptoBulk {H : Type} : DataW H → Nat
  | .lit (.string bytes) => bytes.length + 1
  | .lit _ => 1
  | .nil => 1
  | .ptr d => uptoBulk d + 1
  | .slice elems spare => uptoBulkAll elems + uptoBulkAll spare + 1
  | .agg parts => uptoBulkAll parts + 1
  | .iface _ d => uptoBulk d + 1
  | .map entries => uptoBulkEntries entries + 1
  | .held _ => 1
def uptoBulkAll {H : Type} : List (DataW H) → Nat
  | [] => 0
  | d :: r => uptoBulk d + uptoBulkAll r
def uptoBulkEntries {H : Type} : List (Lit × DataW H) → Nat
  | [] => 0
  | x :: r => uptoBulkEntry x + uptoBulkEntries r
def uptoBulkEntry {H : Type} : Lit × DataW H → Nat
  | (.string bytes, d) => bytes.length + uptoBulk d + 1
  | (_, d) => uptoBulk d + 1
 end
def uptoSmall : (H : Type) → List (DataW H) → Bool := fun _ ds => decide (uptoBulkAll ds ≤ 1048576)
def OpenSpec.upto (s : _root_.Go.ChangeSpec) : _root_.Go.OpenSpec := { _root_.Go.OpenSpec.ofChange s with cond := some uptoSmall }

/-- 'sprlaw1.BitsSums', WHERE WHAT IT READS IS OF BULK AT MOST 1048576: true; the input reads as it did. -/
def bitsSumsUptoRow : OpenClaim := { program := "ytfknnppphijfpaa", sum := "3dbc7f03691a17c91aaddca36b9551c74fdcf077b937f4b9e9099af5f645244c", func := "springhouse/sprlaw1.BitsSums", spec := "bitsSums", apart := false, narrowed := true }
def BitsSumsUptoSaid : Prop := bitsSumsUptoRow.holds Try.pinned (OpenSpec.upto bitsSumsSpec)

/-- 'sprlaw1.BitsTurns', WHERE WHAT IT READS IS OF BULK AT MOST 1048576: true; the input reads as it did. -/
def bitsTurnsUptoRow : OpenClaim := { program := "ytfknnppphijfpaa", sum := "3dbc7f03691a17c91aaddca36b9551c74fdcf077b937f4b9e9099af5f645244c", func := "springhouse/sprlaw1.BitsTurns", spec := "bitsTurns", apart := false, narrowed := true }
def BitsTurnsUptoSaid : Prop := bitsTurnsUptoRow.holds Try.pinned (OpenSpec.upto bitsTurnsSpec)

/-- 'sprlaw1.BitsCrcs', WHERE WHAT IT READS IS OF BULK AT MOST 1048576: true; the input reads as it did. -/
def bitsCrcsUptoRow : OpenClaim := { program := "ytfknnppphijfpaa", sum := "3dbc7f03691a17c91aaddca36b9551c74fdcf077b937f4b9e9099af5f645244c", func := "springhouse/sprlaw1.BitsCrcs", spec := "bitsCrcs", apart := false, narrowed := true }
def BitsCrcsUptoSaid : Prop := bitsCrcsUptoRow.holds Try.pinned (OpenSpec.upto bitsCrcsSpec)

/-- 'sprlaw1.BitsSecs', WHERE WHAT IT READS IS OF BULK AT MOST 1048576: true; the input reads as it did. -/
def bitsSecsUptoRow : OpenClaim := { program := "ytfknnppphijfpaa", sum := "3dbc7f03691a17c91aaddca36b9551c74fdcf077b937f4b9e9099af5f645244c", func := "springhouse/sprlaw1.BitsSecs", spec := "bitsSecs", apart := false, narrowed := true }
def BitsSecsUptoSaid : Prop := bitsSecsUptoRow.holds Try.pinned (OpenSpec.upto bitsSecsSpec)

/-- 'sprlaw1.BitsSaturate', WHERE WHAT IT READS IS OF BULK AT MOST 1048576: true; the input reads as it did. -/
def bitsSaturateUptoRow : OpenClaim := { program := "ytfknnppphijfpaa", sum := "3dbc7f03691a17c91aaddca36b9551c74fdcf077b937f4b9e9099af5f645244c", func := "springhouse/sprlaw1.BitsSaturate", spec := "bitsSaturate", apart := false, narrowed := true }
def BitsSaturateUptoSaid : Prop := bitsSaturateUptoRow.holds Try.pinned (OpenSpec.upto bitsSaturateSpec)

/-- 'sprlaw1.BitsNumbers', WHERE WHAT IT READS IS OF BULK AT MOST 1048576: true; the input reads as it did. -/
def bitsNumbersUptoRow : OpenClaim := { program := "ytfknnppphijfpaa", sum := "3dbc7f03691a17c91aaddca36b9551c74fdcf077b937f4b9e9099af5f645244c", func := "springhouse/sprlaw1.BitsNumbers", spec := "bitsNumbers", apart := false, narrowed := true }
def BitsNumbersUptoSaid : Prop := bitsNumbersUptoRow.holds Try.pinned (OpenSpec.upto bitsNumbersSpec)

/-- 'sprlaw1.BitsTexts', WHERE WHAT IT READS IS OF BULK AT MOST 1048576: true; the input reads as it did. -/
def bitsTextsUptoRow : OpenClaim := { program := "ytfknnppphijfpaa", sum := "3dbc7f03691a17c91aaddca36b9551c74fdcf077b937f4b9e9099af5f645244c", func := "springhouse/sprlaw1.BitsTexts", spec := "bitsTexts", inPlace := ["internal/bytealg.IndexByteString"], apart := false, narrowed := true }
def BitsTextsUptoSaid : Prop := bitsTextsUptoRow.holds Try.pinned (OpenSpec.upto bitsTextsSpec)

/-- 'sprlaw1.BitsBack', WHERE WHAT IT READS IS OF BULK AT MOST 1048576: true; the input reads as it did. -/
def bitsBackUptoRow : OpenClaim := { program := "ytfknnppphijfpaa", sum := "3dbc7f03691a17c91aaddca36b9551c74fdcf077b937f4b9e9099af5f645244c", func := "springhouse/sprlaw1.BitsBack", spec := "bitsBack", inPlace := ["internal/bytealg.IndexByteString"], apart := false, narrowed := true }
def BitsBackUptoSaid : Prop := bitsBackUptoRow.holds Try.pinned (OpenSpec.upto bitsBackSpec)

end Rows
end Go.Proofs.Ytfknnppphijfpaa
