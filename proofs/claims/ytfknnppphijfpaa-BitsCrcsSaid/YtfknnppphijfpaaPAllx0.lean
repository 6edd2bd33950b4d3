/- Written by a program of this session (a changed print of the kit): what functions of the program compute, as Lean functions, and that the program computes just that; in a row's text: the given statement. No conditions. -/
import Derived.Test.YtfknnppphijfpaaProg
import Derived.Below
import Derived.Deep.Draws
import Derived.Deep.AppendLies
import Derived.Maps.AppendAt
import Derived.OwnWalk
import Derived.Laws.BytesArg
import Derived.Laws.MakeOwn
import Derived.Laws.OwnMore
import Derived.Deep.OwnRows
import Derived.Tactics
import Derived.Lib.ConvBytes
import Derived.Laws.Slices
import Derived.WalkKit
import Derived.KernelRfl
import Derived.RowKit3
import Derived.Deep.LoopGhost
import Derived.Deep.QuietTactic
import Derived.BigQuiet
import Derived.WideLaws
import Derived.Deep.DeepCutAuto
import Derived.Deep.CutBlock
import Derived.Deep.RegionHeld3
import Derived.Laws.Rows
import Derived.Lib.AppendStr
import Derived.ArgAppend
import Derived.Laws.IdiomCopy
import Derived.OrdersHeld
import Derived.Laws.BitsLemmas
import Derived.RowKit
import Derived.Test.YtfknnppphijfpaaLib
import Derived.Test.YtfknnppphijfpaaWWords
import Derived.Test.YtfknnppphijfpaaWLast
import Derived.Test.YtfknnppphijfpaaWTab
import Derived.Test.YtfknnppphijfpaaWFour
import Derived.Test.YtfknnppphijfpaaWQPut
import Derived.Test.YtfknnppphijfpaaWApart
import Derived.Test.YtfknnppphijfpaaWArr
import Derived.Test.YtfknnppphijfpaaWZeros
import Derived.Test.YtfknnppphijfpaaWFoot
import Derived.Test.YtfknnppphijfpaaWKept
import Derived.Test.YtfknnppphijfpaaWShare
import Derived.Test.YtfknnppphijfpaaWN
import Derived.Test.YtfknnppphijfpaaWFootNe
import Derived.Test.YtfknnppphijfpaaWAt
import Derived.Test.YtfknnppphijfpaaWEqStruct
import Derived.Test.YtfknnppphijfpaaWRepsOne
import Derived.Test.YtfknnppphijfpaaWInv
import Derived.Test.YtfknnppphijfpaaWInvWords
import Derived.Test.YtfknnppphijfpaaWGuard
import Derived.Test.YtfknnppphijfpaaWNEv
import Derived.Test.YtfknnppphijfpaaWMore
namespace Go.Proofs.Ytfknnppphijfpaa.PAll
open Go.RowKit Go.Proofs.YtfknnppphijfpaaW.PrintWords Go.Proofs.YtfknnppphijfpaaW.PrintLast Go.Proofs.YtfknnppphijfpaaW.PrintMore
attribute [local go_sem] max2_int min2_int max_two min_two max_three min_three max_four min_four   -- for this text's walks alone
set_option linter.unusedVariables false
set_option linter.unusedSimpArgs false



def errW : Option Int → Value
  | none => .nilIface
  | some c => .iface 0 (.int .i64 c)
theorem errW_none : errW none = .nilIface := rfl
theorem errW_some (c : Int) : errW (some c) = .iface 0 (.int .i64 c) := rfl

theorem info5 : (Try.prog.info? 5).map (fun i => (i.zero, i.size, i.bytes)) = some (some (.int .u8 0), 1, 1) := by kernel_rfl
-- the values' own types

end Go.Proofs.Ytfknnppphijfpaa.PAll
