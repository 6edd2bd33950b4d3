/- Written by a program of this session (a changed print of the kit): what functions of the program compute, as Lean functions, and that the program computes just that; in a row's text: the given statement. No conditions. -/
import Derived.Test.YtfidpocajehelaaProg
import Derived.Below
import Derived.Deep.Draws
import Derived.Deep.AppendLies
import Derived.Maps.AppendAt
import Derived.OwnWalk
import Derived.Laws.BytesArg
import Derived.Laws.MakeOwn
import Derived.Laws.OwnMore
import Derived.Deep.OwnRows
import Derived.Tactics
import Derived.Lib.ConvBytes
import Derived.Laws.Slices
import Derived.WalkKit
import Derived.KernelRfl
import Derived.RowKit3
import Derived.Deep.LoopGhost
import Derived.Deep.QuietTactic
import Derived.BigQuiet
import Derived.WideLaws
import Derived.Deep.DeepCutAuto
import Derived.Deep.CutBlock
import Derived.Deep.RegionHeld3
import Derived.Laws.Rows
import Derived.Lib.AppendStr
import Derived.ArgAppend
import Derived.Laws.IdiomCopy
import Derived.OrdersHeld
import Derived.Laws.BitsLemmas
import Derived.RowKit
import Derived.Test.YtfidpocajehelaaLib
import Derived.Test.YtfidpocajehelaaWWords
import Derived.Test.YtfidpocajehelaaWLast
import Derived.Test.YtfidpocajehelaaWTab
import Derived.Test.YtfidpocajehelaaWFour
import Derived.Test.YtfidpocajehelaaWQPut
import Derived.Test.YtfidpocajehelaaWApart
import Derived.Test.YtfidpocajehelaaWArr
import Derived.Test.YtfidpocajehelaaWZeros
import Derived.Test.YtfidpocajehelaaWFoot
import Derived.Test.YtfidpocajehelaaWKept
import Derived.Test.YtfidpocajehelaaWShare
import Derived.Test.YtfidpocajehelaaWN
import Derived.Test.YtfidpocajehelaaWFootNe
import Derived.Test.YtfidpocajehelaaWAt
import Derived.Test.YtfidpocajehelaaWEqStruct
import Derived.Test.YtfidpocajehelaaWRepsOne
import Derived.Test.YtfidpocajehelaaWInv
import Derived.Test.YtfidpocajehelaaWInvWords
import Derived.Test.YtfidpocajehelaaWGuard
import Derived.Test.YtfidpocajehelaaWNEv
import Derived.Test.YtfidpocajehelaaWMore
namespace Go.Proofs.Ytfidpocajehelaa.PAll
open Go.RowKit Go.Proofs.YtfidpocajehelaaW.PrintWords Go.Proofs.YtfidpocajehelaaW.PrintLast Go.Proofs.YtfidpocajehelaaW.PrintMore
attribute [local go_sem] max2_int min2_int max_two min_two max_three min_three max_four min_four   -- for this text's walks alone
set_option linter.unusedVariables false
set_option linter.unusedSimpArgs false



def errW : Option Int → Value
  | none => .nilIface
  | some c => .iface 0 (.int .i64 c)
theorem errW_none : errW none = .nilIface := rfl
theorem errW_some (c : Int) : errW (some c) = .iface 0 (.int .i64 c) := rfl

theorem info3 : (Try.prog.info? 3).map (fun i => (i.zero, i.size, i.bytes)) = some (some (.int .i64 0), 1, 8) := by kernel_rfl
theorem info5 : (Try.prog.info? 5).map (fun i => (i.zero, i.size, i.bytes)) = some (some (.int .u8 0), 1, 1) := by kernel_rfl
-- the values' own types

end Go.Proofs.Ytfidpocajehelaa.PAll
