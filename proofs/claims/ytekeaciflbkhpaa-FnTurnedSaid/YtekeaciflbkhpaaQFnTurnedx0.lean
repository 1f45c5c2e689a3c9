/- What is proved here: contracts of functions that the law FnTurned reaches, each told as a plain function. Conditions: those of each contract. (Written by a program of ours.) -/
import Derived.Test.YtekeaciflbkhpaaProg
import Derived.Below
import Derived.Deep.Draws
import Derived.Deep.AppendLies
import Derived.Maps.AppendAt
import Derived.OwnWalk
import Derived.Laws.BytesArg
import Derived.Laws.MakeOwn
import Derived.Laws.OwnMore
import Derived.Deep.OwnRows
import Derived.Tactics
import Derived.Lib.ConvBytes
import Derived.Laws.Slices
import Derived.WalkKit
import Derived.KernelRfl
import Derived.RowKit3
import Derived.Deep.LoopGhost
import Derived.Deep.QuietTactic
import Derived.BigQuiet
import Derived.WideLaws
import Derived.Deep.DeepCutAuto
import Derived.Deep.CutBlock
import Derived.Deep.RegionHeld3
import Derived.Laws.Rows
import Derived.Lib.AppendStr
import Derived.ArgAppend
import Derived.Laws.IdiomCopy
import Derived.OrdersHeld
import Derived.Laws.BitsLemmas
import Derived.RowKit
import Derived.Test.YtekeaciflbkhpaaAdd
import Derived.Test.YtekeaciflbkhpaaShelf
import Derived.Test.YtekeaciflbkhpaaExt
import Derived.Test.YtekeaciflbkhpaaExt2
import Derived.Test.YtekeaciflbkhpaaWWords
import Derived.Test.YtekeaciflbkhpaaWLast
import Derived.Test.YtekeaciflbkhpaaWTab
import Derived.Test.YtekeaciflbkhpaaWFour
import Derived.Test.YtekeaciflbkhpaaWQPut
import Derived.Test.YtekeaciflbkhpaaWApart
import Derived.Test.YtekeaciflbkhpaaWArr
import Derived.Test.YtekeaciflbkhpaaWZeros
import Derived.Test.YtekeaciflbkhpaaWFoot
import Derived.Test.YtekeaciflbkhpaaWKept
import Derived.Test.YtekeaciflbkhpaaWShare
import Derived.Test.YtekeaciflbkhpaaWN
import Derived.Test.YtekeaciflbkhpaaWFootNe
import Derived.Test.YtekeaciflbkhpaaWAt
import Derived.Test.YtekeaciflbkhpaaWEqStruct
import Derived.Test.YtekeaciflbkhpaaWRepsOne
import Derived.Test.YtekeaciflbkhpaaWInv
import Derived.Test.YtekeaciflbkhpaaWInvWords
import Derived.Test.YtekeaciflbkhpaaWGuard
import Derived.Test.YtekeaciflbkhpaaWNEv
import Derived.Test.YtekeaciflbkhpaaWMore
namespace Go.Proofs.Ytekeaciflbkhpaa.QFnTurned
open Go.RowKit Go.Proofs.YtekeaciflbkhpaaW.PrintWords Go.Proofs.YtekeaciflbkhpaaW.PrintLast Go.Proofs.YtekeaciflbkhpaaW.PrintMore
attribute [local go_sem] max2_int min2_int max_two min_two max_three min_three max_four min_four   -- for this text's walks alone
set_option linter.unusedVariables false
set_option linter.unusedSimpArgs false



def errW : Option Int → Value
  | none => .nilIface
  | some c => .iface 0 (.int .i64 c)
theorem errW_none : errW none = .nilIface := rfl
theorem errW_some (c : Int) : errW (some c) = .iface 0 (.int .i64 c) := rfl

theorem info3 : (Try.prog.info? 3).map (fun i => (i.zero, i.size, i.bytes)) = some (some (.int .i64 0), 1, 8) := by kernel_rfl
theorem info5 : (Try.prog.info? 5).map (fun i => (i.zero, i.size, i.bytes)) = some (some (.int .u8 0), 1, 1) := by kernel_rfl
-- the values' own types

end Go.Proofs.Ytekeaciflbkhpaa.QFnTurned
