/- What is proved here: contracts of functions that the law FnDigests reaches, each told as a plain function. Conditions: those of each contract. (Written by a program of ours.) -/
import Derived.Test.YtbiapgneafgdeaaProg
import Derived.Below
import Derived.Deep.Draws
import Derived.Deep.AppendLies
import Derived.Maps.AppendAt
import Derived.OwnWalk
import Derived.Laws.BytesArg
import Derived.Laws.MakeOwn
import Derived.Laws.OwnMore
import Derived.Deep.OwnRows
import Derived.Tactics
import Derived.Lib.ConvBytes
import Derived.Laws.Slices
import Derived.WalkKit
import Derived.KernelRfl
import Derived.RowKit3
import Derived.Deep.LoopGhost
import Derived.Deep.QuietTactic
import Derived.BigQuiet
import Derived.WideLaws
import Derived.Deep.DeepCutAuto
import Derived.Deep.CutBlock
import Derived.Deep.RegionHeld3
import Derived.Laws.Rows
import Derived.Lib.AppendStr
import Derived.ArgAppend
import Derived.Laws.IdiomCopy
import Derived.OrdersHeld
import Derived.Laws.BitsLemmas
import Derived.RowKit
import Derived.Test.YtbiapgneafgdeaaAdd
import Derived.Test.YtbiapgneafgdeaaExt
import Derived.Test.YtbiapgneafgdeaaWWords
import Derived.Test.YtbiapgneafgdeaaWLast
import Derived.Test.YtbiapgneafgdeaaWTab
import Derived.Test.YtbiapgneafgdeaaWFour
import Derived.Test.YtbiapgneafgdeaaWQPut
import Derived.Test.YtbiapgneafgdeaaWApart
import Derived.Test.YtbiapgneafgdeaaWArr
import Derived.Test.YtbiapgneafgdeaaWZeros
import Derived.Test.YtbiapgneafgdeaaWFoot
import Derived.Test.YtbiapgneafgdeaaWKept
import Derived.Test.YtbiapgneafgdeaaWShare
import Derived.Test.YtbiapgneafgdeaaWN
import Derived.Test.YtbiapgneafgdeaaWFootNe
import Derived.Test.YtbiapgneafgdeaaWAt
import Derived.Test.YtbiapgneafgdeaaWEqStruct
import Derived.Test.YtbiapgneafgdeaaWRepsOne
import Derived.Test.YtbiapgneafgdeaaWInv
import Derived.Test.YtbiapgneafgdeaaWInvWords
import Derived.Test.YtbiapgneafgdeaaWGuard
import Derived.Test.YtbiapgneafgdeaaWNEv
import Derived.Test.YtbiapgneafgdeaaWMore
namespace Go.Proofs.Ytbiapgneafgdeaa.QFnDigests
open Go.RowKit Go.Proofs.YtbiapgneafgdeaaW.PrintWords Go.Proofs.YtbiapgneafgdeaaW.PrintLast Go.Proofs.YtbiapgneafgdeaaW.PrintMore
attribute [local go_sem] max2_int min2_int max_two min_two max_three min_three max_four min_four   -- for this text's walks alone
set_option linter.unusedVariables false
set_option linter.unusedSimpArgs false



def errW : Option Int → Value
  | none => .nilIface
  | some c => .iface 0 (.int .i64 c)
theorem errW_none : errW none = .nilIface := rfl
theorem errW_some (c : Int) : errW (some c) = .iface 0 (.int .i64 c) := rfl

theorem info3 : (Try.prog.info? 3).map (fun i => (i.zero, i.size, i.bytes)) = some (some (.int .i64 0), 1, 8) := by kernel_rfl
theorem info5 : (Try.prog.info? 5).map (fun i => (i.zero, i.size, i.bytes)) = some (some (.int .u8 0), 1, 1) := by kernel_rfl
theorem info83 : (Try.prog.info? 83).map (fun i => (i.zero, i.size, i.bytes)) = some (some (.int .u32 0), 1, 4) := by kernel_rfl
-- the values' own types

end Go.Proofs.Ytbiapgneafgdeaa.QFnDigests
