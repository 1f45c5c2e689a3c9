-- PRINTED BY print.sh 35421559b90ae4d0a3588c463048766b98c2df88dd9212a6774a882060cdf62d: not written by this session
import Derived.Test.YtjaohcbfgpfmcaaProg
import Derived.Below
import Derived.Deep.Draws
import Derived.Deep.AppendLies
import Derived.Maps.AppendAt
import Derived.OwnWalk
import Derived.Laws.BytesArg
import Derived.Laws.MakeOwn
import Derived.Laws.OwnMore
import Derived.Deep.OwnRows
import Derived.Tactics
import Derived.Lib.ConvBytes
import Derived.Laws.Slices
import Derived.WalkKit
import Derived.KernelRfl
import Derived.RowKit3
import Derived.Deep.LoopGhost
import Derived.Deep.QuietTactic
import Derived.BigQuiet
import Derived.WideLaws
import Derived.Deep.DeepCutAuto
import Derived.Deep.CutBlock
import Derived.Deep.RegionHeld3
import Derived.Laws.Rows
import Derived.Lib.AppendStr
import Derived.ArgAppend
import Derived.Laws.IdiomCopy
import Derived.OrdersHeld
import Derived.Laws.BitsLemmas
import Derived.RowKit
import Derived.Test.YtjaohcbfgpfmcaaWWords
import Derived.Test.YtjaohcbfgpfmcaaWLast
import Derived.Test.YtjaohcbfgpfmcaaWTab
import Derived.Test.YtjaohcbfgpfmcaaWFour
import Derived.Test.YtjaohcbfgpfmcaaWQPut
import Derived.Test.YtjaohcbfgpfmcaaWApart
import Derived.Test.YtjaohcbfgpfmcaaWArr
import Derived.Test.YtjaohcbfgpfmcaaWZeros
import Derived.Test.YtjaohcbfgpfmcaaWFoot
import Derived.Test.YtjaohcbfgpfmcaaWKept
import Derived.Test.YtjaohcbfgpfmcaaWShare
import Derived.Test.YtjaohcbfgpfmcaaWN
import Derived.Test.YtjaohcbfgpfmcaaWFootNe
import Derived.Test.YtjaohcbfgpfmcaaWAt
import Derived.Test.YtjaohcbfgpfmcaaWEqStruct
import Derived.Test.YtjaohcbfgpfmcaaWRepsOne
import Derived.Test.YtjaohcbfgpfmcaaWInv
import Derived.Test.YtjaohcbfgpfmcaaWInvWords
import Derived.Test.YtjaohcbfgpfmcaaWGuard
import Derived.Test.YtjaohcbfgpfmcaaWNEv
import Derived.Test.YtjaohcbfgpfmcaaWMore
namespace Go.Proofs.Ytjaohcbfgpfmcaa.PFnExactPageOk
open Go.RowKit Go.Proofs.YtjaohcbfgpfmcaaW.PrintWords Go.Proofs.YtjaohcbfgpfmcaaW.PrintLast Go.Proofs.YtjaohcbfgpfmcaaW.PrintMore
attribute [local go_sem] max2_int min2_int max_two min_two max_three min_three max_four min_four   -- for this text's walks alone
set_option linter.unusedVariables false
set_option linter.unusedSimpArgs false



def errW : Option Int → Value
  | none => .nilIface
  | some c => .iface 0 (.int .i64 c)
theorem errW_none : errW none = .nilIface := rfl
theorem errW_some (c : Int) : errW (some c) = .iface 0 (.int .i64 c) := rfl

-- the values' own types

end Go.Proofs.Ytjaohcbfgpfmcaa.PFnExactPageOk
