/- What is proved here: the law FnExactConstants, told as a plain function over numbers and lists, answers true at all arguments. Conditions: those of the row alone, none of ours. -/
import Derived.Test.YtjaohcbfgpfmcaaPFnExactConstantsx1
import Derived.Test.YtjaohcbfgpfmcaaKit
namespace Go.Proofs.Ytjaohcbfgpfmcaa.Pure
open Go.RowKit Go.Proofs.Ytjaohcbfgpfmcaa.PFnExactConstants Go.Proofs.YtjaohcbfgpfmcaaW.PrintWords Go.Proofs.YtjaohcbfgpfmcaaW.PrintLast Go.Proofs.Ytjaohcbfgpfmcaa.Kit Go.Proofs.YtjaohcbfgpfmcaaW.PrintMore
set_option linter.unusedSimpArgs false
set_option linter.unusedVariables false

theorem FnExactConstants : laws_FnExactConstants.Pure := rfl

end Go.Proofs.Ytjaohcbfgpfmcaa.Pure
