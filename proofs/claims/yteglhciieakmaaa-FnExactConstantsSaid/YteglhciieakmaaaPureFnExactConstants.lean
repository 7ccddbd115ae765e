/- The pure statement of the law FnExactConstants: what the printed functions compute answers true, for every input. No condition beyond those that the statement itself names. -/
import Derived.Test.YteglhciieakmaaaPFnExactConstantsx1
import Derived.Test.YteglhciieakmaaaCom
namespace Go.Proofs.Yteglhciieakmaaa.Pure
open Go.RowKit Go.Proofs.Yteglhciieakmaaa.PFnExactConstants Go.Proofs.YteglhciieakmaaaW.PrintWords Go.Proofs.YteglhciieakmaaaW.PrintLast Go.Proofs.Yteglhciieakmaaa.Com
set_option linter.unusedVariables false
set_option linter.unusedSimpArgs false
namespace FnExactConstants_
theorem FnExactConstants : laws_FnExactConstants.Pure := rfl
end FnExactConstants_
theorem FnExactConstants : laws_FnExactConstants.Pure := FnExactConstants_.FnExactConstants
end Go.Proofs.Yteglhciieakmaaa.Pure
