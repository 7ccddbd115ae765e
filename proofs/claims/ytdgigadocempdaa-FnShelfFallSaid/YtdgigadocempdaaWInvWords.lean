/- Words of the kit's print, as many of them as this seat's texts use. Their conditions stand in each. -/
import Derived.Test.YtdgigadocempdaaWInv
import Derived.Test.YtdgigadocempdaaWFootNe
namespace Go.Proofs.YtdgigadocempdaaW.PrintWords
open Go.RowKit
end Go.Proofs.YtdgigadocempdaaW.PrintWords
namespace Go.Proofs.YtdgigadocempdaaW.PrintLast
section
variable {ops : Array Oper} {a : Act} {o og : Oper} {g : Nat} {t : Tmp} {u : Bool}
end
end Go.Proofs.YtdgigadocempdaaW.PrintLast
