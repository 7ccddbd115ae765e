/- Words of the kit's print, as many of them as this seat's texts use. Their conditions stand in each. -/
import Derived.Test.YtdgigadocempdaaWTab
namespace Go.Proofs.YtdgigadocempdaaW.PrintLast
section
variable {P : Program} {ops : Array Oper} {Q : Exit → Act → World → Prop} {md : Region.Mode} {S : World → Prop} {ds : List Nat} {T : Bool × List (List Nat × List Nat)}
end
end Go.Proofs.YtdgigadocempdaaW.PrintLast
