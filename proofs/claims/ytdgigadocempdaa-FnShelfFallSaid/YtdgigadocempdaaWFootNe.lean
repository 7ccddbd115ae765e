/- Words of the kit's print, as many of them as this seat's texts use. Their conditions stand in each. -/
import Derived.Test.YtdgigadocempdaaWN
namespace Go.Proofs.YtdgigadocempdaaW.PrintWords
open Go.RowKit
namespace Kd
section
variable {α : Type} {d : Kd α} {W : World} {g n : Nat} {S ok : Nat → Prop} {A : Option Addr} {ad : Addr} {xs : List α}
end
end Kd
end Go.Proofs.YtdgigadocempdaaW.PrintWords
