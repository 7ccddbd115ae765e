/- What the Go functions that a law reaches compute, function by function: the machine's calls come to just what these Lean functions say. No condition. Written by a program of this session. -/
import Derived.Test.YteglhciieakmaaaProg
import Derived.Below
import Derived.Deep.Draws
import Derived.Deep.AppendLies
import Derived.Maps.AppendAt
import Derived.OwnWalk
import Derived.Laws.BytesArg
import Derived.Laws.MakeOwn
import Derived.Laws.OwnMore
import Derived.Deep.OwnRows
import Derived.Tactics
import Derived.Lib.ConvBytes
import Derived.Laws.Slices
import Derived.WalkKit
import Derived.KernelRfl
import Derived.RowKit3
import Derived.Deep.LoopGhost
import Derived.Deep.QuietTactic
import Derived.BigQuiet
import Derived.WideLaws
import Derived.Deep.DeepCutAuto
import Derived.Deep.CutBlock
import Derived.Deep.RegionHeld3
import Derived.Laws.Rows
import Derived.Lib.AppendStr
import Derived.ArgAppend
import Derived.Laws.IdiomCopy
import Derived.OrdersHeld
import Derived.Laws.BitsLemmas
import Derived.RowKit
import Derived.Test.YteglhciieakmaaaWWords
import Derived.Test.YteglhciieakmaaaWLast
import Derived.Test.YteglhciieakmaaaWTab
import Derived.Test.YteglhciieakmaaaWFour
import Derived.Test.YteglhciieakmaaaWQPut
import Derived.Test.YteglhciieakmaaaWApart
import Derived.Test.YteglhciieakmaaaWArr
import Derived.Test.YteglhciieakmaaaWZeros
import Derived.Test.YteglhciieakmaaaWFoot
import Derived.Test.YteglhciieakmaaaWKept
import Derived.Test.YteglhciieakmaaaWShare
import Derived.Test.YteglhciieakmaaaWN
import Derived.Test.YteglhciieakmaaaWFootNe
import Derived.Test.YteglhciieakmaaaWAt
import Derived.Test.YteglhciieakmaaaWEqStruct
import Derived.Test.YteglhciieakmaaaWRepsOne
import Derived.Test.YteglhciieakmaaaWInv
import Derived.Test.YteglhciieakmaaaWInvWords
import Derived.Test.YteglhciieakmaaaWGuard
import Derived.Test.YteglhciieakmaaaWNEv
import Derived.Test.YteglhciieakmaaaWMore
namespace Go.Proofs.Yteglhciieakmaaa.PFnExactNoteOk
open Go.RowKit Go.Proofs.YteglhciieakmaaaW.PrintWords Go.Proofs.YteglhciieakmaaaW.PrintLast Go.Proofs.YteglhciieakmaaaW.PrintMore
attribute [local go_sem] max2_int min2_int max_two min_two max_three min_three max_four min_four   -- for this text's walks alone
set_option linter.unusedVariables false
set_option linter.unusedSimpArgs false



def errW : Option Int → Value
  | none => .nilIface
  | some c => .iface 0 (.int .i64 c)
theorem errW_none : errW none = .nilIface := rfl
theorem errW_some (c : Int) : errW (some c) = .iface 0 (.int .i64 c) := rfl

-- the values' own types

end Go.Proofs.Yteglhciieakmaaa.PFnExactNoteOk
