/-
  No cell of these rows narrows 'for every input' (looked for: loops, veiled, ifaces, maps, wideKeys, modest, calm, conditions, laid).
  DERIVED. THE GIVEN ROWS OF THIS SEAT. 17 by the template 'for every input the law returns true; each argument reads behind the call as it read before'; 0 by the template 'total and deterministic' (their statements: YtpdemmdladcamaaTotals.lean).
  GIVEN WITH THE SEED: the statements are not yours to turn. If you find one false, say at which input.
  Laid BY PROGRAM, IN A SANDBOX (cutbox-rows.mjs): the forced cells as the released guide's own fill.sh prints them over the translation d2007f50df2b321b… (all of the seat's roots in one cut). By AI agents, Wed Nov 11 2026. No macro, syntax, notation, axiom, sorry.
-/
import Derived.Test.YtpdemmdladcamaaChecked
import GoSem.Claim
import GoSem.ClaimJoined
import GoSem.ClaimMapViews
import Derived.JoinedTies
import Derived.KernelRfl
namespace Go.Proofs.Ytpdemmdladcamaa
/- THE CELL 'sum', in the pinned program and in every row, IS THE sha256 OF THE DUMP (.gsa) THAT YtpdemmdladcamaaProg.lean LOADS. Nothing in Lean hashes anything: it is a label: what it is worth is what the hold of that sum in a sandbox is worth. -/
noncomputable def Try.pinned : Pinned := { name := "ytpdemmdladcamaa", sum := "d2007f50df2b321b35633f466eff3430c992e71663b756cbcbdd7d3ea7344083", checked := Try.checked }
namespace Rows
def none {H : Type} : Left H := { results := [], args := [] }

/-- 'laws.FnExactMixCut': WHATEVER THE INPUT: true; the input reads as it did. -/
def fnExactMixCutSpec : ChangeSpec := { name := "fnExactMixCut", fn := fun _ => fun
  | [d] => { results := [.lit (.bool true)], args := [d] }
  | _ => none }
def fnExactMixCutRow : OpenClaim := { program := "ytpdemmdladcamaa", sum := "d2007f50df2b321b35633f466eff3430c992e71663b756cbcbdd7d3ea7344083", func := "loop.example/bargeman/laws.FnExactMixCut", spec := "fnExactMixCut", apart := false }
def FnExactMixCutSaid : Prop := fnExactMixCutRow.holds Try.pinned (OpenSpec.ofChange fnExactMixCutSpec)

/-- ITS FALSE NEIGHBOUR: 'it returns false'. Refute it at one input. -/
def fnExactMixCutWrong : ChangeSpec := { name := "fnExactMixCut", fn := fun _ => fun
  | [d] => { results := [.lit (.bool false)], args := [d] }
  | _ => none }
def FnExactMixCutWrongFalsely : Prop := fnExactMixCutRow.holds Try.pinned (OpenSpec.ofChange fnExactMixCutWrong)

/-- 'laws.FnMixCut': WHATEVER THE INPUT: true; the input reads as it did. -/
def fnMixCutSpec : ChangeSpec := { name := "fnMixCut", fn := fun _ => fun
  | [d] => { results := [.lit (.bool true)], args := [d] }
  | _ => none }
def fnMixCutRow : OpenClaim := { program := "ytpdemmdladcamaa", sum := "d2007f50df2b321b35633f466eff3430c992e71663b756cbcbdd7d3ea7344083", func := "loop.example/bargeman/laws.FnMixCut", spec := "fnMixCut", apart := false }
def FnMixCutSaid : Prop := fnMixCutRow.holds Try.pinned (OpenSpec.ofChange fnMixCutSpec)

/-- ITS FALSE NEIGHBOUR: 'it returns false'. Refute it at one input. -/
def fnMixCutWrong : ChangeSpec := { name := "fnMixCut", fn := fun _ => fun
  | [d] => { results := [.lit (.bool false)], args := [d] }
  | _ => none }
def FnMixCutWrongFalsely : Prop := fnMixCutRow.holds Try.pinned (OpenSpec.ofChange fnMixCutWrong)

/-- 'laws.FnExactMixOf': WHATEVER THE INPUT: true; the input reads as it did. -/
def fnExactMixOfSpec : ChangeSpec := { name := "fnExactMixOf", fn := fun _ => fun
  | [d1, d2] => { results := [.lit (.bool true)], args := [d1, d2] }
  | _ => none }
def fnExactMixOfRow : OpenClaim := { program := "ytpdemmdladcamaa", sum := "d2007f50df2b321b35633f466eff3430c992e71663b756cbcbdd7d3ea7344083", func := "loop.example/bargeman/laws.FnExactMixOf", spec := "fnExactMixOf", apart := false }
def FnExactMixOfSaid : Prop := fnExactMixOfRow.holds Try.pinned (OpenSpec.ofChange fnExactMixOfSpec)

/-- ITS FALSE NEIGHBOUR: 'it returns false'. Refute it at one input. -/
def fnExactMixOfWrong : ChangeSpec := { name := "fnExactMixOf", fn := fun _ => fun
  | [d1, d2] => { results := [.lit (.bool false)], args := [d1, d2] }
  | _ => none }
def FnExactMixOfWrongFalsely : Prop := fnExactMixOfRow.holds Try.pinned (OpenSpec.ofChange fnExactMixOfWrong)

/-- 'laws.FnMixFirst': WHATEVER THE INPUT: true; the input reads as it did. -/
def fnMixFirstSpec : ChangeSpec := { name := "fnMixFirst", fn := fun _ => fun
  | [d] => { results := [.lit (.bool true)], args := [d] }
  | _ => none }
def fnMixFirstRow : OpenClaim := { program := "ytpdemmdladcamaa", sum := "d2007f50df2b321b35633f466eff3430c992e71663b756cbcbdd7d3ea7344083", func := "loop.example/bargeman/laws.FnMixFirst", spec := "fnMixFirst", apart := false }
def FnMixFirstSaid : Prop := fnMixFirstRow.holds Try.pinned (OpenSpec.ofChange fnMixFirstSpec)

/-- ITS FALSE NEIGHBOUR: 'it returns false'. Refute it at one input. -/
def fnMixFirstWrong : ChangeSpec := { name := "fnMixFirst", fn := fun _ => fun
  | [d] => { results := [.lit (.bool false)], args := [d] }
  | _ => none }
def FnMixFirstWrongFalsely : Prop := fnMixFirstRow.holds Try.pinned (OpenSpec.ofChange fnMixFirstWrong)

/-- 'laws.FnMixOf': WHATEVER THE INPUT: true; the input reads as it did. -/
def fnMixOfSpec : ChangeSpec := { name := "fnMixOf", fn := fun _ => fun
  | [d] => { results := [.lit (.bool true)], args := [d] }
  | _ => none }
def fnMixOfRow : OpenClaim := { program := "ytpdemmdladcamaa", sum := "d2007f50df2b321b35633f466eff3430c992e71663b756cbcbdd7d3ea7344083", func := "loop.example/bargeman/laws.FnMixOf", spec := "fnMixOf", apart := false }
def FnMixOfSaid : Prop := fnMixOfRow.holds Try.pinned (OpenSpec.ofChange fnMixOfSpec)

/-- ITS FALSE NEIGHBOUR: 'it returns false'. Refute it at one input. -/
def fnMixOfWrong : ChangeSpec := { name := "fnMixOf", fn := fun _ => fun
  | [d] => { results := [.lit (.bool false)], args := [d] }
  | _ => none }
def FnMixOfWrongFalsely : Prop := fnMixOfRow.holds Try.pinned (OpenSpec.ofChange fnMixOfWrong)

/-- 'laws.FnExactMixMake': WHATEVER THE INPUT: true; the input reads as it did. -/
def fnExactMixMakeSpec : ChangeSpec := { name := "fnExactMixMake", fn := fun _ => fun
  | [d1, d2] => { results := [.lit (.bool true)], args := [d1, d2] }
  | _ => none }
def fnExactMixMakeRow : OpenClaim := { program := "ytpdemmdladcamaa", sum := "d2007f50df2b321b35633f466eff3430c992e71663b756cbcbdd7d3ea7344083", func := "loop.example/bargeman/laws.FnExactMixMake", spec := "fnExactMixMake", apart := false }
def FnExactMixMakeSaid : Prop := fnExactMixMakeRow.holds Try.pinned (OpenSpec.ofChange fnExactMixMakeSpec)

/-- ITS FALSE NEIGHBOUR: 'it returns false'. Refute it at one input. -/
def fnExactMixMakeWrong : ChangeSpec := { name := "fnExactMixMake", fn := fun _ => fun
  | [d1, d2] => { results := [.lit (.bool false)], args := [d1, d2] }
  | _ => none }
def FnExactMixMakeWrongFalsely : Prop := fnExactMixMakeRow.holds Try.pinned (OpenSpec.ofChange fnExactMixMakeWrong)

/-- 'laws.FnMixAlone': WHATEVER THE INPUT: true; the input reads as it did. -/
def fnMixAloneSpec : ChangeSpec := { name := "fnMixAlone", fn := fun _ => fun
  | [d1, d2] => { results := [.lit (.bool true)], args := [d1, d2] }
  | _ => none }
def fnMixAloneRow : OpenClaim := { program := "ytpdemmdladcamaa", sum := "d2007f50df2b321b35633f466eff3430c992e71663b756cbcbdd7d3ea7344083", func := "loop.example/bargeman/laws.FnMixAlone", spec := "fnMixAlone", apart := false }
def FnMixAloneSaid : Prop := fnMixAloneRow.holds Try.pinned (OpenSpec.ofChange fnMixAloneSpec)

/-- ITS FALSE NEIGHBOUR: 'it returns false'. Refute it at one input. -/
def fnMixAloneWrong : ChangeSpec := { name := "fnMixAlone", fn := fun _ => fun
  | [d1, d2] => { results := [.lit (.bool false)], args := [d1, d2] }
  | _ => none }
def FnMixAloneWrongFalsely : Prop := fnMixAloneRow.holds Try.pinned (OpenSpec.ofChange fnMixAloneWrong)

/-- 'laws.FnMixMake': WHATEVER THE INPUT: true; the input reads as it did. -/
def fnMixMakeSpec : ChangeSpec := { name := "fnMixMake", fn := fun _ => fun
  | [d] => { results := [.lit (.bool true)], args := [d] }
  | _ => none }
def fnMixMakeRow : OpenClaim := { program := "ytpdemmdladcamaa", sum := "d2007f50df2b321b35633f466eff3430c992e71663b756cbcbdd7d3ea7344083", func := "loop.example/bargeman/laws.FnMixMake", spec := "fnMixMake", apart := false }
def FnMixMakeSaid : Prop := fnMixMakeRow.holds Try.pinned (OpenSpec.ofChange fnMixMakeSpec)

/-- ITS FALSE NEIGHBOUR: 'it returns false'. Refute it at one input. -/
def fnMixMakeWrong : ChangeSpec := { name := "fnMixMake", fn := fun _ => fun
  | [d] => { results := [.lit (.bool false)], args := [d] }
  | _ => none }
def FnMixMakeWrongFalsely : Prop := fnMixMakeRow.holds Try.pinned (OpenSpec.ofChange fnMixMakeWrong)

/-- 'laws.FnMixUnlike': WHATEVER THE INPUT: true; the input reads as it did. -/
def fnMixUnlikeSpec : ChangeSpec := { name := "fnMixUnlike", fn := fun _ => fun
  | [d1, d2] => { results := [.lit (.bool true)], args := [d1, d2] }
  | _ => none }
def fnMixUnlikeRow : OpenClaim := { program := "ytpdemmdladcamaa", sum := "d2007f50df2b321b35633f466eff3430c992e71663b756cbcbdd7d3ea7344083", func := "loop.example/bargeman/laws.FnMixUnlike", spec := "fnMixUnlike", apart := false }
def FnMixUnlikeSaid : Prop := fnMixUnlikeRow.holds Try.pinned (OpenSpec.ofChange fnMixUnlikeSpec)

/-- ITS FALSE NEIGHBOUR: 'it returns false'. Refute it at one input. -/
def fnMixUnlikeWrong : ChangeSpec := { name := "fnMixUnlike", fn := fun _ => fun
  | [d1, d2] => { results := [.lit (.bool false)], args := [d1, d2] }
  | _ => none }
def FnMixUnlikeWrongFalsely : Prop := fnMixUnlikeRow.holds Try.pinned (OpenSpec.ofChange fnMixUnlikeWrong)

/-- 'laws.FnMixTwice': WHATEVER THE INPUT: true; the input reads as it did. -/
def fnMixTwiceSpec : ChangeSpec := { name := "fnMixTwice", fn := fun _ => fun
  | [d1, d2] => { results := [.lit (.bool true)], args := [d1, d2] }
  | _ => none }
def fnMixTwiceRow : OpenClaim := { program := "ytpdemmdladcamaa", sum := "d2007f50df2b321b35633f466eff3430c992e71663b756cbcbdd7d3ea7344083", func := "loop.example/bargeman/laws.FnMixTwice", spec := "fnMixTwice", apart := false }
def FnMixTwiceSaid : Prop := fnMixTwiceRow.holds Try.pinned (OpenSpec.ofChange fnMixTwiceSpec)

/-- ITS FALSE NEIGHBOUR: 'it returns false'. Refute it at one input. -/
def fnMixTwiceWrong : ChangeSpec := { name := "fnMixTwice", fn := fun _ => fun
  | [d1, d2] => { results := [.lit (.bool false)], args := [d1, d2] }
  | _ => none }
def FnMixTwiceWrongFalsely : Prop := fnMixTwiceRow.holds Try.pinned (OpenSpec.ofChange fnMixTwiceWrong)

/-- 'laws.FnMixOne': WHATEVER THE INPUT: true; the input reads as it did. -/
def fnMixOneSpec : ChangeSpec := { name := "fnMixOne", fn := fun _ => fun
  | [d1, d2] => { results := [.lit (.bool true)], args := [d1, d2] }
  | _ => none }
def fnMixOneRow : OpenClaim := { program := "ytpdemmdladcamaa", sum := "d2007f50df2b321b35633f466eff3430c992e71663b756cbcbdd7d3ea7344083", func := "loop.example/bargeman/laws.FnMixOne", spec := "fnMixOne", apart := false }
def FnMixOneSaid : Prop := fnMixOneRow.holds Try.pinned (OpenSpec.ofChange fnMixOneSpec)

/-- ITS FALSE NEIGHBOUR: 'it returns false'. Refute it at one input. -/
def fnMixOneWrong : ChangeSpec := { name := "fnMixOne", fn := fun _ => fun
  | [d1, d2] => { results := [.lit (.bool false)], args := [d1, d2] }
  | _ => none }
def FnMixOneWrongFalsely : Prop := fnMixOneRow.holds Try.pinned (OpenSpec.ofChange fnMixOneWrong)

/-- 'laws.FnExactMixText': WHATEVER THE INPUT: true; the input reads as it did. -/
def fnExactMixTextSpec : ChangeSpec := { name := "fnExactMixText", fn := fun _ => fun
  | [d1, d2] => { results := [.lit (.bool true)], args := [d1, d2] }
  | _ => none }
def fnExactMixTextRow : OpenClaim := { program := "ytpdemmdladcamaa", sum := "d2007f50df2b321b35633f466eff3430c992e71663b756cbcbdd7d3ea7344083", func := "loop.example/bargeman/laws.FnExactMixText", spec := "fnExactMixText", apart := false }
def FnExactMixTextSaid : Prop := fnExactMixTextRow.holds Try.pinned (OpenSpec.ofChange fnExactMixTextSpec)

/-- ITS FALSE NEIGHBOUR: 'it returns false'. Refute it at one input. -/
def fnExactMixTextWrong : ChangeSpec := { name := "fnExactMixText", fn := fun _ => fun
  | [d1, d2] => { results := [.lit (.bool false)], args := [d1, d2] }
  | _ => none }
def FnExactMixTextWrongFalsely : Prop := fnExactMixTextRow.holds Try.pinned (OpenSpec.ofChange fnExactMixTextWrong)

/-- 'laws.FnExactMixPeel': WHATEVER THE INPUT: true; the input reads as it did. -/
def fnExactMixPeelSpec : ChangeSpec := { name := "fnExactMixPeel", fn := fun _ => fun
  | [d1, d2] => { results := [.lit (.bool true)], args := [d1, d2] }
  | _ => none }
def fnExactMixPeelRow : OpenClaim := { program := "ytpdemmdladcamaa", sum := "d2007f50df2b321b35633f466eff3430c992e71663b756cbcbdd7d3ea7344083", func := "loop.example/bargeman/laws.FnExactMixPeel", spec := "fnExactMixPeel", apart := false }
def FnExactMixPeelSaid : Prop := fnExactMixPeelRow.holds Try.pinned (OpenSpec.ofChange fnExactMixPeelSpec)

/-- ITS FALSE NEIGHBOUR: 'it returns false'. Refute it at one input. -/
def fnExactMixPeelWrong : ChangeSpec := { name := "fnExactMixPeel", fn := fun _ => fun
  | [d1, d2] => { results := [.lit (.bool false)], args := [d1, d2] }
  | _ => none }
def FnExactMixPeelWrongFalsely : Prop := fnExactMixPeelRow.holds Try.pinned (OpenSpec.ofChange fnExactMixPeelWrong)

/-- 'laws.FnMixMore': WHATEVER THE INPUT: true; the input reads as it did. -/
def fnMixMoreSpec : ChangeSpec := { name := "fnMixMore", fn := fun _ => fun
  | [d1, d2] => { results := [.lit (.bool true)], args := [d1, d2] }
  | _ => none }
def fnMixMoreRow : OpenClaim := { program := "ytpdemmdladcamaa", sum := "d2007f50df2b321b35633f466eff3430c992e71663b756cbcbdd7d3ea7344083", func := "loop.example/bargeman/laws.FnMixMore", spec := "fnMixMore", apart := false }
def FnMixMoreSaid : Prop := fnMixMoreRow.holds Try.pinned (OpenSpec.ofChange fnMixMoreSpec)

/-- ITS FALSE NEIGHBOUR: 'it returns false'. Refute it at one input. -/
def fnMixMoreWrong : ChangeSpec := { name := "fnMixMore", fn := fun _ => fun
  | [d1, d2] => { results := [.lit (.bool false)], args := [d1, d2] }
  | _ => none }
def FnMixMoreWrongFalsely : Prop := fnMixMoreRow.holds Try.pinned (OpenSpec.ofChange fnMixMoreWrong)

/-- 'laws.FnMixPeel': WHATEVER THE INPUT: true; the input reads as it did. -/
def fnMixPeelSpec : ChangeSpec := { name := "fnMixPeel", fn := fun _ => fun
  | [d1, d2] => { results := [.lit (.bool true)], args := [d1, d2] }
  | _ => none }
def fnMixPeelRow : OpenClaim := { program := "ytpdemmdladcamaa", sum := "d2007f50df2b321b35633f466eff3430c992e71663b756cbcbdd7d3ea7344083", func := "loop.example/bargeman/laws.FnMixPeel", spec := "fnMixPeel", apart := false }
def FnMixPeelSaid : Prop := fnMixPeelRow.holds Try.pinned (OpenSpec.ofChange fnMixPeelSpec)

/-- ITS FALSE NEIGHBOUR: 'it returns false'. Refute it at one input. -/
def fnMixPeelWrong : ChangeSpec := { name := "fnMixPeel", fn := fun _ => fun
  | [d1, d2] => { results := [.lit (.bool false)], args := [d1, d2] }
  | _ => none }
def FnMixPeelWrongFalsely : Prop := fnMixPeelRow.holds Try.pinned (OpenSpec.ofChange fnMixPeelWrong)

/-- 'laws.FnMixTurn': WHATEVER THE INPUT: true; the input reads as it did. -/
def fnMixTurnSpec : ChangeSpec := { name := "fnMixTurn", fn := fun _ => fun
  | [d1, d2] => { results := [.lit (.bool true)], args := [d1, d2] }
  | _ => none }
def fnMixTurnRow : OpenClaim := { program := "ytpdemmdladcamaa", sum := "d2007f50df2b321b35633f466eff3430c992e71663b756cbcbdd7d3ea7344083", func := "loop.example/bargeman/laws.FnMixTurn", spec := "fnMixTurn", apart := false }
def FnMixTurnSaid : Prop := fnMixTurnRow.holds Try.pinned (OpenSpec.ofChange fnMixTurnSpec)

/-- ITS FALSE NEIGHBOUR: 'it returns false'. Refute it at one input. -/
def fnMixTurnWrong : ChangeSpec := { name := "fnMixTurn", fn := fun _ => fun
  | [d1, d2] => { results := [.lit (.bool false)], args := [d1, d2] }
  | _ => none }
def FnMixTurnWrongFalsely : Prop := fnMixTurnRow.holds Try.pinned (OpenSpec.ofChange fnMixTurnWrong)

/-- 'laws.FnMixText': WHATEVER THE INPUT: true; the input reads as it did. -/
def fnMixTextSpec : ChangeSpec := { name := "fnMixText", fn := fun _ => fun
  | [d1, d2] => { results := [.lit (.bool true)], args := [d1, d2] }
  | _ => none }
def fnMixTextRow : OpenClaim := { program := "ytpdemmdladcamaa", sum := "d2007f50df2b321b35633f466eff3430c992e71663b756cbcbdd7d3ea7344083", func := "loop.example/bargeman/laws.FnMixText", spec := "fnMixText", apart := false }
def FnMixTextSaid : Prop := fnMixTextRow.holds Try.pinned (OpenSpec.ofChange fnMixTextSpec)

/-- ITS FALSE NEIGHBOUR: 'it returns false'. Refute it at one input. -/
def fnMixTextWrong : ChangeSpec := { name := "fnMixText", fn := fun _ => fun
  | [d1, d2] => { results := [.lit (.bool false)], args := [d1, d2] }
  | _ => none }
def FnMixTextWrongFalsely : Prop := fnMixTextRow.holds Try.pinned (OpenSpec.ofChange fnMixTextWrong)

/- THE SECOND FORM. 'bulk': how many values and letters a reading holds, each counted each time it is reached (what is shared counts as often as it is met; a slice's spare places count too). A statement '..UptoSaid' is the law's where the arguments, and the package variables that the reading takes, are together of bulk at most 1048576: NARROWER than '..Said'. Prove '..Said' where nothing that the law and all that it calls make is longer than what came in: it says more and counts as full. Else prove '..UptoSaid'. A law counts once. -/
mutual
def uptoBulk {H : Type} : DataW H → Nat
  | .lit (.string bytes) => bytes.length + 1
  | .lit _ => 1
  | .nil => 1
  | .ptr d => uptoBulk d + 1
  | .slice elems spare => uptoBulkAll elems + uptoBulkAll spare + 1
  | .agg parts => uptoBulkAll parts + 1
  | .iface _ d => uptoBulk d + 1
  | .map entries => uptoBulkEntries entries + 1
  | .held _ => 1
def uptoBulkAll {H : Type} : List (DataW H) → Nat
  | [] => 0
  | d :: r => uptoBulk d + uptoBulkAll r
def uptoBulkEntries {H : Type} : List (Lit × DataW H) → Nat
  | [] => 0
  | x :: r => uptoBulkEntry x + uptoBulkEntries r
def uptoBulkEntry {H : Type} : Lit × DataW H → Nat
  | (.string bytes, d) => bytes.length + uptoBulk d + 1
  | (_, d) => uptoBulk d + 1
 end
def uptoSmall : (H : Type) → List (DataW H) → Bool := fun _ ds => decide (uptoBulkAll ds ≤ 1048576)
def OpenSpec.upto (s : _root_.Go.ChangeSpec) : _root_.Go.OpenSpec := { _root_.Go.OpenSpec.ofChange s with cond := some uptoSmall }

/-- 'laws.FnExactMixCut', WHERE WHAT IT READS IS OF BULK AT MOST 1048576: true; the input reads as it did. -/
def fnExactMixCutUptoRow : OpenClaim := { program := "ytpdemmdladcamaa", sum := "d2007f50df2b321b35633f466eff3430c992e71663b756cbcbdd7d3ea7344083", func := "loop.example/bargeman/laws.FnExactMixCut", spec := "fnExactMixCut", apart := false, narrowed := true }
def FnExactMixCutUptoSaid : Prop := fnExactMixCutUptoRow.holds Try.pinned (OpenSpec.upto fnExactMixCutSpec)

/-- 'laws.FnMixCut', WHERE WHAT IT READS IS OF BULK AT MOST 1048576: true; the input reads as it did. -/
def fnMixCutUptoRow : OpenClaim := { program := "ytpdemmdladcamaa", sum := "d2007f50df2b321b35633f466eff3430c992e71663b756cbcbdd7d3ea7344083", func := "loop.example/bargeman/laws.FnMixCut", spec := "fnMixCut", apart := false, narrowed := true }
def FnMixCutUptoSaid : Prop := fnMixCutUptoRow.holds Try.pinned (OpenSpec.upto fnMixCutSpec)

/-- 'laws.FnExactMixOf', WHERE WHAT IT READS IS OF BULK AT MOST 1048576: true; the input reads as it did. -/
def fnExactMixOfUptoRow : OpenClaim := { program := "ytpdemmdladcamaa", sum := "d2007f50df2b321b35633f466eff3430c992e71663b756cbcbdd7d3ea7344083", func := "loop.example/bargeman/laws.FnExactMixOf", spec := "fnExactMixOf", apart := false, narrowed := true }
def FnExactMixOfUptoSaid : Prop := fnExactMixOfUptoRow.holds Try.pinned (OpenSpec.upto fnExactMixOfSpec)

/-- 'laws.FnMixFirst', WHERE WHAT IT READS IS OF BULK AT MOST 1048576: true; the input reads as it did. -/
def fnMixFirstUptoRow : OpenClaim := { program := "ytpdemmdladcamaa", sum := "d2007f50df2b321b35633f466eff3430c992e71663b756cbcbdd7d3ea7344083", func := "loop.example/bargeman/laws.FnMixFirst", spec := "fnMixFirst", apart := false, narrowed := true }
def FnMixFirstUptoSaid : Prop := fnMixFirstUptoRow.holds Try.pinned (OpenSpec.upto fnMixFirstSpec)

/-- 'laws.FnMixOf', WHERE WHAT IT READS IS OF BULK AT MOST 1048576: true; the input reads as it did. -/
def fnMixOfUptoRow : OpenClaim := { program := "ytpdemmdladcamaa", sum := "d2007f50df2b321b35633f466eff3430c992e71663b756cbcbdd7d3ea7344083", func := "loop.example/bargeman/laws.FnMixOf", spec := "fnMixOf", apart := false, narrowed := true }
def FnMixOfUptoSaid : Prop := fnMixOfUptoRow.holds Try.pinned (OpenSpec.upto fnMixOfSpec)

/-- 'laws.FnExactMixMake', WHERE WHAT IT READS IS OF BULK AT MOST 1048576: true; the input reads as it did. -/
def fnExactMixMakeUptoRow : OpenClaim := { program := "ytpdemmdladcamaa", sum := "d2007f50df2b321b35633f466eff3430c992e71663b756cbcbdd7d3ea7344083", func := "loop.example/bargeman/laws.FnExactMixMake", spec := "fnExactMixMake", apart := false, narrowed := true }
def FnExactMixMakeUptoSaid : Prop := fnExactMixMakeUptoRow.holds Try.pinned (OpenSpec.upto fnExactMixMakeSpec)

/-- 'laws.FnMixAlone', WHERE WHAT IT READS IS OF BULK AT MOST 1048576: true; the input reads as it did. -/
def fnMixAloneUptoRow : OpenClaim := { program := "ytpdemmdladcamaa", sum := "d2007f50df2b321b35633f466eff3430c992e71663b756cbcbdd7d3ea7344083", func := "loop.example/bargeman/laws.FnMixAlone", spec := "fnMixAlone", apart := false, narrowed := true }
def FnMixAloneUptoSaid : Prop := fnMixAloneUptoRow.holds Try.pinned (OpenSpec.upto fnMixAloneSpec)

/-- 'laws.FnMixMake', WHERE WHAT IT READS IS OF BULK AT MOST 1048576: true; the input reads as it did. -/
def fnMixMakeUptoRow : OpenClaim := { program := "ytpdemmdladcamaa", sum := "d2007f50df2b321b35633f466eff3430c992e71663b756cbcbdd7d3ea7344083", func := "loop.example/bargeman/laws.FnMixMake", spec := "fnMixMake", apart := false, narrowed := true }
def FnMixMakeUptoSaid : Prop := fnMixMakeUptoRow.holds Try.pinned (OpenSpec.upto fnMixMakeSpec)

/-- 'laws.FnMixUnlike', WHERE WHAT IT READS IS OF BULK AT MOST 1048576: true; the input reads as it did. -/
def fnMixUnlikeUptoRow : OpenClaim := { program := "ytpdemmdladcamaa", sum := "d2007f50df2b321b35633f466eff3430c992e71663b756cbcbdd7d3ea7344083", func := "loop.example/bargeman/laws.FnMixUnlike", spec := "fnMixUnlike", apart := false, narrowed := true }
def FnMixUnlikeUptoSaid : Prop := fnMixUnlikeUptoRow.holds Try.pinned (OpenSpec.upto fnMixUnlikeSpec)

/-- 'laws.FnMixTwice', WHERE WHAT IT READS IS OF BULK AT MOST 1048576: true; the input reads as it did. -/
def fnMixTwiceUptoRow : OpenClaim := { program := "ytpdemmdladcamaa", sum := "d2007f50df2b321b35633f466eff3430c992e71663b756cbcbdd7d3ea7344083", func := "loop.example/bargeman/laws.FnMixTwice", spec := "fnMixTwice", apart := false, narrowed := true }
def FnMixTwiceUptoSaid : Prop := fnMixTwiceUptoRow.holds Try.pinned (OpenSpec.upto fnMixTwiceSpec)

/-- 'laws.FnMixOne', WHERE WHAT IT READS IS OF BULK AT MOST 1048576: true; the input reads as it did. -/
def fnMixOneUptoRow : OpenClaim := { program := "ytpdemmdladcamaa", sum := "d2007f50df2b321b35633f466eff3430c992e71663b756cbcbdd7d3ea7344083", func := "loop.example/bargeman/laws.FnMixOne", spec := "fnMixOne", apart := false, narrowed := true }
def FnMixOneUptoSaid : Prop := fnMixOneUptoRow.holds Try.pinned (OpenSpec.upto fnMixOneSpec)

/-- 'laws.FnExactMixText', WHERE WHAT IT READS IS OF BULK AT MOST 1048576: true; the input reads as it did. -/
def fnExactMixTextUptoRow : OpenClaim := { program := "ytpdemmdladcamaa", sum := "d2007f50df2b321b35633f466eff3430c992e71663b756cbcbdd7d3ea7344083", func := "loop.example/bargeman/laws.FnExactMixText", spec := "fnExactMixText", apart := false, narrowed := true }
def FnExactMixTextUptoSaid : Prop := fnExactMixTextUptoRow.holds Try.pinned (OpenSpec.upto fnExactMixTextSpec)

/-- 'laws.FnExactMixPeel', WHERE WHAT IT READS IS OF BULK AT MOST 1048576: true; the input reads as it did. -/
def fnExactMixPeelUptoRow : OpenClaim := { program := "ytpdemmdladcamaa", sum := "d2007f50df2b321b35633f466eff3430c992e71663b756cbcbdd7d3ea7344083", func := "loop.example/bargeman/laws.FnExactMixPeel", spec := "fnExactMixPeel", apart := false, narrowed := true }
def FnExactMixPeelUptoSaid : Prop := fnExactMixPeelUptoRow.holds Try.pinned (OpenSpec.upto fnExactMixPeelSpec)

/-- 'laws.FnMixMore', WHERE WHAT IT READS IS OF BULK AT MOST 1048576: true; the input reads as it did. -/
def fnMixMoreUptoRow : OpenClaim := { program := "ytpdemmdladcamaa", sum := "d2007f50df2b321b35633f466eff3430c992e71663b756cbcbdd7d3ea7344083", func := "loop.example/bargeman/laws.FnMixMore", spec := "fnMixMore", apart := false, narrowed := true }
def FnMixMoreUptoSaid : Prop := fnMixMoreUptoRow.holds Try.pinned (OpenSpec.upto fnMixMoreSpec)

/-- 'laws.FnMixPeel', WHERE WHAT IT READS IS OF BULK AT MOST 1048576: true; the input reads as it did. -/
def fnMixPeelUptoRow : OpenClaim := { program := "ytpdemmdladcamaa", sum := "d2007f50df2b321b35633f466eff3430c992e71663b756cbcbdd7d3ea7344083", func := "loop.example/bargeman/laws.FnMixPeel", spec := "fnMixPeel", apart := false, narrowed := true }
def FnMixPeelUptoSaid : Prop := fnMixPeelUptoRow.holds Try.pinned (OpenSpec.upto fnMixPeelSpec)

/-- 'laws.FnMixTurn', WHERE WHAT IT READS IS OF BULK AT MOST 1048576: true; the input reads as it did. -/
def fnMixTurnUptoRow : OpenClaim := { program := "ytpdemmdladcamaa", sum := "d2007f50df2b321b35633f466eff3430c992e71663b756cbcbdd7d3ea7344083", func := "loop.example/bargeman/laws.FnMixTurn", spec := "fnMixTurn", apart := false, narrowed := true }
def FnMixTurnUptoSaid : Prop := fnMixTurnUptoRow.holds Try.pinned (OpenSpec.upto fnMixTurnSpec)

/-- 'laws.FnMixText', WHERE WHAT IT READS IS OF BULK AT MOST 1048576: true; the input reads as it did. -/
def fnMixTextUptoRow : OpenClaim := { program := "ytpdemmdladcamaa", sum := "d2007f50df2b321b35633f466eff3430c992e71663b756cbcbdd7d3ea7344083", func := "loop.example/bargeman/laws.FnMixText", spec := "fnMixText", apart := false, narrowed := true }
def FnMixTextUptoSaid : Prop := fnMixTextUptoRow.holds Try.pinned (OpenSpec.upto fnMixTextSpec)

end Rows
end Go.Proofs.Ytpdemmdladcamaa
