/-
  No cell of these rows narrows 'for every input' (looked for: loops, veiled, ifaces, maps, wideKeys, modest, calm, conditions, laid).
  DERIVED. THE GIVEN ROWS OF THIS SEAT. 9 by the template 'for every input the law returns true; each argument reads behind the call as it read before'; 0 by the template 'total and deterministic' (their statements: YteglhciieakmaaaTotals.lean).
  GIVEN WITH THE SEED: the statements are not yours to turn. If you find one false, say at which input.
  Laid BY PROGRAM, IN A SANDBOX (cutbox-rows.mjs): the forced cells as the released guide's own fill.sh prints them over the translation ff49019658d76c09… (all of the seat's roots in one cut). By AI agents, Wed Nov 11 2026. No macro, syntax, notation, axiom, sorry.
-/
import Derived.Test.YteglhciieakmaaaChecked
import GoSem.Claim
import GoSem.ClaimJoined
import GoSem.ClaimMapViews
import Derived.JoinedTies
import Derived.KernelRfl
namespace Go.Proofs.Yteglhciieakmaaa
/- THE CELL 'sum', in the pinned program and in every row, IS THE sha256 OF THE DUMP (.gsa) THAT YteglhciieakmaaaProg.lean LOADS. Nothing in Lean hashes anything: it is a label: what it is worth is what the hold of that sum in a sandbox is worth. -/
noncomputable def Try.pinned : Pinned := { name := "yteglhciieakmaaa", sum := "ff49019658d76c0931e1d04a0b417063821986a08893ef151d71d7590cf5fd4a", checked := Try.checked }
namespace Rows
def none {H : Type} : Left H := { results := [], args := [] }

/-- 'laws.FnExactConstants': WHATEVER THE INPUT: true; the input reads as it did. -/
def fnExactConstantsSpec : ChangeSpec := { name := "fnExactConstants", fn := fun _ => fun
  | [] => { results := [.lit (.bool true)], args := [] }
  | _ => none }
def fnExactConstantsRow : OpenClaim := { program := "yteglhciieakmaaa", sum := "ff49019658d76c0931e1d04a0b417063821986a08893ef151d71d7590cf5fd4a", func := "loop.example/bargeman/laws.FnExactConstants", spec := "fnExactConstants", apart := false }
def FnExactConstantsSaid : Prop := fnExactConstantsRow.holds Try.pinned (OpenSpec.ofChange fnExactConstantsSpec)

/-- ITS FALSE NEIGHBOUR: 'it returns false'. Refute it at one input. -/
def fnExactConstantsWrong : ChangeSpec := { name := "fnExactConstants", fn := fun _ => fun
  | [] => { results := [.lit (.bool false)], args := [] }
  | _ => none }
def FnExactConstantsWrongFalsely : Prop := fnExactConstantsRow.holds Try.pinned (OpenSpec.ofChange fnExactConstantsWrong)

/-- 'laws.FnExactRandNext': WHATEVER THE INPUT: true; the input reads as it did. -/
def fnExactRandNextSpec : ChangeSpec := { name := "fnExactRandNext", fn := fun _ => fun
  | [d] => { results := [.lit (.bool true)], args := [d] }
  | _ => none }
def fnExactRandNextRow : OpenClaim := { program := "yteglhciieakmaaa", sum := "ff49019658d76c0931e1d04a0b417063821986a08893ef151d71d7590cf5fd4a", func := "loop.example/bargeman/laws.FnExactRandNext", spec := "fnExactRandNext", apart := false }
def FnExactRandNextSaid : Prop := fnExactRandNextRow.holds Try.pinned (OpenSpec.ofChange fnExactRandNextSpec)

/-- ITS FALSE NEIGHBOUR: 'it returns false'. Refute it at one input. -/
def fnExactRandNextWrong : ChangeSpec := { name := "fnExactRandNext", fn := fun _ => fun
  | [d] => { results := [.lit (.bool false)], args := [d] }
  | _ => none }
def FnExactRandNextWrongFalsely : Prop := fnExactRandNextRow.holds Try.pinned (OpenSpec.ofChange fnExactRandNextWrong)

/-- 'laws.FnExactNoteNext': WHATEVER THE INPUT: true; the input reads as it did. -/
def fnExactNoteNextSpec : ChangeSpec := { name := "fnExactNoteNext", fn := fun _ => fun
  | [d1, d2] => { results := [.lit (.bool true)], args := [d1, d2] }
  | _ => none }
def fnExactNoteNextRow : OpenClaim := { program := "yteglhciieakmaaa", sum := "ff49019658d76c0931e1d04a0b417063821986a08893ef151d71d7590cf5fd4a", func := "loop.example/bargeman/laws.FnExactNoteNext", spec := "fnExactNoteNext", apart := false }
def FnExactNoteNextSaid : Prop := fnExactNoteNextRow.holds Try.pinned (OpenSpec.ofChange fnExactNoteNextSpec)

/-- ITS FALSE NEIGHBOUR: 'it returns false'. Refute it at one input. -/
def fnExactNoteNextWrong : ChangeSpec := { name := "fnExactNoteNext", fn := fun _ => fun
  | [d1, d2] => { results := [.lit (.bool false)], args := [d1, d2] }
  | _ => none }
def FnExactNoteNextWrongFalsely : Prop := fnExactNoteNextRow.holds Try.pinned (OpenSpec.ofChange fnExactNoteNextWrong)

/-- 'laws.FnRandNext': WHATEVER THE INPUT: true; the input reads as it did. -/
def fnRandNextSpec : ChangeSpec := { name := "fnRandNext", fn := fun _ => fun
  | [d1, d2] => { results := [.lit (.bool true)], args := [d1, d2] }
  | _ => none }
def fnRandNextRow : OpenClaim := { program := "yteglhciieakmaaa", sum := "ff49019658d76c0931e1d04a0b417063821986a08893ef151d71d7590cf5fd4a", func := "loop.example/bargeman/laws.FnRandNext", spec := "fnRandNext", apart := false }
def FnRandNextSaid : Prop := fnRandNextRow.holds Try.pinned (OpenSpec.ofChange fnRandNextSpec)

/-- ITS FALSE NEIGHBOUR: 'it returns false'. Refute it at one input. -/
def fnRandNextWrong : ChangeSpec := { name := "fnRandNext", fn := fun _ => fun
  | [d1, d2] => { results := [.lit (.bool false)], args := [d1, d2] }
  | _ => none }
def FnRandNextWrongFalsely : Prop := fnRandNextRow.holds Try.pinned (OpenSpec.ofChange fnRandNextWrong)

/-- 'laws.FnExactNoteOk': WHATEVER THE INPUT: true; the input reads as it did. -/
def fnExactNoteOkSpec : ChangeSpec := { name := "fnExactNoteOk", fn := fun _ => fun
  | [d] => { results := [.lit (.bool true)], args := [d] }
  | _ => none }
def fnExactNoteOkRow : OpenClaim := { program := "yteglhciieakmaaa", sum := "ff49019658d76c0931e1d04a0b417063821986a08893ef151d71d7590cf5fd4a", func := "loop.example/bargeman/laws.FnExactNoteOk", spec := "fnExactNoteOk", apart := false }
def FnExactNoteOkSaid : Prop := fnExactNoteOkRow.holds Try.pinned (OpenSpec.ofChange fnExactNoteOkSpec)

/-- ITS FALSE NEIGHBOUR: 'it returns false'. Refute it at one input. -/
def fnExactNoteOkWrong : ChangeSpec := { name := "fnExactNoteOk", fn := fun _ => fun
  | [d] => { results := [.lit (.bool false)], args := [d] }
  | _ => none }
def FnExactNoteOkWrongFalsely : Prop := fnExactNoteOkRow.holds Try.pinned (OpenSpec.ofChange fnExactNoteOkWrong)

/-- 'laws.FnNoteBack': WHATEVER THE INPUT: true; the input reads as it did. -/
def fnNoteBackSpec : ChangeSpec := { name := "fnNoteBack", fn := fun _ => fun
  | [d] => { results := [.lit (.bool true)], args := [d] }
  | _ => none }
def fnNoteBackRow : OpenClaim := { program := "yteglhciieakmaaa", sum := "ff49019658d76c0931e1d04a0b417063821986a08893ef151d71d7590cf5fd4a", func := "loop.example/bargeman/laws.FnNoteBack", spec := "fnNoteBack", apart := false }
def FnNoteBackSaid : Prop := fnNoteBackRow.holds Try.pinned (OpenSpec.ofChange fnNoteBackSpec)

/-- ITS FALSE NEIGHBOUR: 'it returns false'. Refute it at one input. -/
def fnNoteBackWrong : ChangeSpec := { name := "fnNoteBack", fn := fun _ => fun
  | [d] => { results := [.lit (.bool false)], args := [d] }
  | _ => none }
def FnNoteBackWrongFalsely : Prop := fnNoteBackRow.holds Try.pinned (OpenSpec.ofChange fnNoteBackWrong)

/-- 'laws.FnNoteWay': WHATEVER THE INPUT: true; the input reads as it did. -/
def fnNoteWaySpec : ChangeSpec := { name := "fnNoteWay", fn := fun _ => fun
  | [d] => { results := [.lit (.bool true)], args := [d] }
  | _ => none }
def fnNoteWayRow : OpenClaim := { program := "yteglhciieakmaaa", sum := "ff49019658d76c0931e1d04a0b417063821986a08893ef151d71d7590cf5fd4a", func := "loop.example/bargeman/laws.FnNoteWay", spec := "fnNoteWay", apart := false }
def FnNoteWaySaid : Prop := fnNoteWayRow.holds Try.pinned (OpenSpec.ofChange fnNoteWaySpec)

/-- ITS FALSE NEIGHBOUR: 'it returns false'. Refute it at one input. -/
def fnNoteWayWrong : ChangeSpec := { name := "fnNoteWay", fn := fun _ => fun
  | [d] => { results := [.lit (.bool false)], args := [d] }
  | _ => none }
def FnNoteWayWrongFalsely : Prop := fnNoteWayRow.holds Try.pinned (OpenSpec.ofChange fnNoteWayWrong)

/-- 'laws.FnExactMixDegree': WHATEVER THE INPUT: true; the input reads as it did. -/
def fnExactMixDegreeSpec : ChangeSpec := { name := "fnExactMixDegree", fn := fun _ => fun
  | [d1, d2] => { results := [.lit (.bool true)], args := [d1, d2] }
  | _ => none }
def fnExactMixDegreeRow : OpenClaim := { program := "yteglhciieakmaaa", sum := "ff49019658d76c0931e1d04a0b417063821986a08893ef151d71d7590cf5fd4a", func := "loop.example/bargeman/laws.FnExactMixDegree", spec := "fnExactMixDegree", apart := false }
def FnExactMixDegreeSaid : Prop := fnExactMixDegreeRow.holds Try.pinned (OpenSpec.ofChange fnExactMixDegreeSpec)

/-- ITS FALSE NEIGHBOUR: 'it returns false'. Refute it at one input. -/
def fnExactMixDegreeWrong : ChangeSpec := { name := "fnExactMixDegree", fn := fun _ => fun
  | [d1, d2] => { results := [.lit (.bool false)], args := [d1, d2] }
  | _ => none }
def FnExactMixDegreeWrongFalsely : Prop := fnExactMixDegreeRow.holds Try.pinned (OpenSpec.ofChange fnExactMixDegreeWrong)

/-- 'laws.FnMixDegree': WHATEVER THE INPUT: true; the input reads as it did. -/
def fnMixDegreeSpec : ChangeSpec := { name := "fnMixDegree", fn := fun _ => fun
  | [d] => { results := [.lit (.bool true)], args := [d] }
  | _ => none }
def fnMixDegreeRow : OpenClaim := { program := "yteglhciieakmaaa", sum := "ff49019658d76c0931e1d04a0b417063821986a08893ef151d71d7590cf5fd4a", func := "loop.example/bargeman/laws.FnMixDegree", spec := "fnMixDegree", apart := false }
def FnMixDegreeSaid : Prop := fnMixDegreeRow.holds Try.pinned (OpenSpec.ofChange fnMixDegreeSpec)

/-- ITS FALSE NEIGHBOUR: 'it returns false'. Refute it at one input. -/
def fnMixDegreeWrong : ChangeSpec := { name := "fnMixDegree", fn := fun _ => fun
  | [d] => { results := [.lit (.bool false)], args := [d] }
  | _ => none }
def FnMixDegreeWrongFalsely : Prop := fnMixDegreeRow.holds Try.pinned (OpenSpec.ofChange fnMixDegreeWrong)

/- THE SECOND FORM. 'bulk': how many values and letters a reading holds, each counted each time it is reached (what is shared counts as often as it is met; a slice's spare places count too). A statement '..UptoSaid' is the law's where the arguments, and the package variables that the reading takes, are together of bulk at most 1048576: NARROWER than '..Said'. Prove '..Said' where nothing that the law and all that it calls make is longer than what came in: it says more and counts as full. Else prove '..UptoSaid'. A law counts once. -/
mutual
def uptoBulk {H : Type} : DataW H → Nat
  | .lit (.string bytes) => bytes.length + 1
  | .lit _ => 1
  | .nil => 1
  | .ptr d => uptoBulk d + 1
  | .slice elems spare => uptoBulkAll elems + uptoBulkAll spare + 1
  | .agg parts => uptoBulkAll parts + 1
  | .iface _ d => uptoBulk d + 1
  | .map entries => uptoBulkEntries entries + 1
  | .held _ => 1
def uptoBulkAll {H : Type} : List (DataW H) → Nat
  | [] => 0
  | d :: r => uptoBulk d + uptoBulkAll r
def uptoBulkEntries {H : Type} : List (Lit × DataW H) → Nat
  | [] => 0
  | x :: r => uptoBulkEntry x + uptoBulkEntries r
def uptoBulkEntry {H : Type} : Lit × DataW H → Nat
  | (.string bytes, d) => bytes.length + uptoBulk d + 1
  | (_, d) => uptoBulk d + 1
 end
def uptoSmall : (H : Type) → List (DataW H) → Bool := fun _ ds => decide (uptoBulkAll ds ≤ 1048576)
def OpenSpec.upto (s : _root_.Go.ChangeSpec) : _root_.Go.OpenSpec := { _root_.Go.OpenSpec.ofChange s with cond := some uptoSmall }

/-- 'laws.FnExactConstants', WHERE WHAT IT READS IS OF BULK AT MOST 1048576: true; the input reads as it did. -/
def fnExactConstantsUptoRow : OpenClaim := { program := "yteglhciieakmaaa", sum := "ff49019658d76c0931e1d04a0b417063821986a08893ef151d71d7590cf5fd4a", func := "loop.example/bargeman/laws.FnExactConstants", spec := "fnExactConstants", apart := false, narrowed := true }
def FnExactConstantsUptoSaid : Prop := fnExactConstantsUptoRow.holds Try.pinned (OpenSpec.upto fnExactConstantsSpec)

/-- 'laws.FnExactRandNext', WHERE WHAT IT READS IS OF BULK AT MOST 1048576: true; the input reads as it did. -/
def fnExactRandNextUptoRow : OpenClaim := { program := "yteglhciieakmaaa", sum := "ff49019658d76c0931e1d04a0b417063821986a08893ef151d71d7590cf5fd4a", func := "loop.example/bargeman/laws.FnExactRandNext", spec := "fnExactRandNext", apart := false, narrowed := true }
def FnExactRandNextUptoSaid : Prop := fnExactRandNextUptoRow.holds Try.pinned (OpenSpec.upto fnExactRandNextSpec)

/-- 'laws.FnExactNoteNext', WHERE WHAT IT READS IS OF BULK AT MOST 1048576: true; the input reads as it did. -/
def fnExactNoteNextUptoRow : OpenClaim := { program := "yteglhciieakmaaa", sum := "ff49019658d76c0931e1d04a0b417063821986a08893ef151d71d7590cf5fd4a", func := "loop.example/bargeman/laws.FnExactNoteNext", spec := "fnExactNoteNext", apart := false, narrowed := true }
def FnExactNoteNextUptoSaid : Prop := fnExactNoteNextUptoRow.holds Try.pinned (OpenSpec.upto fnExactNoteNextSpec)

/-- 'laws.FnRandNext', WHERE WHAT IT READS IS OF BULK AT MOST 1048576: true; the input reads as it did. -/
def fnRandNextUptoRow : OpenClaim := { program := "yteglhciieakmaaa", sum := "ff49019658d76c0931e1d04a0b417063821986a08893ef151d71d7590cf5fd4a", func := "loop.example/bargeman/laws.FnRandNext", spec := "fnRandNext", apart := false, narrowed := true }
def FnRandNextUptoSaid : Prop := fnRandNextUptoRow.holds Try.pinned (OpenSpec.upto fnRandNextSpec)

/-- 'laws.FnExactNoteOk', WHERE WHAT IT READS IS OF BULK AT MOST 1048576: true; the input reads as it did. -/
def fnExactNoteOkUptoRow : OpenClaim := { program := "yteglhciieakmaaa", sum := "ff49019658d76c0931e1d04a0b417063821986a08893ef151d71d7590cf5fd4a", func := "loop.example/bargeman/laws.FnExactNoteOk", spec := "fnExactNoteOk", apart := false, narrowed := true }
def FnExactNoteOkUptoSaid : Prop := fnExactNoteOkUptoRow.holds Try.pinned (OpenSpec.upto fnExactNoteOkSpec)

/-- 'laws.FnNoteBack', WHERE WHAT IT READS IS OF BULK AT MOST 1048576: true; the input reads as it did. -/
def fnNoteBackUptoRow : OpenClaim := { program := "yteglhciieakmaaa", sum := "ff49019658d76c0931e1d04a0b417063821986a08893ef151d71d7590cf5fd4a", func := "loop.example/bargeman/laws.FnNoteBack", spec := "fnNoteBack", apart := false, narrowed := true }
def FnNoteBackUptoSaid : Prop := fnNoteBackUptoRow.holds Try.pinned (OpenSpec.upto fnNoteBackSpec)

/-- 'laws.FnNoteWay', WHERE WHAT IT READS IS OF BULK AT MOST 1048576: true; the input reads as it did. -/
def fnNoteWayUptoRow : OpenClaim := { program := "yteglhciieakmaaa", sum := "ff49019658d76c0931e1d04a0b417063821986a08893ef151d71d7590cf5fd4a", func := "loop.example/bargeman/laws.FnNoteWay", spec := "fnNoteWay", apart := false, narrowed := true }
def FnNoteWayUptoSaid : Prop := fnNoteWayUptoRow.holds Try.pinned (OpenSpec.upto fnNoteWaySpec)

/-- 'laws.FnExactMixDegree', WHERE WHAT IT READS IS OF BULK AT MOST 1048576: true; the input reads as it did. -/
def fnExactMixDegreeUptoRow : OpenClaim := { program := "yteglhciieakmaaa", sum := "ff49019658d76c0931e1d04a0b417063821986a08893ef151d71d7590cf5fd4a", func := "loop.example/bargeman/laws.FnExactMixDegree", spec := "fnExactMixDegree", apart := false, narrowed := true }
def FnExactMixDegreeUptoSaid : Prop := fnExactMixDegreeUptoRow.holds Try.pinned (OpenSpec.upto fnExactMixDegreeSpec)

/-- 'laws.FnMixDegree', WHERE WHAT IT READS IS OF BULK AT MOST 1048576: true; the input reads as it did. -/
def fnMixDegreeUptoRow : OpenClaim := { program := "yteglhciieakmaaa", sum := "ff49019658d76c0931e1d04a0b417063821986a08893ef151d71d7590cf5fd4a", func := "loop.example/bargeman/laws.FnMixDegree", spec := "fnMixDegree", apart := false, narrowed := true }
def FnMixDegreeUptoSaid : Prop := fnMixDegreeUptoRow.holds Try.pinned (OpenSpec.upto fnMixDegreeSpec)

end Rows
end Go.Proofs.Yteglhciieakmaaa
