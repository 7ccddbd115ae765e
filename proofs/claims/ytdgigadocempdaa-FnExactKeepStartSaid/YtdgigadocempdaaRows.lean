/-
  No cell of these rows narrows 'for every input' (looked for: loops, veiled, ifaces, maps, wideKeys, modest, calm, conditions, laid).
  DERIVED. THE GIVEN ROWS OF THIS SEAT. 9 by the template 'for every input the law returns true; each argument reads behind the call as it read before'; 0 by the template 'total and deterministic' (their statements: YtdgigadocempdaaTotals.lean).
  GIVEN WITH THE SEED: the statements are not yours to turn. If you find one false, say at which input.
  Laid BY PROGRAM, IN A SANDBOX (cutbox-rows.mjs): the forced cells as the released guide's own fill.sh prints them over the translation fcc3bc7ea060cb0f… (all of the seat's roots in one cut). By AI agents, Wed Nov 11 2026. No macro, syntax, notation, axiom, sorry.
-/
import Derived.Test.YtdgigadocempdaaChecked
import GoSem.Claim
import GoSem.ClaimJoined
import GoSem.ClaimMapViews
import Derived.JoinedTies
import Derived.KernelRfl
namespace Go.Proofs.Ytdgigadocempdaa
/- THE CELL 'sum', in the pinned program and in every row, IS THE sha256 OF THE DUMP (.gsa) THAT YtdgigadocempdaaProg.lean LOADS. Nothing in Lean hashes anything: it is a label: what it is worth is what the hold of that sum in a sandbox is worth. -/
noncomputable def Try.pinned : Pinned := { name := "ytdgigadocempdaa", sum := "fcc3bc7ea060cb0ffd0ef77959d85f8c0befbc248b8be6ed563b41fb9b800271", checked := Try.checked }
namespace Rows
def none {H : Type} : Left H := { results := [], args := [] }

/-- 'laws.FnExactShelfOk': WHATEVER THE INPUT: true; the input reads as it did. -/
def fnExactShelfOkSpec : ChangeSpec := { name := "fnExactShelfOk", fn := fun _ => fun
  | [d] => { results := [.lit (.bool true)], args := [d] }
  | _ => none }
def fnExactShelfOkRow : OpenClaim := { program := "ytdgigadocempdaa", sum := "fcc3bc7ea060cb0ffd0ef77959d85f8c0befbc248b8be6ed563b41fb9b800271", func := "loop.example/bargeman/laws.FnExactShelfOk", spec := "fnExactShelfOk", recurses := true, apart := false }
def FnExactShelfOkSaid : Prop := fnExactShelfOkRow.holds Try.pinned (OpenSpec.ofChange fnExactShelfOkSpec)

/-- ITS FALSE NEIGHBOUR: 'it returns false'. Refute it at one input. -/
def fnExactShelfOkWrong : ChangeSpec := { name := "fnExactShelfOk", fn := fun _ => fun
  | [d] => { results := [.lit (.bool false)], args := [d] }
  | _ => none }
def FnExactShelfOkWrongFalsely : Prop := fnExactShelfOkRow.holds Try.pinned (OpenSpec.ofChange fnExactShelfOkWrong)

/-- 'laws.FnExactShelfRead': WHATEVER THE INPUT: true; the input reads as it did. -/
def fnExactShelfReadSpec : ChangeSpec := { name := "fnExactShelfRead", fn := fun _ => fun
  | [d] => { results := [.lit (.bool true)], args := [d] }
  | _ => none }
def fnExactShelfReadRow : OpenClaim := { program := "ytdgigadocempdaa", sum := "fcc3bc7ea060cb0ffd0ef77959d85f8c0befbc248b8be6ed563b41fb9b800271", func := "loop.example/bargeman/laws.FnExactShelfRead", spec := "fnExactShelfRead", recurses := true, apart := false }
def FnExactShelfReadSaid : Prop := fnExactShelfReadRow.holds Try.pinned (OpenSpec.ofChange fnExactShelfReadSpec)

/-- ITS FALSE NEIGHBOUR: 'it returns false'. Refute it at one input. -/
def fnExactShelfReadWrong : ChangeSpec := { name := "fnExactShelfRead", fn := fun _ => fun
  | [d] => { results := [.lit (.bool false)], args := [d] }
  | _ => none }
def FnExactShelfReadWrongFalsely : Prop := fnExactShelfReadRow.holds Try.pinned (OpenSpec.ofChange fnExactShelfReadWrong)

/-- 'laws.FnExactShelfForce': WHATEVER THE INPUT: true; the input reads as it did. -/
def fnExactShelfForceSpec : ChangeSpec := { name := "fnExactShelfForce", fn := fun _ => fun
  | [d] => { results := [.lit (.bool true)], args := [d] }
  | _ => none }
def fnExactShelfForceRow : OpenClaim := { program := "ytdgigadocempdaa", sum := "fcc3bc7ea060cb0ffd0ef77959d85f8c0befbc248b8be6ed563b41fb9b800271", func := "loop.example/bargeman/laws.FnExactShelfForce", spec := "fnExactShelfForce", recurses := true, apart := false }
def FnExactShelfForceSaid : Prop := fnExactShelfForceRow.holds Try.pinned (OpenSpec.ofChange fnExactShelfForceSpec)

/-- ITS FALSE NEIGHBOUR: 'it returns false'. Refute it at one input. -/
def fnExactShelfForceWrong : ChangeSpec := { name := "fnExactShelfForce", fn := fun _ => fun
  | [d] => { results := [.lit (.bool false)], args := [d] }
  | _ => none }
def FnExactShelfForceWrongFalsely : Prop := fnExactShelfForceRow.holds Try.pinned (OpenSpec.ofChange fnExactShelfForceWrong)

/-- 'laws.FnExactShelfFall': WHATEVER THE INPUT: true; the input reads as it did. -/
def fnExactShelfFallSpec : ChangeSpec := { name := "fnExactShelfFall", fn := fun _ => fun
  | [d1, d2] => { results := [.lit (.bool true)], args := [d1, d2] }
  | _ => none }
def fnExactShelfFallRow : OpenClaim := { program := "ytdgigadocempdaa", sum := "fcc3bc7ea060cb0ffd0ef77959d85f8c0befbc248b8be6ed563b41fb9b800271", func := "loop.example/bargeman/laws.FnExactShelfFall", spec := "fnExactShelfFall", recurses := true, apart := false }
def FnExactShelfFallSaid : Prop := fnExactShelfFallRow.holds Try.pinned (OpenSpec.ofChange fnExactShelfFallSpec)

/-- ITS FALSE NEIGHBOUR: 'it returns false'. Refute it at one input. -/
def fnExactShelfFallWrong : ChangeSpec := { name := "fnExactShelfFall", fn := fun _ => fun
  | [d1, d2] => { results := [.lit (.bool false)], args := [d1, d2] }
  | _ => none }
def FnExactShelfFallWrongFalsely : Prop := fnExactShelfFallRow.holds Try.pinned (OpenSpec.ofChange fnExactShelfFallWrong)

/-- 'laws.FnExactKeepStart': WHATEVER THE INPUT: true; the input reads as it did. -/
def fnExactKeepStartSpec : ChangeSpec := { name := "fnExactKeepStart", fn := fun _ => fun
  | [d] => { results := [.lit (.bool true)], args := [d] }
  | _ => none }
def fnExactKeepStartRow : OpenClaim := { program := "ytdgigadocempdaa", sum := "fcc3bc7ea060cb0ffd0ef77959d85f8c0befbc248b8be6ed563b41fb9b800271", func := "loop.example/bargeman/laws.FnExactKeepStart", spec := "fnExactKeepStart", apart := false }
def FnExactKeepStartSaid : Prop := fnExactKeepStartRow.holds Try.pinned (OpenSpec.ofChange fnExactKeepStartSpec)

/-- ITS FALSE NEIGHBOUR: 'it returns false'. Refute it at one input. -/
def fnExactKeepStartWrong : ChangeSpec := { name := "fnExactKeepStart", fn := fun _ => fun
  | [d] => { results := [.lit (.bool false)], args := [d] }
  | _ => none }
def FnExactKeepStartWrongFalsely : Prop := fnExactKeepStartRow.holds Try.pinned (OpenSpec.ofChange fnExactKeepStartWrong)

/-- 'laws.FnShelfRead': WHATEVER THE INPUT: true; the input reads as it did. -/
def fnShelfReadSpec : ChangeSpec := { name := "fnShelfRead", fn := fun _ => fun
  | [d1, d2] => { results := [.lit (.bool true)], args := [d1, d2] }
  | _ => none }
def fnShelfReadRow : OpenClaim := { program := "ytdgigadocempdaa", sum := "fcc3bc7ea060cb0ffd0ef77959d85f8c0befbc248b8be6ed563b41fb9b800271", func := "loop.example/bargeman/laws.FnShelfRead", spec := "fnShelfRead", recurses := true, apart := false }
def FnShelfReadSaid : Prop := fnShelfReadRow.holds Try.pinned (OpenSpec.ofChange fnShelfReadSpec)

/-- ITS FALSE NEIGHBOUR: 'it returns false'. Refute it at one input. -/
def fnShelfReadWrong : ChangeSpec := { name := "fnShelfRead", fn := fun _ => fun
  | [d1, d2] => { results := [.lit (.bool false)], args := [d1, d2] }
  | _ => none }
def FnShelfReadWrongFalsely : Prop := fnShelfReadRow.holds Try.pinned (OpenSpec.ofChange fnShelfReadWrong)

/-- 'laws.FnShelfCut': WHATEVER THE INPUT: true; the input reads as it did. -/
def fnShelfCutSpec : ChangeSpec := { name := "fnShelfCut", fn := fun _ => fun
  | [d1, d2] => { results := [.lit (.bool true)], args := [d1, d2] }
  | _ => none }
def fnShelfCutRow : OpenClaim := { program := "ytdgigadocempdaa", sum := "fcc3bc7ea060cb0ffd0ef77959d85f8c0befbc248b8be6ed563b41fb9b800271", func := "loop.example/bargeman/laws.FnShelfCut", spec := "fnShelfCut", recurses := true, apart := false }
def FnShelfCutSaid : Prop := fnShelfCutRow.holds Try.pinned (OpenSpec.ofChange fnShelfCutSpec)

/-- ITS FALSE NEIGHBOUR: 'it returns false'. Refute it at one input. -/
def fnShelfCutWrong : ChangeSpec := { name := "fnShelfCut", fn := fun _ => fun
  | [d1, d2] => { results := [.lit (.bool false)], args := [d1, d2] }
  | _ => none }
def FnShelfCutWrongFalsely : Prop := fnShelfCutRow.holds Try.pinned (OpenSpec.ofChange fnShelfCutWrong)

/-- 'laws.FnShelfForce': WHATEVER THE INPUT: true; the input reads as it did. -/
def fnShelfForceSpec : ChangeSpec := { name := "fnShelfForce", fn := fun _ => fun
  | [d] => { results := [.lit (.bool true)], args := [d] }
  | _ => none }
def fnShelfForceRow : OpenClaim := { program := "ytdgigadocempdaa", sum := "fcc3bc7ea060cb0ffd0ef77959d85f8c0befbc248b8be6ed563b41fb9b800271", func := "loop.example/bargeman/laws.FnShelfForce", spec := "fnShelfForce", recurses := true, apart := false }
def FnShelfForceSaid : Prop := fnShelfForceRow.holds Try.pinned (OpenSpec.ofChange fnShelfForceSpec)

/-- ITS FALSE NEIGHBOUR: 'it returns false'. Refute it at one input. -/
def fnShelfForceWrong : ChangeSpec := { name := "fnShelfForce", fn := fun _ => fun
  | [d] => { results := [.lit (.bool false)], args := [d] }
  | _ => none }
def FnShelfForceWrongFalsely : Prop := fnShelfForceRow.holds Try.pinned (OpenSpec.ofChange fnShelfForceWrong)

/-- 'laws.FnShelfFall': WHATEVER THE INPUT: true; the input reads as it did. -/
def fnShelfFallSpec : ChangeSpec := { name := "fnShelfFall", fn := fun _ => fun
  | [d] => { results := [.lit (.bool true)], args := [d] }
  | _ => none }
def fnShelfFallRow : OpenClaim := { program := "ytdgigadocempdaa", sum := "fcc3bc7ea060cb0ffd0ef77959d85f8c0befbc248b8be6ed563b41fb9b800271", func := "loop.example/bargeman/laws.FnShelfFall", spec := "fnShelfFall", recurses := true, apart := false }
def FnShelfFallSaid : Prop := fnShelfFallRow.holds Try.pinned (OpenSpec.ofChange fnShelfFallSpec)

/-- ITS FALSE NEIGHBOUR: 'it returns false'. Refute it at one input. -/
def fnShelfFallWrong : ChangeSpec := { name := "fnShelfFall", fn := fun _ => fun
  | [d] => { results := [.lit (.bool false)], args := [d] }
  | _ => none }
def FnShelfFallWrongFalsely : Prop := fnShelfFallRow.holds Try.pinned (OpenSpec.ofChange fnShelfFallWrong)

/- THE SECOND FORM. 'bulk': how many values and letters a reading holds, each counted each time it is reached (what is shared counts as often as it is met; a slice's spare places count too). A statement '..UptoSaid' is the law's where the arguments, and the package variables that the reading takes, are together of bulk at most 1048576: NARROWER than '..Said'. Prove '..Said' where nothing that the law and all that it calls make is longer than what came in: it says more and counts as full. Else prove '..UptoSaid'. A law counts once. -/
mutual
def uptoBulk {H : Type} : DataW H → Nat
  | .lit (.string bytes) => bytes.length + 1
  | .lit _ => 1
  | .nil => 1
  | .ptr d => uptoBulk d + 1
  | .slice elems spare => uptoBulkAll elems + uptoBulkAll spare + 1
  | .agg parts => uptoBulkAll parts + 1
  | .iface _ d => uptoBulk d + 1
  | .map entries => uptoBulkEntries entries + 1
  | .held _ => 1
def uptoBulkAll {H : Type} : List (DataW H) → Nat
  | [] => 0
  | d :: r => uptoBulk d + uptoBulkAll r
def uptoBulkEntries {H : Type} : List (Lit × DataW H) → Nat
  | [] => 0
  | x :: r => uptoBulkEntry x + uptoBulkEntries r
def uptoBulkEntry {H : Type} : Lit × DataW H → Nat
  | (.string bytes, d) => bytes.length + uptoBulk d + 1
  | (_, d) => uptoBulk d + 1
 end
def uptoSmall : (H : Type) → List (DataW H) → Bool := fun _ ds => decide (uptoBulkAll ds ≤ 1048576)
def OpenSpec.upto (s : _root_.Go.ChangeSpec) : _root_.Go.OpenSpec := { _root_.Go.OpenSpec.ofChange s with cond := some uptoSmall }

/-- 'laws.FnExactShelfOk', WHERE WHAT IT READS IS OF BULK AT MOST 1048576: true; the input reads as it did. -/
def fnExactShelfOkUptoRow : OpenClaim := { program := "ytdgigadocempdaa", sum := "fcc3bc7ea060cb0ffd0ef77959d85f8c0befbc248b8be6ed563b41fb9b800271", func := "loop.example/bargeman/laws.FnExactShelfOk", spec := "fnExactShelfOk", recurses := true, apart := false, narrowed := true }
def FnExactShelfOkUptoSaid : Prop := fnExactShelfOkUptoRow.holds Try.pinned (OpenSpec.upto fnExactShelfOkSpec)

/-- 'laws.FnExactShelfRead', WHERE WHAT IT READS IS OF BULK AT MOST 1048576: true; the input reads as it did. -/
def fnExactShelfReadUptoRow : OpenClaim := { program := "ytdgigadocempdaa", sum := "fcc3bc7ea060cb0ffd0ef77959d85f8c0befbc248b8be6ed563b41fb9b800271", func := "loop.example/bargeman/laws.FnExactShelfRead", spec := "fnExactShelfRead", recurses := true, apart := false, narrowed := true }
def FnExactShelfReadUptoSaid : Prop := fnExactShelfReadUptoRow.holds Try.pinned (OpenSpec.upto fnExactShelfReadSpec)

/-- 'laws.FnExactShelfForce', WHERE WHAT IT READS IS OF BULK AT MOST 1048576: true; the input reads as it did. -/
def fnExactShelfForceUptoRow : OpenClaim := { program := "ytdgigadocempdaa", sum := "fcc3bc7ea060cb0ffd0ef77959d85f8c0befbc248b8be6ed563b41fb9b800271", func := "loop.example/bargeman/laws.FnExactShelfForce", spec := "fnExactShelfForce", recurses := true, apart := false, narrowed := true }
def FnExactShelfForceUptoSaid : Prop := fnExactShelfForceUptoRow.holds Try.pinned (OpenSpec.upto fnExactShelfForceSpec)

/-- 'laws.FnExactShelfFall', WHERE WHAT IT READS IS OF BULK AT MOST 1048576: true; the input reads as it did. -/
def fnExactShelfFallUptoRow : OpenClaim := { program := "ytdgigadocempdaa", sum := "fcc3bc7ea060cb0ffd0ef77959d85f8c0befbc248b8be6ed563b41fb9b800271", func := "loop.example/bargeman/laws.FnExactShelfFall", spec := "fnExactShelfFall", recurses := true, apart := false, narrowed := true }
def FnExactShelfFallUptoSaid : Prop := fnExactShelfFallUptoRow.holds Try.pinned (OpenSpec.upto fnExactShelfFallSpec)

/-- 'laws.FnExactKeepStart', WHERE WHAT IT READS IS OF BULK AT MOST 1048576: true; the input reads as it did. -/
def fnExactKeepStartUptoRow : OpenClaim := { program := "ytdgigadocempdaa", sum := "fcc3bc7ea060cb0ffd0ef77959d85f8c0befbc248b8be6ed563b41fb9b800271", func := "loop.example/bargeman/laws.FnExactKeepStart", spec := "fnExactKeepStart", apart := false, narrowed := true }
def FnExactKeepStartUptoSaid : Prop := fnExactKeepStartUptoRow.holds Try.pinned (OpenSpec.upto fnExactKeepStartSpec)

/-- 'laws.FnShelfRead', WHERE WHAT IT READS IS OF BULK AT MOST 1048576: true; the input reads as it did. -/
def fnShelfReadUptoRow : OpenClaim := { program := "ytdgigadocempdaa", sum := "fcc3bc7ea060cb0ffd0ef77959d85f8c0befbc248b8be6ed563b41fb9b800271", func := "loop.example/bargeman/laws.FnShelfRead", spec := "fnShelfRead", recurses := true, apart := false, narrowed := true }
def FnShelfReadUptoSaid : Prop := fnShelfReadUptoRow.holds Try.pinned (OpenSpec.upto fnShelfReadSpec)

/-- 'laws.FnShelfCut', WHERE WHAT IT READS IS OF BULK AT MOST 1048576: true; the input reads as it did. -/
def fnShelfCutUptoRow : OpenClaim := { program := "ytdgigadocempdaa", sum := "fcc3bc7ea060cb0ffd0ef77959d85f8c0befbc248b8be6ed563b41fb9b800271", func := "loop.example/bargeman/laws.FnShelfCut", spec := "fnShelfCut", recurses := true, apart := false, narrowed := true }
def FnShelfCutUptoSaid : Prop := fnShelfCutUptoRow.holds Try.pinned (OpenSpec.upto fnShelfCutSpec)

/-- 'laws.FnShelfForce', WHERE WHAT IT READS IS OF BULK AT MOST 1048576: true; the input reads as it did. -/
def fnShelfForceUptoRow : OpenClaim := { program := "ytdgigadocempdaa", sum := "fcc3bc7ea060cb0ffd0ef77959d85f8c0befbc248b8be6ed563b41fb9b800271", func := "loop.example/bargeman/laws.FnShelfForce", spec := "fnShelfForce", recurses := true, apart := false, narrowed := true }
def FnShelfForceUptoSaid : Prop := fnShelfForceUptoRow.holds Try.pinned (OpenSpec.upto fnShelfForceSpec)

/-- 'laws.FnShelfFall', WHERE WHAT IT READS IS OF BULK AT MOST 1048576: true; the input reads as it did. -/
def fnShelfFallUptoRow : OpenClaim := { program := "ytdgigadocempdaa", sum := "fcc3bc7ea060cb0ffd0ef77959d85f8c0befbc248b8be6ed563b41fb9b800271", func := "loop.example/bargeman/laws.FnShelfFall", spec := "fnShelfFall", recurses := true, apart := false, narrowed := true }
def FnShelfFallUptoSaid : Prop := fnShelfFallUptoRow.holds Try.pinned (OpenSpec.upto fnShelfFallSpec)

end Rows
end Go.Proofs.Ytdgigadocempdaa
