/-
  NARROWER THAN 'FOR EVERY INPUT', by the rows' own cells (each row's printed sentence says how): FnExactShelfAdd: laid · FnExactShelfPack: laid · FnShelfNone: laid · FnShelfTwo: laid · FnShelfAdd: laid · FnShelfSafe: laid · FnShelfPack: laid · FnExactNoteRead: laid · FnNoteText: laid · FnNoteStrict: laid · FnExactKeepRecs: laid.
  DERIVED. THE GIVEN ROWS OF THIS SEAT. 11 by the template 'for every input the law returns true; each argument reads behind the call as it read before'; 0 by the template 'total and deterministic' (their statements: YtidmkpeokahjoaaDoorTotals.lean).
  GIVEN WITH THE SEED: the statements are not yours to turn. If you find one false, say at which input.
  Laid BY PROGRAM, IN A SANDBOX (cutbox-rows.mjs): the forced cells as the released guide's own fill.sh prints them over the translation 836d3689d57efd93… (all of the seat's roots in one cut). By AI agents, Wed Nov 11 2026. No macro, syntax, notation, axiom, sorry.
-/
import Derived.Test.YtidmkpeokahjoaaDoorChecked
import GoSem.PinnedTables
import GoSem.Claim
import GoSem.ClaimJoined
import GoSem.ClaimMapViews
import Derived.JoinedTies
import Derived.KernelRfl
namespace Go.Proofs.YtidmkpeokahjoaaDoor
/- THE CELL 'sum', in the pinned program and in every row, IS THE sha256 OF THE DUMP (.gsa) THAT YtidmkpeokahjoaaDoorProg.lean LOADS. Nothing in Lean hashes anything: it is a label: what it is worth is what the hold of that sum in a sandbox is worth. -/
noncomputable def Tryd.pinned : Pinned := { name := "ytidmkpeokahjoaadoor", sum := "836d3689d57efd932d01048edb55e0da8ea2bb9e81d2e2b979e9fb911ecaac1f", checked := Tryd.checked }
namespace Rows
def none {H : Type} : Left H := { results := [], args := [] }

/- WHAT THE LISTED PACKAGE-LEVEL VARIABLES READ AS WHEN THE CALL BEGINS. Each datum BY PROGRAM (the guide's laid-datum.mjs) off the statement by which the dump's own 'gosem.cut.vars' lays the variable. In a bare row this is a premise. The card (YtidmkpeokahjoaaDoorCards.lean) ties it to the program's text. -/
def laid_math_bits_deBruijn32tab {H : Type} : DataW H := .agg [.lit (.int .u8 0), .lit (.int .u8 1), .lit (.int .u8 28), .lit (.int .u8 2), .lit (.int .u8 29), .lit (.int .u8 14), .lit (.int .u8 24), .lit (.int .u8 3), .lit (.int .u8 30), .lit (.int .u8 22), .lit (.int .u8 20), .lit (.int .u8 15), .lit (.int .u8 25), .lit (.int .u8 17), .lit (.int .u8 4), .lit (.int .u8 8), .lit (.int .u8 31), .lit (.int .u8 27), .lit (.int .u8 13), .lit (.int .u8 23), .lit (.int .u8 21), .lit (.int .u8 19), .lit (.int .u8 16), .lit (.int .u8 7), .lit (.int .u8 26), .lit (.int .u8 12), .lit (.int .u8 18), .lit (.int .u8 6), .lit (.int .u8 11), .lit (.int .u8 5), .lit (.int .u8 10), .lit (.int .u8 9)]
def laid_math_bits_deBruijn64tab {H : Type} : DataW H := .agg [.lit (.int .u8 0), .lit (.int .u8 1), .lit (.int .u8 56), .lit (.int .u8 2), .lit (.int .u8 57), .lit (.int .u8 49), .lit (.int .u8 28), .lit (.int .u8 3), .lit (.int .u8 61), .lit (.int .u8 58), .lit (.int .u8 42), .lit (.int .u8 50), .lit (.int .u8 38), .lit (.int .u8 29), .lit (.int .u8 17), .lit (.int .u8 4), .lit (.int .u8 62), .lit (.int .u8 47), .lit (.int .u8 59), .lit (.int .u8 36), .lit (.int .u8 45), .lit (.int .u8 43), .lit (.int .u8 51), .lit (.int .u8 22), .lit (.int .u8 53), .lit (.int .u8 39), .lit (.int .u8 33), .lit (.int .u8 30), .lit (.int .u8 24), .lit (.int .u8 18), .lit (.int .u8 12), .lit (.int .u8 5), .lit (.int .u8 63), .lit (.int .u8 55), .lit (.int .u8 48), .lit (.int .u8 27), .lit (.int .u8 60), .lit (.int .u8 41), .lit (.int .u8 37), .lit (.int .u8 16), .lit (.int .u8 46), .lit (.int .u8 35), .lit (.int .u8 44), .lit (.int .u8 21), .lit (.int .u8 52), .lit (.int .u8 32), .lit (.int .u8 23), .lit (.int .u8 11), .lit (.int .u8 54), .lit (.int .u8 26), .lit (.int .u8 40), .lit (.int .u8 15), .lit (.int .u8 34), .lit (.int .u8 20), .lit (.int .u8 31), .lit (.int .u8 10), .lit (.int .u8 25), .lit (.int .u8 14), .lit (.int .u8 19), .lit (.int .u8 9), .lit (.int .u8 13), .lit (.int .u8 8), .lit (.int .u8 7), .lit (.int .u8 6)]
def laid_internal_strconv_uint64pow10 {H : Type} : DataW H := .agg [.lit (.int .u64 1), .lit (.int .u64 10), .lit (.int .u64 100), .lit (.int .u64 1000), .lit (.int .u64 10000), .lit (.int .u64 100000), .lit (.int .u64 1000000), .lit (.int .u64 10000000), .lit (.int .u64 100000000), .lit (.int .u64 1000000000), .lit (.int .u64 10000000000), .lit (.int .u64 100000000000), .lit (.int .u64 1000000000000), .lit (.int .u64 10000000000000), .lit (.int .u64 100000000000000), .lit (.int .u64 1000000000000000), .lit (.int .u64 10000000000000000), .lit (.int .u64 100000000000000000), .lit (.int .u64 1000000000000000000), .lit (.int .u64 10000000000000000000)]
def laid_unicode_utf8_acceptRanges {H : Type} : DataW H := .agg [.agg [.lit (.int .u8 128), .lit (.int .u8 191)], .agg [.lit (.int .u8 160), .lit (.int .u8 191)], .agg [.lit (.int .u8 128), .lit (.int .u8 159)], .agg [.lit (.int .u8 144), .lit (.int .u8 191)], .agg [.lit (.int .u8 128), .lit (.int .u8 143)], .agg [.lit (.int .u8 0), .lit (.int .u8 0)], .agg [.lit (.int .u8 0), .lit (.int .u8 0)], .agg [.lit (.int .u8 0), .lit (.int .u8 0)], .agg [.lit (.int .u8 0), .lit (.int .u8 0)], .agg [.lit (.int .u8 0), .lit (.int .u8 0)], .agg [.lit (.int .u8 0), .lit (.int .u8 0)], .agg [.lit (.int .u8 0), .lit (.int .u8 0)], .agg [.lit (.int .u8 0), .lit (.int .u8 0)], .agg [.lit (.int .u8 0), .lit (.int .u8 0)], .agg [.lit (.int .u8 0), .lit (.int .u8 0)], .agg [.lit (.int .u8 0), .lit (.int .u8 0)]]
/-- One of Go's own tables, pinned by name: the form's constant. -/
def laid_unicode_utf8_first : DataW Unit := Go.Pinned.utf8First

/-- 'laws.FnExactShelfAdd': WHATEVER THE INPUT: true; the input reads as it did. -/
def fnExactShelfAddSpec : ChangeSpec := { name := "fnExactShelfAdd", fn := fun _ => fun
  | [d1, d2] => { results := [.lit (.bool true)], args := [d1, d2] }
  | _ => none }
def fnExactShelfAddRow : OpenClaim := { program := "ytidmkpeokahjoaadoor", sum := "836d3689d57efd932d01048edb55e0da8ea2bb9e81d2e2b979e9fb911ecaac1f", func := "loop.example/bargeman/laws.FnExactShelfAdd", spec := "fnExactShelfAdd", recurses := true, named := ["internal/strconv.uint64pow10", "math/bits.deBruijn32tab", "math/bits.deBruijn64tab"], apart := false, laid := [("math/bits.deBruijn32tab", laid_math_bits_deBruijn32tab), ("math/bits.deBruijn64tab", laid_math_bits_deBruijn64tab), ("internal/strconv.uint64pow10", laid_internal_strconv_uint64pow10)] }
def FnExactShelfAddSaid : Prop := fnExactShelfAddRow.holds Tryd.pinned (OpenSpec.ofChange fnExactShelfAddSpec)

/-- ITS FALSE NEIGHBOUR: 'it returns false'. Refute it at one input. -/
def fnExactShelfAddWrong : ChangeSpec := { name := "fnExactShelfAdd", fn := fun _ => fun
  | [d1, d2] => { results := [.lit (.bool false)], args := [d1, d2] }
  | _ => none }
def FnExactShelfAddWrongFalsely : Prop := fnExactShelfAddRow.holds Tryd.pinned (OpenSpec.ofChange fnExactShelfAddWrong)

/-- 'laws.FnExactShelfPack': WHATEVER THE INPUT: true; the input reads as it did. -/
def fnExactShelfPackSpec : ChangeSpec := { name := "fnExactShelfPack", fn := fun _ => fun
  | [d1, d2] => { results := [.lit (.bool true)], args := [d1, d2] }
  | _ => none }
def fnExactShelfPackRow : OpenClaim := { program := "ytidmkpeokahjoaadoor", sum := "836d3689d57efd932d01048edb55e0da8ea2bb9e81d2e2b979e9fb911ecaac1f", func := "loop.example/bargeman/laws.FnExactShelfPack", spec := "fnExactShelfPack", recurses := true, named := ["internal/strconv.uint64pow10", "math/bits.deBruijn32tab", "math/bits.deBruijn64tab"], apart := false, laid := [("math/bits.deBruijn32tab", laid_math_bits_deBruijn32tab), ("math/bits.deBruijn64tab", laid_math_bits_deBruijn64tab), ("internal/strconv.uint64pow10", laid_internal_strconv_uint64pow10)] }
def FnExactShelfPackSaid : Prop := fnExactShelfPackRow.holds Tryd.pinned (OpenSpec.ofChange fnExactShelfPackSpec)

/-- ITS FALSE NEIGHBOUR: 'it returns false'. Refute it at one input. -/
def fnExactShelfPackWrong : ChangeSpec := { name := "fnExactShelfPack", fn := fun _ => fun
  | [d1, d2] => { results := [.lit (.bool false)], args := [d1, d2] }
  | _ => none }
def FnExactShelfPackWrongFalsely : Prop := fnExactShelfPackRow.holds Tryd.pinned (OpenSpec.ofChange fnExactShelfPackWrong)

/-- 'laws.FnShelfNone': WHATEVER THE INPUT: true; the input reads as it did. -/
def fnShelfNoneSpec : ChangeSpec := { name := "fnShelfNone", fn := fun _ => fun
  | [d] => { results := [.lit (.bool true)], args := [d] }
  | _ => none }
def fnShelfNoneRow : OpenClaim := { program := "ytidmkpeokahjoaadoor", sum := "836d3689d57efd932d01048edb55e0da8ea2bb9e81d2e2b979e9fb911ecaac1f", func := "loop.example/bargeman/laws.FnShelfNone", spec := "fnShelfNone", recurses := true, named := ["internal/strconv.uint64pow10", "math/bits.deBruijn32tab", "math/bits.deBruijn64tab"], apart := false, laid := [("math/bits.deBruijn32tab", laid_math_bits_deBruijn32tab), ("math/bits.deBruijn64tab", laid_math_bits_deBruijn64tab), ("internal/strconv.uint64pow10", laid_internal_strconv_uint64pow10)] }
def FnShelfNoneSaid : Prop := fnShelfNoneRow.holds Tryd.pinned (OpenSpec.ofChange fnShelfNoneSpec)

/-- ITS FALSE NEIGHBOUR: 'it returns false'. Refute it at one input. -/
def fnShelfNoneWrong : ChangeSpec := { name := "fnShelfNone", fn := fun _ => fun
  | [d] => { results := [.lit (.bool false)], args := [d] }
  | _ => none }
def FnShelfNoneWrongFalsely : Prop := fnShelfNoneRow.holds Tryd.pinned (OpenSpec.ofChange fnShelfNoneWrong)

/-- 'laws.FnShelfTwo': WHATEVER THE INPUT: true; the input reads as it did. -/
def fnShelfTwoSpec : ChangeSpec := { name := "fnShelfTwo", fn := fun _ => fun
  | [d] => { results := [.lit (.bool true)], args := [d] }
  | _ => none }
def fnShelfTwoRow : OpenClaim := { program := "ytidmkpeokahjoaadoor", sum := "836d3689d57efd932d01048edb55e0da8ea2bb9e81d2e2b979e9fb911ecaac1f", func := "loop.example/bargeman/laws.FnShelfTwo", spec := "fnShelfTwo", recurses := true, named := ["internal/strconv.uint64pow10", "math/bits.deBruijn32tab", "math/bits.deBruijn64tab"], apart := false, laid := [("math/bits.deBruijn32tab", laid_math_bits_deBruijn32tab), ("math/bits.deBruijn64tab", laid_math_bits_deBruijn64tab), ("internal/strconv.uint64pow10", laid_internal_strconv_uint64pow10)] }
def FnShelfTwoSaid : Prop := fnShelfTwoRow.holds Tryd.pinned (OpenSpec.ofChange fnShelfTwoSpec)

/-- ITS FALSE NEIGHBOUR: 'it returns false'. Refute it at one input. -/
def fnShelfTwoWrong : ChangeSpec := { name := "fnShelfTwo", fn := fun _ => fun
  | [d] => { results := [.lit (.bool false)], args := [d] }
  | _ => none }
def FnShelfTwoWrongFalsely : Prop := fnShelfTwoRow.holds Tryd.pinned (OpenSpec.ofChange fnShelfTwoWrong)

/-- 'laws.FnShelfAdd': WHATEVER THE INPUT: true; the input reads as it did. -/
def fnShelfAddSpec : ChangeSpec := { name := "fnShelfAdd", fn := fun _ => fun
  | [d] => { results := [.lit (.bool true)], args := [d] }
  | _ => none }
def fnShelfAddRow : OpenClaim := { program := "ytidmkpeokahjoaadoor", sum := "836d3689d57efd932d01048edb55e0da8ea2bb9e81d2e2b979e9fb911ecaac1f", func := "loop.example/bargeman/laws.FnShelfAdd", spec := "fnShelfAdd", recurses := true, named := ["internal/strconv.uint64pow10", "math/bits.deBruijn32tab", "math/bits.deBruijn64tab"], apart := false, laid := [("math/bits.deBruijn32tab", laid_math_bits_deBruijn32tab), ("math/bits.deBruijn64tab", laid_math_bits_deBruijn64tab), ("internal/strconv.uint64pow10", laid_internal_strconv_uint64pow10)] }
def FnShelfAddSaid : Prop := fnShelfAddRow.holds Tryd.pinned (OpenSpec.ofChange fnShelfAddSpec)

/-- ITS FALSE NEIGHBOUR: 'it returns false'. Refute it at one input. -/
def fnShelfAddWrong : ChangeSpec := { name := "fnShelfAdd", fn := fun _ => fun
  | [d] => { results := [.lit (.bool false)], args := [d] }
  | _ => none }
def FnShelfAddWrongFalsely : Prop := fnShelfAddRow.holds Tryd.pinned (OpenSpec.ofChange fnShelfAddWrong)

/-- 'laws.FnShelfSafe': WHATEVER THE INPUT: true; the input reads as it did. -/
def fnShelfSafeSpec : ChangeSpec := { name := "fnShelfSafe", fn := fun _ => fun
  | [d] => { results := [.lit (.bool true)], args := [d] }
  | _ => none }
def fnShelfSafeRow : OpenClaim := { program := "ytidmkpeokahjoaadoor", sum := "836d3689d57efd932d01048edb55e0da8ea2bb9e81d2e2b979e9fb911ecaac1f", func := "loop.example/bargeman/laws.FnShelfSafe", spec := "fnShelfSafe", recurses := true, named := ["internal/strconv.uint64pow10", "math/bits.deBruijn32tab", "math/bits.deBruijn64tab"], apart := false, laid := [("math/bits.deBruijn32tab", laid_math_bits_deBruijn32tab), ("math/bits.deBruijn64tab", laid_math_bits_deBruijn64tab), ("internal/strconv.uint64pow10", laid_internal_strconv_uint64pow10)] }
def FnShelfSafeSaid : Prop := fnShelfSafeRow.holds Tryd.pinned (OpenSpec.ofChange fnShelfSafeSpec)

/-- ITS FALSE NEIGHBOUR: 'it returns false'. Refute it at one input. -/
def fnShelfSafeWrong : ChangeSpec := { name := "fnShelfSafe", fn := fun _ => fun
  | [d] => { results := [.lit (.bool false)], args := [d] }
  | _ => none }
def FnShelfSafeWrongFalsely : Prop := fnShelfSafeRow.holds Tryd.pinned (OpenSpec.ofChange fnShelfSafeWrong)

/-- 'laws.FnShelfPack': WHATEVER THE INPUT: true; the input reads as it did. -/
def fnShelfPackSpec : ChangeSpec := { name := "fnShelfPack", fn := fun _ => fun
  | [d] => { results := [.lit (.bool true)], args := [d] }
  | _ => none }
def fnShelfPackRow : OpenClaim := { program := "ytidmkpeokahjoaadoor", sum := "836d3689d57efd932d01048edb55e0da8ea2bb9e81d2e2b979e9fb911ecaac1f", func := "loop.example/bargeman/laws.FnShelfPack", spec := "fnShelfPack", recurses := true, named := ["internal/strconv.uint64pow10", "math/bits.deBruijn32tab", "math/bits.deBruijn64tab"], apart := false, laid := [("math/bits.deBruijn32tab", laid_math_bits_deBruijn32tab), ("math/bits.deBruijn64tab", laid_math_bits_deBruijn64tab), ("internal/strconv.uint64pow10", laid_internal_strconv_uint64pow10)] }
def FnShelfPackSaid : Prop := fnShelfPackRow.holds Tryd.pinned (OpenSpec.ofChange fnShelfPackSpec)

/-- ITS FALSE NEIGHBOUR: 'it returns false'. Refute it at one input. -/
def fnShelfPackWrong : ChangeSpec := { name := "fnShelfPack", fn := fun _ => fun
  | [d] => { results := [.lit (.bool false)], args := [d] }
  | _ => none }
def FnShelfPackWrongFalsely : Prop := fnShelfPackRow.holds Tryd.pinned (OpenSpec.ofChange fnShelfPackWrong)

/-- 'laws.FnExactNoteRead': WHATEVER THE INPUT: true; the input reads as it did. -/
def fnExactNoteReadSpec : ChangeSpec := { name := "fnExactNoteRead", fn := fun _ => fun
  | [d] => { results := [.lit (.bool true)], args := [d] }
  | _ => none }
def fnExactNoteReadRow : OpenClaim := { program := "ytidmkpeokahjoaadoor", sum := "836d3689d57efd932d01048edb55e0da8ea2bb9e81d2e2b979e9fb911ecaac1f", func := "loop.example/bargeman/laws.FnExactNoteRead", spec := "fnExactNoteRead", inPlace := ["internal/bytealg.CountString", "internal/bytealg.IndexByteString", "internal/bytealg.IndexString"], recurses := true, named := ["unicode/utf8.first", "unicode/utf8.acceptRanges", "internal/bytealg.MaxLen", "internal/strconv.uint64pow10", "math/bits.deBruijn32tab", "math/bits.deBruijn64tab"], apart := false, laid := [("math/bits.deBruijn32tab", laid_math_bits_deBruijn32tab), ("math/bits.deBruijn64tab", laid_math_bits_deBruijn64tab), ("internal/strconv.uint64pow10", laid_internal_strconv_uint64pow10), ("unicode/utf8.acceptRanges", laid_unicode_utf8_acceptRanges), ("unicode/utf8.first", laid_unicode_utf8_first)] }
def FnExactNoteReadSaid : Prop := fnExactNoteReadRow.holds Tryd.pinned (OpenSpec.ofChange fnExactNoteReadSpec)

/-- ITS FALSE NEIGHBOUR: 'it returns false'. Refute it at one input. -/
def fnExactNoteReadWrong : ChangeSpec := { name := "fnExactNoteRead", fn := fun _ => fun
  | [d] => { results := [.lit (.bool false)], args := [d] }
  | _ => none }
def FnExactNoteReadWrongFalsely : Prop := fnExactNoteReadRow.holds Tryd.pinned (OpenSpec.ofChange fnExactNoteReadWrong)

/-- 'laws.FnNoteText': WHATEVER THE INPUT: true; the input reads as it did. -/
def fnNoteTextSpec : ChangeSpec := { name := "fnNoteText", fn := fun _ => fun
  | [d] => { results := [.lit (.bool true)], args := [d] }
  | _ => none }
def fnNoteTextRow : OpenClaim := { program := "ytidmkpeokahjoaadoor", sum := "836d3689d57efd932d01048edb55e0da8ea2bb9e81d2e2b979e9fb911ecaac1f", func := "loop.example/bargeman/laws.FnNoteText", spec := "fnNoteText", inPlace := ["internal/bytealg.CountString", "internal/bytealg.IndexByteString", "internal/bytealg.IndexString"], recurses := true, named := ["internal/strconv.uint64pow10", "math/bits.deBruijn32tab", "math/bits.deBruijn64tab", "unicode/utf8.first", "unicode/utf8.acceptRanges", "internal/bytealg.MaxLen"], apart := false, laid := [("math/bits.deBruijn32tab", laid_math_bits_deBruijn32tab), ("math/bits.deBruijn64tab", laid_math_bits_deBruijn64tab), ("internal/strconv.uint64pow10", laid_internal_strconv_uint64pow10), ("unicode/utf8.acceptRanges", laid_unicode_utf8_acceptRanges), ("unicode/utf8.first", laid_unicode_utf8_first)] }
def FnNoteTextSaid : Prop := fnNoteTextRow.holds Tryd.pinned (OpenSpec.ofChange fnNoteTextSpec)

/-- ITS FALSE NEIGHBOUR: 'it returns false'. Refute it at one input. -/
def fnNoteTextWrong : ChangeSpec := { name := "fnNoteText", fn := fun _ => fun
  | [d] => { results := [.lit (.bool false)], args := [d] }
  | _ => none }
def FnNoteTextWrongFalsely : Prop := fnNoteTextRow.holds Tryd.pinned (OpenSpec.ofChange fnNoteTextWrong)

/-- 'laws.FnNoteStrict': WHATEVER THE INPUT: true; the input reads as it did. -/
def fnNoteStrictSpec : ChangeSpec := { name := "fnNoteStrict", fn := fun _ => fun
  | [d] => { results := [.lit (.bool true)], args := [d] }
  | _ => none }
def fnNoteStrictRow : OpenClaim := { program := "ytidmkpeokahjoaadoor", sum := "836d3689d57efd932d01048edb55e0da8ea2bb9e81d2e2b979e9fb911ecaac1f", func := "loop.example/bargeman/laws.FnNoteStrict", spec := "fnNoteStrict", inPlace := ["internal/bytealg.CountString", "internal/bytealg.IndexByteString", "internal/bytealg.IndexString"], recurses := true, named := ["unicode/utf8.first", "unicode/utf8.acceptRanges", "internal/bytealg.MaxLen", "internal/strconv.uint64pow10", "math/bits.deBruijn32tab", "math/bits.deBruijn64tab"], apart := false, laid := [("math/bits.deBruijn32tab", laid_math_bits_deBruijn32tab), ("math/bits.deBruijn64tab", laid_math_bits_deBruijn64tab), ("internal/strconv.uint64pow10", laid_internal_strconv_uint64pow10), ("unicode/utf8.acceptRanges", laid_unicode_utf8_acceptRanges), ("unicode/utf8.first", laid_unicode_utf8_first)] }
def FnNoteStrictSaid : Prop := fnNoteStrictRow.holds Tryd.pinned (OpenSpec.ofChange fnNoteStrictSpec)

/-- ITS FALSE NEIGHBOUR: 'it returns false'. Refute it at one input. -/
def fnNoteStrictWrong : ChangeSpec := { name := "fnNoteStrict", fn := fun _ => fun
  | [d] => { results := [.lit (.bool false)], args := [d] }
  | _ => none }
def FnNoteStrictWrongFalsely : Prop := fnNoteStrictRow.holds Tryd.pinned (OpenSpec.ofChange fnNoteStrictWrong)

/-- 'laws.FnExactKeepRecs': WHATEVER THE INPUT: true; the input reads as it did. -/
def fnExactKeepRecsSpec : ChangeSpec := { name := "fnExactKeepRecs", fn := fun _ => fun
  | [d] => { results := [.lit (.bool true)], args := [d] }
  | _ => none }
def fnExactKeepRecsRow : OpenClaim := { program := "ytidmkpeokahjoaadoor", sum := "836d3689d57efd932d01048edb55e0da8ea2bb9e81d2e2b979e9fb911ecaac1f", func := "loop.example/bargeman/laws.FnExactKeepRecs", spec := "fnExactKeepRecs", recurses := true, named := ["internal/strconv.uint64pow10", "math/bits.deBruijn32tab", "math/bits.deBruijn64tab"], apart := false, laid := [("math/bits.deBruijn32tab", laid_math_bits_deBruijn32tab), ("math/bits.deBruijn64tab", laid_math_bits_deBruijn64tab), ("internal/strconv.uint64pow10", laid_internal_strconv_uint64pow10)] }
def FnExactKeepRecsSaid : Prop := fnExactKeepRecsRow.holds Tryd.pinned (OpenSpec.ofChange fnExactKeepRecsSpec)

/-- ITS FALSE NEIGHBOUR: 'it returns false'. Refute it at one input. -/
def fnExactKeepRecsWrong : ChangeSpec := { name := "fnExactKeepRecs", fn := fun _ => fun
  | [d] => { results := [.lit (.bool false)], args := [d] }
  | _ => none }
def FnExactKeepRecsWrongFalsely : Prop := fnExactKeepRecsRow.holds Tryd.pinned (OpenSpec.ofChange fnExactKeepRecsWrong)

/- THE SECOND FORM. 'bulk': how many values and letters a reading holds, each counted each time it is reached (what is shared counts as often as it is met; a slice's spare places count too). A statement '..UptoSaid' is the law's where the arguments, and the package variables that the reading takes, are together of bulk at most 1048576: NARROWER than '..Said'. Prove '..Said' where nothing that the law and all that it calls make is longer than what came in: it says more and counts as full. Else prove '..UptoSaid'. A law counts once. -/
mutual
def uptoBulk {H : Type} : DataW H → Nat
  | .lit (.string bytes) => bytes.length + 1
  | .lit _ => 1
  | .nil => 1
  | .ptr d => uptoBulk d + 1
  | .slice elems spare => uptoBulkAll elems + uptoBulkAll spare + 1
  | .agg parts => uptoBulkAll parts + 1
  | .iface _ d => uptoBulk d + 1
  | .map entries => uptoBulkEntries entries + 1
  | .held _ => 1
def uptoBulkAll {H : Type} : List (DataW H) → Nat
  | [] => 0
  | d :: r => uptoBulk d + uptoBulkAll r
def uptoBulkEntries {H : Type} : List (Lit × DataW H) → Nat
  | [] => 0
  | x :: r => uptoBulkEntry x + uptoBulkEntries r
def uptoBulkEntry {H : Type} : Lit × DataW H → Nat
  | (.string bytes, d) => bytes.length + uptoBulk d + 1
  | (_, d) => uptoBulk d + 1
 end
def uptoSmall : (H : Type) → List (DataW H) → Bool := fun _ ds => decide (uptoBulkAll ds ≤ 1048576)
def OpenSpec.upto (s : _root_.Go.ChangeSpec) : _root_.Go.OpenSpec := { _root_.Go.OpenSpec.ofChange s with cond := some uptoSmall }

/-- 'laws.FnExactShelfAdd', WHERE WHAT IT READS IS OF BULK AT MOST 1048576: true; the input reads as it did. -/
def fnExactShelfAddUptoRow : OpenClaim := { program := "ytidmkpeokahjoaadoor", sum := "836d3689d57efd932d01048edb55e0da8ea2bb9e81d2e2b979e9fb911ecaac1f", func := "loop.example/bargeman/laws.FnExactShelfAdd", spec := "fnExactShelfAdd", recurses := true, named := ["internal/strconv.uint64pow10", "math/bits.deBruijn32tab", "math/bits.deBruijn64tab"], apart := false, laid := [("math/bits.deBruijn32tab", laid_math_bits_deBruijn32tab), ("math/bits.deBruijn64tab", laid_math_bits_deBruijn64tab), ("internal/strconv.uint64pow10", laid_internal_strconv_uint64pow10)], narrowed := true }
def FnExactShelfAddUptoSaid : Prop := fnExactShelfAddUptoRow.holds Tryd.pinned (OpenSpec.upto fnExactShelfAddSpec)

/-- 'laws.FnExactShelfPack', WHERE WHAT IT READS IS OF BULK AT MOST 1048576: true; the input reads as it did. -/
def fnExactShelfPackUptoRow : OpenClaim := { program := "ytidmkpeokahjoaadoor", sum := "836d3689d57efd932d01048edb55e0da8ea2bb9e81d2e2b979e9fb911ecaac1f", func := "loop.example/bargeman/laws.FnExactShelfPack", spec := "fnExactShelfPack", recurses := true, named := ["internal/strconv.uint64pow10", "math/bits.deBruijn32tab", "math/bits.deBruijn64tab"], apart := false, laid := [("math/bits.deBruijn32tab", laid_math_bits_deBruijn32tab), ("math/bits.deBruijn64tab", laid_math_bits_deBruijn64tab), ("internal/strconv.uint64pow10", laid_internal_strconv_uint64pow10)], narrowed := true }
def FnExactShelfPackUptoSaid : Prop := fnExactShelfPackUptoRow.holds Tryd.pinned (OpenSpec.upto fnExactShelfPackSpec)

/-- 'laws.FnShelfNone', WHERE WHAT IT READS IS OF BULK AT MOST 1048576: true; the input reads as it did. -/
def fnShelfNoneUptoRow : OpenClaim := { program := "ytidmkpeokahjoaadoor", sum := "836d3689d57efd932d01048edb55e0da8ea2bb9e81d2e2b979e9fb911ecaac1f", func := "loop.example/bargeman/laws.FnShelfNone", spec := "fnShelfNone", recurses := true, named := ["internal/strconv.uint64pow10", "math/bits.deBruijn32tab", "math/bits.deBruijn64tab"], apart := false, laid := [("math/bits.deBruijn32tab", laid_math_bits_deBruijn32tab), ("math/bits.deBruijn64tab", laid_math_bits_deBruijn64tab), ("internal/strconv.uint64pow10", laid_internal_strconv_uint64pow10)], narrowed := true }
def FnShelfNoneUptoSaid : Prop := fnShelfNoneUptoRow.holds Tryd.pinned (OpenSpec.upto fnShelfNoneSpec)

/-- 'laws.FnShelfTwo', WHERE WHAT IT READS IS OF BULK AT MOST 1048576: true; the input reads as it did. -/
def fnShelfTwoUptoRow : OpenClaim := { program := "ytidmkpeokahjoaadoor", sum := "836d3689d57efd932d01048edb55e0da8ea2bb9e81d2e2b979e9fb911ecaac1f", func := "loop.example/bargeman/laws.FnShelfTwo", spec := "fnShelfTwo", recurses := true, named := ["internal/strconv.uint64pow10", "math/bits.deBruijn32tab", "math/bits.deBruijn64tab"], apart := false, laid := [("math/bits.deBruijn32tab", laid_math_bits_deBruijn32tab), ("math/bits.deBruijn64tab", laid_math_bits_deBruijn64tab), ("internal/strconv.uint64pow10", laid_internal_strconv_uint64pow10)], narrowed := true }
def FnShelfTwoUptoSaid : Prop := fnShelfTwoUptoRow.holds Tryd.pinned (OpenSpec.upto fnShelfTwoSpec)

/-- 'laws.FnShelfAdd', WHERE WHAT IT READS IS OF BULK AT MOST 1048576: true; the input reads as it did. -/
def fnShelfAddUptoRow : OpenClaim := { program := "ytidmkpeokahjoaadoor", sum := "836d3689d57efd932d01048edb55e0da8ea2bb9e81d2e2b979e9fb911ecaac1f", func := "loop.example/bargeman/laws.FnShelfAdd", spec := "fnShelfAdd", recurses := true, named := ["internal/strconv.uint64pow10", "math/bits.deBruijn32tab", "math/bits.deBruijn64tab"], apart := false, laid := [("math/bits.deBruijn32tab", laid_math_bits_deBruijn32tab), ("math/bits.deBruijn64tab", laid_math_bits_deBruijn64tab), ("internal/strconv.uint64pow10", laid_internal_strconv_uint64pow10)], narrowed := true }
def FnShelfAddUptoSaid : Prop := fnShelfAddUptoRow.holds Tryd.pinned (OpenSpec.upto fnShelfAddSpec)

/-- 'laws.FnShelfSafe', WHERE WHAT IT READS IS OF BULK AT MOST 1048576: true; the input reads as it did. -/
def fnShelfSafeUptoRow : OpenClaim := { program := "ytidmkpeokahjoaadoor", sum := "836d3689d57efd932d01048edb55e0da8ea2bb9e81d2e2b979e9fb911ecaac1f", func := "loop.example/bargeman/laws.FnShelfSafe", spec := "fnShelfSafe", recurses := true, named := ["internal/strconv.uint64pow10", "math/bits.deBruijn32tab", "math/bits.deBruijn64tab"], apart := false, laid := [("math/bits.deBruijn32tab", laid_math_bits_deBruijn32tab), ("math/bits.deBruijn64tab", laid_math_bits_deBruijn64tab), ("internal/strconv.uint64pow10", laid_internal_strconv_uint64pow10)], narrowed := true }
def FnShelfSafeUptoSaid : Prop := fnShelfSafeUptoRow.holds Tryd.pinned (OpenSpec.upto fnShelfSafeSpec)

/-- 'laws.FnShelfPack', WHERE WHAT IT READS IS OF BULK AT MOST 1048576: true; the input reads as it did. -/
def fnShelfPackUptoRow : OpenClaim := { program := "ytidmkpeokahjoaadoor", sum := "836d3689d57efd932d01048edb55e0da8ea2bb9e81d2e2b979e9fb911ecaac1f", func := "loop.example/bargeman/laws.FnShelfPack", spec := "fnShelfPack", recurses := true, named := ["internal/strconv.uint64pow10", "math/bits.deBruijn32tab", "math/bits.deBruijn64tab"], apart := false, laid := [("math/bits.deBruijn32tab", laid_math_bits_deBruijn32tab), ("math/bits.deBruijn64tab", laid_math_bits_deBruijn64tab), ("internal/strconv.uint64pow10", laid_internal_strconv_uint64pow10)], narrowed := true }
def FnShelfPackUptoSaid : Prop := fnShelfPackUptoRow.holds Tryd.pinned (OpenSpec.upto fnShelfPackSpec)

/-- 'laws.FnExactNoteRead', WHERE WHAT IT READS IS OF BULK AT MOST 1048576: true; the input reads as it did. -/
def fnExactNoteReadUptoRow : OpenClaim := { program := "ytidmkpeokahjoaadoor", sum := "836d3689d57efd932d01048edb55e0da8ea2bb9e81d2e2b979e9fb911ecaac1f", func := "loop.example/bargeman/laws.FnExactNoteRead", spec := "fnExactNoteRead", inPlace := ["internal/bytealg.CountString", "internal/bytealg.IndexByteString", "internal/bytealg.IndexString"], recurses := true, named := ["unicode/utf8.first", "unicode/utf8.acceptRanges", "internal/bytealg.MaxLen", "internal/strconv.uint64pow10", "math/bits.deBruijn32tab", "math/bits.deBruijn64tab"], apart := false, laid := [("math/bits.deBruijn32tab", laid_math_bits_deBruijn32tab), ("math/bits.deBruijn64tab", laid_math_bits_deBruijn64tab), ("internal/strconv.uint64pow10", laid_internal_strconv_uint64pow10), ("unicode/utf8.acceptRanges", laid_unicode_utf8_acceptRanges), ("unicode/utf8.first", laid_unicode_utf8_first)], narrowed := true }
def FnExactNoteReadUptoSaid : Prop := fnExactNoteReadUptoRow.holds Tryd.pinned (OpenSpec.upto fnExactNoteReadSpec)

/-- 'laws.FnNoteText', WHERE WHAT IT READS IS OF BULK AT MOST 1048576: true; the input reads as it did. -/
def fnNoteTextUptoRow : OpenClaim := { program := "ytidmkpeokahjoaadoor", sum := "836d3689d57efd932d01048edb55e0da8ea2bb9e81d2e2b979e9fb911ecaac1f", func := "loop.example/bargeman/laws.FnNoteText", spec := "fnNoteText", inPlace := ["internal/bytealg.CountString", "internal/bytealg.IndexByteString", "internal/bytealg.IndexString"], recurses := true, named := ["internal/strconv.uint64pow10", "math/bits.deBruijn32tab", "math/bits.deBruijn64tab", "unicode/utf8.first", "unicode/utf8.acceptRanges", "internal/bytealg.MaxLen"], apart := false, laid := [("math/bits.deBruijn32tab", laid_math_bits_deBruijn32tab), ("math/bits.deBruijn64tab", laid_math_bits_deBruijn64tab), ("internal/strconv.uint64pow10", laid_internal_strconv_uint64pow10), ("unicode/utf8.acceptRanges", laid_unicode_utf8_acceptRanges), ("unicode/utf8.first", laid_unicode_utf8_first)], narrowed := true }
def FnNoteTextUptoSaid : Prop := fnNoteTextUptoRow.holds Tryd.pinned (OpenSpec.upto fnNoteTextSpec)

/-- 'laws.FnNoteStrict', WHERE WHAT IT READS IS OF BULK AT MOST 1048576: true; the input reads as it did. -/
def fnNoteStrictUptoRow : OpenClaim := { program := "ytidmkpeokahjoaadoor", sum := "836d3689d57efd932d01048edb55e0da8ea2bb9e81d2e2b979e9fb911ecaac1f", func := "loop.example/bargeman/laws.FnNoteStrict", spec := "fnNoteStrict", inPlace := ["internal/bytealg.CountString", "internal/bytealg.IndexByteString", "internal/bytealg.IndexString"], recurses := true, named := ["unicode/utf8.first", "unicode/utf8.acceptRanges", "internal/bytealg.MaxLen", "internal/strconv.uint64pow10", "math/bits.deBruijn32tab", "math/bits.deBruijn64tab"], apart := false, laid := [("math/bits.deBruijn32tab", laid_math_bits_deBruijn32tab), ("math/bits.deBruijn64tab", laid_math_bits_deBruijn64tab), ("internal/strconv.uint64pow10", laid_internal_strconv_uint64pow10), ("unicode/utf8.acceptRanges", laid_unicode_utf8_acceptRanges), ("unicode/utf8.first", laid_unicode_utf8_first)], narrowed := true }
def FnNoteStrictUptoSaid : Prop := fnNoteStrictUptoRow.holds Tryd.pinned (OpenSpec.upto fnNoteStrictSpec)

/-- 'laws.FnExactKeepRecs', WHERE WHAT IT READS IS OF BULK AT MOST 1048576: true; the input reads as it did. -/
def fnExactKeepRecsUptoRow : OpenClaim := { program := "ytidmkpeokahjoaadoor", sum := "836d3689d57efd932d01048edb55e0da8ea2bb9e81d2e2b979e9fb911ecaac1f", func := "loop.example/bargeman/laws.FnExactKeepRecs", spec := "fnExactKeepRecs", recurses := true, named := ["internal/strconv.uint64pow10", "math/bits.deBruijn32tab", "math/bits.deBruijn64tab"], apart := false, laid := [("math/bits.deBruijn32tab", laid_math_bits_deBruijn32tab), ("math/bits.deBruijn64tab", laid_math_bits_deBruijn64tab), ("internal/strconv.uint64pow10", laid_internal_strconv_uint64pow10)], narrowed := true }
def FnExactKeepRecsUptoSaid : Prop := fnExactKeepRecsUptoRow.holds Tryd.pinned (OpenSpec.upto fnExactKeepRecsSpec)

end Rows
end Go.Proofs.YtidmkpeokahjoaaDoor
