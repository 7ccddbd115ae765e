/-
  DERIVED. GIVEN WITH THE SEED: THE CARDS: each row of YtmeeloeielallaaGreatDoorRows.lean that lists a variable, with what it lists TIED to the program's text (the seventh form; the later family's looks); each row that meets fmt, with fmt's text TOLD by the authors' own Lean function (tested against real Go, not proved from fmt's source: count such statements apart). THE CARD IS WHAT COUNTS. Prove the row's statement (the work); the ties are given (YtmeeloeielallaaGreatDoorTie.lean); close each card by the builder's one call (the guide's Derived/Test/ToyasCard.lean, 'card_holds'). Laid BY PROGRAM, IN A SANDBOX (cutbox-door.mjs). By AI agents, Wed Nov 11 2026. No macro, syntax, notation, axiom, sorry.
-/
import Derived.Test.YtmeeloeielallaaGreatDoorRows
import GoSem.ClaimSeven
namespace Go.Proofs.YtmeeloeielallaaGreatDoor
namespace Rows

/-- THE TIED CARD OF 'laws.FnKeepOf'. -/
def fnKeepOfCard : Claim7 := { stood := { row := fnKeepOfRow, standIns := [], harness := (true, "62de02133035d60f58c26f759a18afaac4ecf9654429a3dee808ced8021bc4e3"), looks := false }, kinds := [], alts := [], laidByText := true, laidKinds := [.data, .data, .data, .data, .pinned], laidTests := true, laidLooks := .later }
def FnKeepOfCardSaid : Prop := Claim7.holds Tryz.pinned (.plain (OpenSpec.ofChange fnKeepOfSpec)) fnKeepOfCard

/-- THE TIED CARD OF 'laws.FnExactKeepOf'. -/
def fnExactKeepOfCard : Claim7 := { stood := { row := fnExactKeepOfRow, standIns := [], harness := (true, "62de02133035d60f58c26f759a18afaac4ecf9654429a3dee808ced8021bc4e3"), looks := false }, kinds := [], alts := [], laidByText := true, laidKinds := [.data, .data, .data, .data, .pinned], laidTests := true, laidLooks := .later }
def FnExactKeepOfCardSaid : Prop := Claim7.holds Tryz.pinned (.plain (OpenSpec.ofChange fnExactKeepOfSpec)) fnExactKeepOfCard

/-- THE TIED CARD OF 'laws.FnExactKeepDo'. -/
def fnExactKeepDoCard : Claim7 := { stood := { row := fnExactKeepDoRow, standIns := [], harness := (true, "62de02133035d60f58c26f759a18afaac4ecf9654429a3dee808ced8021bc4e3"), looks := false }, kinds := [], alts := [], laidByText := true, laidKinds := [.data, .data, .data, .data, .pinned], laidTests := true, laidLooks := .later }
def FnExactKeepDoCardSaid : Prop := Claim7.holds Tryz.pinned (.plain (OpenSpec.ofChange fnExactKeepDoSpec)) fnExactKeepDoCard

/-- THE SECOND FORM's CARD OF 'laws.FnKeepOf'. -/
def fnKeepOfUptoCard : Claim7 := { stood := { row := fnKeepOfUptoRow, standIns := [], harness := (true, "62de02133035d60f58c26f759a18afaac4ecf9654429a3dee808ced8021bc4e3"), looks := false }, kinds := [], alts := [], laidByText := true, laidKinds := [.data, .data, .data, .data, .pinned], laidTests := true, laidLooks := .later }
def FnKeepOfUptoCardSaid : Prop := Claim7.holds Tryz.pinned (.plain (OpenSpec.upto fnKeepOfSpec)) fnKeepOfUptoCard

/-- THE SECOND FORM's CARD OF 'laws.FnExactKeepOf'. -/
def fnExactKeepOfUptoCard : Claim7 := { stood := { row := fnExactKeepOfUptoRow, standIns := [], harness := (true, "62de02133035d60f58c26f759a18afaac4ecf9654429a3dee808ced8021bc4e3"), looks := false }, kinds := [], alts := [], laidByText := true, laidKinds := [.data, .data, .data, .data, .pinned], laidTests := true, laidLooks := .later }
def FnExactKeepOfUptoCardSaid : Prop := Claim7.holds Tryz.pinned (.plain (OpenSpec.upto fnExactKeepOfSpec)) fnExactKeepOfUptoCard

/-- THE SECOND FORM's CARD OF 'laws.FnExactKeepDo'. -/
def fnExactKeepDoUptoCard : Claim7 := { stood := { row := fnExactKeepDoUptoRow, standIns := [], harness := (true, "62de02133035d60f58c26f759a18afaac4ecf9654429a3dee808ced8021bc4e3"), looks := false }, kinds := [], alts := [], laidByText := true, laidKinds := [.data, .data, .data, .data, .pinned], laidTests := true, laidLooks := .later }
def FnExactKeepDoUptoCardSaid : Prop := Claim7.holds Tryz.pinned (.plain (OpenSpec.upto fnExactKeepDoSpec)) fnExactKeepDoUptoCard
end Rows
end Go.Proofs.YtmeeloeielallaaGreatDoor
