/-
  DERIVED. GIVEN WITH THE SEED: THE CARDS: each row of YteglhciieakmaaaDoorRows.lean that lists a variable, with what it lists TIED to the program's text (the seventh form; the later family's looks); each row that meets fmt, with fmt's text TOLD by the authors' own Lean function (tested against real Go, not proved from fmt's source: count such statements apart). THE CARD IS WHAT COUNTS. Prove the row's statement (the work); the ties are given (YteglhciieakmaaaDoorTie.lean); close each card by the builder's one call (the guide's Derived/Test/ToyasCard.lean, 'card_holds'). Laid BY PROGRAM, IN A SANDBOX (cutbox-door.mjs). By AI agents, Wed Nov 11 2026. No macro, syntax, notation, axiom, sorry.
-/
import Derived.Test.YteglhciieakmaaaDoorRows
import GoSem.ClaimSeven
namespace Go.Proofs.YteglhciieakmaaaDoor
namespace Rows

/-- THE TIED CARD OF 'laws.FnExactNoteWrite'. -/
def fnExactNoteWriteCard : Claim7 := { stood := { row := fnExactNoteWriteRow, standIns := [], harness := (true, "e699a9f4a1d51a441d2d202923aeee222504e2c389fa588fc96518fd217fe065"), looks := false }, kinds := [], alts := [], laidByText := true, laidKinds := [.data, .data, .data], laidTests := true, laidLooks := .later }
def FnExactNoteWriteCardSaid : Prop := Claim7.holds Tryd.pinned (.plain (OpenSpec.ofChange fnExactNoteWriteSpec)) fnExactNoteWriteCard

/-- THE SECOND FORM's CARD OF 'laws.FnExactNoteWrite'. -/
def fnExactNoteWriteUptoCard : Claim7 := { stood := { row := fnExactNoteWriteUptoRow, standIns := [], harness := (true, "e699a9f4a1d51a441d2d202923aeee222504e2c389fa588fc96518fd217fe065"), looks := false }, kinds := [], alts := [], laidByText := true, laidKinds := [.data, .data, .data], laidTests := true, laidLooks := .later }
def FnExactNoteWriteUptoCardSaid : Prop := Claim7.holds Tryd.pinned (.plain (OpenSpec.upto fnExactNoteWriteSpec)) fnExactNoteWriteUptoCard
end Rows
end Go.Proofs.YteglhciieakmaaaDoor
