/-
  DERIVED. GIVEN WITH THE SEED: THE CARDS: each row of YtidmkpeokahjoaaDoorRows.lean that lists a variable, with what it lists TIED to the program's text (the seventh form; the later family's looks); each row that meets fmt, with fmt's text TOLD by the authors' own Lean function (tested against real Go, not proved from fmt's source: count such statements apart). THE CARD IS WHAT COUNTS. Prove the row's statement (the work); the ties are given (YtidmkpeokahjoaaDoorTie.lean); close each card by the builder's one call (the guide's Derived/Test/ToyasCard.lean, 'card_holds'). Laid BY PROGRAM, IN A SANDBOX (cutbox-door.mjs). By AI agents, Wed Nov 11 2026. No macro, syntax, notation, axiom, sorry.
-/
import Derived.Test.YtidmkpeokahjoaaDoorRows
import GoSem.ClaimSeven
namespace Go.Proofs.YtidmkpeokahjoaaDoor
namespace Rows

/-- THE TIED CARD OF 'laws.FnExactShelfAdd'. -/
def fnExactShelfAddCard : Claim7 := { stood := { row := fnExactShelfAddRow, standIns := [], harness := (true, "3a60104af9a97d00ad4a3d475d1493de9ba42af860927fc28cb2d318bb4b6d77"), looks := false }, kinds := [], alts := [], laidByText := true, laidKinds := [.data, .data, .data], laidTests := true, laidLooks := .later }
def FnExactShelfAddCardSaid : Prop := Claim7.holds Tryd.pinned (.plain (OpenSpec.ofChange fnExactShelfAddSpec)) fnExactShelfAddCard

/-- THE TIED CARD OF 'laws.FnExactShelfPack'. -/
def fnExactShelfPackCard : Claim7 := { stood := { row := fnExactShelfPackRow, standIns := [], harness := (true, "3a60104af9a97d00ad4a3d475d1493de9ba42af860927fc28cb2d318bb4b6d77"), looks := false }, kinds := [], alts := [], laidByText := true, laidKinds := [.data, .data, .data], laidTests := true, laidLooks := .later }
def FnExactShelfPackCardSaid : Prop := Claim7.holds Tryd.pinned (.plain (OpenSpec.ofChange fnExactShelfPackSpec)) fnExactShelfPackCard

/-- THE TIED CARD OF 'laws.FnShelfNone'. -/
def fnShelfNoneCard : Claim7 := { stood := { row := fnShelfNoneRow, standIns := [], harness := (true, "3a60104af9a97d00ad4a3d475d1493de9ba42af860927fc28cb2d318bb4b6d77"), looks := false }, kinds := [], alts := [], laidByText := true, laidKinds := [.data, .data, .data], laidTests := true, laidLooks := .later }
def FnShelfNoneCardSaid : Prop := Claim7.holds Tryd.pinned (.plain (OpenSpec.ofChange fnShelfNoneSpec)) fnShelfNoneCard

/-- THE TIED CARD OF 'laws.FnShelfTwo'. -/
def fnShelfTwoCard : Claim7 := { stood := { row := fnShelfTwoRow, standIns := [], harness := (true, "3a60104af9a97d00ad4a3d475d1493de9ba42af860927fc28cb2d318bb4b6d77"), looks := false }, kinds := [], alts := [], laidByText := true, laidKinds := [.data, .data, .data], laidTests := true, laidLooks := .later }
def FnShelfTwoCardSaid : Prop := Claim7.holds Tryd.pinned (.plain (OpenSpec.ofChange fnShelfTwoSpec)) fnShelfTwoCard

/-- THE TIED CARD OF 'laws.FnShelfAdd'. -/
def fnShelfAddCard : Claim7 := { stood := { row := fnShelfAddRow, standIns := [], harness := (true, "3a60104af9a97d00ad4a3d475d1493de9ba42af860927fc28cb2d318bb4b6d77"), looks := false }, kinds := [], alts := [], laidByText := true, laidKinds := [.data, .data, .data], laidTests := true, laidLooks := .later }
def FnShelfAddCardSaid : Prop := Claim7.holds Tryd.pinned (.plain (OpenSpec.ofChange fnShelfAddSpec)) fnShelfAddCard

/-- THE TIED CARD OF 'laws.FnShelfSafe'. -/
def fnShelfSafeCard : Claim7 := { stood := { row := fnShelfSafeRow, standIns := [], harness := (true, "3a60104af9a97d00ad4a3d475d1493de9ba42af860927fc28cb2d318bb4b6d77"), looks := false }, kinds := [], alts := [], laidByText := true, laidKinds := [.data, .data, .data], laidTests := true, laidLooks := .later }
def FnShelfSafeCardSaid : Prop := Claim7.holds Tryd.pinned (.plain (OpenSpec.ofChange fnShelfSafeSpec)) fnShelfSafeCard

/-- THE TIED CARD OF 'laws.FnShelfPack'. -/
def fnShelfPackCard : Claim7 := { stood := { row := fnShelfPackRow, standIns := [], harness := (true, "3a60104af9a97d00ad4a3d475d1493de9ba42af860927fc28cb2d318bb4b6d77"), looks := false }, kinds := [], alts := [], laidByText := true, laidKinds := [.data, .data, .data], laidTests := true, laidLooks := .later }
def FnShelfPackCardSaid : Prop := Claim7.holds Tryd.pinned (.plain (OpenSpec.ofChange fnShelfPackSpec)) fnShelfPackCard

/-- THE TIED CARD OF 'laws.FnExactNoteRead'. -/
def fnExactNoteReadCard : Claim7 := { stood := { row := fnExactNoteReadRow, standIns := [], harness := (true, "3a60104af9a97d00ad4a3d475d1493de9ba42af860927fc28cb2d318bb4b6d77"), looks := false }, kinds := [], alts := [], laidByText := true, laidKinds := [.data, .data, .data, .data, .pinned], laidTests := true, laidLooks := .later }
def FnExactNoteReadCardSaid : Prop := Claim7.holds Tryd.pinned (.plain (OpenSpec.ofChange fnExactNoteReadSpec)) fnExactNoteReadCard

/-- THE TIED CARD OF 'laws.FnNoteText'. -/
def fnNoteTextCard : Claim7 := { stood := { row := fnNoteTextRow, standIns := [], harness := (true, "3a60104af9a97d00ad4a3d475d1493de9ba42af860927fc28cb2d318bb4b6d77"), looks := false }, kinds := [], alts := [], laidByText := true, laidKinds := [.data, .data, .data, .data, .pinned], laidTests := true, laidLooks := .later }
def FnNoteTextCardSaid : Prop := Claim7.holds Tryd.pinned (.plain (OpenSpec.ofChange fnNoteTextSpec)) fnNoteTextCard

/-- THE TIED CARD OF 'laws.FnNoteStrict'. -/
def fnNoteStrictCard : Claim7 := { stood := { row := fnNoteStrictRow, standIns := [], harness := (true, "3a60104af9a97d00ad4a3d475d1493de9ba42af860927fc28cb2d318bb4b6d77"), looks := false }, kinds := [], alts := [], laidByText := true, laidKinds := [.data, .data, .data, .data, .pinned], laidTests := true, laidLooks := .later }
def FnNoteStrictCardSaid : Prop := Claim7.holds Tryd.pinned (.plain (OpenSpec.ofChange fnNoteStrictSpec)) fnNoteStrictCard

/-- THE TIED CARD OF 'laws.FnExactKeepRecs'. -/
def fnExactKeepRecsCard : Claim7 := { stood := { row := fnExactKeepRecsRow, standIns := [], harness := (true, "3a60104af9a97d00ad4a3d475d1493de9ba42af860927fc28cb2d318bb4b6d77"), looks := false }, kinds := [], alts := [], laidByText := true, laidKinds := [.data, .data, .data], laidTests := true, laidLooks := .later }
def FnExactKeepRecsCardSaid : Prop := Claim7.holds Tryd.pinned (.plain (OpenSpec.ofChange fnExactKeepRecsSpec)) fnExactKeepRecsCard

/-- THE SECOND FORM's CARD OF 'laws.FnExactShelfAdd'. -/
def fnExactShelfAddUptoCard : Claim7 := { stood := { row := fnExactShelfAddUptoRow, standIns := [], harness := (true, "3a60104af9a97d00ad4a3d475d1493de9ba42af860927fc28cb2d318bb4b6d77"), looks := false }, kinds := [], alts := [], laidByText := true, laidKinds := [.data, .data, .data], laidTests := true, laidLooks := .later }
def FnExactShelfAddUptoCardSaid : Prop := Claim7.holds Tryd.pinned (.plain (OpenSpec.upto fnExactShelfAddSpec)) fnExactShelfAddUptoCard

/-- THE SECOND FORM's CARD OF 'laws.FnExactShelfPack'. -/
def fnExactShelfPackUptoCard : Claim7 := { stood := { row := fnExactShelfPackUptoRow, standIns := [], harness := (true, "3a60104af9a97d00ad4a3d475d1493de9ba42af860927fc28cb2d318bb4b6d77"), looks := false }, kinds := [], alts := [], laidByText := true, laidKinds := [.data, .data, .data], laidTests := true, laidLooks := .later }
def FnExactShelfPackUptoCardSaid : Prop := Claim7.holds Tryd.pinned (.plain (OpenSpec.upto fnExactShelfPackSpec)) fnExactShelfPackUptoCard

/-- THE SECOND FORM's CARD OF 'laws.FnShelfNone'. -/
def fnShelfNoneUptoCard : Claim7 := { stood := { row := fnShelfNoneUptoRow, standIns := [], harness := (true, "3a60104af9a97d00ad4a3d475d1493de9ba42af860927fc28cb2d318bb4b6d77"), looks := false }, kinds := [], alts := [], laidByText := true, laidKinds := [.data, .data, .data], laidTests := true, laidLooks := .later }
def FnShelfNoneUptoCardSaid : Prop := Claim7.holds Tryd.pinned (.plain (OpenSpec.upto fnShelfNoneSpec)) fnShelfNoneUptoCard

/-- THE SECOND FORM's CARD OF 'laws.FnShelfTwo'. -/
def fnShelfTwoUptoCard : Claim7 := { stood := { row := fnShelfTwoUptoRow, standIns := [], harness := (true, "3a60104af9a97d00ad4a3d475d1493de9ba42af860927fc28cb2d318bb4b6d77"), looks := false }, kinds := [], alts := [], laidByText := true, laidKinds := [.data, .data, .data], laidTests := true, laidLooks := .later }
def FnShelfTwoUptoCardSaid : Prop := Claim7.holds Tryd.pinned (.plain (OpenSpec.upto fnShelfTwoSpec)) fnShelfTwoUptoCard

/-- THE SECOND FORM's CARD OF 'laws.FnShelfAdd'. -/
def fnShelfAddUptoCard : Claim7 := { stood := { row := fnShelfAddUptoRow, standIns := [], harness := (true, "3a60104af9a97d00ad4a3d475d1493de9ba42af860927fc28cb2d318bb4b6d77"), looks := false }, kinds := [], alts := [], laidByText := true, laidKinds := [.data, .data, .data], laidTests := true, laidLooks := .later }
def FnShelfAddUptoCardSaid : Prop := Claim7.holds Tryd.pinned (.plain (OpenSpec.upto fnShelfAddSpec)) fnShelfAddUptoCard

/-- THE SECOND FORM's CARD OF 'laws.FnShelfSafe'. -/
def fnShelfSafeUptoCard : Claim7 := { stood := { row := fnShelfSafeUptoRow, standIns := [], harness := (true, "3a60104af9a97d00ad4a3d475d1493de9ba42af860927fc28cb2d318bb4b6d77"), looks := false }, kinds := [], alts := [], laidByText := true, laidKinds := [.data, .data, .data], laidTests := true, laidLooks := .later }
def FnShelfSafeUptoCardSaid : Prop := Claim7.holds Tryd.pinned (.plain (OpenSpec.upto fnShelfSafeSpec)) fnShelfSafeUptoCard

/-- THE SECOND FORM's CARD OF 'laws.FnShelfPack'. -/
def fnShelfPackUptoCard : Claim7 := { stood := { row := fnShelfPackUptoRow, standIns := [], harness := (true, "3a60104af9a97d00ad4a3d475d1493de9ba42af860927fc28cb2d318bb4b6d77"), looks := false }, kinds := [], alts := [], laidByText := true, laidKinds := [.data, .data, .data], laidTests := true, laidLooks := .later }
def FnShelfPackUptoCardSaid : Prop := Claim7.holds Tryd.pinned (.plain (OpenSpec.upto fnShelfPackSpec)) fnShelfPackUptoCard

/-- THE SECOND FORM's CARD OF 'laws.FnExactNoteRead'. -/
def fnExactNoteReadUptoCard : Claim7 := { stood := { row := fnExactNoteReadUptoRow, standIns := [], harness := (true, "3a60104af9a97d00ad4a3d475d1493de9ba42af860927fc28cb2d318bb4b6d77"), looks := false }, kinds := [], alts := [], laidByText := true, laidKinds := [.data, .data, .data, .data, .pinned], laidTests := true, laidLooks := .later }
def FnExactNoteReadUptoCardSaid : Prop := Claim7.holds Tryd.pinned (.plain (OpenSpec.upto fnExactNoteReadSpec)) fnExactNoteReadUptoCard

/-- THE SECOND FORM's CARD OF 'laws.FnNoteText'. -/
def fnNoteTextUptoCard : Claim7 := { stood := { row := fnNoteTextUptoRow, standIns := [], harness := (true, "3a60104af9a97d00ad4a3d475d1493de9ba42af860927fc28cb2d318bb4b6d77"), looks := false }, kinds := [], alts := [], laidByText := true, laidKinds := [.data, .data, .data, .data, .pinned], laidTests := true, laidLooks := .later }
def FnNoteTextUptoCardSaid : Prop := Claim7.holds Tryd.pinned (.plain (OpenSpec.upto fnNoteTextSpec)) fnNoteTextUptoCard

/-- THE SECOND FORM's CARD OF 'laws.FnNoteStrict'. -/
def fnNoteStrictUptoCard : Claim7 := { stood := { row := fnNoteStrictUptoRow, standIns := [], harness := (true, "3a60104af9a97d00ad4a3d475d1493de9ba42af860927fc28cb2d318bb4b6d77"), looks := false }, kinds := [], alts := [], laidByText := true, laidKinds := [.data, .data, .data, .data, .pinned], laidTests := true, laidLooks := .later }
def FnNoteStrictUptoCardSaid : Prop := Claim7.holds Tryd.pinned (.plain (OpenSpec.upto fnNoteStrictSpec)) fnNoteStrictUptoCard

/-- THE SECOND FORM's CARD OF 'laws.FnExactKeepRecs'. -/
def fnExactKeepRecsUptoCard : Claim7 := { stood := { row := fnExactKeepRecsUptoRow, standIns := [], harness := (true, "3a60104af9a97d00ad4a3d475d1493de9ba42af860927fc28cb2d318bb4b6d77"), looks := false }, kinds := [], alts := [], laidByText := true, laidKinds := [.data, .data, .data], laidTests := true, laidLooks := .later }
def FnExactKeepRecsUptoCardSaid : Prop := Claim7.holds Tryd.pinned (.plain (OpenSpec.upto fnExactKeepRecsSpec)) fnExactKeepRecsUptoCard
end Rows
end Go.Proofs.YtidmkpeokahjoaaDoor
