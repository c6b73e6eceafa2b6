/-
  DERIVED. GIVEN WITH THE SEED: THE CARDS: each row of YtcldomkahgaplaaGreatDoorRows.lean that lists a variable, with what it lists TIED to the program's text (the seventh form; the later family's looks); each row that meets fmt, with fmt's text TOLD by the authors' own Lean function (tested against real Go, not proved from fmt's source: count such statements apart). THE CARD IS WHAT COUNTS. Prove the row's statement (the work); the ties are given (YtcldomkahgaplaaGreatDoorTie.lean); close each card by the builder's one call (the guide's Derived/Test/ToyasCard.lean, 'card_holds'). Laid BY PROGRAM, IN A SANDBOX (cutbox-door.mjs). By AI agents, Wed Nov 11 2026. No macro, syntax, notation, axiom, sorry.
-/
import Derived.Test.YtcldomkahgaplaaGreatDoorRows
import GoSem.ClaimSeven
namespace Go.Proofs.YtcldomkahgaplaaGreatDoor
namespace Rows

/-- THE TIED CARD OF 'invigilatorlaw33.FormatAligned'. -/
def formatAlignedCard : Claim7 := { stood := { row := formatAlignedRow, standIns := [], harness := (true, "45251353651961ac73824fb4aec5639f12664c0850ac6fa01256312712b945d7"), looks := true }, kinds := [], alts := [], laidByText := true, laidKinds := [.data, .data, .data, .data, .sentinel, .sentinel, .data, .pinned], laidTests := true, laidLooks := .later }
def FormatAlignedCardSaid : Prop := Claim7.holds Tryz.pinned (.plain (OpenSpec.ofChange formatAlignedSpec)) formatAlignedCard

/-- THE TIED CARD OF 'invigilatorlaw33.FormatPictures'. -/
def formatPicturesCard : Claim7 := { stood := { row := formatPicturesRow, standIns := [], harness := (true, "45251353651961ac73824fb4aec5639f12664c0850ac6fa01256312712b945d7"), looks := true }, kinds := [], alts := [], laidByText := true, laidKinds := [.data, .data, .data, .data, .sentinel, .sentinel, .data, .pinned], laidTests := true, laidLooks := .later }
def FormatPicturesCardSaid : Prop := Claim7.holds Tryz.pinned (.plain (OpenSpec.ofChange formatPicturesSpec)) formatPicturesCard

/-- THE TIED CARD OF 'invigilatorlaw33.FormatArrays'. -/
def formatArraysCard : Claim7 := { stood := { row := formatArraysRow, standIns := [], harness := (true, "45251353651961ac73824fb4aec5639f12664c0850ac6fa01256312712b945d7"), looks := true }, kinds := [], alts := [], laidByText := true, laidKinds := [.data, .data, .data, .data, .sentinel, .sentinel, .data, .pinned], laidTests := true, laidLooks := .later }
def FormatArraysCardSaid : Prop := Claim7.holds Tryz.pinned (.plain (OpenSpec.ofChange formatArraysSpec)) formatArraysCard

/-- THE TIED CARD OF 'invigilatorlaw33.FormatParses'. -/
def formatParsesCard : Claim7 := { stood := { row := formatParsesRow, standIns := [], harness := (true, "45251353651961ac73824fb4aec5639f12664c0850ac6fa01256312712b945d7"), looks := true }, kinds := [], alts := [], laidByText := true, laidKinds := [.data, .data, .data, .data, .sentinel, .sentinel, .data, .pinned], laidTests := true, laidLooks := .later }
def FormatParsesCardSaid : Prop := Claim7.holds Tryz.pinned (.plain (OpenSpec.ofChange formatParsesSpec)) formatParsesCard

/-- THE TIED CARD OF 'invigilatorlaw33.FormatGrids'. -/
def formatGridsCard : Claim7 := { stood := { row := formatGridsRow, standIns := [], harness := (true, "45251353651961ac73824fb4aec5639f12664c0850ac6fa01256312712b945d7"), looks := true }, kinds := [], alts := [], laidByText := true, laidKinds := [.data, .data, .data, .data, .sentinel, .sentinel, .data, .pinned], laidTests := true, laidLooks := .later }
def FormatGridsCardSaid : Prop := Claim7.holds Tryz.pinned (.plain (OpenSpec.ofChange formatGridsSpec)) formatGridsCard

/-- THE TIED CARD OF 'invigilatorlaw33.FormatBack'. -/
def formatBackCard : Claim7 := { stood := { row := formatBackRow, standIns := [], harness := (true, "45251353651961ac73824fb4aec5639f12664c0850ac6fa01256312712b945d7"), looks := true }, kinds := [], alts := [], laidByText := true, laidKinds := [.data, .data, .data, .data, .sentinel, .sentinel, .data, .pinned], laidTests := true, laidLooks := .later }
def FormatBackCardSaid : Prop := Claim7.holds Tryz.pinned (.plain (OpenSpec.ofChange formatBackSpec)) formatBackCard

/-- THE TIED CARD OF 'invigilatorlaw33.FormatKnown'. -/
def formatKnownCard : Claim7 := { stood := { row := formatKnownRow, standIns := [], harness := (true, "45251353651961ac73824fb4aec5639f12664c0850ac6fa01256312712b945d7"), looks := true }, kinds := [], alts := [], laidByText := true, laidKinds := [.data, .data, .data, .data, .sentinel, .sentinel, .data, .pinned], laidTests := true, laidLooks := .later }
def FormatKnownCardSaid : Prop := Claim7.holds Tryz.pinned (.plain (OpenSpec.ofChange formatKnownSpec)) formatKnownCard

/-- THE TIED CARD OF 'invigilatorlaw33.FormatTables'. -/
def formatTablesCard : Claim7 := { stood := { row := formatTablesRow, standIns := [], harness := (true, "45251353651961ac73824fb4aec5639f12664c0850ac6fa01256312712b945d7"), looks := true }, kinds := [], alts := [], laidByText := true, laidKinds := [.data, .data, .data, .data, .sentinel, .sentinel, .data, .pinned], laidTests := true, laidLooks := .later }
def FormatTablesCardSaid : Prop := Claim7.holds Tryz.pinned (.plain (OpenSpec.ofChange formatTablesSpec)) formatTablesCard

/-- THE SECOND FORM's CARD OF 'invigilatorlaw33.FormatAligned'. -/
def formatAlignedUptoCard : Claim7 := { stood := { row := formatAlignedUptoRow, standIns := [], harness := (true, "45251353651961ac73824fb4aec5639f12664c0850ac6fa01256312712b945d7"), looks := true }, kinds := [], alts := [], laidByText := true, laidKinds := [.data, .data, .data, .data, .sentinel, .sentinel, .data, .pinned], laidTests := true, laidLooks := .later }
def FormatAlignedUptoCardSaid : Prop := Claim7.holds Tryz.pinned (.plain (OpenSpec.upto formatAlignedSpec)) formatAlignedUptoCard

/-- THE SECOND FORM's CARD OF 'invigilatorlaw33.FormatPictures'. -/
def formatPicturesUptoCard : Claim7 := { stood := { row := formatPicturesUptoRow, standIns := [], harness := (true, "45251353651961ac73824fb4aec5639f12664c0850ac6fa01256312712b945d7"), looks := true }, kinds := [], alts := [], laidByText := true, laidKinds := [.data, .data, .data, .data, .sentinel, .sentinel, .data, .pinned], laidTests := true, laidLooks := .later }
def FormatPicturesUptoCardSaid : Prop := Claim7.holds Tryz.pinned (.plain (OpenSpec.upto formatPicturesSpec)) formatPicturesUptoCard

/-- THE SECOND FORM's CARD OF 'invigilatorlaw33.FormatArrays'. -/
def formatArraysUptoCard : Claim7 := { stood := { row := formatArraysUptoRow, standIns := [], harness := (true, "45251353651961ac73824fb4aec5639f12664c0850ac6fa01256312712b945d7"), looks := true }, kinds := [], alts := [], laidByText := true, laidKinds := [.data, .data, .data, .data, .sentinel, .sentinel, .data, .pinned], laidTests := true, laidLooks := .later }
def FormatArraysUptoCardSaid : Prop := Claim7.holds Tryz.pinned (.plain (OpenSpec.upto formatArraysSpec)) formatArraysUptoCard

/-- THE SECOND FORM's CARD OF 'invigilatorlaw33.FormatParses'. -/
def formatParsesUptoCard : Claim7 := { stood := { row := formatParsesUptoRow, standIns := [], harness := (true, "45251353651961ac73824fb4aec5639f12664c0850ac6fa01256312712b945d7"), looks := true }, kinds := [], alts := [], laidByText := true, laidKinds := [.data, .data, .data, .data, .sentinel, .sentinel, .data, .pinned], laidTests := true, laidLooks := .later }
def FormatParsesUptoCardSaid : Prop := Claim7.holds Tryz.pinned (.plain (OpenSpec.upto formatParsesSpec)) formatParsesUptoCard

/-- THE SECOND FORM's CARD OF 'invigilatorlaw33.FormatGrids'. -/
def formatGridsUptoCard : Claim7 := { stood := { row := formatGridsUptoRow, standIns := [], harness := (true, "45251353651961ac73824fb4aec5639f12664c0850ac6fa01256312712b945d7"), looks := true }, kinds := [], alts := [], laidByText := true, laidKinds := [.data, .data, .data, .data, .sentinel, .sentinel, .data, .pinned], laidTests := true, laidLooks := .later }
def FormatGridsUptoCardSaid : Prop := Claim7.holds Tryz.pinned (.plain (OpenSpec.upto formatGridsSpec)) formatGridsUptoCard

/-- THE SECOND FORM's CARD OF 'invigilatorlaw33.FormatBack'. -/
def formatBackUptoCard : Claim7 := { stood := { row := formatBackUptoRow, standIns := [], harness := (true, "45251353651961ac73824fb4aec5639f12664c0850ac6fa01256312712b945d7"), looks := true }, kinds := [], alts := [], laidByText := true, laidKinds := [.data, .data, .data, .data, .sentinel, .sentinel, .data, .pinned], laidTests := true, laidLooks := .later }
def FormatBackUptoCardSaid : Prop := Claim7.holds Tryz.pinned (.plain (OpenSpec.upto formatBackSpec)) formatBackUptoCard

/-- THE SECOND FORM's CARD OF 'invigilatorlaw33.FormatKnown'. -/
def formatKnownUptoCard : Claim7 := { stood := { row := formatKnownUptoRow, standIns := [], harness := (true, "45251353651961ac73824fb4aec5639f12664c0850ac6fa01256312712b945d7"), looks := true }, kinds := [], alts := [], laidByText := true, laidKinds := [.data, .data, .data, .data, .sentinel, .sentinel, .data, .pinned], laidTests := true, laidLooks := .later }
def FormatKnownUptoCardSaid : Prop := Claim7.holds Tryz.pinned (.plain (OpenSpec.upto formatKnownSpec)) formatKnownUptoCard

/-- THE SECOND FORM's CARD OF 'invigilatorlaw33.FormatTables'. -/
def formatTablesUptoCard : Claim7 := { stood := { row := formatTablesUptoRow, standIns := [], harness := (true, "45251353651961ac73824fb4aec5639f12664c0850ac6fa01256312712b945d7"), looks := true }, kinds := [], alts := [], laidByText := true, laidKinds := [.data, .data, .data, .data, .sentinel, .sentinel, .data, .pinned], laidTests := true, laidLooks := .later }
def FormatTablesUptoCardSaid : Prop := Claim7.holds Tryz.pinned (.plain (OpenSpec.upto formatTablesSpec)) formatTablesUptoCard
end Rows
end Go.Proofs.YtcldomkahgaplaaGreatDoor
