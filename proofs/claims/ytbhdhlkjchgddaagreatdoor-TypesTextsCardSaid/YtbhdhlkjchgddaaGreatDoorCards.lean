/-
  DERIVED. GIVEN WITH THE SEED: THE CARDS: each row of YtbhdhlkjchgddaaGreatDoorRows.lean that lists a variable, with what it lists TIED to the program's text (the seventh form; the later family's looks); each row that meets fmt, with fmt's text TOLD by the authors' own Lean function (tested against real Go, not proved from fmt's source: count such statements apart). THE CARD IS WHAT COUNTS. Prove the row's statement (the work); the ties are given (YtbhdhlkjchgddaaGreatDoorTie.lean); close each card by the builder's one call (the guide's Derived/Test/ToyasCard.lean, 'card_holds'). Laid BY PROGRAM, IN A SANDBOX (cutbox-door.mjs). By AI agents, Wed Nov 11 2026. No macro, syntax, notation, axiom, sorry.
-/
import Derived.Test.YtbhdhlkjchgddaaGreatDoorRows
import GoSem.ClaimSeven
namespace Go.Proofs.YtbhdhlkjchgddaaGreatDoor
namespace Rows

/-- THE TIED CARD OF 'invigilatorlaw20.TypesSees'. -/
def typesSeesCard : Claim7 := { stood := { row := typesSeesRow, standIns := [], harness := (true, "e61c009e843f5c4019bfd7f211bded016855d810d977c726b4e946fe8266571c"), looks := true }, kinds := [], alts := [], laidByText := true, laidKinds := [.data, .data, .data, .data, .pinned], laidTests := true, laidLooks := .later }
def TypesSeesCardSaid : Prop := Claim7.holds Tryz.pinned (.plain (OpenSpec.ofChange typesSeesSpec)) typesSeesCard

/-- THE TIED CARD OF 'invigilatorlaw20.TypesTexts'. -/
def typesTextsCard : Claim7 := { stood := { row := typesTextsRow, standIns := [], harness := (true, "e61c009e843f5c4019bfd7f211bded016855d810d977c726b4e946fe8266571c"), looks := true }, kinds := [], alts := [], laidByText := true, laidKinds := [.data, .data, .data, .data, .sentinel, .sentinel, .data, .pinned], laidTests := true, laidLooks := .later }
def TypesTextsCardSaid : Prop := Claim7.holds Tryz.pinned (.plain (OpenSpec.ofChange typesTextsSpec)) typesTextsCard

/-- THE SECOND FORM's CARD OF 'invigilatorlaw20.TypesSees'. -/
def typesSeesUptoCard : Claim7 := { stood := { row := typesSeesUptoRow, standIns := [], harness := (true, "e61c009e843f5c4019bfd7f211bded016855d810d977c726b4e946fe8266571c"), looks := true }, kinds := [], alts := [], laidByText := true, laidKinds := [.data, .data, .data, .data, .pinned], laidTests := true, laidLooks := .later }
def TypesSeesUptoCardSaid : Prop := Claim7.holds Tryz.pinned (.plain (OpenSpec.upto typesSeesSpec)) typesSeesUptoCard

/-- THE SECOND FORM's CARD OF 'invigilatorlaw20.TypesTexts'. -/
def typesTextsUptoCard : Claim7 := { stood := { row := typesTextsUptoRow, standIns := [], harness := (true, "e61c009e843f5c4019bfd7f211bded016855d810d977c726b4e946fe8266571c"), looks := true }, kinds := [], alts := [], laidByText := true, laidKinds := [.data, .data, .data, .data, .sentinel, .sentinel, .data, .pinned], laidTests := true, laidLooks := .later }
def TypesTextsUptoCardSaid : Prop := Claim7.holds Tryz.pinned (.plain (OpenSpec.upto typesTextsSpec)) typesTextsUptoCard
end Rows
end Go.Proofs.YtbhdhlkjchgddaaGreatDoor
