/-
  DERIVED. GIVEN WITH THE SEED: THE CARDS: each row of YtbhdhlkjchgddaaDoorRows.lean that lists a variable, with what it lists TIED to the program's text (the seventh form; the later family's looks); each row that meets fmt, with fmt's text TOLD by the authors' own Lean function (tested against real Go, not proved from fmt's source: count such statements apart). THE CARD IS WHAT COUNTS. Prove the row's statement (the work); the ties are given (YtbhdhlkjchgddaaDoorTie.lean); close each card by the builder's one call (the guide's Derived/Test/ToyasCard.lean, 'card_holds'). Laid BY PROGRAM, IN A SANDBOX (cutbox-door.mjs). By AI agents, Wed Nov 11 2026. No macro, syntax, notation, axiom, sorry.
-/
import Derived.Test.YtbhdhlkjchgddaaDoorRows
import GoSem.ClaimSeven
namespace Go.Proofs.YtbhdhlkjchgddaaDoor
namespace Rows

/-- THE TIED CARD OF 'invigilatorlaw20.TypesOrder'. -/
def typesOrderCard : Claim7 := { stood := { row := typesOrderRow, standIns := [], harness := (true, "8421f1f8d32f86abdfa772f1c15fd65399a148c09bd59cb1c71200e1153b4e26"), looks := false }, kinds := [], alts := [], laidByText := true, laidKinds := [.data, .data, .data, .data, .pinned], laidTests := true, laidLooks := .later }
def TypesOrderCardSaid : Prop := Claim7.holds Tryd.pinned (.plain (OpenSpec.ofChange typesOrderSpec)) typesOrderCard

/-- THE TIED CARD OF 'invigilatorlaw20.TypesRaises'. -/
def typesRaisesCard : Claim7 := { stood := { row := typesRaisesRow, standIns := [], harness := (true, "8421f1f8d32f86abdfa772f1c15fd65399a148c09bd59cb1c71200e1153b4e26"), looks := false }, kinds := [], alts := [], laidByText := true, laidKinds := [.data, .data, .data, .data, .pinned], laidTests := true, laidLooks := .later }
def TypesRaisesCardSaid : Prop := Claim7.holds Tryd.pinned (.plain (OpenSpec.ofChange typesRaisesSpec)) typesRaisesCard

/-- THE TIED CARD OF 'invigilatorlaw20.TypesKnown'. -/
def typesKnownCard : Claim7 := { stood := { row := typesKnownRow, standIns := [], harness := (true, "8421f1f8d32f86abdfa772f1c15fd65399a148c09bd59cb1c71200e1153b4e26"), looks := false }, kinds := [], alts := [], laidByText := true, laidKinds := [.data, .data, .data, .data, .pinned], laidTests := true, laidLooks := .later }
def TypesKnownCardSaid : Prop := Claim7.holds Tryd.pinned (.plain (OpenSpec.ofChange typesKnownSpec)) typesKnownCard

/-- THE TIED CARD OF 'invigilatorlaw20.TypesChecks'. -/
def typesChecksCard : Claim7 := { stood := { row := typesChecksRow, standIns := [], harness := (true, "8421f1f8d32f86abdfa772f1c15fd65399a148c09bd59cb1c71200e1153b4e26"), looks := false }, kinds := [], alts := [], laidByText := true, laidKinds := [.data, .data, .data, .data, .pinned], laidTests := true, laidLooks := .later }
def TypesChecksCardSaid : Prop := Claim7.holds Tryd.pinned (.plain (OpenSpec.ofChange typesChecksSpec)) typesChecksCard

/-- THE TIED CARD OF 'invigilatorlaw20.TypesAgrees'. -/
def typesAgreesCard : Claim7 := { stood := { row := typesAgreesRow, standIns := [], harness := (true, "8421f1f8d32f86abdfa772f1c15fd65399a148c09bd59cb1c71200e1153b4e26"), looks := false }, kinds := [], alts := [], laidByText := true, laidKinds := [.data, .data, .data, .data, .pinned], laidTests := true, laidLooks := .later }
def TypesAgreesCardSaid : Prop := Claim7.holds Tryd.pinned (.plain (OpenSpec.ofChange typesAgreesSpec)) typesAgreesCard

/-- THE SECOND FORM's CARD OF 'invigilatorlaw20.TypesOrder'. -/
def typesOrderUptoCard : Claim7 := { stood := { row := typesOrderUptoRow, standIns := [], harness := (true, "8421f1f8d32f86abdfa772f1c15fd65399a148c09bd59cb1c71200e1153b4e26"), looks := false }, kinds := [], alts := [], laidByText := true, laidKinds := [.data, .data, .data, .data, .pinned], laidTests := true, laidLooks := .later }
def TypesOrderUptoCardSaid : Prop := Claim7.holds Tryd.pinned (.plain (OpenSpec.upto typesOrderSpec)) typesOrderUptoCard

/-- THE SECOND FORM's CARD OF 'invigilatorlaw20.TypesRaises'. -/
def typesRaisesUptoCard : Claim7 := { stood := { row := typesRaisesUptoRow, standIns := [], harness := (true, "8421f1f8d32f86abdfa772f1c15fd65399a148c09bd59cb1c71200e1153b4e26"), looks := false }, kinds := [], alts := [], laidByText := true, laidKinds := [.data, .data, .data, .data, .pinned], laidTests := true, laidLooks := .later }
def TypesRaisesUptoCardSaid : Prop := Claim7.holds Tryd.pinned (.plain (OpenSpec.upto typesRaisesSpec)) typesRaisesUptoCard

/-- THE SECOND FORM's CARD OF 'invigilatorlaw20.TypesKnown'. -/
def typesKnownUptoCard : Claim7 := { stood := { row := typesKnownUptoRow, standIns := [], harness := (true, "8421f1f8d32f86abdfa772f1c15fd65399a148c09bd59cb1c71200e1153b4e26"), looks := false }, kinds := [], alts := [], laidByText := true, laidKinds := [.data, .data, .data, .data, .pinned], laidTests := true, laidLooks := .later }
def TypesKnownUptoCardSaid : Prop := Claim7.holds Tryd.pinned (.plain (OpenSpec.upto typesKnownSpec)) typesKnownUptoCard

/-- THE SECOND FORM's CARD OF 'invigilatorlaw20.TypesChecks'. -/
def typesChecksUptoCard : Claim7 := { stood := { row := typesChecksUptoRow, standIns := [], harness := (true, "8421f1f8d32f86abdfa772f1c15fd65399a148c09bd59cb1c71200e1153b4e26"), looks := false }, kinds := [], alts := [], laidByText := true, laidKinds := [.data, .data, .data, .data, .pinned], laidTests := true, laidLooks := .later }
def TypesChecksUptoCardSaid : Prop := Claim7.holds Tryd.pinned (.plain (OpenSpec.upto typesChecksSpec)) typesChecksUptoCard

/-- THE SECOND FORM's CARD OF 'invigilatorlaw20.TypesAgrees'. -/
def typesAgreesUptoCard : Claim7 := { stood := { row := typesAgreesUptoRow, standIns := [], harness := (true, "8421f1f8d32f86abdfa772f1c15fd65399a148c09bd59cb1c71200e1153b4e26"), looks := false }, kinds := [], alts := [], laidByText := true, laidKinds := [.data, .data, .data, .data, .pinned], laidTests := true, laidLooks := .later }
def TypesAgreesUptoCardSaid : Prop := Claim7.holds Tryd.pinned (.plain (OpenSpec.upto typesAgreesSpec)) typesAgreesUptoCard
end Rows
end Go.Proofs.YtbhdhlkjchgddaaDoor
