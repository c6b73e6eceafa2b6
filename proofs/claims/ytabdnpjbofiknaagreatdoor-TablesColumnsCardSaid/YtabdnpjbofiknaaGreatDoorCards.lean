/-
  DERIVED. GIVEN WITH THE SEED: THE CARDS: each row of YtabdnpjbofiknaaGreatDoorRows.lean that lists a variable, with what it lists TIED to the program's text (the seventh form; the later family's looks); each row that meets fmt, with fmt's text TOLD by the authors' own Lean function (tested against real Go, not proved from fmt's source: count such statements apart). THE CARD IS WHAT COUNTS. Prove the row's statement (the work); the ties are given (YtabdnpjbofiknaaGreatDoorTie.lean); close each card by the builder's one call (the guide's Derived/Test/ToyasCard.lean, 'card_holds'). Laid BY PROGRAM, IN A SANDBOX (cutbox-door.mjs). By AI agents, Wed Nov 11 2026. No macro, syntax, notation, axiom, sorry.
-/
import Derived.Test.YtabdnpjbofiknaaGreatDoorRows
import GoSem.ClaimSeven
namespace Go.Proofs.YtabdnpjbofiknaaGreatDoor
namespace Rows

/-- THE TIED CARD OF 'invigilatorlaw13.TablesRows'. -/
def tablesRowsCard : Claim7 := { stood := { row := tablesRowsRow, standIns := [], harness := (true, "2115d126abfa9e057ed353e10db4050741e23d272bea3589e843563ee7abf2b3"), looks := false }, kinds := [], alts := [], laidByText := true, laidKinds := [.data, .data, .data, .data, .pinned], laidTests := true, laidLooks := .later }
def TablesRowsCardSaid : Prop := Claim7.holds Tryz.pinned (.plain (OpenSpec.ofChange tablesRowsSpec)) tablesRowsCard

/-- THE TIED CARD OF 'invigilatorlaw13.TablesChecks'. -/
def tablesChecksCard : Claim7 := { stood := { row := tablesChecksRow, standIns := [], harness := (true, "2115d126abfa9e057ed353e10db4050741e23d272bea3589e843563ee7abf2b3"), looks := false }, kinds := [], alts := [], laidByText := true, laidKinds := [.data, .data, .data, .data, .pinned], laidTests := true, laidLooks := .later }
def TablesChecksCardSaid : Prop := Claim7.holds Tryz.pinned (.plain (OpenSpec.ofChange tablesChecksSpec)) tablesChecksCard

/-- THE TIED CARD OF 'invigilatorlaw13.TablesColumns'. -/
def tablesColumnsCard : Claim7 := { stood := { row := tablesColumnsRow, standIns := [], harness := (true, "2115d126abfa9e057ed353e10db4050741e23d272bea3589e843563ee7abf2b3"), looks := false }, kinds := [], alts := [], laidByText := true, laidKinds := [.data, .data, .data, .data, .pinned], laidTests := true, laidLooks := .later }
def TablesColumnsCardSaid : Prop := Claim7.holds Tryz.pinned (.plain (OpenSpec.ofChange tablesColumnsSpec)) tablesColumnsCard

/-- THE SECOND FORM's CARD OF 'invigilatorlaw13.TablesRows'. -/
def tablesRowsUptoCard : Claim7 := { stood := { row := tablesRowsUptoRow, standIns := [], harness := (true, "2115d126abfa9e057ed353e10db4050741e23d272bea3589e843563ee7abf2b3"), looks := false }, kinds := [], alts := [], laidByText := true, laidKinds := [.data, .data, .data, .data, .pinned], laidTests := true, laidLooks := .later }
def TablesRowsUptoCardSaid : Prop := Claim7.holds Tryz.pinned (.plain (OpenSpec.upto tablesRowsSpec)) tablesRowsUptoCard

/-- THE SECOND FORM's CARD OF 'invigilatorlaw13.TablesChecks'. -/
def tablesChecksUptoCard : Claim7 := { stood := { row := tablesChecksUptoRow, standIns := [], harness := (true, "2115d126abfa9e057ed353e10db4050741e23d272bea3589e843563ee7abf2b3"), looks := false }, kinds := [], alts := [], laidByText := true, laidKinds := [.data, .data, .data, .data, .pinned], laidTests := true, laidLooks := .later }
def TablesChecksUptoCardSaid : Prop := Claim7.holds Tryz.pinned (.plain (OpenSpec.upto tablesChecksSpec)) tablesChecksUptoCard

/-- THE SECOND FORM's CARD OF 'invigilatorlaw13.TablesColumns'. -/
def tablesColumnsUptoCard : Claim7 := { stood := { row := tablesColumnsUptoRow, standIns := [], harness := (true, "2115d126abfa9e057ed353e10db4050741e23d272bea3589e843563ee7abf2b3"), looks := false }, kinds := [], alts := [], laidByText := true, laidKinds := [.data, .data, .data, .data, .pinned], laidTests := true, laidLooks := .later }
def TablesColumnsUptoCardSaid : Prop := Claim7.holds Tryz.pinned (.plain (OpenSpec.upto tablesColumnsSpec)) tablesColumnsUptoCard
end Rows
end Go.Proofs.YtabdnpjbofiknaaGreatDoor
