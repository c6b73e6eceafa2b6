/-
  DERIVED. GIVEN WITH THE SEED: THE CARDS: each row of YtabdnpjbofiknaaDoorRows.lean that lists a variable, with what it lists TIED to the program's text (the seventh form; the later family's looks); each row that meets fmt, with fmt's text TOLD by the authors' own Lean function (tested against real Go, not proved from fmt's source: count such statements apart). THE CARD IS WHAT COUNTS. Prove the row's statement (the work); the ties are given (YtabdnpjbofiknaaDoorTie.lean); close each card by the builder's one call (the guide's Derived/Test/ToyasCard.lean, 'card_holds'). Laid BY PROGRAM, IN A SANDBOX (cutbox-door.mjs). By AI agents, Wed Nov 11 2026. No macro, syntax, notation, axiom, sorry.
-/
import Derived.Test.YtabdnpjbofiknaaDoorRows
import GoSem.ClaimSeven
namespace Go.Proofs.YtabdnpjbofiknaaDoor
namespace Rows

/-- THE TIED CARD OF 'invigilatorlaw13.TablesEach'. -/
def tablesEachCard : Claim7 := { stood := { row := tablesEachRow, standIns := [], harness := (true, "ef02033aa29f4bc5846360ce374f8350f2dc565e47185852ae5251298b929c95"), looks := false }, kinds := [], alts := [], laidByText := true, laidKinds := [.data, .data, .data, .data, .pinned], laidTests := true, laidLooks := .later }
def TablesEachCardSaid : Prop := Claim7.holds Tryd.pinned (.plain (OpenSpec.ofChange tablesEachSpec)) tablesEachCard

/-- THE TIED CARD OF 'invigilatorlaw13.TablesSorted'. -/
def tablesSortedCard : Claim7 := { stood := { row := tablesSortedRow, standIns := [], harness := (true, "ef02033aa29f4bc5846360ce374f8350f2dc565e47185852ae5251298b929c95"), looks := false }, kinds := [], alts := [], laidByText := true, laidKinds := [.data, .data, .data, .data, .pinned], laidTests := true, laidLooks := .later }
def TablesSortedCardSaid : Prop := Claim7.holds Tryd.pinned (.plain (OpenSpec.ofChange tablesSortedSpec)) tablesSortedCard

/-- THE TIED CARD OF 'invigilatorlaw13.TablesKnown'. -/
def tablesKnownCard : Claim7 := { stood := { row := tablesKnownRow, standIns := [], harness := (true, "ef02033aa29f4bc5846360ce374f8350f2dc565e47185852ae5251298b929c95"), looks := false }, kinds := [], alts := [], laidByText := true, laidKinds := [.data, .data, .data, .data, .pinned], laidTests := true, laidLooks := .later }
def TablesKnownCardSaid : Prop := Claim7.holds Tryd.pinned (.plain (OpenSpec.ofChange tablesKnownSpec)) tablesKnownCard

/-- THE TIED CARD OF 'invigilatorlaw13.TablesBack'. -/
def tablesBackCard : Claim7 := { stood := { row := tablesBackRow, standIns := [], harness := (true, "ef02033aa29f4bc5846360ce374f8350f2dc565e47185852ae5251298b929c95"), looks := false }, kinds := [], alts := [], laidByText := true, laidKinds := [.data, .data, .data, .data, .pinned], laidTests := true, laidLooks := .later }
def TablesBackCardSaid : Prop := Claim7.holds Tryd.pinned (.plain (OpenSpec.ofChange tablesBackSpec)) tablesBackCard

/-- THE SECOND FORM's CARD OF 'invigilatorlaw13.TablesEach'. -/
def tablesEachUptoCard : Claim7 := { stood := { row := tablesEachUptoRow, standIns := [], harness := (true, "ef02033aa29f4bc5846360ce374f8350f2dc565e47185852ae5251298b929c95"), looks := false }, kinds := [], alts := [], laidByText := true, laidKinds := [.data, .data, .data, .data, .pinned], laidTests := true, laidLooks := .later }
def TablesEachUptoCardSaid : Prop := Claim7.holds Tryd.pinned (.plain (OpenSpec.upto tablesEachSpec)) tablesEachUptoCard

/-- THE SECOND FORM's CARD OF 'invigilatorlaw13.TablesSorted'. -/
def tablesSortedUptoCard : Claim7 := { stood := { row := tablesSortedUptoRow, standIns := [], harness := (true, "ef02033aa29f4bc5846360ce374f8350f2dc565e47185852ae5251298b929c95"), looks := false }, kinds := [], alts := [], laidByText := true, laidKinds := [.data, .data, .data, .data, .pinned], laidTests := true, laidLooks := .later }
def TablesSortedUptoCardSaid : Prop := Claim7.holds Tryd.pinned (.plain (OpenSpec.upto tablesSortedSpec)) tablesSortedUptoCard

/-- THE SECOND FORM's CARD OF 'invigilatorlaw13.TablesKnown'. -/
def tablesKnownUptoCard : Claim7 := { stood := { row := tablesKnownUptoRow, standIns := [], harness := (true, "ef02033aa29f4bc5846360ce374f8350f2dc565e47185852ae5251298b929c95"), looks := false }, kinds := [], alts := [], laidByText := true, laidKinds := [.data, .data, .data, .data, .pinned], laidTests := true, laidLooks := .later }
def TablesKnownUptoCardSaid : Prop := Claim7.holds Tryd.pinned (.plain (OpenSpec.upto tablesKnownSpec)) tablesKnownUptoCard

/-- THE SECOND FORM's CARD OF 'invigilatorlaw13.TablesBack'. -/
def tablesBackUptoCard : Claim7 := { stood := { row := tablesBackUptoRow, standIns := [], harness := (true, "ef02033aa29f4bc5846360ce374f8350f2dc565e47185852ae5251298b929c95"), looks := false }, kinds := [], alts := [], laidByText := true, laidKinds := [.data, .data, .data, .data, .pinned], laidTests := true, laidLooks := .later }
def TablesBackUptoCardSaid : Prop := Claim7.holds Tryd.pinned (.plain (OpenSpec.upto tablesBackSpec)) tablesBackUptoCard
end Rows
end Go.Proofs.YtabdnpjbofiknaaDoor
