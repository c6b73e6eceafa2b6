/-
  DERIVED. GIVEN WITH THE SEED: THE CARDS: each row of YtngmmanggdpeaaaDoorRows.lean that lists a variable, with what it lists TIED to the program's text (the seventh form; the later family's looks); each row that meets fmt, with fmt's text TOLD by the authors' own Lean function (tested against real Go, not proved from fmt's source: count such statements apart). THE CARD IS WHAT COUNTS. Prove the row's statement (the work); the ties are given (YtngmmanggdpeaaaDoorTie.lean); close each card by the builder's one call (the guide's Derived/Test/ToyasCard.lean, 'card_holds'). Laid BY PROGRAM, IN A SANDBOX (cutbox-door.mjs). By AI agents, Wed Nov 11 2026. No macro, syntax, notation, axiom, sorry.
-/
import Derived.Test.YtngmmanggdpeaaaDoorRows
import GoSem.ClaimSeven
namespace Go.Proofs.YtngmmanggdpeaaaDoor
namespace Rows

/-- THE TIED CARD OF 'invigilatorlaw03.LatticeAlgebra'. -/
def latticeAlgebraCard : Claim7 := { stood := { row := latticeAlgebraRow, standIns := [], harness := (true, "e8cfcfee8ea354ea2dd5eaf1f30b3a1138e62ca186e6b257bec085291a27faab"), looks := false }, kinds := [], alts := [], laidByText := true, laidKinds := [.data, .pinned], laidTests := true, laidLooks := .later }
def LatticeAlgebraCardSaid : Prop := Claim7.holds Tryd.pinned (.plain (OpenSpec.ofChange latticeAlgebraSpec)) latticeAlgebraCard

/-- THE TIED CARD OF 'invigilatorlaw03.LatticeOrders'. -/
def latticeOrdersCard : Claim7 := { stood := { row := latticeOrdersRow, standIns := [], harness := (true, "e8cfcfee8ea354ea2dd5eaf1f30b3a1138e62ca186e6b257bec085291a27faab"), looks := false }, kinds := [], alts := [], laidByText := true, laidKinds := [.data, .pinned], laidTests := true, laidLooks := .later }
def LatticeOrdersCardSaid : Prop := Claim7.holds Tryd.pinned (.plain (OpenSpec.ofChange latticeOrdersSpec)) latticeOrdersCard

/-- THE TIED CARD OF 'invigilatorlaw03.LatticeBounds'. -/
def latticeBoundsCard : Claim7 := { stood := { row := latticeBoundsRow, standIns := [], harness := (true, "e8cfcfee8ea354ea2dd5eaf1f30b3a1138e62ca186e6b257bec085291a27faab"), looks := false }, kinds := [], alts := [], laidByText := true, laidKinds := [.data, .pinned], laidTests := true, laidLooks := .later }
def LatticeBoundsCardSaid : Prop := Claim7.holds Tryd.pinned (.plain (OpenSpec.ofChange latticeBoundsSpec)) latticeBoundsCard

/-- THE TIED CARD OF 'invigilatorlaw03.LatticeFinds'. -/
def latticeFindsCard : Claim7 := { stood := { row := latticeFindsRow, standIns := [], harness := (true, "e8cfcfee8ea354ea2dd5eaf1f30b3a1138e62ca186e6b257bec085291a27faab"), looks := false }, kinds := [], alts := [], laidByText := true, laidKinds := [.data, .pinned], laidTests := true, laidLooks := .later }
def LatticeFindsCardSaid : Prop := Claim7.holds Tryd.pinned (.plain (OpenSpec.ofChange latticeFindsSpec)) latticeFindsCard

/-- THE TIED CARD OF 'invigilatorlaw03.LatticeChecks'. -/
def latticeChecksCard : Claim7 := { stood := { row := latticeChecksRow, standIns := [], harness := (true, "e8cfcfee8ea354ea2dd5eaf1f30b3a1138e62ca186e6b257bec085291a27faab"), looks := false }, kinds := [], alts := [], laidByText := true, laidKinds := [.data, .pinned], laidTests := true, laidLooks := .later }
def LatticeChecksCardSaid : Prop := Claim7.holds Tryd.pinned (.plain (OpenSpec.ofChange latticeChecksSpec)) latticeChecksCard

/-- THE TIED CARD OF 'invigilatorlaw03.LatticeDuals'. -/
def latticeDualsCard : Claim7 := { stood := { row := latticeDualsRow, standIns := [], harness := (true, "e8cfcfee8ea354ea2dd5eaf1f30b3a1138e62ca186e6b257bec085291a27faab"), looks := false }, kinds := [], alts := [], laidByText := true, laidKinds := [.data, .pinned], laidTests := true, laidLooks := .later }
def LatticeDualsCardSaid : Prop := Claim7.holds Tryd.pinned (.plain (OpenSpec.ofChange latticeDualsSpec)) latticeDualsCard

/-- THE TIED CARD OF 'invigilatorlaw03.LatticeKnown'. -/
def latticeKnownCard : Claim7 := { stood := { row := latticeKnownRow, standIns := [], harness := (true, "e8cfcfee8ea354ea2dd5eaf1f30b3a1138e62ca186e6b257bec085291a27faab"), looks := false }, kinds := [], alts := [], laidByText := true, laidKinds := [.data, .pinned], laidTests := true, laidLooks := .later }
def LatticeKnownCardSaid : Prop := Claim7.holds Tryd.pinned (.plain (OpenSpec.ofChange latticeKnownSpec)) latticeKnownCard

/-- THE TIED CARD OF 'invigilatorlaw03.LatticeTexts'. -/
def latticeTextsCard : Claim7 := { stood := { row := latticeTextsRow, standIns := [], harness := (true, "e8cfcfee8ea354ea2dd5eaf1f30b3a1138e62ca186e6b257bec085291a27faab"), looks := false }, kinds := [], alts := [], laidByText := true, laidKinds := [.data, .pinned], laidTests := true, laidLooks := .later }
def LatticeTextsCardSaid : Prop := Claim7.holds Tryd.pinned (.plain (OpenSpec.ofChange latticeTextsSpec)) latticeTextsCard

/-- THE SECOND FORM's CARD OF 'invigilatorlaw03.LatticeAlgebra'. -/
def latticeAlgebraUptoCard : Claim7 := { stood := { row := latticeAlgebraUptoRow, standIns := [], harness := (true, "e8cfcfee8ea354ea2dd5eaf1f30b3a1138e62ca186e6b257bec085291a27faab"), looks := false }, kinds := [], alts := [], laidByText := true, laidKinds := [.data, .pinned], laidTests := true, laidLooks := .later }
def LatticeAlgebraUptoCardSaid : Prop := Claim7.holds Tryd.pinned (.plain (OpenSpec.upto latticeAlgebraSpec)) latticeAlgebraUptoCard

/-- THE SECOND FORM's CARD OF 'invigilatorlaw03.LatticeOrders'. -/
def latticeOrdersUptoCard : Claim7 := { stood := { row := latticeOrdersUptoRow, standIns := [], harness := (true, "e8cfcfee8ea354ea2dd5eaf1f30b3a1138e62ca186e6b257bec085291a27faab"), looks := false }, kinds := [], alts := [], laidByText := true, laidKinds := [.data, .pinned], laidTests := true, laidLooks := .later }
def LatticeOrdersUptoCardSaid : Prop := Claim7.holds Tryd.pinned (.plain (OpenSpec.upto latticeOrdersSpec)) latticeOrdersUptoCard

/-- THE SECOND FORM's CARD OF 'invigilatorlaw03.LatticeBounds'. -/
def latticeBoundsUptoCard : Claim7 := { stood := { row := latticeBoundsUptoRow, standIns := [], harness := (true, "e8cfcfee8ea354ea2dd5eaf1f30b3a1138e62ca186e6b257bec085291a27faab"), looks := false }, kinds := [], alts := [], laidByText := true, laidKinds := [.data, .pinned], laidTests := true, laidLooks := .later }
def LatticeBoundsUptoCardSaid : Prop := Claim7.holds Tryd.pinned (.plain (OpenSpec.upto latticeBoundsSpec)) latticeBoundsUptoCard

/-- THE SECOND FORM's CARD OF 'invigilatorlaw03.LatticeFinds'. -/
def latticeFindsUptoCard : Claim7 := { stood := { row := latticeFindsUptoRow, standIns := [], harness := (true, "e8cfcfee8ea354ea2dd5eaf1f30b3a1138e62ca186e6b257bec085291a27faab"), looks := false }, kinds := [], alts := [], laidByText := true, laidKinds := [.data, .pinned], laidTests := true, laidLooks := .later }
def LatticeFindsUptoCardSaid : Prop := Claim7.holds Tryd.pinned (.plain (OpenSpec.upto latticeFindsSpec)) latticeFindsUptoCard

/-- THE SECOND FORM's CARD OF 'invigilatorlaw03.LatticeChecks'. -/
def latticeChecksUptoCard : Claim7 := { stood := { row := latticeChecksUptoRow, standIns := [], harness := (true, "e8cfcfee8ea354ea2dd5eaf1f30b3a1138e62ca186e6b257bec085291a27faab"), looks := false }, kinds := [], alts := [], laidByText := true, laidKinds := [.data, .pinned], laidTests := true, laidLooks := .later }
def LatticeChecksUptoCardSaid : Prop := Claim7.holds Tryd.pinned (.plain (OpenSpec.upto latticeChecksSpec)) latticeChecksUptoCard

/-- THE SECOND FORM's CARD OF 'invigilatorlaw03.LatticeDuals'. -/
def latticeDualsUptoCard : Claim7 := { stood := { row := latticeDualsUptoRow, standIns := [], harness := (true, "e8cfcfee8ea354ea2dd5eaf1f30b3a1138e62ca186e6b257bec085291a27faab"), looks := false }, kinds := [], alts := [], laidByText := true, laidKinds := [.data, .pinned], laidTests := true, laidLooks := .later }
def LatticeDualsUptoCardSaid : Prop := Claim7.holds Tryd.pinned (.plain (OpenSpec.upto latticeDualsSpec)) latticeDualsUptoCard

/-- THE SECOND FORM's CARD OF 'invigilatorlaw03.LatticeKnown'. -/
def latticeKnownUptoCard : Claim7 := { stood := { row := latticeKnownUptoRow, standIns := [], harness := (true, "e8cfcfee8ea354ea2dd5eaf1f30b3a1138e62ca186e6b257bec085291a27faab"), looks := false }, kinds := [], alts := [], laidByText := true, laidKinds := [.data, .pinned], laidTests := true, laidLooks := .later }
def LatticeKnownUptoCardSaid : Prop := Claim7.holds Tryd.pinned (.plain (OpenSpec.upto latticeKnownSpec)) latticeKnownUptoCard

/-- THE SECOND FORM's CARD OF 'invigilatorlaw03.LatticeTexts'. -/
def latticeTextsUptoCard : Claim7 := { stood := { row := latticeTextsUptoRow, standIns := [], harness := (true, "e8cfcfee8ea354ea2dd5eaf1f30b3a1138e62ca186e6b257bec085291a27faab"), looks := false }, kinds := [], alts := [], laidByText := true, laidKinds := [.data, .pinned], laidTests := true, laidLooks := .later }
def LatticeTextsUptoCardSaid : Prop := Claim7.holds Tryd.pinned (.plain (OpenSpec.upto latticeTextsSpec)) latticeTextsUptoCard
end Rows
end Go.Proofs.YtngmmanggdpeaaaDoor
