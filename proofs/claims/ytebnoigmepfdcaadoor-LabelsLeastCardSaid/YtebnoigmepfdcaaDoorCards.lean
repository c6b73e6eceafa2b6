/-
  DERIVED. GIVEN WITH THE SEED: THE CARDS: each row of YtebnoigmepfdcaaDoorRows.lean that lists a variable, with what it lists TIED to the program's text (the seventh form; the later family's looks); each row that meets fmt, with fmt's text TOLD by the authors' own Lean function (tested against real Go, not proved from fmt's source: count such statements apart). THE CARD IS WHAT COUNTS. Prove the row's statement (the work); the ties are given (YtebnoigmepfdcaaDoorTie.lean); close each card by the builder's one call (the guide's Derived/Test/ToyasCard.lean, 'card_holds'). Laid BY PROGRAM, IN A SANDBOX (cutbox-door.mjs). By AI agents, Wed Nov 11 2026. No macro, syntax, notation, axiom, sorry.
-/
import Derived.Test.YtebnoigmepfdcaaDoorRows
import GoSem.ClaimSeven
namespace Go.Proofs.YtebnoigmepfdcaaDoor
namespace Rows

/-- THE TIED CARD OF 'invigilatorlaw04.LabelsOrder'. -/
def labelsOrderCard : Claim7 := { stood := { row := labelsOrderRow, standIns := [], harness := (true, "b6957630dc59a02ee33d067f715ae6c241db9d71ee9521bd811804db574c4645"), looks := false }, kinds := [], alts := [], laidByText := true, laidKinds := [.data, .pinned], laidTests := true, laidLooks := .later }
def LabelsOrderCardSaid : Prop := Claim7.holds Tryd.pinned (.plain (OpenSpec.ofChange labelsOrderSpec)) labelsOrderCard

/-- THE TIED CARD OF 'invigilatorlaw04.LabelsLeast'. -/
def labelsLeastCard : Claim7 := { stood := { row := labelsLeastRow, standIns := [], harness := (true, "b6957630dc59a02ee33d067f715ae6c241db9d71ee9521bd811804db574c4645"), looks := false }, kinds := [], alts := [], laidByText := true, laidKinds := [.data, .pinned], laidTests := true, laidLooks := .later }
def LabelsLeastCardSaid : Prop := Claim7.holds Tryd.pinned (.plain (OpenSpec.ofChange labelsLeastSpec)) labelsLeastCard

/-- THE SECOND FORM's CARD OF 'invigilatorlaw04.LabelsOrder'. -/
def labelsOrderUptoCard : Claim7 := { stood := { row := labelsOrderUptoRow, standIns := [], harness := (true, "b6957630dc59a02ee33d067f715ae6c241db9d71ee9521bd811804db574c4645"), looks := false }, kinds := [], alts := [], laidByText := true, laidKinds := [.data, .pinned], laidTests := true, laidLooks := .later }
def LabelsOrderUptoCardSaid : Prop := Claim7.holds Tryd.pinned (.plain (OpenSpec.upto labelsOrderSpec)) labelsOrderUptoCard

/-- THE SECOND FORM's CARD OF 'invigilatorlaw04.LabelsLeast'. -/
def labelsLeastUptoCard : Claim7 := { stood := { row := labelsLeastUptoRow, standIns := [], harness := (true, "b6957630dc59a02ee33d067f715ae6c241db9d71ee9521bd811804db574c4645"), looks := false }, kinds := [], alts := [], laidByText := true, laidKinds := [.data, .pinned], laidTests := true, laidLooks := .later }
def LabelsLeastUptoCardSaid : Prop := Claim7.holds Tryd.pinned (.plain (OpenSpec.upto labelsLeastSpec)) labelsLeastUptoCard
end Rows
end Go.Proofs.YtebnoigmepfdcaaDoor
