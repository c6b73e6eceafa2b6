/-
  DERIVED. GIVEN WITH THE SEED: THE CARDS: each row of YtebnoigmepfdcaaGreatDoorRows.lean that lists a variable, with what it lists TIED to the program's text (the seventh form; the later family's looks); each row that meets fmt, with fmt's text TOLD by the authors' own Lean function (tested against real Go, not proved from fmt's source: count such statements apart). THE CARD IS WHAT COUNTS. Prove the row's statement (the work); the ties are given (YtebnoigmepfdcaaGreatDoorTie.lean); close each card by the builder's one call (the guide's Derived/Test/ToyasCard.lean, 'card_holds'). Laid BY PROGRAM, IN A SANDBOX (cutbox-door.mjs). By AI agents, Wed Nov 11 2026. No macro, syntax, notation, axiom, sorry.
-/
import Derived.Test.YtebnoigmepfdcaaGreatDoorRows
import GoSem.ClaimSeven
namespace Go.Proofs.YtebnoigmepfdcaaGreatDoor
namespace Rows

/-- THE TIED CARD OF 'invigilatorlaw04.LabelsChains'. -/
def labelsChainsCard : Claim7 := { stood := { row := labelsChainsRow, standIns := [], harness := (true, "0318071748c9d083c8a7054468a24665c344be0f2d64c3df89b0a512023eee04"), looks := false }, kinds := [], alts := [], laidByText := true, laidKinds := [.data, .pinned], laidTests := true, laidLooks := .later }
def LabelsChainsCardSaid : Prop := Claim7.holds Tryz.pinned (.plain (OpenSpec.ofChange labelsChainsSpec)) labelsChainsCard

/-- THE TIED CARD OF 'invigilatorlaw04.LabelsSorts'. -/
def labelsSortsCard : Claim7 := { stood := { row := labelsSortsRow, standIns := [], harness := (true, "0318071748c9d083c8a7054468a24665c344be0f2d64c3df89b0a512023eee04"), looks := false }, kinds := [], alts := [], laidByText := true, laidKinds := [.data, .pinned], laidTests := true, laidLooks := .later }
def LabelsSortsCardSaid : Prop := Claim7.holds Tryz.pinned (.plain (OpenSpec.ofChange labelsSortsSpec)) labelsSortsCard

/-- THE TIED CARD OF 'invigilatorlaw04.LabelsJoins'. -/
def labelsJoinsCard : Claim7 := { stood := { row := labelsJoinsRow, standIns := [], harness := (true, "0318071748c9d083c8a7054468a24665c344be0f2d64c3df89b0a512023eee04"), looks := false }, kinds := [], alts := [], laidByText := true, laidKinds := [.data, .pinned], laidTests := true, laidLooks := .later }
def LabelsJoinsCardSaid : Prop := Claim7.holds Tryz.pinned (.plain (OpenSpec.ofChange labelsJoinsSpec)) labelsJoinsCard

/-- THE TIED CARD OF 'invigilatorlaw04.LabelsFolds'. -/
def labelsFoldsCard : Claim7 := { stood := { row := labelsFoldsRow, standIns := [], harness := (true, "0318071748c9d083c8a7054468a24665c344be0f2d64c3df89b0a512023eee04"), looks := false }, kinds := [], alts := [], laidByText := true, laidKinds := [.data, .pinned], laidTests := true, laidLooks := .later }
def LabelsFoldsCardSaid : Prop := Claim7.holds Tryz.pinned (.plain (OpenSpec.ofChange labelsFoldsSpec)) labelsFoldsCard

/-- THE TIED CARD OF 'invigilatorlaw04.LabelsTexts'. -/
def labelsTextsCard : Claim7 := { stood := { row := labelsTextsRow, standIns := [], harness := (true, "0318071748c9d083c8a7054468a24665c344be0f2d64c3df89b0a512023eee04"), looks := false }, kinds := [], alts := [], laidByText := true, laidKinds := [.data, .pinned], laidTests := true, laidLooks := .later }
def LabelsTextsCardSaid : Prop := Claim7.holds Tryz.pinned (.plain (OpenSpec.ofChange labelsTextsSpec)) labelsTextsCard

/-- THE TIED CARD OF 'invigilatorlaw04.LabelsKnown'. -/
def labelsKnownCard : Claim7 := { stood := { row := labelsKnownRow, standIns := [], harness := (true, "0318071748c9d083c8a7054468a24665c344be0f2d64c3df89b0a512023eee04"), looks := false }, kinds := [], alts := [], laidByText := true, laidKinds := [.data, .pinned], laidTests := true, laidLooks := .later }
def LabelsKnownCardSaid : Prop := Claim7.holds Tryz.pinned (.plain (OpenSpec.ofChange labelsKnownSpec)) labelsKnownCard

/-- THE SECOND FORM's CARD OF 'invigilatorlaw04.LabelsChains'. -/
def labelsChainsUptoCard : Claim7 := { stood := { row := labelsChainsUptoRow, standIns := [], harness := (true, "0318071748c9d083c8a7054468a24665c344be0f2d64c3df89b0a512023eee04"), looks := false }, kinds := [], alts := [], laidByText := true, laidKinds := [.data, .pinned], laidTests := true, laidLooks := .later }
def LabelsChainsUptoCardSaid : Prop := Claim7.holds Tryz.pinned (.plain (OpenSpec.upto labelsChainsSpec)) labelsChainsUptoCard

/-- THE SECOND FORM's CARD OF 'invigilatorlaw04.LabelsSorts'. -/
def labelsSortsUptoCard : Claim7 := { stood := { row := labelsSortsUptoRow, standIns := [], harness := (true, "0318071748c9d083c8a7054468a24665c344be0f2d64c3df89b0a512023eee04"), looks := false }, kinds := [], alts := [], laidByText := true, laidKinds := [.data, .pinned], laidTests := true, laidLooks := .later }
def LabelsSortsUptoCardSaid : Prop := Claim7.holds Tryz.pinned (.plain (OpenSpec.upto labelsSortsSpec)) labelsSortsUptoCard

/-- THE SECOND FORM's CARD OF 'invigilatorlaw04.LabelsJoins'. -/
def labelsJoinsUptoCard : Claim7 := { stood := { row := labelsJoinsUptoRow, standIns := [], harness := (true, "0318071748c9d083c8a7054468a24665c344be0f2d64c3df89b0a512023eee04"), looks := false }, kinds := [], alts := [], laidByText := true, laidKinds := [.data, .pinned], laidTests := true, laidLooks := .later }
def LabelsJoinsUptoCardSaid : Prop := Claim7.holds Tryz.pinned (.plain (OpenSpec.upto labelsJoinsSpec)) labelsJoinsUptoCard

/-- THE SECOND FORM's CARD OF 'invigilatorlaw04.LabelsFolds'. -/
def labelsFoldsUptoCard : Claim7 := { stood := { row := labelsFoldsUptoRow, standIns := [], harness := (true, "0318071748c9d083c8a7054468a24665c344be0f2d64c3df89b0a512023eee04"), looks := false }, kinds := [], alts := [], laidByText := true, laidKinds := [.data, .pinned], laidTests := true, laidLooks := .later }
def LabelsFoldsUptoCardSaid : Prop := Claim7.holds Tryz.pinned (.plain (OpenSpec.upto labelsFoldsSpec)) labelsFoldsUptoCard

/-- THE SECOND FORM's CARD OF 'invigilatorlaw04.LabelsTexts'. -/
def labelsTextsUptoCard : Claim7 := { stood := { row := labelsTextsUptoRow, standIns := [], harness := (true, "0318071748c9d083c8a7054468a24665c344be0f2d64c3df89b0a512023eee04"), looks := false }, kinds := [], alts := [], laidByText := true, laidKinds := [.data, .pinned], laidTests := true, laidLooks := .later }
def LabelsTextsUptoCardSaid : Prop := Claim7.holds Tryz.pinned (.plain (OpenSpec.upto labelsTextsSpec)) labelsTextsUptoCard

/-- THE SECOND FORM's CARD OF 'invigilatorlaw04.LabelsKnown'. -/
def labelsKnownUptoCard : Claim7 := { stood := { row := labelsKnownUptoRow, standIns := [], harness := (true, "0318071748c9d083c8a7054468a24665c344be0f2d64c3df89b0a512023eee04"), looks := false }, kinds := [], alts := [], laidByText := true, laidKinds := [.data, .pinned], laidTests := true, laidLooks := .later }
def LabelsKnownUptoCardSaid : Prop := Claim7.holds Tryz.pinned (.plain (OpenSpec.upto labelsKnownSpec)) labelsKnownUptoCard
end Rows
end Go.Proofs.YtebnoigmepfdcaaGreatDoor
