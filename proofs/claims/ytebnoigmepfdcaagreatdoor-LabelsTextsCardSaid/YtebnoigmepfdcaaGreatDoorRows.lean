/-
  NARROWER THAN 'FOR EVERY INPUT', by the rows' own cells (each row's printed sentence says how): LabelsChains: laid · LabelsSorts: laid · LabelsJoins: laid · LabelsFolds: laid · LabelsTexts: laid · LabelsKnown: laid.
  DERIVED. THE GIVEN ROWS OF THIS SEAT. 6 by the template 'for every input the law returns true; each argument reads behind the call as it read before'; 0 by the template 'total and deterministic' (their statements: YtebnoigmepfdcaaGreatDoorTotals.lean).
  GIVEN WITH THE SEED: the statements are not yours to turn. If you find one false, say at which input.
  Laid BY PROGRAM, IN A SANDBOX (cutbox-rows.mjs): the forced cells as the released guide's own fill.sh prints them over the translation 380afca9218bce4f… (all of the seat's roots in one cut). By AI agents, Wed Nov 11 2026. No macro, syntax, notation, axiom, sorry.
-/
import Derived.Test.YtebnoigmepfdcaaGreatDoorChecked
import GoSem.PinnedTables
import GoSem.Claim
import GoSem.ClaimJoined
import GoSem.ClaimMapViews
import Derived.JoinedTies
import Derived.KernelRfl
namespace Go.Proofs.YtebnoigmepfdcaaGreatDoor
/- THE CELL 'sum', in the pinned program and in every row, IS THE sha256 OF THE DUMP (.gsa) THAT YtebnoigmepfdcaaGreatDoorProg.lean LOADS. Nothing in Lean hashes anything: it is a label: what it is worth is what the hold of that sum in a sandbox is worth. -/
noncomputable def Tryz.pinned : Pinned := { name := "ytebnoigmepfdcaagreatdoor", sum := "380afca9218bce4fe2013ff456e816b6245baa0cec926c63bdd2cc52424bfc6e", checked := Tryz.checked }
namespace Rows
def none {H : Type} : Left H := { results := [], args := [] }

/- WHAT THE LISTED PACKAGE-LEVEL VARIABLES READ AS WHEN THE CALL BEGINS. Each datum BY PROGRAM (the guide's laid-datum.mjs) off the statement by which the dump's own 'gosem.cut.vars' lays the variable. In a bare row this is a premise. The card (YtebnoigmepfdcaaGreatDoorCards.lean) ties it to the program's text. -/
def laid_unicode_utf8_acceptRanges {H : Type} : DataW H := .agg [.agg [.lit (.int .u8 128), .lit (.int .u8 191)], .agg [.lit (.int .u8 160), .lit (.int .u8 191)], .agg [.lit (.int .u8 128), .lit (.int .u8 159)], .agg [.lit (.int .u8 144), .lit (.int .u8 191)], .agg [.lit (.int .u8 128), .lit (.int .u8 143)], .agg [.lit (.int .u8 0), .lit (.int .u8 0)], .agg [.lit (.int .u8 0), .lit (.int .u8 0)], .agg [.lit (.int .u8 0), .lit (.int .u8 0)], .agg [.lit (.int .u8 0), .lit (.int .u8 0)], .agg [.lit (.int .u8 0), .lit (.int .u8 0)], .agg [.lit (.int .u8 0), .lit (.int .u8 0)], .agg [.lit (.int .u8 0), .lit (.int .u8 0)], .agg [.lit (.int .u8 0), .lit (.int .u8 0)], .agg [.lit (.int .u8 0), .lit (.int .u8 0)], .agg [.lit (.int .u8 0), .lit (.int .u8 0)], .agg [.lit (.int .u8 0), .lit (.int .u8 0)]]
/-- One of Go's own tables, pinned by name: the form's constant. -/
def laid_unicode_utf8_first : DataW Unit := Go.Pinned.utf8First

/-- 'invigilatorlaw04.LabelsChains': WHATEVER THE INPUT: true; the input reads as it did. -/
def labelsChainsSpec : ChangeSpec := { name := "labelsChains", fn := fun _ => fun
  | [d1, d2] => { results := [.lit (.bool true)], args := [d1, d2] }
  | _ => none }
def labelsChainsRow : OpenClaim := { program := "ytebnoigmepfdcaagreatdoor", sum := "380afca9218bce4fe2013ff456e816b6245baa0cec926c63bdd2cc52424bfc6e", func := "invigilator/invigilatorlaw04.LabelsChains", spec := "labelsChains", inPlace := ["internal/bytealg.IndexByteString", "internal/bytealg.IndexString", "internal/abi.NoEscape", "internal/bytealg.MakeNoZero"], unfollowed := true, recurses := true, named := ["unicode/utf8.first", "unicode/utf8.acceptRanges", "internal/bytealg.MaxLen"], apart := false, laid := [("unicode/utf8.acceptRanges", laid_unicode_utf8_acceptRanges), ("unicode/utf8.first", laid_unicode_utf8_first)] }
def LabelsChainsSaid : Prop := labelsChainsRow.holds Tryz.pinned (OpenSpec.ofChange labelsChainsSpec)

/-- ITS FALSE NEIGHBOUR: 'it returns false'. Refute it at one input. -/
def labelsChainsWrong : ChangeSpec := { name := "labelsChains", fn := fun _ => fun
  | [d1, d2] => { results := [.lit (.bool false)], args := [d1, d2] }
  | _ => none }
def LabelsChainsWrongFalsely : Prop := labelsChainsRow.holds Tryz.pinned (OpenSpec.ofChange labelsChainsWrong)

/-- 'invigilatorlaw04.LabelsSorts': WHATEVER THE INPUT: true; the input reads as it did. -/
def labelsSortsSpec : ChangeSpec := { name := "labelsSorts", fn := fun _ => fun
  | [d1, d2, d3] => { results := [.lit (.bool true)], args := [d1, d2, d3] }
  | _ => none }
def labelsSortsRow : OpenClaim := { program := "ytebnoigmepfdcaagreatdoor", sum := "380afca9218bce4fe2013ff456e816b6245baa0cec926c63bdd2cc52424bfc6e", func := "invigilator/invigilatorlaw04.LabelsSorts", spec := "labelsSorts", inPlace := ["internal/bytealg.IndexByteString", "internal/bytealg.IndexString", "internal/abi.NoEscape", "internal/bytealg.MakeNoZero"], unfollowed := true, recurses := true, named := ["unicode/utf8.first", "unicode/utf8.acceptRanges", "internal/bytealg.MaxLen"], apart := false, laid := [("unicode/utf8.acceptRanges", laid_unicode_utf8_acceptRanges), ("unicode/utf8.first", laid_unicode_utf8_first)] }
def LabelsSortsSaid : Prop := labelsSortsRow.holds Tryz.pinned (OpenSpec.ofChange labelsSortsSpec)

/-- ITS FALSE NEIGHBOUR: 'it returns false'. Refute it at one input. -/
def labelsSortsWrong : ChangeSpec := { name := "labelsSorts", fn := fun _ => fun
  | [d1, d2, d3] => { results := [.lit (.bool false)], args := [d1, d2, d3] }
  | _ => none }
def LabelsSortsWrongFalsely : Prop := labelsSortsRow.holds Tryz.pinned (OpenSpec.ofChange labelsSortsWrong)

/-- 'invigilatorlaw04.LabelsJoins': WHATEVER THE INPUT: true; the input reads as it did. -/
def labelsJoinsSpec : ChangeSpec := { name := "labelsJoins", fn := fun _ => fun
  | [d1, d2, d3] => { results := [.lit (.bool true)], args := [d1, d2, d3] }
  | _ => none }
def labelsJoinsRow : OpenClaim := { program := "ytebnoigmepfdcaagreatdoor", sum := "380afca9218bce4fe2013ff456e816b6245baa0cec926c63bdd2cc52424bfc6e", func := "invigilator/invigilatorlaw04.LabelsJoins", spec := "labelsJoins", inPlace := ["internal/bytealg.IndexByteString", "internal/bytealg.IndexString", "internal/abi.NoEscape", "internal/bytealg.MakeNoZero"], unfollowed := true, recurses := true, named := ["unicode/utf8.first", "unicode/utf8.acceptRanges", "internal/bytealg.MaxLen"], apart := false, laid := [("unicode/utf8.acceptRanges", laid_unicode_utf8_acceptRanges), ("unicode/utf8.first", laid_unicode_utf8_first)] }
def LabelsJoinsSaid : Prop := labelsJoinsRow.holds Tryz.pinned (OpenSpec.ofChange labelsJoinsSpec)

/-- ITS FALSE NEIGHBOUR: 'it returns false'. Refute it at one input. -/
def labelsJoinsWrong : ChangeSpec := { name := "labelsJoins", fn := fun _ => fun
  | [d1, d2, d3] => { results := [.lit (.bool false)], args := [d1, d2, d3] }
  | _ => none }
def LabelsJoinsWrongFalsely : Prop := labelsJoinsRow.holds Tryz.pinned (OpenSpec.ofChange labelsJoinsWrong)

/-- 'invigilatorlaw04.LabelsFolds': WHATEVER THE INPUT: true; the input reads as it did. -/
def labelsFoldsSpec : ChangeSpec := { name := "labelsFolds", fn := fun _ => fun
  | [d1, d2, d3] => { results := [.lit (.bool true)], args := [d1, d2, d3] }
  | _ => none }
def labelsFoldsRow : OpenClaim := { program := "ytebnoigmepfdcaagreatdoor", sum := "380afca9218bce4fe2013ff456e816b6245baa0cec926c63bdd2cc52424bfc6e", func := "invigilator/invigilatorlaw04.LabelsFolds", spec := "labelsFolds", inPlace := ["internal/bytealg.IndexByteString", "internal/bytealg.IndexString", "internal/abi.NoEscape", "internal/bytealg.MakeNoZero"], unfollowed := true, recurses := true, named := ["unicode/utf8.first", "unicode/utf8.acceptRanges", "internal/bytealg.MaxLen"], apart := false, laid := [("unicode/utf8.acceptRanges", laid_unicode_utf8_acceptRanges), ("unicode/utf8.first", laid_unicode_utf8_first)] }
def LabelsFoldsSaid : Prop := labelsFoldsRow.holds Tryz.pinned (OpenSpec.ofChange labelsFoldsSpec)

/-- ITS FALSE NEIGHBOUR: 'it returns false'. Refute it at one input. -/
def labelsFoldsWrong : ChangeSpec := { name := "labelsFolds", fn := fun _ => fun
  | [d1, d2, d3] => { results := [.lit (.bool false)], args := [d1, d2, d3] }
  | _ => none }
def LabelsFoldsWrongFalsely : Prop := labelsFoldsRow.holds Tryz.pinned (OpenSpec.ofChange labelsFoldsWrong)

/-- 'invigilatorlaw04.LabelsTexts': WHATEVER THE INPUT: true; the input reads as it did. -/
def labelsTextsSpec : ChangeSpec := { name := "labelsTexts", fn := fun _ => fun
  | [d1, d2, d3] => { results := [.lit (.bool true)], args := [d1, d2, d3] }
  | _ => none }
def labelsTextsRow : OpenClaim := { program := "ytebnoigmepfdcaagreatdoor", sum := "380afca9218bce4fe2013ff456e816b6245baa0cec926c63bdd2cc52424bfc6e", func := "invigilator/invigilatorlaw04.LabelsTexts", spec := "labelsTexts", inPlace := ["internal/bytealg.IndexByteString", "internal/bytealg.IndexString", "internal/abi.NoEscape", "internal/bytealg.MakeNoZero", "internal/bytealg.CountString"], unfollowed := true, recurses := true, named := ["unicode/utf8.first", "unicode/utf8.acceptRanges", "internal/bytealg.MaxLen"], apart := false, laid := [("unicode/utf8.acceptRanges", laid_unicode_utf8_acceptRanges), ("unicode/utf8.first", laid_unicode_utf8_first)] }
def LabelsTextsSaid : Prop := labelsTextsRow.holds Tryz.pinned (OpenSpec.ofChange labelsTextsSpec)

/-- ITS FALSE NEIGHBOUR: 'it returns false'. Refute it at one input. -/
def labelsTextsWrong : ChangeSpec := { name := "labelsTexts", fn := fun _ => fun
  | [d1, d2, d3] => { results := [.lit (.bool false)], args := [d1, d2, d3] }
  | _ => none }
def LabelsTextsWrongFalsely : Prop := labelsTextsRow.holds Tryz.pinned (OpenSpec.ofChange labelsTextsWrong)

/-- 'invigilatorlaw04.LabelsKnown': WHATEVER THE INPUT: true; the input reads as it did. -/
def labelsKnownSpec : ChangeSpec := { name := "labelsKnown", fn := fun _ => fun
  | [] => { results := [.lit (.bool true)], args := [] }
  | _ => none }
def labelsKnownRow : OpenClaim := { program := "ytebnoigmepfdcaagreatdoor", sum := "380afca9218bce4fe2013ff456e816b6245baa0cec926c63bdd2cc52424bfc6e", func := "invigilator/invigilatorlaw04.LabelsKnown", spec := "labelsKnown", inPlace := ["internal/bytealg.IndexByteString", "internal/bytealg.IndexString", "internal/abi.NoEscape", "internal/bytealg.MakeNoZero", "internal/bytealg.CountString"], unfollowed := true, recurses := true, named := ["unicode/utf8.first", "unicode/utf8.acceptRanges", "internal/bytealg.MaxLen"], apart := false, laid := [("unicode/utf8.acceptRanges", laid_unicode_utf8_acceptRanges), ("unicode/utf8.first", laid_unicode_utf8_first)] }
def LabelsKnownSaid : Prop := labelsKnownRow.holds Tryz.pinned (OpenSpec.ofChange labelsKnownSpec)

/-- ITS FALSE NEIGHBOUR: 'it returns false'. Refute it at one input. -/
def labelsKnownWrong : ChangeSpec := { name := "labelsKnown", fn := fun _ => fun
  | [] => { results := [.lit (.bool false)], args := [] }
  | _ => none }
def LabelsKnownWrongFalsely : Prop := labelsKnownRow.holds Tryz.pinned (OpenSpec.ofChange labelsKnownWrong)

/- THE SECOND FORM. 'bulk': how many values and letters a reading holds, each counted each time it is reached (what is shared counts as often as it is met; a slice's spare places count too). A statement '..UptoSaid' is the law's where the arguments, and the package variables that the reading takes, are together of bulk at most 1048576: NARROWER than '..Said'. Prove '..Said' where nothing that the law and all that it calls make is longer than what came in: it says more and counts as full. Else prove '..UptoSaid'. A law counts once. -/
mutual
def uptoBulk {H : Type} : DataW H → Nat
  | .lit (.string bytes) => bytes.length + 1
  | .lit _ => 1
  | .nil => 1
  | .ptr d => uptoBulk d + 1
  | .slice elems spare => uptoBulkAll elems + uptoBulkAll spare + 1
  | .agg parts => uptoBulkAll parts + 1
  | .iface _ d => uptoBulk d + 1
  | .map entries => uptoBulkEntries entries + 1
  | .held _ => 1
def uptoBulkAll {H : Type} : List (DataW H) → Nat
  | [] => 0
  | d :: r => uptoBulk d + uptoBulkAll r
def uptoBulkEntries {H : Type} : List (Lit × DataW H) → Nat
  | [] => 0
  | x :: r => uptoBulkEntry x + uptoBulkEntries r
def uptoBulkEntry {H : Type} : Lit × DataW H → Nat
  | (.string bytes, d) => bytes.length + uptoBulk d + 1
  | (_, d) => uptoBulk d + 1
 end
def uptoSmall : (H : Type) → List (DataW H) → Bool := fun _ ds => decide (uptoBulkAll ds ≤ 1048576)
def OpenSpec.upto (s : _root_.Go.ChangeSpec) : _root_.Go.OpenSpec := { _root_.Go.OpenSpec.ofChange s with cond := some uptoSmall }

/-- 'invigilatorlaw04.LabelsChains', WHERE WHAT IT READS IS OF BULK AT MOST 1048576: true; the input reads as it did. -/
def labelsChainsUptoRow : OpenClaim := { program := "ytebnoigmepfdcaagreatdoor", sum := "380afca9218bce4fe2013ff456e816b6245baa0cec926c63bdd2cc52424bfc6e", func := "invigilator/invigilatorlaw04.LabelsChains", spec := "labelsChains", inPlace := ["internal/bytealg.IndexByteString", "internal/bytealg.IndexString", "internal/abi.NoEscape", "internal/bytealg.MakeNoZero"], unfollowed := true, recurses := true, named := ["unicode/utf8.first", "unicode/utf8.acceptRanges", "internal/bytealg.MaxLen"], apart := false, laid := [("unicode/utf8.acceptRanges", laid_unicode_utf8_acceptRanges), ("unicode/utf8.first", laid_unicode_utf8_first)], narrowed := true }
def LabelsChainsUptoSaid : Prop := labelsChainsUptoRow.holds Tryz.pinned (OpenSpec.upto labelsChainsSpec)

/-- 'invigilatorlaw04.LabelsSorts', WHERE WHAT IT READS IS OF BULK AT MOST 1048576: true; the input reads as it did. -/
def labelsSortsUptoRow : OpenClaim := { program := "ytebnoigmepfdcaagreatdoor", sum := "380afca9218bce4fe2013ff456e816b6245baa0cec926c63bdd2cc52424bfc6e", func := "invigilator/invigilatorlaw04.LabelsSorts", spec := "labelsSorts", inPlace := ["internal/bytealg.IndexByteString", "internal/bytealg.IndexString", "internal/abi.NoEscape", "internal/bytealg.MakeNoZero"], unfollowed := true, recurses := true, named := ["unicode/utf8.first", "unicode/utf8.acceptRanges", "internal/bytealg.MaxLen"], apart := false, laid := [("unicode/utf8.acceptRanges", laid_unicode_utf8_acceptRanges), ("unicode/utf8.first", laid_unicode_utf8_first)], narrowed := true }
def LabelsSortsUptoSaid : Prop := labelsSortsUptoRow.holds Tryz.pinned (OpenSpec.upto labelsSortsSpec)

/-- 'invigilatorlaw04.LabelsJoins', WHERE WHAT IT READS IS OF BULK AT MOST 1048576: true; the input reads as it did. -/
def labelsJoinsUptoRow : OpenClaim := { program := "ytebnoigmepfdcaagreatdoor", sum := "380afca9218bce4fe2013ff456e816b6245baa0cec926c63bdd2cc52424bfc6e", func := "invigilator/invigilatorlaw04.LabelsJoins", spec := "labelsJoins", inPlace := ["internal/bytealg.IndexByteString", "internal/bytealg.IndexString", "internal/abi.NoEscape", "internal/bytealg.MakeNoZero"], unfollowed := true, recurses := true, named := ["unicode/utf8.first", "unicode/utf8.acceptRanges", "internal/bytealg.MaxLen"], apart := false, laid := [("unicode/utf8.acceptRanges", laid_unicode_utf8_acceptRanges), ("unicode/utf8.first", laid_unicode_utf8_first)], narrowed := true }
def LabelsJoinsUptoSaid : Prop := labelsJoinsUptoRow.holds Tryz.pinned (OpenSpec.upto labelsJoinsSpec)

/-- 'invigilatorlaw04.LabelsFolds', WHERE WHAT IT READS IS OF BULK AT MOST 1048576: true; the input reads as it did. -/
def labelsFoldsUptoRow : OpenClaim := { program := "ytebnoigmepfdcaagreatdoor", sum := "380afca9218bce4fe2013ff456e816b6245baa0cec926c63bdd2cc52424bfc6e", func := "invigilator/invigilatorlaw04.LabelsFolds", spec := "labelsFolds", inPlace := ["internal/bytealg.IndexByteString", "internal/bytealg.IndexString", "internal/abi.NoEscape", "internal/bytealg.MakeNoZero"], unfollowed := true, recurses := true, named := ["unicode/utf8.first", "unicode/utf8.acceptRanges", "internal/bytealg.MaxLen"], apart := false, laid := [("unicode/utf8.acceptRanges", laid_unicode_utf8_acceptRanges), ("unicode/utf8.first", laid_unicode_utf8_first)], narrowed := true }
def LabelsFoldsUptoSaid : Prop := labelsFoldsUptoRow.holds Tryz.pinned (OpenSpec.upto labelsFoldsSpec)

/-- 'invigilatorlaw04.LabelsTexts', WHERE WHAT IT READS IS OF BULK AT MOST 1048576: true; the input reads as it did. -/
def labelsTextsUptoRow : OpenClaim := { program := "ytebnoigmepfdcaagreatdoor", sum := "380afca9218bce4fe2013ff456e816b6245baa0cec926c63bdd2cc52424bfc6e", func := "invigilator/invigilatorlaw04.LabelsTexts", spec := "labelsTexts", inPlace := ["internal/bytealg.IndexByteString", "internal/bytealg.IndexString", "internal/abi.NoEscape", "internal/bytealg.MakeNoZero", "internal/bytealg.CountString"], unfollowed := true, recurses := true, named := ["unicode/utf8.first", "unicode/utf8.acceptRanges", "internal/bytealg.MaxLen"], apart := false, laid := [("unicode/utf8.acceptRanges", laid_unicode_utf8_acceptRanges), ("unicode/utf8.first", laid_unicode_utf8_first)], narrowed := true }
def LabelsTextsUptoSaid : Prop := labelsTextsUptoRow.holds Tryz.pinned (OpenSpec.upto labelsTextsSpec)

/-- 'invigilatorlaw04.LabelsKnown', WHERE WHAT IT READS IS OF BULK AT MOST 1048576: true; the input reads as it did. -/
def labelsKnownUptoRow : OpenClaim := { program := "ytebnoigmepfdcaagreatdoor", sum := "380afca9218bce4fe2013ff456e816b6245baa0cec926c63bdd2cc52424bfc6e", func := "invigilator/invigilatorlaw04.LabelsKnown", spec := "labelsKnown", inPlace := ["internal/bytealg.IndexByteString", "internal/bytealg.IndexString", "internal/abi.NoEscape", "internal/bytealg.MakeNoZero", "internal/bytealg.CountString"], unfollowed := true, recurses := true, named := ["unicode/utf8.first", "unicode/utf8.acceptRanges", "internal/bytealg.MaxLen"], apart := false, laid := [("unicode/utf8.acceptRanges", laid_unicode_utf8_acceptRanges), ("unicode/utf8.first", laid_unicode_utf8_first)], narrowed := true }
def LabelsKnownUptoSaid : Prop := labelsKnownUptoRow.holds Tryz.pinned (OpenSpec.upto labelsKnownSpec)

end Rows
end Go.Proofs.YtebnoigmepfdcaaGreatDoor
