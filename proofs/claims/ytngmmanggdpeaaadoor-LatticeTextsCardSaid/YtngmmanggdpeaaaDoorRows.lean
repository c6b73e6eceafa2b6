/-
  NARROWER THAN 'FOR EVERY INPUT', by the rows' own cells (each row's printed sentence says how): LatticeAlgebra: laid · LatticeOrders: laid · LatticeBounds: laid · LatticeFinds: laid · LatticeChecks: laid · LatticeDuals: laid · LatticeKnown: laid · LatticeTexts: laid.
  DERIVED. THE GIVEN ROWS OF THIS SEAT. 8 by the template 'for every input the law returns true; each argument reads behind the call as it read before'; 0 by the template 'total and deterministic' (their statements: YtngmmanggdpeaaaDoorTotals.lean).
  GIVEN WITH THE SEED: the statements are not yours to turn. If you find one false, say at which input.
  Laid BY PROGRAM, IN A SANDBOX (cutbox-rows.mjs): the forced cells as the released guide's own fill.sh prints them over the translation 8c04ac045cda1dc9… (all of the seat's roots in one cut). By AI agents, Wed Nov 11 2026. No macro, syntax, notation, axiom, sorry.
-/
import Derived.Test.YtngmmanggdpeaaaDoorChecked
import GoSem.PinnedTables
import GoSem.Claim
import GoSem.ClaimJoined
import GoSem.ClaimMapViews
import Derived.JoinedTies
import Derived.KernelRfl
namespace Go.Proofs.YtngmmanggdpeaaaDoor
/- THE CELL 'sum', in the pinned program and in every row, IS THE sha256 OF THE DUMP (.gsa) THAT YtngmmanggdpeaaaDoorProg.lean LOADS. Nothing in Lean hashes anything: it is a label: what it is worth is what the hold of that sum in a sandbox is worth. -/
noncomputable def Tryd.pinned : Pinned := { name := "ytngmmanggdpeaaadoor", sum := "8c04ac045cda1dc9c743a3a609b22bbede14ee643b36aa6f9b908b52042d36c3", checked := Tryd.checked }
namespace Rows
def none {H : Type} : Left H := { results := [], args := [] }

/- WHAT THE LISTED PACKAGE-LEVEL VARIABLES READ AS WHEN THE CALL BEGINS. Each datum BY PROGRAM (the guide's laid-datum.mjs) off the statement by which the dump's own 'gosem.cut.vars' lays the variable. In a bare row this is a premise. The card (YtngmmanggdpeaaaDoorCards.lean) ties it to the program's text. -/
def laid_unicode_utf8_acceptRanges {H : Type} : DataW H := .agg [.agg [.lit (.int .u8 128), .lit (.int .u8 191)], .agg [.lit (.int .u8 160), .lit (.int .u8 191)], .agg [.lit (.int .u8 128), .lit (.int .u8 159)], .agg [.lit (.int .u8 144), .lit (.int .u8 191)], .agg [.lit (.int .u8 128), .lit (.int .u8 143)], .agg [.lit (.int .u8 0), .lit (.int .u8 0)], .agg [.lit (.int .u8 0), .lit (.int .u8 0)], .agg [.lit (.int .u8 0), .lit (.int .u8 0)], .agg [.lit (.int .u8 0), .lit (.int .u8 0)], .agg [.lit (.int .u8 0), .lit (.int .u8 0)], .agg [.lit (.int .u8 0), .lit (.int .u8 0)], .agg [.lit (.int .u8 0), .lit (.int .u8 0)], .agg [.lit (.int .u8 0), .lit (.int .u8 0)], .agg [.lit (.int .u8 0), .lit (.int .u8 0)], .agg [.lit (.int .u8 0), .lit (.int .u8 0)], .agg [.lit (.int .u8 0), .lit (.int .u8 0)]]
/-- One of Go's own tables, pinned by name: the form's constant. -/
def laid_unicode_utf8_first : DataW Unit := Go.Pinned.utf8First

/-- 'invigilatorlaw03.LatticeAlgebra': WHATEVER THE INPUT: true; the input reads as it did. -/
def latticeAlgebraSpec : ChangeSpec := { name := "latticeAlgebra", fn := fun _ => fun
  | [d] => { results := [.lit (.bool true)], args := [d] }
  | _ => none }
def latticeAlgebraRow : OpenClaim := { program := "ytngmmanggdpeaaadoor", sum := "8c04ac045cda1dc9c743a3a609b22bbede14ee643b36aa6f9b908b52042d36c3", func := "invigilator/invigilatorlaw03.LatticeAlgebra", spec := "latticeAlgebra", inPlace := ["internal/bytealg.IndexByteString", "internal/bytealg.IndexString", "internal/abi.NoEscape"], named := ["unicode/utf8.first", "unicode/utf8.acceptRanges", "internal/bytealg.MaxLen"], apart := false, laid := [("unicode/utf8.acceptRanges", laid_unicode_utf8_acceptRanges), ("unicode/utf8.first", laid_unicode_utf8_first)] }
def LatticeAlgebraSaid : Prop := latticeAlgebraRow.holds Tryd.pinned (OpenSpec.ofChange latticeAlgebraSpec)

/-- ITS FALSE NEIGHBOUR: 'it returns false'. Refute it at one input. -/
def latticeAlgebraWrong : ChangeSpec := { name := "latticeAlgebra", fn := fun _ => fun
  | [d] => { results := [.lit (.bool false)], args := [d] }
  | _ => none }
def LatticeAlgebraWrongFalsely : Prop := latticeAlgebraRow.holds Tryd.pinned (OpenSpec.ofChange latticeAlgebraWrong)

/-- 'invigilatorlaw03.LatticeOrders': WHATEVER THE INPUT: true; the input reads as it did. -/
def latticeOrdersSpec : ChangeSpec := { name := "latticeOrders", fn := fun _ => fun
  | [d1, d2, d3] => { results := [.lit (.bool true)], args := [d1, d2, d3] }
  | _ => none }
def latticeOrdersRow : OpenClaim := { program := "ytngmmanggdpeaaadoor", sum := "8c04ac045cda1dc9c743a3a609b22bbede14ee643b36aa6f9b908b52042d36c3", func := "invigilator/invigilatorlaw03.LatticeOrders", spec := "latticeOrders", inPlace := ["internal/bytealg.IndexByteString", "internal/bytealg.IndexString", "internal/abi.NoEscape"], named := ["unicode/utf8.first", "unicode/utf8.acceptRanges", "internal/bytealg.MaxLen"], apart := false, laid := [("unicode/utf8.acceptRanges", laid_unicode_utf8_acceptRanges), ("unicode/utf8.first", laid_unicode_utf8_first)] }
def LatticeOrdersSaid : Prop := latticeOrdersRow.holds Tryd.pinned (OpenSpec.ofChange latticeOrdersSpec)

/-- ITS FALSE NEIGHBOUR: 'it returns false'. Refute it at one input. -/
def latticeOrdersWrong : ChangeSpec := { name := "latticeOrders", fn := fun _ => fun
  | [d1, d2, d3] => { results := [.lit (.bool false)], args := [d1, d2, d3] }
  | _ => none }
def LatticeOrdersWrongFalsely : Prop := latticeOrdersRow.holds Tryd.pinned (OpenSpec.ofChange latticeOrdersWrong)

/-- 'invigilatorlaw03.LatticeBounds': WHATEVER THE INPUT: true; the input reads as it did. -/
def latticeBoundsSpec : ChangeSpec := { name := "latticeBounds", fn := fun _ => fun
  | [d] => { results := [.lit (.bool true)], args := [d] }
  | _ => none }
def latticeBoundsRow : OpenClaim := { program := "ytngmmanggdpeaaadoor", sum := "8c04ac045cda1dc9c743a3a609b22bbede14ee643b36aa6f9b908b52042d36c3", func := "invigilator/invigilatorlaw03.LatticeBounds", spec := "latticeBounds", inPlace := ["internal/bytealg.IndexByteString", "internal/bytealg.IndexString", "internal/abi.NoEscape"], named := ["unicode/utf8.first", "unicode/utf8.acceptRanges", "internal/bytealg.MaxLen"], apart := false, laid := [("unicode/utf8.acceptRanges", laid_unicode_utf8_acceptRanges), ("unicode/utf8.first", laid_unicode_utf8_first)] }
def LatticeBoundsSaid : Prop := latticeBoundsRow.holds Tryd.pinned (OpenSpec.ofChange latticeBoundsSpec)

/-- ITS FALSE NEIGHBOUR: 'it returns false'. Refute it at one input. -/
def latticeBoundsWrong : ChangeSpec := { name := "latticeBounds", fn := fun _ => fun
  | [d] => { results := [.lit (.bool false)], args := [d] }
  | _ => none }
def LatticeBoundsWrongFalsely : Prop := latticeBoundsRow.holds Tryd.pinned (OpenSpec.ofChange latticeBoundsWrong)

/-- 'invigilatorlaw03.LatticeFinds': WHATEVER THE INPUT: true; the input reads as it did. -/
def latticeFindsSpec : ChangeSpec := { name := "latticeFinds", fn := fun _ => fun
  | [d1, d2] => { results := [.lit (.bool true)], args := [d1, d2] }
  | _ => none }
def latticeFindsRow : OpenClaim := { program := "ytngmmanggdpeaaadoor", sum := "8c04ac045cda1dc9c743a3a609b22bbede14ee643b36aa6f9b908b52042d36c3", func := "invigilator/invigilatorlaw03.LatticeFinds", spec := "latticeFinds", inPlace := ["internal/bytealg.IndexByteString", "internal/bytealg.IndexString", "internal/abi.NoEscape"], named := ["unicode/utf8.first", "unicode/utf8.acceptRanges", "internal/bytealg.MaxLen"], apart := false, laid := [("unicode/utf8.acceptRanges", laid_unicode_utf8_acceptRanges), ("unicode/utf8.first", laid_unicode_utf8_first)] }
def LatticeFindsSaid : Prop := latticeFindsRow.holds Tryd.pinned (OpenSpec.ofChange latticeFindsSpec)

/-- ITS FALSE NEIGHBOUR: 'it returns false'. Refute it at one input. -/
def latticeFindsWrong : ChangeSpec := { name := "latticeFinds", fn := fun _ => fun
  | [d1, d2] => { results := [.lit (.bool false)], args := [d1, d2] }
  | _ => none }
def LatticeFindsWrongFalsely : Prop := latticeFindsRow.holds Tryd.pinned (OpenSpec.ofChange latticeFindsWrong)

/-- 'invigilatorlaw03.LatticeChecks': WHATEVER THE INPUT: true; the input reads as it did. -/
def latticeChecksSpec : ChangeSpec := { name := "latticeChecks", fn := fun _ => fun
  | [d1, d2, d3] => { results := [.lit (.bool true)], args := [d1, d2, d3] }
  | _ => none }
def latticeChecksRow : OpenClaim := { program := "ytngmmanggdpeaaadoor", sum := "8c04ac045cda1dc9c743a3a609b22bbede14ee643b36aa6f9b908b52042d36c3", func := "invigilator/invigilatorlaw03.LatticeChecks", spec := "latticeChecks", inPlace := ["internal/bytealg.IndexByteString", "internal/bytealg.IndexString", "internal/abi.NoEscape"], named := ["unicode/utf8.first", "unicode/utf8.acceptRanges", "internal/bytealg.MaxLen"], apart := false, laid := [("unicode/utf8.acceptRanges", laid_unicode_utf8_acceptRanges), ("unicode/utf8.first", laid_unicode_utf8_first)] }
def LatticeChecksSaid : Prop := latticeChecksRow.holds Tryd.pinned (OpenSpec.ofChange latticeChecksSpec)

/-- ITS FALSE NEIGHBOUR: 'it returns false'. Refute it at one input. -/
def latticeChecksWrong : ChangeSpec := { name := "latticeChecks", fn := fun _ => fun
  | [d1, d2, d3] => { results := [.lit (.bool false)], args := [d1, d2, d3] }
  | _ => none }
def LatticeChecksWrongFalsely : Prop := latticeChecksRow.holds Tryd.pinned (OpenSpec.ofChange latticeChecksWrong)

/-- 'invigilatorlaw03.LatticeDuals': WHATEVER THE INPUT: true; the input reads as it did. -/
def latticeDualsSpec : ChangeSpec := { name := "latticeDuals", fn := fun _ => fun
  | [d] => { results := [.lit (.bool true)], args := [d] }
  | _ => none }
def latticeDualsRow : OpenClaim := { program := "ytngmmanggdpeaaadoor", sum := "8c04ac045cda1dc9c743a3a609b22bbede14ee643b36aa6f9b908b52042d36c3", func := "invigilator/invigilatorlaw03.LatticeDuals", spec := "latticeDuals", inPlace := ["internal/bytealg.IndexByteString", "internal/bytealg.IndexString", "internal/abi.NoEscape"], named := ["unicode/utf8.first", "unicode/utf8.acceptRanges", "internal/bytealg.MaxLen"], apart := false, laid := [("unicode/utf8.acceptRanges", laid_unicode_utf8_acceptRanges), ("unicode/utf8.first", laid_unicode_utf8_first)] }
def LatticeDualsSaid : Prop := latticeDualsRow.holds Tryd.pinned (OpenSpec.ofChange latticeDualsSpec)

/-- ITS FALSE NEIGHBOUR: 'it returns false'. Refute it at one input. -/
def latticeDualsWrong : ChangeSpec := { name := "latticeDuals", fn := fun _ => fun
  | [d] => { results := [.lit (.bool false)], args := [d] }
  | _ => none }
def LatticeDualsWrongFalsely : Prop := latticeDualsRow.holds Tryd.pinned (OpenSpec.ofChange latticeDualsWrong)

/-- 'invigilatorlaw03.LatticeKnown': WHATEVER THE INPUT: true; the input reads as it did. -/
def latticeKnownSpec : ChangeSpec := { name := "latticeKnown", fn := fun _ => fun
  | [] => { results := [.lit (.bool true)], args := [] }
  | _ => none }
def latticeKnownRow : OpenClaim := { program := "ytngmmanggdpeaaadoor", sum := "8c04ac045cda1dc9c743a3a609b22bbede14ee643b36aa6f9b908b52042d36c3", func := "invigilator/invigilatorlaw03.LatticeKnown", spec := "latticeKnown", inPlace := ["internal/bytealg.IndexByteString", "internal/bytealg.IndexString", "internal/abi.NoEscape"], named := ["unicode/utf8.first", "unicode/utf8.acceptRanges", "internal/bytealg.MaxLen"], apart := false, laid := [("unicode/utf8.acceptRanges", laid_unicode_utf8_acceptRanges), ("unicode/utf8.first", laid_unicode_utf8_first)] }
def LatticeKnownSaid : Prop := latticeKnownRow.holds Tryd.pinned (OpenSpec.ofChange latticeKnownSpec)

/-- ITS FALSE NEIGHBOUR: 'it returns false'. Refute it at one input. -/
def latticeKnownWrong : ChangeSpec := { name := "latticeKnown", fn := fun _ => fun
  | [] => { results := [.lit (.bool false)], args := [] }
  | _ => none }
def LatticeKnownWrongFalsely : Prop := latticeKnownRow.holds Tryd.pinned (OpenSpec.ofChange latticeKnownWrong)

/-- 'invigilatorlaw03.LatticeTexts': WHATEVER THE INPUT: true; the input reads as it did. -/
def latticeTextsSpec : ChangeSpec := { name := "latticeTexts", fn := fun _ => fun
  | [d1, d2] => { results := [.lit (.bool true)], args := [d1, d2] }
  | _ => none }
def latticeTextsRow : OpenClaim := { program := "ytngmmanggdpeaaadoor", sum := "8c04ac045cda1dc9c743a3a609b22bbede14ee643b36aa6f9b908b52042d36c3", func := "invigilator/invigilatorlaw03.LatticeTexts", spec := "latticeTexts", inPlace := ["internal/bytealg.IndexByteString", "internal/bytealg.IndexString", "internal/abi.NoEscape", "internal/bytealg.CountString"], named := ["unicode/utf8.first", "unicode/utf8.acceptRanges", "internal/bytealg.MaxLen"], apart := false, laid := [("unicode/utf8.acceptRanges", laid_unicode_utf8_acceptRanges), ("unicode/utf8.first", laid_unicode_utf8_first)] }
def LatticeTextsSaid : Prop := latticeTextsRow.holds Tryd.pinned (OpenSpec.ofChange latticeTextsSpec)

/-- ITS FALSE NEIGHBOUR: 'it returns false'. Refute it at one input. -/
def latticeTextsWrong : ChangeSpec := { name := "latticeTexts", fn := fun _ => fun
  | [d1, d2] => { results := [.lit (.bool false)], args := [d1, d2] }
  | _ => none }
def LatticeTextsWrongFalsely : Prop := latticeTextsRow.holds Tryd.pinned (OpenSpec.ofChange latticeTextsWrong)

/- THE SECOND FORM. 'bulk': how many values and letters a reading holds, each counted each time it is reached (what is shared counts as often as it is met; a slice's spare places count too). A statement '..UptoSaid' is the law's where the arguments, and the package variables that the reading takes, are together of bulk at most 1048576: NARROWER than '..Said'. Prove '..Said' where nothing that the law and all that it calls make is longer than what came in: it says more and counts as full. Else prove '..UptoSaid'. A law counts once. -/
mutual
def uptoBulk {H : Type} : DataW H → Nat
  | .lit (.string bytes) => bytes.length + 1
  | .lit _ => 1
  | .nil => 1
  | .ptr d => uptoBulk d + 1
  | .slice elems spare => uptoBulkAll elems + uptoBulkAll spare + 1
  | .agg parts => uptoBulkAll parts + 1
  | .iface _ d => uptoBulk d + 1
  | .map entries => uptoBulkEntries entries + 1
  | .held _ => 1
def uptoBulkAll {H : Type} : List (DataW H) → Nat
  | [] => 0
  | d :: r => uptoBulk d + uptoBulkAll r
def uptoBulkEntries {H : Type} : List (Lit × DataW H) → Nat
  | [] => 0
  | x :: r => uptoBulkEntry x + uptoBulkEntries r
def uptoBulkEntry {H : Type} : Lit × DataW H → Nat
  | (.string bytes, d) => bytes.length + uptoBulk d + 1
  | (_, d) => uptoBulk d + 1
 end
def uptoSmall : (H : Type) → List (DataW H) → Bool := fun _ ds => decide (uptoBulkAll ds ≤ 1048576)
def OpenSpec.upto (s : _root_.Go.ChangeSpec) : _root_.Go.OpenSpec := { _root_.Go.OpenSpec.ofChange s with cond := some uptoSmall }

/-- 'invigilatorlaw03.LatticeAlgebra', WHERE WHAT IT READS IS OF BULK AT MOST 1048576: true; the input reads as it did. -/
def latticeAlgebraUptoRow : OpenClaim := { program := "ytngmmanggdpeaaadoor", sum := "8c04ac045cda1dc9c743a3a609b22bbede14ee643b36aa6f9b908b52042d36c3", func := "invigilator/invigilatorlaw03.LatticeAlgebra", spec := "latticeAlgebra", inPlace := ["internal/bytealg.IndexByteString", "internal/bytealg.IndexString", "internal/abi.NoEscape"], named := ["unicode/utf8.first", "unicode/utf8.acceptRanges", "internal/bytealg.MaxLen"], apart := false, laid := [("unicode/utf8.acceptRanges", laid_unicode_utf8_acceptRanges), ("unicode/utf8.first", laid_unicode_utf8_first)], narrowed := true }
def LatticeAlgebraUptoSaid : Prop := latticeAlgebraUptoRow.holds Tryd.pinned (OpenSpec.upto latticeAlgebraSpec)

/-- 'invigilatorlaw03.LatticeOrders', WHERE WHAT IT READS IS OF BULK AT MOST 1048576: true; the input reads as it did. -/
def latticeOrdersUptoRow : OpenClaim := { program := "ytngmmanggdpeaaadoor", sum := "8c04ac045cda1dc9c743a3a609b22bbede14ee643b36aa6f9b908b52042d36c3", func := "invigilator/invigilatorlaw03.LatticeOrders", spec := "latticeOrders", inPlace := ["internal/bytealg.IndexByteString", "internal/bytealg.IndexString", "internal/abi.NoEscape"], named := ["unicode/utf8.first", "unicode/utf8.acceptRanges", "internal/bytealg.MaxLen"], apart := false, laid := [("unicode/utf8.acceptRanges", laid_unicode_utf8_acceptRanges), ("unicode/utf8.first", laid_unicode_utf8_first)], narrowed := true }
def LatticeOrdersUptoSaid : Prop := latticeOrdersUptoRow.holds Tryd.pinned (OpenSpec.upto latticeOrdersSpec)

/-- 'invigilatorlaw03.LatticeBounds', WHERE WHAT IT READS IS OF BULK AT MOST 1048576: true; the input reads as it did. -/
def latticeBoundsUptoRow : OpenClaim := { program := "ytngmmanggdpeaaadoor", sum := "8c04ac045cda1dc9c743a3a609b22bbede14ee643b36aa6f9b908b52042d36c3", func := "invigilator/invigilatorlaw03.LatticeBounds", spec := "latticeBounds", inPlace := ["internal/bytealg.IndexByteString", "internal/bytealg.IndexString", "internal/abi.NoEscape"], named := ["unicode/utf8.first", "unicode/utf8.acceptRanges", "internal/bytealg.MaxLen"], apart := false, laid := [("unicode/utf8.acceptRanges", laid_unicode_utf8_acceptRanges), ("unicode/utf8.first", laid_unicode_utf8_first)], narrowed := true }
def LatticeBoundsUptoSaid : Prop := latticeBoundsUptoRow.holds Tryd.pinned (OpenSpec.upto latticeBoundsSpec)

/-- 'invigilatorlaw03.LatticeFinds', WHERE WHAT IT READS IS OF BULK AT MOST 1048576: true; the input reads as it did. -/
def latticeFindsUptoRow : OpenClaim := { program := "ytngmmanggdpeaaadoor", sum := "8c04ac045cda1dc9c743a3a609b22bbede14ee643b36aa6f9b908b52042d36c3", func := "invigilator/invigilatorlaw03.LatticeFinds", spec := "latticeFinds", inPlace := ["internal/bytealg.IndexByteString", "internal/bytealg.IndexString", "internal/abi.NoEscape"], named := ["unicode/utf8.first", "unicode/utf8.acceptRanges", "internal/bytealg.MaxLen"], apart := false, laid := [("unicode/utf8.acceptRanges", laid_unicode_utf8_acceptRanges), ("unicode/utf8.first", laid_unicode_utf8_first)], narrowed := true }
def LatticeFindsUptoSaid : Prop := latticeFindsUptoRow.holds Tryd.pinned (OpenSpec.upto latticeFindsSpec)

/-- 'invigilatorlaw03.LatticeChecks', WHERE WHAT IT READS IS OF BULK AT MOST 1048576: true; the input reads as it did. -/
def latticeChecksUptoRow : OpenClaim := { program := "ytngmmanggdpeaaadoor", sum := "8c04ac045cda1dc9c743a3a609b22bbede14ee643b36aa6f9b908b52042d36c3", func := "invigilator/invigilatorlaw03.LatticeChecks", spec := "latticeChecks", inPlace := ["internal/bytealg.IndexByteString", "internal/bytealg.IndexString", "internal/abi.NoEscape"], named := ["unicode/utf8.first", "unicode/utf8.acceptRanges", "internal/bytealg.MaxLen"], apart := false, laid := [("unicode/utf8.acceptRanges", laid_unicode_utf8_acceptRanges), ("unicode/utf8.first", laid_unicode_utf8_first)], narrowed := true }
def LatticeChecksUptoSaid : Prop := latticeChecksUptoRow.holds Tryd.pinned (OpenSpec.upto latticeChecksSpec)

/-- 'invigilatorlaw03.LatticeDuals', WHERE WHAT IT READS IS OF BULK AT MOST 1048576: true; the input reads as it did. -/
def latticeDualsUptoRow : OpenClaim := { program := "ytngmmanggdpeaaadoor", sum := "8c04ac045cda1dc9c743a3a609b22bbede14ee643b36aa6f9b908b52042d36c3", func := "invigilator/invigilatorlaw03.LatticeDuals", spec := "latticeDuals", inPlace := ["internal/bytealg.IndexByteString", "internal/bytealg.IndexString", "internal/abi.NoEscape"], named := ["unicode/utf8.first", "unicode/utf8.acceptRanges", "internal/bytealg.MaxLen"], apart := false, laid := [("unicode/utf8.acceptRanges", laid_unicode_utf8_acceptRanges), ("unicode/utf8.first", laid_unicode_utf8_first)], narrowed := true }
def LatticeDualsUptoSaid : Prop := latticeDualsUptoRow.holds Tryd.pinned (OpenSpec.upto latticeDualsSpec)

/-- 'invigilatorlaw03.LatticeKnown', WHERE WHAT IT READS IS OF BULK AT MOST 1048576: true; the input reads as it did. -/
def latticeKnownUptoRow : OpenClaim := { program := "ytngmmanggdpeaaadoor", sum := "8c04ac045cda1dc9c743a3a609b22bbede14ee643b36aa6f9b908b52042d36c3", func := "invigilator/invigilatorlaw03.LatticeKnown", spec := "latticeKnown", inPlace := ["internal/bytealg.IndexByteString", "internal/bytealg.IndexString", "internal/abi.NoEscape"], named := ["unicode/utf8.first", "unicode/utf8.acceptRanges", "internal/bytealg.MaxLen"], apart := false, laid := [("unicode/utf8.acceptRanges", laid_unicode_utf8_acceptRanges), ("unicode/utf8.first", laid_unicode_utf8_first)], narrowed := true }
def LatticeKnownUptoSaid : Prop := latticeKnownUptoRow.holds Tryd.pinned (OpenSpec.upto latticeKnownSpec)

/-- 'invigilatorlaw03.LatticeTexts', WHERE WHAT IT READS IS OF BULK AT MOST 1048576: true; the input reads as it did. -/
def latticeTextsUptoRow : OpenClaim := { program := "ytngmmanggdpeaaadoor", sum := "8c04ac045cda1dc9c743a3a609b22bbede14ee643b36aa6f9b908b52042d36c3", func := "invigilator/invigilatorlaw03.LatticeTexts", spec := "latticeTexts", inPlace := ["internal/bytealg.IndexByteString", "internal/bytealg.IndexString", "internal/abi.NoEscape", "internal/bytealg.CountString"], named := ["unicode/utf8.first", "unicode/utf8.acceptRanges", "internal/bytealg.MaxLen"], apart := false, laid := [("unicode/utf8.acceptRanges", laid_unicode_utf8_acceptRanges), ("unicode/utf8.first", laid_unicode_utf8_first)], narrowed := true }
def LatticeTextsUptoSaid : Prop := latticeTextsUptoRow.holds Tryd.pinned (OpenSpec.upto latticeTextsSpec)

end Rows
end Go.Proofs.YtngmmanggdpeaaaDoor
