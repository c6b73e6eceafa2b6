/- The context in which the seat's functions are proved. -/
import Derived.Test.YtebnoigmepfdcaaDoorAQ7
import Derived.Test.YtebnoigmepfdcaaDoorAB
import Derived.Test.YtebnoigmepfdcaaDoorAS
import Derived.Test.YtebnoigmepfdcaaDoorRows
import Derived.OpenShut
import Derived.Stop.Joined
import Derived.Lay
import Derived.LaidMore
set_option linter.unusedSectionVars false
set_option linter.unusedSimpArgs false
set_option linter.unusedVariables false

/- The context in which the seat's functions are proved. -/
namespace Go.Proofs.YtebnoigmepfdcaaDoor
open Go Go.Avm Go.ChangeShapes Go.WideShapes Go.ChangeAt Go.WideMaps Go.WideElems Go.RowKit Go.Lib
theorem own : ownKnob Tryd.prog.godebug = none := by kernel_rfl
theorem laidOut : laidOutB Tryd.prog = true := by kernel_rfl
def laidL : List (String × DataW Unit) := [("unicode/utf8.acceptRanges", Rows.laid_unicode_utf8_acceptRanges), ("unicode/utf8.first", Rows.laid_unicode_utf8_first)]
theorem cx_ex {W : World} (_ : laidMet Tryd.prog laidL W) : ∃ X : Cx, X.P = Tryd.prog ∧ Std X ∧ True ∧ ∀ x cs, X.G x = some cs → LaidAt W x cs :=
  ⟨{ P := Tryd.prog, G := fun _ => none }, rfl, ⟨by kernel_rfl, rfl⟩, trivial, fun _ _ h => by cases h⟩
end Go.Proofs.YtebnoigmepfdcaaDoor
