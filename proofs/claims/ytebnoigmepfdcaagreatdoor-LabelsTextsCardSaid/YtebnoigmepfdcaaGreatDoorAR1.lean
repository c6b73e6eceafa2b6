/- The context in which the seat's functions are proved. -/
import Derived.Test.YtebnoigmepfdcaaGreatDoorAQ7
import Derived.Test.YtebnoigmepfdcaaGreatDoorAB
import Derived.Test.YtebnoigmepfdcaaGreatDoorAS
import Derived.Test.YtebnoigmepfdcaaGreatDoorRows
import Derived.OpenShut
import Derived.Stop.Joined
import Derived.Lay
import Derived.LaidMore
set_option linter.unusedSectionVars false
set_option linter.unusedSimpArgs false
set_option linter.unusedVariables false

/- The context in which the seat's functions are proved. -/
namespace Go.Proofs.YtebnoigmepfdcaaGreatDoor
open Go Go.Avm Go.ChangeShapes Go.WideShapes Go.ChangeAt Go.WideMaps Go.WideElems Go.RowKit Go.Lib
theorem own : ownKnob Tryz.prog.godebug = none := by kernel_rfl
theorem laidOut : laidOutB Tryz.prog = true := by kernel_rfl
def laidL : List (String × DataW Unit) := [("unicode/utf8.acceptRanges", Rows.laid_unicode_utf8_acceptRanges), ("unicode/utf8.first", Rows.laid_unicode_utf8_first)]
theorem cx_ex {W : World} (_ : laidMet Tryz.prog laidL W) : ∃ X : Cx, X.P = Tryz.prog ∧ Std X ∧ True ∧ ∀ x cs, X.G x = some cs → LaidAt W x cs :=
  ⟨{ P := Tryz.prog, G := fun _ => none }, rfl, ⟨by kernel_rfl, rfl⟩, trivial, fun _ _ h => by cases h⟩
end Go.Proofs.YtebnoigmepfdcaaGreatDoor
