/- The context in which the seat's functions are proved. -/
import Derived.Test.YtngmmanggdpeaaaDoorZQ4
import Derived.Test.YtngmmanggdpeaaaDoorZB
import Derived.Test.YtngmmanggdpeaaaDoorRows
import Derived.OpenShut
import Derived.Stop.Joined
import Derived.Lay
set_option linter.unusedSectionVars false
set_option linter.unusedSimpArgs false
set_option linter.unusedVariables false

/- The context in which the seat's functions are proved. -/
namespace Go.Proofs.YtngmmanggdpeaaaDoor
open Go Go.Avm Go.ChangeShapes Go.WideShapes Go.ChangeAt Go.WideMaps Go.WideElems Go.RowKit Go.Lib
theorem own : ownKnob Tryd.prog.godebug = none := by kernel_rfl
theorem laidOut : laidOutB Tryd.prog = true := by kernel_rfl
def laidL : List (String × DataW Unit) := [("unicode/utf8.acceptRanges", Rows.laid_unicode_utf8_acceptRanges), ("unicode/utf8.first", Rows.laid_unicode_utf8_first)]
theorem c5 : Tryd.prog.cellsOf 5 = 1 := by kernel_rfl
theorem c9 : Tryd.prog.cellsOf 9 = 1 := by kernel_rfl
theorem c25 : Tryd.prog.cellsOf 25 = 2 := by kernel_rfl
theorem cx_ex : ∃ X : Cx, X.P = Tryd.prog ∧ Std X ∧ ∀ W : World, ∀ x cs, X.G x = some cs → Rel (.vp cs) (gAll W) W (.pointer (some ⟨x, 0, none⟩)) :=
  ⟨{ P := Tryd.prog, G := fun _ => none }, rfl, ⟨by kernel_rfl, rfl⟩, fun _ _ _ h => by cases h⟩
end Go.Proofs.YtngmmanggdpeaaaDoor
