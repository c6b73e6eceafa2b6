/- The law Each. -/
import Derived.Test.YtabdnpjbofiknaaDoorAK3
import Derived.Test.YtabdnpjbofiknaaDoorM1
set_option linter.all false
/- The law Each. -/
namespace Go.Avm
open Go Go.Tb
set_option maxRecDepth 10000
/-- What is asked of a table that comes from without: sizes. -/
structure SzT (t : Tab) : Prop where
  a : ∀ a ∈ t.c, a.c.length ≤ 140737488355328
section
variable {X : Cx} (hX : X.P = Go.Proofs.Tryd.prog) (hs : Std X) (hP : X.G (sRen.g 17) = some tabQ)
include hX hs hP
end
end Go.Avm
