/- The laws Rows, Checks. -/
import Derived.Test.YtabdnpjbofiknaaGreatDoorAK4
import Derived.Test.YtabdnpjbofiknaaGreatDoorAK3
import Derived.Test.YtabdnpjbofiknaaGreatDoorM1
set_option linter.all false
/- The laws Rows, Checks. -/
namespace Go.Avm
open Go Go.Tb
set_option maxRecDepth 10000
structure Sml (t : Tab) : Prop where
  n : t.n.length < 1000000
  c : t.c.length < 1000000
  a : ∀ a ∈ t.c, a.c.length < 1000000
theorem sml_zero : Sml zeroT := ⟨by decide, by decide, by intro a ha; cases ha⟩
section
variable {X : Cx} (hX : X.P = Go.Proofs.Tryz.prog) (hs : Std X) (hP : X.G (sRen.g 17) = some tabQ)
include hX hs hP
end
end Go.Avm
