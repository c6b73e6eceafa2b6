/- The reference's cells. -/
import Derived.Test.YtcldomkahgaplaaGreatDoorAF4
import Derived.Test.YtcldomkahgaplaaGreatDoorAK2
import Derived.Test.YtcldomkahgaplaaGreatDoorAV2
import Derived.Test.YtcldomkahgaplaaGreatDoorM2
set_option linter.all false
namespace Go.Avm
open Go Go.Fm
set_option maxRecDepth 10000
section
variable {X : Cx} (hX : X.P = Go.Proofs.Tryz.prog) (hs : Std X)
include hX hs
end
end Go.Avm
namespace Go.Avm
open Go Go.Fm
set_option maxRecDepth 10000
section
variable {X : Cx} (hX : X.P = Go.Proofs.Tryz.prog) (hs : Std X)
include hX hs
end
end Go.Avm
