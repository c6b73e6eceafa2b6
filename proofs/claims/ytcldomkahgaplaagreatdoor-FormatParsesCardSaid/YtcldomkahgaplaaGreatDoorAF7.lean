/- The reference's tables, on. -/
import Derived.Test.YtcldomkahgaplaaGreatDoorAF6
set_option linter.all false
namespace Go.Avm
open Go Go.Fm
set_option maxRecDepth 10000
section
variable {X:Cx}(hX:X.P=Go.Proofs.Tryz.prog)(hs:Std X)
include hX hs
end
end Go.Avm
namespace Go.Avm
open Go Go.Fm
set_option maxRecDepth 10000
section
variable {X:Cx}(hX:X.P=Go.Proofs.Tryz.prog)(hs:Std X)
include hX hs
variable (hP:X.G (sRen.g 17)=some tabQ){te:Nat}(hR:X.G (sRen.g 16)=some [.ifc te .undef])
include hP hR
end
end Go.Avm
