/- The reference: Check, Rows, at, Column, Find. -/
import Derived.Test.YtcldomkahgaplaaGreatDoorAK1
set_option linter.all false
namespace Go.Avm
open Go Go.Tb
set_option maxRecDepth 10000
section
variable {X:Cx}(hX:X.P=Go.Proofs.Tryz.prog)(hs:Std X)
include hX hs
end
end Go.Avm
