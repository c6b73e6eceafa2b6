/- The reference's cells. -/
import Derived.Test.YtcldomkahgaplaaGreatDoorAF4
import Derived.Test.YtcldomkahgaplaaGreatDoorAK2
import Derived.Test.YtcldomkahgaplaaGreatDoorAV2
import Derived.Test.YtcldomkahgaplaaGreatDoorM2
set_option linter.all false
namespace Go.Avm
open Go Go.Fm
set_option maxRecDepth 10000
section
variable {X:Cx}(hX:X.P=Go.Proofs.Tryz.prog)(hs:Std X)
include hX hs
theorem zjG (v:Int)(hv:-9223372036854775808<=v/\v<=9223372036854775807):Ev X zhl [.int .i64 v] (.str (Lib.itoa v)):=by
 refine zac hs (zmE hX) 0 ?_
 simp only[zk9,go_sem,Nat.reduceEqDiff,reduceCtorEq]
 refine zab (zuv hX hs v hv) ?_
 simp only[go_sem,Nat.reduceEqDiff,reduceCtorEq]
end
end Go.Avm
namespace Go.Avm
open Go Go.Fm
set_option maxRecDepth 10000
section
variable {X:Cx}(hX:X.P=Go.Proofs.Tryz.prog)(hs:Std X)
include hX hs
end
end Go.Avm
