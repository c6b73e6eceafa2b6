/- The context in which the seat's functions are proved. -/
import Derived.Test.YtcldomkahgaplaaGreatDoorAF1
import Derived.Test.YtcldomkahgaplaaGreatDoorAB
import Derived.Test.YtcldomkahgaplaaGreatDoorAS
import Derived.Test.YtcldomkahgaplaaGreatDoorRows
import Derived.OpenShut
import Derived.Stop.Joined
import Derived.Lay
import Derived.LaidMore
set_option linter.all false
namespace Go.Avm
open Go
end Go.Avm
namespace Go.Proofs.YtcldomkahgaplaaGreatDoor
open Go Go.Avm Go.ChangeShapes Go.WideShapes Go.ChangeAt Go.WideMaps Go.WideElems Go.RowKit Go.Lib
theorem own:ownKnob Tryz.prog.godebug=none:=by kernel_rfl
theorem laidOut:laidOutB Tryz.prog=true:=by kernel_rfl
def zvs:List (String×DataW Unit):= [("math/bits.deBruijn32tab",Rows.laid_math_bits_deBruijn32tab), ("math/bits.deBruijn64tab",Rows.laid_math_bits_deBruijn64tab), ("internal/strconv.uint64pow10",Rows.laid_internal_strconv_uint64pow10), ("unicode/utf8.acceptRanges",Rows.laid_unicode_utf8_acceptRanges), ("strconv.ErrRange",Rows.laid_strconv_ErrRange), ("strconv.ErrSyntax",Rows.laid_strconv_ErrSyntax), ("invigilator/lexer.none",Rows.laid_invigilator_lexer_none), ("unicode/utf8.first",Rows.laid_unicode_utf8_first)]
theorem zEt:(Rows.laid_internal_strconv_uint64pow10:DataW Unit)=tabData .u64 Lib.pow10Tab:=by kernel_rfl
theorem gPow:Tryz.prog.globalNamed "internal/strconv.uint64pow10" = some 4:=by kernel_rfl
theorem yPow:(Tryz.prog.globals[4]?).map (·.type)=some 217:=by kernel_rfl
theorem gRng:Tryz.prog.globalNamed "strconv.ErrRange" = some 6:=by kernel_rfl
theorem yRng:(Tryz.prog.globals[6]?).map (·.type)=some 63:=by kernel_rfl
end Go.Proofs.YtcldomkahgaplaaGreatDoor
