/- The context in which the seat's functions are proved. -/
import Derived.Test.YtabdnpjbofiknaaGreatDoorAK5
import Derived.Test.YtabdnpjbofiknaaGreatDoorAB
import Derived.Test.YtabdnpjbofiknaaGreatDoorAS
import Derived.Test.YtabdnpjbofiknaaGreatDoorRows
import Derived.OpenShut
import Derived.Stop.Joined
import Derived.Lay
import Derived.LaidMore
set_option linter.all false
/- The context in which the seat's functions are proved. -/
namespace Go.Avm
open Go Go.Tb
theorem szT {n : List (List UInt8)} {c : List Lat.Arr} (h : ∀ a ∈ c, OkA reachBytes a) : SzT ⟨n, c⟩ := ⟨fun a ha => Nat.le_trans (h a ha).len (by decide +kernel)⟩
end Go.Avm
namespace Go.Proofs.YtabdnpjbofiknaaGreatDoor
open Go Go.Avm Go.ChangeShapes Go.WideShapes Go.ChangeAt Go.WideMaps Go.WideElems Go.RowKit Go.Lib
theorem own : ownKnob Tryz.prog.godebug = none := by kernel_rfl
theorem laidOut : laidOutB Tryz.prog = true := by kernel_rfl
def laidL : List (String × DataW Unit) := [("math/bits.deBruijn32tab", Rows.laid_math_bits_deBruijn32tab), ("math/bits.deBruijn64tab", Rows.laid_math_bits_deBruijn64tab), ("internal/strconv.uint64pow10", Rows.laid_internal_strconv_uint64pow10), ("unicode/utf8.acceptRanges", Rows.laid_unicode_utf8_acceptRanges), ("unicode/utf8.first", Rows.laid_unicode_utf8_first)]
theorem pow_eq : (Rows.laid_internal_strconv_uint64pow10 : DataW Unit) = tabData .u64 Lib.pow10Tab := by kernel_rfl
theorem gPow : Tryz.prog.globalNamed "internal/strconv.uint64pow10" = some 0 := by kernel_rfl
theorem yPow : (Tryz.prog.globals[0]?).map (·.type) = some 133 := by kernel_rfl
theorem cx_ex {W : World} (h : laidMet Tryz.prog laidL W) : ∃ X : Cx, X.P = Tryz.prog ∧ Std X ∧ X.G (sRen.g 17) = some tabQ ∧ ∀ x cs, X.G x = some cs → LaidAt W x cs := by
  have v1 : VarReads Tryz.prog W "internal/strconv.uint64pow10" (tabData .u64 Lib.pow10Tab) := pow_eq ▸ laidMet.reads h (.tail _ (.tail _ (.head _)))
  have h1 : LaidAt W 0 tabQ := laid_tab v1 gPow yPow Tryz.underlying133 Tryz.underlying124 (by kernel_rfl) (by kernel_rfl)
  obtain ⟨X, hX, hs, hG, hl⟩ := cx_of Tryz.prog (by kernel_rfl) [(0, tabQ)] (by
    intro p hp
    simp only [List.mem_cons, List.not_mem_nil, or_false] at hp
    rcases hp with rfl
    exact h1)
  exact ⟨X, hX, hs, by rw [hG]; rfl, hl⟩
end Go.Proofs.YtabdnpjbofiknaaGreatDoor
