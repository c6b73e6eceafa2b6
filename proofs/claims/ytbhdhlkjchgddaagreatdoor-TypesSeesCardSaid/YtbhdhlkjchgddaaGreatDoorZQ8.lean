/- The context in which the seat's functions are proved; types and arrays as arguments. -/
import Derived.Test.YtbhdhlkjchgddaaGreatDoorZQ7
import Derived.Test.YtbhdhlkjchgddaaGreatDoorZB
import Derived.Test.YtbhdhlkjchgddaaGreatDoorRows
import Derived.OpenShut
import Derived.Stop.Joined
import Derived.Lay
set_option linter.unusedSectionVars false
set_option linter.unusedSimpArgs false
set_option linter.unusedVariables false

/- The context in which the seat's functions are proved; types and arrays as arguments. -/
namespace Go.Avm
open Go
abbrev K5 : List Lf := [.int .i64, .int .i64, .int .i64, .int .i64, .int .i64]
abbrev KA : List Lf := [.int .i64, .int .i64, .int .i64, .int .i64, .sl false [.int .i64]]
theorem lf_i {avs : List AV} (h : LfL [.int .i64] avs) : ∃ z : Int, avs = [.int .i64 z] := by
  obtain ⟨zs, hl, rfl⟩ := lf_z (n := 1) h
  match zs, hl with
  | [z], _ => exact ⟨z, rfl⟩
theorem lf_ii {avs : List AV} (h : LfL [.int .i64, .int .i64] avs) : ∃ y z : Int, avs = [.int .i64 y, .int .i64 z] := by
  obtain ⟨zs, hl, rfl⟩ := lf_z (n := 2) h
  match zs, hl with
  | [y, z], _ => exact ⟨y, z, rfl⟩
theorem lf_ty {avs : List AV} (h : LfL K5 avs) : ∃ t : Lat.Ty, avs = tyC t := by
  obtain ⟨zs, hl, rfl⟩ := lf_z (n := 5) h
  match zs, hl with
  | [a, b, c, d, e], _ => exact ⟨⟨a, b, c, d, e⟩, rfl⟩
theorem lf_ty2 {avs : List AV} (h : LfL (K5 ++ K5) avs) : ∃ t u : Lat.Ty, avs = tyC t ++ tyC u := by
  obtain ⟨x, y, rfl, h1, h2⟩ := lfl_split h
  obtain ⟨t, rfl⟩ := lf_ty h1
  obtain ⟨u, rfl⟩ := lf_ty h2
  exact ⟨t, u, rfl⟩
theorem lf_ty3 {avs : List AV} (h : LfL ((K5 ++ K5) ++ K5) avs) : ∃ t u v : Lat.Ty, avs = tyC t ++ tyC u ++ tyC v := by
  obtain ⟨x, y, rfl, h1, h2⟩ := lfl_split h
  obtain ⟨t, u, rfl⟩ := lf_ty2 h1
  obtain ⟨v, rfl⟩ := lf_ty h2
  exact ⟨t, u, v, rfl⟩
theorem lf_seen {avs : List AV} (h : LfL (K5 ++ [.int .i64]) avs) : ∃ (t : Lat.Ty) (o : Int), avs = tyC t ++ [.int .i64 o] := by
  obtain ⟨x, y, rfl, h1, h2⟩ := lfl_split h
  obtain ⟨t, rfl⟩ := lf_ty h1
  obtain ⟨o, rfl⟩ := lf_i h2
  exact ⟨t, o, rfl⟩
theorem lf_arr {avs : List AV} (h : LfL KA avs) : ∃ a : Lat.Arr, avs = arC a := by
  obtain ⟨x, y, rfl, h1, h2⟩ := lfl_split (ks := [.int .i64, .int .i64, .int .i64, .int .i64]) (ls := [.sl false [.int .i64]]) h
  obtain ⟨zs, hl, rfl⟩ := lf_z (n := 4) h1
  simp only [LfL] at h2
  obtain ⟨v, _, rfl, h3, rfl⟩ := h2
  obtain ⟨c, rfl, _⟩ := lf_ints .i64 h3
  match zs, hl with
  | [k, r, l0, l1], _ => exact ⟨⟨k, r, l0, l1, c⟩, rfl⟩
theorem lf_arr3 {avs : List AV} (h : LfL ((KA ++ KA) ++ KA) avs) : ∃ a b c : Lat.Arr, avs = arC a ++ arC b ++ arC c := by
  obtain ⟨xy, z, rfl, h12, h3⟩ := lfl_split h
  obtain ⟨x, y, rfl, h1, h2⟩ := lfl_split h12
  obtain ⟨a, rfl⟩ := lf_arr h1
  obtain ⟨b, rfl⟩ := lf_arr h2
  obtain ⟨c, rfl⟩ := lf_arr h3
  exact ⟨a, b, c, rfl⟩
theorem lf_arr2 {avs : List AV} (h : LfL (KA ++ KA) avs) : ∃ a b : Lat.Arr, avs = arC a ++ arC b := by
  obtain ⟨x, y, rfl, h1, h2⟩ := lfl_split h
  obtain ⟨a, rfl⟩ := lf_arr h1
  obtain ⟨b, rfl⟩ := lf_arr h2
  exact ⟨a, b, rfl⟩
end Go.Avm
namespace Go.Proofs.YtbhdhlkjchgddaaGreatDoor
open Go Go.Avm Go.ChangeShapes Go.WideShapes Go.ChangeAt Go.WideMaps Go.WideElems Go.RowKit Go.Lib
theorem own : ownKnob Tryz.prog.godebug = none := by kernel_rfl
theorem laidOut : laidOutB Tryz.prog = true := by kernel_rfl
def laidL : List (String × DataW Unit) := [("math/bits.deBruijn32tab", Rows.laid_math_bits_deBruijn32tab), ("math/bits.deBruijn64tab", Rows.laid_math_bits_deBruijn64tab), ("internal/strconv.uint64pow10", Rows.laid_internal_strconv_uint64pow10), ("unicode/utf8.acceptRanges", Rows.laid_unicode_utf8_acceptRanges), ("unicode/utf8.first", Rows.laid_unicode_utf8_first)]
theorem cx_ex : ∃ X : Cx, X.P = Tryz.prog ∧ Std X ∧ ∀ W : World, ∀ x cs, X.G x = some cs → Rel (.vp cs) (gAll W) W (.pointer (some ⟨x, 0, none⟩)) :=
  ⟨{ P := Tryz.prog, G := fun _ => none }, rfl, ⟨by kernel_rfl, rfl⟩, fun _ _ _ h => by cases h⟩
end Go.Proofs.YtbhdhlkjchgddaaGreatDoor
