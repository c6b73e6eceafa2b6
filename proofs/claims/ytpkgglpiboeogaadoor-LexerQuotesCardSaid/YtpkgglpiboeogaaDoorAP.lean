/- The context in which the seat's functions are proved. -/
import Derived.Test.YtpkgglpiboeogaaDoorAQ6
import Derived.Test.YtpkgglpiboeogaaDoorAS
import Derived.Test.YtpkgglpiboeogaaDoorRows
import Derived.OpenShut
import Derived.Stop.Joined
import Derived.Lay
import Derived.LaidMore
set_option linter.unusedSectionVars false
set_option linter.unusedSimpArgs false
set_option linter.unusedVariables false

/- The context in which the seat's functions are proved. -/
namespace Go.Avm
open Go Go.ChangeShapes Go.WideShapes Go.ChangeAt Go.WideElems Go.RowKit Go.Lib
theorem lf_tt {v : AV} (h : LfR (.sl true [.int .i64, .int .i64, .int .i64, .int .i64, .str]) v) : ∃ l : List TT, v = lst itV .ro l ∧ argTT l := by
  obtain ⟨l, rfl, hl⟩ := lf_sla (f := fun x : { x : TT // Lx.I64 x.1.n ∧ x.1.s.length ≤ 9223372036854775807 } => itV x.1) (fun avs ha => by
    simp only [LfL, LfR] at ha
    obtain ⟨_, _, rfl, ⟨a, rfl, _⟩, _, _, rfl, ⟨b, rfl, _⟩, _, _, rfl, ⟨c, rfl, _⟩, _, _, rfl, ⟨d, rfl, hd⟩, _, _, rfl, ⟨s, rfl, hs⟩, rfl⟩ := ha
    have hd := wf_i64 hd
    have hs : s.length ≤ 9223372036854775807 := hs
    exact ⟨⟨(⟨a, d, s⟩, b, c), by unfold Lx.I64; dsimp only; omega, hs⟩, rfl⟩) h
  refine ⟨l.map (·.1), by simp only [lst, List.map_map]; rfl, by rw [List.length_map]; exact hl, fun x hx => ?_⟩
  obtain ⟨y, _, rfl⟩ := List.mem_map.1 hx
  exact y.2
/-- a struct of integers -/
theorem laid_st {P : Program} {W : World} {n : String} {g t : Nat} {k : IntKind} {fs : Array Field} {zs : List Int} (h : VarReads P W n (.agg (zs.map fun z => .lit (.int k z)))) (hg : P.globalNamed n = some g) (hy : (P.globals[g]?).map (·.type) = some t) (ht : P.underlying t = some (.struct fs))
    (hf : ∀ (i : Nat) (f : Field), fs[i]? = some f → P.underlying f.type = some (.int k) ∧ f.offset = i ∧ P.cellsOf f.type = 1) (hct : P.cellsOf t = fs.size) : LaidAt W g (zs.map (AV.int k)) := by
  obtain ⟨g', t', cs, fuel, p, hg', hty, hvar, hd⟩ := h
  obtain rfl := Option.some.inj (hg.symm.trans hg')
  obtain rfl := Option.some.inj (hy.symm.trans hty)
  have hcs := ints_of_struct ht hf hct hd
  exact laid_of hg hvar (by rw [hcs]; exact relL_ints k zs)
end Go.Avm
namespace Go.Proofs.YtpkgglpiboeogaaDoor
open Go Go.Avm Go.ChangeShapes Go.WideShapes Go.ChangeAt Go.WideMaps Go.WideElems Go.RowKit Go.Lib
theorem own : ownKnob Tryd.prog.godebug = none := by kernel_rfl
theorem laidOut : laidOutB Tryd.prog = true := by kernel_rfl
def laidL : List (String × DataW Unit) := [("math/bits.deBruijn32tab", Rows.laid_math_bits_deBruijn32tab), ("math/bits.deBruijn64tab", Rows.laid_math_bits_deBruijn64tab), ("internal/strconv.uint64pow10", Rows.laid_internal_strconv_uint64pow10), ("unicode/utf8.acceptRanges", Rows.laid_unicode_utf8_acceptRanges), ("strconv.ErrRange", Rows.laid_strconv_ErrRange), ("strconv.ErrSyntax", Rows.laid_strconv_ErrSyntax), ("invigilator/lexer.none", Rows.laid_invigilator_lexer_none), ("unicode/utf8.first", Rows.laid_unicode_utf8_first)]
theorem pow_eq : (Rows.laid_internal_strconv_uint64pow10 : DataW Unit) = tabData .u64 Lib.pow10Tab := by kernel_rfl
def firstZ : List Int := (List.range 256).map fun i : Nat => (Lib.firstT i : Int)
theorem first_eq : (Rows.laid_unicode_utf8_first : DataW Unit) = tabData .u8 firstZ := by kernel_rfl
def accR : List (List Int) := (List.range 16).map fun i => [(Lib.accLo i : Int), (Lib.accHi i : Int)]
theorem acc_eq : (Rows.laid_unicode_utf8_acceptRanges : DataW Unit) = .agg (accR.map fun zs => .agg (zs.map fun z => .lit (.int .u8 z))) := by kernel_rfl
theorem none_eq : (Rows.laid_invigilator_lexer_none : DataW Unit) = .agg (([0, 0] : List Int).map fun z => .lit (.int .i64 z)) := by kernel_rfl
theorem db_eq : (Rows.laid_math_bits_deBruijn64tab : DataW Unit) = tabData .u8 db64 := by kernel_rfl
theorem tab0_eq : firstZ.map (AV.int .u8) = tab0 := by
  simp only [tab0, firstZ, List.map_map]; rfl
theorem tab1_eq : accR.flatten.map (AV.int .u8) = tab1 := by kernel_rfl
theorem gNone : Tryd.prog.globalNamed "invigilator/lexer.none" = some 0 := by kernel_rfl
theorem yNone : (Tryd.prog.globals[0]?).map (·.type) = some 61 := by kernel_rfl
theorem gFirst : Tryd.prog.globalNamed "unicode/utf8.first" = some 1 := by kernel_rfl
theorem yFirst : (Tryd.prog.globals[1]?).map (·.type) = some 80 := by kernel_rfl
theorem gAcc : Tryd.prog.globalNamed "unicode/utf8.acceptRanges" = some 2 := by kernel_rfl
theorem yAcc : (Tryd.prog.globals[2]?).map (·.type) = some 83 := by kernel_rfl
theorem gPow : Tryd.prog.globalNamed "internal/strconv.uint64pow10" = some 3 := by kernel_rfl
theorem yPow : (Tryd.prog.globals[3]?).map (·.type) = some 128 := by kernel_rfl
theorem gSyn : Tryd.prog.globalNamed "strconv.ErrSyntax" = some 4 := by kernel_rfl
theorem ySyn : (Tryd.prog.globals[4]?).map (·.type) = some 48 := by kernel_rfl
theorem gRng : Tryd.prog.globalNamed "strconv.ErrRange" = some 5 := by kernel_rfl
theorem yRng : (Tryd.prog.globals[5]?).map (·.type) = some 48 := by kernel_rfl
theorem gDb : Tryd.prog.globalNamed "math/bits.deBruijn64tab" = some 8 := by kernel_rfl
theorem yDb : (Tryd.prog.globals[8]?).map (·.type) = some 147 := by kernel_rfl
theorem cx_ex {W : World} (h : laidMet Tryd.prog laidL W) : ∃ X : Cx, X.P = Tryd.prog ∧ Std X ∧ LEnv X ∧ ∀ x cs, X.G x = some cs → LaidAt W x cs := by
  have v1 : VarReads Tryd.prog W "math/bits.deBruijn64tab" (tabData .u8 db64) := db_eq ▸ laidMet.reads h (.tail _ (.head _))
  have v2 : VarReads Tryd.prog W "internal/strconv.uint64pow10" (tabData .u64 Lib.pow10Tab) := pow_eq ▸ laidMet.reads h (.tail _ (.tail _ (.head _)))
  have v3 : VarReads Tryd.prog W "unicode/utf8.acceptRanges" (.agg (accR.map fun zs => .agg (zs.map fun z => .lit (.int .u8 z)))) := acc_eq ▸ laidMet.reads h (.tail _ (.tail _ (.tail _ (.head _))))
  have v4 : VarReads Tryd.prog W "strconv.ErrRange" Rows.laid_strconv_ErrRange := laidMet.reads h (.tail _ (.tail _ (.tail _ (.tail _ (.head _)))))
  have v5 : VarReads Tryd.prog W "strconv.ErrSyntax" Rows.laid_strconv_ErrSyntax := laidMet.reads h (.tail _ (.tail _ (.tail _ (.tail _ (.tail _ (.head _))))))
  have v6 : VarReads Tryd.prog W "invigilator/lexer.none" (.agg (([0, 0] : List Int).map fun z => .lit (.int .i64 z))) := none_eq ▸ laidMet.reads h (.tail _ (.tail _ (.tail _ (.tail _ (.tail _ (.tail _ (.head _)))))))
  have v7 : VarReads Tryd.prog W "unicode/utf8.first" (tabData .u8 firstZ) := first_eq ▸ laidMet.reads h (.tail _ (.tail _ (.tail _ (.tail _ (.tail _ (.tail _ (.tail _ (.head _))))))))
  have h0 : LaidAt W 0 [.int .i64 0, .int .i64 0] := laid_st (zs := [0, 0]) v6 gNone yNone Tryd.underlying61 (fun j f hj => by
    match j, hj with
    | 0, hj => simp at hj; subst hj; exact ⟨Tryd.underlying3, rfl, by kernel_rfl⟩
    | 1, hj => simp at hj; subst hj; exact ⟨Tryd.underlying25, rfl, by kernel_rfl⟩
    | j + 2, hj => simp at hj) (by kernel_rfl)
  have h1 : LaidAt W 1 tab0 := tab0_eq ▸ laid_tab v7 gFirst yFirst Tryd.underlying80 Tryd.underlying5 (by kernel_rfl) (by kernel_rfl)
  have h2 : LaidAt W 2 tab1 := tab1_eq ▸ laid_rows (rows := accR) v3 gAcc yAcc Tryd.underlying83 Tryd.underlying82 (fun j f hj => by
    match j, hj with
    | 0, hj => simp at hj; subst hj; exact ⟨Tryd.underlying5, rfl, by kernel_rfl⟩
    | 1, hj => simp at hj; subst hj; exact ⟨Tryd.underlying5, rfl, by kernel_rfl⟩
    | j + 2, hj => simp at hj) (by kernel_rfl) (by kernel_rfl) rfl
  have h3 : LaidAt W 3 (Lib.pow10Tab.map (AV.int .u64)) := laid_tab v2 gPow yPow Tryd.underlying128 Tryd.underlying99 (by kernel_rfl) (by kernel_rfl)
  obtain ⟨te, h4⟩ := laid_iface v5 gSyn ySyn Tryd.underlying48
  obtain ⟨te', h5⟩ := laid_iface v4 gRng yRng Tryd.underlying48
  have h8 : LaidAt W 8 tabB := laid_tab v1 gDb yDb Tryd.underlying147 Tryd.underlying5 (by kernel_rfl) (by kernel_rfl)
  obtain ⟨X, hX, hs, hG, hl⟩ := cx_of Tryd.prog (by kernel_rfl) [(0, [.int .i64 0, .int .i64 0]), (1, tab0), (2, tab1), (3, Lib.pow10Tab.map (AV.int .u64)), (4, [.ifc te .undef]), (5, [.ifc te' .undef]), (8, tabB)] (by
    intro p hp
    simp only [List.mem_cons, List.not_mem_nil, or_false] at hp
    rcases hp with rfl | rfl | rfl | rfl | rfl | rfl | rfl
    · exact h0
    · exact h1
    · exact h2
    · exact h3
    · exact h4
    · exact h5
    · exact h8)
  exact ⟨X, hX, hs, ⟨by rw [hG]; rfl, by rw [hG]; rfl, by rw [hG]; rfl, ⟨te', by rw [hG]; rfl⟩, ⟨te, by rw [hG]; rfl⟩, by rw [hG]; rfl, by rw [hG]; rfl⟩, hl⟩
end Go.Proofs.YtpkgglpiboeogaaDoor
