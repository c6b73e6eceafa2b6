/- The context in which the seat's functions are proved. -/
import Derived.Test.YtpkgglpiboeogaaGreatDoorAQ7
import Derived.Test.YtpkgglpiboeogaaGreatDoorAB
import Derived.Test.YtpkgglpiboeogaaGreatDoorAS
import Derived.Test.YtpkgglpiboeogaaGreatDoorRows
import Derived.OpenShut
import Derived.Stop.Joined
import Derived.Lay
import Derived.LaidMore
set_option linter.unusedSectionVars false
set_option linter.unusedSimpArgs false
set_option linter.unusedVariables false

/- The context in which the seat's functions are proved. -/
namespace Go.Avm
open Go Go.ChangeShapes Go.WideShapes Go.ChangeAt Go.WideElems Go.RowKit Go.Lib
theorem lf_tb {es : List AV} (h0 : es.length ≤ Go.maxLen) (h : ∀ y ∈ es, ∃ avs, y = .agg avs ∧ LfL [.int .i64, .int .i64, .int .i64, .int .i64, .str] avs ∧ ∀ s, avs[4]? = some (.str s) → s.length ≤ reachBytes) : ∃ l : List TT, es = l.map itV ∧ argTB l := by
  obtain ⟨l, rfl⟩ := map_ex (f := fun x : { x : TT // Lx.I64 x.1.n ∧ x.1.s.length ≤ 140737488355328 } => itV x.1) (es := es) fun e hm => by
    obtain ⟨avs, rfl, ha, hs⟩ := h e hm
    simp only [LfL, LfR] at ha
    obtain ⟨_, _, rfl, ⟨a, rfl, _⟩, _, _, rfl, ⟨b, rfl, _⟩, _, _, rfl, ⟨c, rfl, _⟩, _, _, rfl, ⟨d, rfl, hd⟩, _, _, rfl, ⟨s, rfl, _⟩, rfl⟩ := ha
    have hd := wf_i64 hd
    have hs := hs s rfl
    have hr : reachBytes ≤ 140737488355328 := by decide
    exact ⟨⟨(⟨a, d, s⟩, b, c), by unfold Lx.I64; dsimp only; omega, by dsimp only; omega⟩, rfl⟩
  refine ⟨l.map (·.1), by rw [List.map_map]; rfl, by rw [List.length_map]; rw [List.length_map] at h0; exact h0, fun x hx => ?_⟩
  obtain ⟨y, _, rfl⟩ := List.mem_map.1 hx
  exact y.2
/-- a struct of integers -/
theorem laid_st {P : Program} {W : World} {n : String} {g t : Nat} {k : IntKind} {fs : Array Field} {zs : List Int} (h : VarReads P W n (.agg (zs.map fun z => .lit (.int k z)))) (hg : P.globalNamed n = some g) (hy : (P.globals[g]?).map (·.type) = some t) (ht : P.underlying t = some (.struct fs))
    (hf : ∀ (i : Nat) (f : Field), fs[i]? = some f → P.underlying f.type = some (.int k) ∧ f.offset = i ∧ P.cellsOf f.type = 1) (hct : P.cellsOf t = fs.size) : LaidAt W g (zs.map (AV.int k)) := by
  obtain ⟨g', t', cs, fuel, p, hg', hty, hvar, hd⟩ := h
  obtain rfl := Option.some.inj (hg.symm.trans hg')
  obtain rfl := Option.some.inj (hy.symm.trans hty)
  have hcs := ints_of_struct ht hf hct hd
  exact laid_of hg hvar (by rw [hcs]; exact relL_ints k zs)
end Go.Avm
namespace Go.Proofs.YtpkgglpiboeogaaGreatDoor
open Go Go.Avm Go.ChangeShapes Go.WideShapes Go.ChangeAt Go.WideMaps Go.WideElems Go.RowKit Go.Lib
theorem own : ownKnob Tryz.prog.godebug = none := by kernel_rfl
theorem laidOut : laidOutB Tryz.prog = true := by kernel_rfl
def laidL : List (String × DataW Unit) := [("math/bits.deBruijn32tab", Rows.laid_math_bits_deBruijn32tab), ("math/bits.deBruijn64tab", Rows.laid_math_bits_deBruijn64tab), ("internal/strconv.uint64pow10", Rows.laid_internal_strconv_uint64pow10), ("unicode/utf8.acceptRanges", Rows.laid_unicode_utf8_acceptRanges), ("strconv.ErrRange", Rows.laid_strconv_ErrRange), ("strconv.ErrSyntax", Rows.laid_strconv_ErrSyntax), ("invigilator/lexer.none", Rows.laid_invigilator_lexer_none), ("unicode/utf8.first", Rows.laid_unicode_utf8_first)]
theorem pow_eq : (Rows.laid_internal_strconv_uint64pow10 : DataW Unit) = tabData .u64 Lib.pow10Tab := by kernel_rfl
def firstZ : List Int := (List.range 256).map fun i : Nat => (Lib.firstT i : Int)
theorem first_eq : (Rows.laid_unicode_utf8_first : DataW Unit) = tabData .u8 firstZ := by kernel_rfl
def accR : List (List Int) := (List.range 16).map fun i => [(Lib.accLo i : Int), (Lib.accHi i : Int)]
theorem acc_eq : (Rows.laid_unicode_utf8_acceptRanges : DataW Unit) = .agg (accR.map fun zs => .agg (zs.map fun z => .lit (.int .u8 z))) := by kernel_rfl
theorem none_eq : (Rows.laid_invigilator_lexer_none : DataW Unit) = .agg (([0, 0] : List Int).map fun z => .lit (.int .i64 z)) := by kernel_rfl
theorem db_eq : (Rows.laid_math_bits_deBruijn64tab : DataW Unit) = tabData .u8 db64 := by kernel_rfl
theorem tab0_eq : firstZ.map (AV.int .u8) = tab0 := by
  simp only [tab0, firstZ, List.map_map]; rfl
theorem tab1_eq : accR.flatten.map (AV.int .u8) = tab1 := by kernel_rfl
theorem gNone : Tryz.prog.globalNamed "invigilator/lexer.none" = some 2 := by kernel_rfl
theorem yNone : (Tryz.prog.globals[2]?).map (·.type) = some 59 := by kernel_rfl
theorem gFirst : Tryz.prog.globalNamed "unicode/utf8.first" = some 0 := by kernel_rfl
theorem yFirst : (Tryz.prog.globals[0]?).map (·.type) = some 71 := by kernel_rfl
theorem gAcc : Tryz.prog.globalNamed "unicode/utf8.acceptRanges" = some 1 := by kernel_rfl
theorem yAcc : (Tryz.prog.globals[1]?).map (·.type) = some 74 := by kernel_rfl
theorem gPow : Tryz.prog.globalNamed "internal/strconv.uint64pow10" = some 3 := by kernel_rfl
theorem yPow : (Tryz.prog.globals[3]?).map (·.type) = some 125 := by kernel_rfl
theorem gSyn : Tryz.prog.globalNamed "strconv.ErrSyntax" = some 4 := by kernel_rfl
theorem ySyn : (Tryz.prog.globals[4]?).map (·.type) = some 40 := by kernel_rfl
theorem gRng : Tryz.prog.globalNamed "strconv.ErrRange" = some 5 := by kernel_rfl
theorem yRng : (Tryz.prog.globals[5]?).map (·.type) = some 40 := by kernel_rfl
theorem gDb : Tryz.prog.globalNamed "math/bits.deBruijn64tab" = some 8 := by kernel_rfl
theorem yDb : (Tryz.prog.globals[8]?).map (·.type) = some 143 := by kernel_rfl
theorem cx_ex {W : World} (h : laidMet Tryz.prog laidL W) : ∃ X : Cx, X.P = Tryz.prog ∧ Std X ∧ LEnv X ∧ ∀ x cs, X.G x = some cs → LaidAt W x cs := by
  have v1 : VarReads Tryz.prog W "math/bits.deBruijn64tab" (tabData .u8 db64) := db_eq ▸ laidMet.reads h (.tail _ (.head _))
  have v2 : VarReads Tryz.prog W "internal/strconv.uint64pow10" (tabData .u64 Lib.pow10Tab) := pow_eq ▸ laidMet.reads h (.tail _ (.tail _ (.head _)))
  have v3 : VarReads Tryz.prog W "unicode/utf8.acceptRanges" (.agg (accR.map fun zs => .agg (zs.map fun z => .lit (.int .u8 z)))) := acc_eq ▸ laidMet.reads h (.tail _ (.tail _ (.tail _ (.head _))))
  have v4 : VarReads Tryz.prog W "strconv.ErrRange" Rows.laid_strconv_ErrRange := laidMet.reads h (.tail _ (.tail _ (.tail _ (.tail _ (.head _)))))
  have v5 : VarReads Tryz.prog W "strconv.ErrSyntax" Rows.laid_strconv_ErrSyntax := laidMet.reads h (.tail _ (.tail _ (.tail _ (.tail _ (.tail _ (.head _))))))
  have v6 : VarReads Tryz.prog W "invigilator/lexer.none" (.agg (([0, 0] : List Int).map fun z => .lit (.int .i64 z))) := none_eq ▸ laidMet.reads h (.tail _ (.tail _ (.tail _ (.tail _ (.tail _ (.tail _ (.head _)))))))
  have v7 : VarReads Tryz.prog W "unicode/utf8.first" (tabData .u8 firstZ) := first_eq ▸ laidMet.reads h (.tail _ (.tail _ (.tail _ (.tail _ (.tail _ (.tail _ (.tail _ (.head _))))))))
  have h0 : LaidAt W 2 [.int .i64 0, .int .i64 0] := laid_st (zs := [0, 0]) v6 gNone yNone Tryz.underlying59 (fun j f hj => by
    match j, hj with
    | 0, hj => simp at hj; subst hj; exact ⟨Tryz.underlying3, rfl, by kernel_rfl⟩
    | 1, hj => simp at hj; subst hj; exact ⟨Tryz.underlying25, rfl, by kernel_rfl⟩
    | j + 2, hj => simp at hj) (by kernel_rfl)
  have h1 : LaidAt W 0 tab0 := tab0_eq ▸ laid_tab v7 gFirst yFirst Tryz.underlying71 Tryz.underlying5 (by kernel_rfl) (by kernel_rfl)
  have h2 : LaidAt W 1 tab1 := tab1_eq ▸ laid_rows (rows := accR) v3 gAcc yAcc Tryz.underlying74 Tryz.underlying73 (fun j f hj => by
    match j, hj with
    | 0, hj => simp at hj; subst hj; exact ⟨Tryz.underlying5, rfl, by kernel_rfl⟩
    | 1, hj => simp at hj; subst hj; exact ⟨Tryz.underlying5, rfl, by kernel_rfl⟩
    | j + 2, hj => simp at hj) (by kernel_rfl) (by kernel_rfl) rfl
  have h3 : LaidAt W 3 (Lib.pow10Tab.map (AV.int .u64)) := laid_tab v2 gPow yPow Tryz.underlying125 Tryz.underlying91 (by kernel_rfl) (by kernel_rfl)
  obtain ⟨te, h4⟩ := laid_iface v5 gSyn ySyn Tryz.underlying40
  obtain ⟨te', h5⟩ := laid_iface v4 gRng yRng Tryz.underlying40
  have h8 : LaidAt W 8 tabB := laid_tab v1 gDb yDb Tryz.underlying143 Tryz.underlying5 (by kernel_rfl) (by kernel_rfl)
  obtain ⟨X, hX, hs, hG, hl⟩ := cx_of Tryz.prog (by kernel_rfl) [(2, [.int .i64 0, .int .i64 0]), (0, tab0), (1, tab1), (3, Lib.pow10Tab.map (AV.int .u64)), (4, [.ifc te .undef]), (5, [.ifc te' .undef]), (8, tabB)] (by
    intro p hp
    simp only [List.mem_cons, List.not_mem_nil, or_false] at hp
    rcases hp with rfl | rfl | rfl | rfl | rfl | rfl | rfl
    · exact h0
    · exact h1
    · exact h2
    · exact h3
    · exact h4
    · exact h5
    · exact h8)
  exact ⟨X, hX, hs, ⟨by rw [hG]; rfl, by rw [hG]; rfl, by rw [hG]; rfl, ⟨te', by rw [hG]; rfl⟩, ⟨te, by rw [hG]; rfl⟩, by rw [hG]; rfl, by rw [hG]; rfl⟩, hl⟩
end Go.Proofs.YtpkgglpiboeogaaGreatDoor
