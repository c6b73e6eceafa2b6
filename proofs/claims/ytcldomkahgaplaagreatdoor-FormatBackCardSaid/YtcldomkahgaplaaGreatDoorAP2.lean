/- The context in which readers and runes are proved. -/
import Derived.Test.YtcldomkahgaplaaGreatDoorAP
import Derived.Test.YtcldomkahgaplaaGreatDoorAI
set_option linter.all false
namespace Go.Avm
open Go Go.ChangeShapes Go.WideShapes Go.ChangeAt Go.WideElems Go.RowKit Go.Lib
theorem laid_st {P : Program} {W : World} {n : String} {g t : Nat} {k : IntKind} {fs : Array Field} {zs : List Int} (h : VarReads P W n (.agg (zs.map fun z => .lit (.int k z)))) (hg : P.globalNamed n = some g) (hy : (P.globals[g]?).map (·.type) = some t) (ht : P.underlying t = some (.struct fs))
  (hf : ∀ (i : Nat) (f : Field), fs[i]? = some f → P.underlying f.type = some (.int k) ∧ f.offset = i ∧ P.cellsOf f.type = 1) (hct : P.cellsOf t = fs.size) : LaidAt W g (zs.map (AV.int k)) := by
 obtain ⟨g', t', cs, fuel, p, hg', hty, hvar, hd⟩ := h
 obtain rfl := Option.some.inj (hg.symm.trans hg')
 obtain rfl := Option.some.inj (hy.symm.trans hty)
 have hcs := ints_of_struct ht hf hct hd
 exact laid_of hg hvar (by rw [hcs]; exact relL_ints k zs)
end Go.Avm
namespace Go.Proofs.YtcldomkahgaplaaGreatDoor
open Go Go.Avm Go.ChangeShapes Go.WideShapes Go.ChangeAt Go.WideMaps Go.WideElems Go.RowKit Go.Lib
def firstZ : List Int := (List.range 256).map fun i : Nat => (Lib.firstT i : Int)
theorem first_eq : (Rows.laid_unicode_utf8_first : DataW Unit) = tabData .u8 firstZ := by kernel_rfl
def accR : List (List Int) := (List.range 16).map fun i => [(Lib.accLo i : Int), (Lib.accHi i : Int)]
theorem acc_eq : (Rows.laid_unicode_utf8_acceptRanges : DataW Unit) = .agg (accR.map fun zs => .agg (zs.map fun z => .lit (.int .u8 z))) := by kernel_rfl
theorem none_eq : (Rows.laid_invigilator_lexer_none : DataW Unit) = .agg (([0, 0] : List Int).map fun z => .lit (.int .i64 z)) := by kernel_rfl
theorem db_eq : (Rows.laid_math_bits_deBruijn64tab : DataW Unit) = tabData .u8 db64 := by kernel_rfl
theorem tab0_eq : firstZ.map (AV.int .u8) = tab0 := by
 simp only [tab0, firstZ, List.map_map]; rfl
theorem tab1_eq : accR.flatten.map (AV.int .u8) = tab1 := by kernel_rfl
theorem gNone : Tryz.prog.globalNamed "invigilator/lexer.none" = some 2 := by kernel_rfl
theorem yNone : (Tryz.prog.globals[2]?).map (·.type) = some 159 := by kernel_rfl
theorem gFirst : Tryz.prog.globalNamed "unicode/utf8.first" = some 0 := by kernel_rfl
theorem yFirst : (Tryz.prog.globals[0]?).map (·.type) = some 184 := by kernel_rfl
theorem gAcc : Tryz.prog.globalNamed "unicode/utf8.acceptRanges" = some 1 := by kernel_rfl
theorem yAcc : (Tryz.prog.globals[1]?).map (·.type) = some 187 := by kernel_rfl
theorem gSyn : Tryz.prog.globalNamed "strconv.ErrSyntax" = some 5 := by kernel_rfl
theorem ySyn : (Tryz.prog.globals[5]?).map (·.type) = some 63 := by kernel_rfl
theorem gDb : Tryz.prog.globalNamed "math/bits.deBruijn64tab" = some 8 := by kernel_rfl
theorem yDb : (Tryz.prog.globals[8]?).map (·.type) = some 244 := by kernel_rfl
theorem cx_exC {W : World} (h : laidMet Tryz.prog laidL W) : ∃ X : Cx, X.P = Tryz.prog ∧ Std X ∧ CEnv X ∧ ∀ x cs, X.G x = some cs → LaidAt W x cs := by
 have v1 : VarReads Tryz.prog W "math/bits.deBruijn64tab" (tabData .u8 db64) := db_eq ▸ laidMet.reads h (.tail _ (.head _))
 have v2 : VarReads Tryz.prog W "internal/strconv.uint64pow10" (tabData .u64 Lib.pow10Tab) := pow_eq ▸ laidMet.reads h (.tail _ (.tail _ (.head _)))
 have v3 : VarReads Tryz.prog W "unicode/utf8.acceptRanges" (.agg (accR.map fun zs => .agg (zs.map fun z => .lit (.int .u8 z)))) := acc_eq ▸ laidMet.reads h (.tail _ (.tail _ (.tail _ (.head _))))
 have v4 : VarReads Tryz.prog W "strconv.ErrRange" Rows.laid_strconv_ErrRange := laidMet.reads h (.tail _ (.tail _ (.tail _ (.tail _ (.head _)))))
 have v5 : VarReads Tryz.prog W "strconv.ErrSyntax" Rows.laid_strconv_ErrSyntax := laidMet.reads h (.tail _ (.tail _ (.tail _ (.tail _ (.tail _ (.head _))))))
 have v6 : VarReads Tryz.prog W "invigilator/lexer.none" (.agg (([0, 0] : List Int).map fun z => .lit (.int .i64 z))) := none_eq ▸ laidMet.reads h (.tail _ (.tail _ (.tail _ (.tail _ (.tail _ (.tail _ (.head _)))))))
 have v7 : VarReads Tryz.prog W "unicode/utf8.first" (tabData .u8 firstZ) := first_eq ▸ laidMet.reads h (.tail _ (.tail _ (.tail _ (.tail _ (.tail _ (.tail _ (.tail _ (.head _))))))))
 have h2 : LaidAt W 2 [.int .i64 0, .int .i64 0] := laid_st (zs := [0, 0]) v6 gNone yNone Tryz.underlying159 (fun j f hj => by
  match j, hj with
  | 0, hj => simp at hj; subst hj; exact ⟨Tryz.underlying3, rfl, by kernel_rfl⟩
  | 1, hj => simp at hj; subst hj; exact ⟨Tryz.underlying33, rfl, by kernel_rfl⟩
  | j + 2, hj => simp at hj) (by kernel_rfl)
 have h0 : LaidAt W 0 tab0 := tab0_eq ▸ laid_tab v7 gFirst yFirst Tryz.underlying184 Tryz.underlying5 (by kernel_rfl) (by kernel_rfl)
 have h1 : LaidAt W 1 tab1 := tab1_eq ▸ laid_rows (rows := accR) v3 gAcc yAcc Tryz.underlying187 Tryz.underlying186 (fun j f hj => by
  match j, hj with
  | 0, hj => simp at hj; subst hj; exact ⟨Tryz.underlying5, rfl, by kernel_rfl⟩
  | 1, hj => simp at hj; subst hj; exact ⟨Tryz.underlying5, rfl, by kernel_rfl⟩
  | j + 2, hj => simp at hj) (by kernel_rfl) (by kernel_rfl) rfl
 have h4 : LaidAt W 4 tabQ := laid_tab v2 gPow yPow Tryz.underlying217 Tryz.underlying146 (by kernel_rfl) (by kernel_rfl)
 obtain ⟨te, h5⟩ := laid_iface v5 gSyn ySyn Tryz.underlying63
 obtain ⟨te', h6⟩ := laid_iface v4 gRng yRng Tryz.underlying63
 have h8 : LaidAt W 8 tabB := laid_tab v1 gDb yDb Tryz.underlying244 Tryz.underlying5 (by kernel_rfl) (by kernel_rfl)
 obtain ⟨X, hX, hs, hG, hl⟩ := cx_of Tryz.prog (by kernel_rfl) [(0, tab0), (1, tab1), (2, [.int .i64 0, .int .i64 0]), (4, tabQ), (5, [.ifc te .undef]), (6, [.ifc te' .undef]), (8, tabB)] (by
  intro p hp
  simp only [List.mem_cons, List.not_mem_nil, or_false] at hp
  rcases hp with rfl | rfl | rfl | rfl | rfl | rfl | rfl
  ·exact h0
  ·exact h1
  ·exact h2
  ·exact h4
  ·exact h5
  ·exact h6
  ·exact h8)
 exact ⟨X, hX, hs, ⟨by rw [hG]; rfl, by rw [hG]; rfl, by rw [hG]; rfl, by rw [hG]; rfl, ⟨te, by rw [hG]; rfl⟩, ⟨te', by rw [hG]; rfl⟩, by rw [hG]; rfl⟩, hl⟩
end Go.Proofs.YtcldomkahgaplaaGreatDoor
