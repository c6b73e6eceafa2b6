/- TypesTexts. -/
import Derived.Test.YtbhdhlkjchgddaaGreatDoorAR3
import Derived.Test.YtbhdhlkjchgddaaGreatDoorAB
import Derived.Test.YtbhdhlkjchgddaaGreatDoorAW
import Derived.Test.YtbhdhlkjchgddaaGreatDoorRows
import Derived.OpenShut
import Derived.Stop.Joined
import Derived.Lay
import Derived.LaidMore
set_option linter.unusedSectionVars false
set_option linter.unusedSimpArgs false
set_option linter.unusedVariables false

/- TypesTexts. -/
namespace Go.Avm
open Go
theorem tyTx_len {ns : List (List UInt8)} {up : List UInt8} {t : Lat.Ty} (h : Lat.tyS ns up t = 0) : (Lat.tyTx ns t).length < 100000 := by
  obtain ⟨hc, hv, g⟩ := Lat.tyS_0 h
  have hnm : ∀ a : Int, Lat.lab ns.length a = true → (ns.getD a.toNat []).length ≤ 16 := fun a ha => by
    obtain ⟨x, rfl, hx⟩ := Lat.lab_nat ha
    exact (Lat.nm_bare (Lat.names_nm (Lat.checkS_val hc).1 x hx)).2
  have l0 := hnm _ g.l0
  have l1 := hnm _ g.l1
  have ld := hnm _ g.ld
  have hr := g.r
  have hk := g.k
  obtain ⟨k, r, a0, a1, d⟩ := t
  simp only at hr hk l0 l1 ld
  have i0 : (Lib.itoa 0).length = 1 := by decide +kernel
  have i1 : (Lib.itoa 1).length = 1 := by decide +kernel
  have i2 : (Lib.itoa 2).length = 1 := by decide +kernel
  have hr : r = 0 ∨ r = 1 ∨ r = 2 := by omega
  have hkl : (Lat.tyK k).length ≤ 4 := by
    unfold Lat.tyK
    split <;> decide
  have hall : ∀ x ∈ Lat.tyFl ns ⟨k, r, a0, a1, d⟩, x.length ≤ 16 := by
    intro x hx
    unfold Lat.tyFl at hx
    simp only [List.mem_append, List.mem_cons, List.not_mem_nil, or_false] at hx
    rcases hx with ((hx | hx) | hx) | hx
    · rcases hx with rfl | rfl
      · omega
      · rcases hr with rfl | rfl | rfl <;> omega
    · split at hx
      · rw [List.mem_singleton.1 hx]; exact l0
      · simp at hx
    · split at hx
      · rw [List.mem_singleton.1 hx]; exact l1
      · simp at hx
    · rw [hx]; exact ld
  have hlen : (Lat.tyFl ns ⟨k, r, a0, a1, d⟩).length ≤ 5 := by
    rcases hr with rfl | rfl | rfl <;> simp [Lat.tyFl]
  have := Wo.join_len (Lat.tyFl ns ⟨k, r, a0, a1, d⟩) 16 hall
  unfold Lat.tyTx
  omega
set_option maxRecDepth 10000
section
variable {X : Cx} (hX : X.P = Go.Proofs.Tryz.prog) (hs : Std X)
include hX hs
theorem ev_shown (hT : X.G (sRen.g 17) = some tabP) : Ev X F_law20_shown [] (.bool true) := by
  refine ev_of_wpc hs (A_law20_shown_ok hX) 1 ?_
  simp only [A_law20_shown, go_sem, Nat.reduceMod, Nat.reduceBNe, Nat.reduceBEq, Nat.reduceEqDiff, Nat.reduceAdd, Int.reduceAdd, Nat.reduceMul, Nat.reduceSub, Int.reduceToNat, Int.reduceLE, Int.reduceLT, Int.reduceEq, Int.reduceNe, reduceCtorEq, Nat.reduceLT, Nat.reduceLeDiff]
  refine call_ev (ev_Line hX hs) ?_
  simp only [go_sem, Nat.reduceMod, Nat.reduceBNe, Nat.reduceBEq, Nat.reduceEqDiff, Nat.reduceAdd, Int.reduceAdd, Nat.reduceMul, Nat.reduceSub, Int.reduceToNat, Int.reduceLE, Int.reduceLT, Int.reduceEq, Int.reduceNe, reduceCtorEq, Nat.reduceLT, Nat.reduceLeDiff]
  refine call_ev (ev_vector hX hs 1 2) ?_
  simp only [tyV, vec, go_sem, Nat.reduceMod, Nat.reduceBNe, Nat.reduceBEq, Nat.reduceEqDiff, Nat.reduceAdd, Int.reduceAdd, Nat.reduceMul, Nat.reduceSub, Int.reduceToNat, Int.reduceLE, Int.reduceLT, Int.reduceEq, Int.reduceNe, reduceCtorEq, Nat.reduceLT, Nat.reduceLeDiff]
  refine callq_ev (ev_vector hX hs 0 2) ?_
  simp only [tyV, vec, go_sem, Nat.reduceMod, Nat.reduceBNe, Nat.reduceBEq, Nat.reduceEqDiff, Nat.reduceAdd, Int.reduceAdd, Nat.reduceMul, Nat.reduceSub, Int.reduceToNat, Int.reduceLE, Int.reduceLT, Int.reduceEq, Int.reduceNe, reduceCtorEq, Nat.reduceLT, Nat.reduceLeDiff]
  refine callq_ev (r := .tuple [.bool true, .int .i64 0]) (ev_eqr (ev_t_Within hX hs lN lU (vec 0 2) (vec 1 2)) (by rw [l_within, l_both])) ?_
  simp only [go_sem, Nat.reduceMod, Nat.reduceBNe, Nat.reduceBEq, Nat.reduceEqDiff, Nat.reduceAdd, Int.reduceAdd, Nat.reduceMul, Nat.reduceSub, Int.reduceToNat, Int.reduceLE, Int.reduceLT, Int.reduceEq, Int.reduceNe, reduceCtorEq, Nat.reduceLT, Nat.reduceLeDiff]
  refine call_ev (r := .tuple [tyV (vec 2 2), .int .i64 0]) (ev_eqr (ev_t_Raise hX hs lN lU (vec 1 2) 2) (by rw [l_raise, l_raiseE])) ?_
  simp only [tyV, vec, go_sem, Nat.reduceMod, Nat.reduceBNe, Nat.reduceBEq, Nat.reduceEqDiff, Nat.reduceAdd, Int.reduceAdd, Nat.reduceMul, Nat.reduceSub, Int.reduceToNat, Int.reduceLE, Int.reduceLT, Int.reduceEq, Int.reduceNe, reduceCtorEq, Nat.reduceLT, Nat.reduceLeDiff]
  refine call_ev (r := .tuple [.agg [.bool true, .bool false], .bool false, .int .i64 0]) (ev_eqr (ev_t_Sees hX hs lN lU (vec 1 2) 1) (by rw [l_seesE, l_ax0, l_ax1, l_seesC]; rfl)) ?_
  simp only [go_sem, Nat.reduceMod, Nat.reduceBNe, Nat.reduceBEq, Nat.reduceEqDiff, Nat.reduceAdd, Int.reduceAdd, Nat.reduceMul, Nat.reduceSub, Int.reduceToNat, Int.reduceLE, Int.reduceLT, Int.reduceEq, Int.reduceNe, reduceCtorEq, Nat.reduceLT, Nat.reduceLeDiff]
  refine call_ev (r := .tuple [.str [105, 110, 116, 32, 49, 32, 115, 116, 97, 102, 102, 32, 104, 105, 103, 104], .int .i64 0]) (ev_eqr (ev_Print20 hX hs hT lN lU (vec 1 2)) (by rw [prV, show Lat.tyPS lN lU (vec 1 2) = ([105, 110, 116, 32, 49, 32, 115, 116, 97, 102, 102, 32, 104, 105, 103, 104], 0) by decide +kernel])) ?_
  simp only [go_sem, Nat.reduceMod, Nat.reduceBNe, Nat.reduceBEq, Nat.reduceEqDiff, Nat.reduceAdd, Int.reduceAdd, Nat.reduceMul, Nat.reduceSub, Int.reduceToNat, Int.reduceLE, Int.reduceLT, Int.reduceEq, Int.reduceNe, reduceCtorEq, Nat.reduceLT, Nat.reduceLeDiff]
  refine callq_ev (ev_vector hX hs 2 0) ?_
  simp only [tyV, vec, go_sem, Nat.reduceMod, Nat.reduceBNe, Nat.reduceBEq, Nat.reduceEqDiff, Nat.reduceAdd, Int.reduceAdd, Nat.reduceMul, Nat.reduceSub, Int.reduceToNat, Int.reduceLE, Int.reduceLT, Int.reduceEq, Int.reduceNe, reduceCtorEq, Nat.reduceLT, Nat.reduceLeDiff]
  refine callq_ev (r := .int .i64 25) (ev_eqr (ev_t_Check hX hs lN lU (vec 2 0)) (by rw [l_ty2])) ?_
  simp only [go_sem, Nat.reduceMod, Nat.reduceBNe, Nat.reduceBEq, Nat.reduceEqDiff, Nat.reduceAdd, Int.reduceAdd, Nat.reduceMul, Nat.reduceSub, Int.reduceToNat, Int.reduceLE, Int.reduceLT, Int.reduceEq, Int.reduceNe, reduceCtorEq, Nat.reduceLT, Nat.reduceLeDiff]
  refine callq_ev (ev_vector hX hs 2 2) ?_
  simp only [tyV, vec, go_sem, Nat.reduceMod, Nat.reduceBNe, Nat.reduceBEq, Nat.reduceEqDiff, Nat.reduceAdd, Int.reduceAdd, Nat.reduceMul, Nat.reduceSub, Int.reduceToNat, Int.reduceLE, Int.reduceLT, Int.reduceEq, Int.reduceNe, reduceCtorEq, Nat.reduceLT, Nat.reduceLeDiff]
theorem ev_lTTexts (hT : X.G (sRen.g 17) = some tabP) (hE : X.G gEsc = some tabE) {te : Nat} (hR : X.G (sRen.g 16) = some [.ifc te .undef]) (ns : List (List UInt8)) (up : List UInt8) (t : Lat.Ty) (s : List UInt8) : Ev X F_law20_TypesTexts [latV ns up, tyV t, .str s] (.bool true) := by
  refine ev_of_wpc hs (A_law20_TypesTexts_ok hX) 1 ?_
  simp only [A_law20_TypesTexts, latV, tyV, go_sem, Nat.reduceMod, Nat.reduceBNe, Nat.reduceBEq, Nat.reduceEqDiff, Nat.reduceAdd, Int.reduceAdd, Nat.reduceMul, Nat.reduceSub, Int.reduceToNat, Int.reduceLE, Int.reduceLT, Int.reduceEq, Int.reduceNe, reduceCtorEq, Nat.reduceLT, Nat.reduceLeDiff]
  refine call_ev (ev_Large hX hs ns up) ?_
  cases hL : largeS ns up with
  | true =>
    simp only [go_sem, Nat.reduceMod, Nat.reduceBNe, Nat.reduceBEq, Nat.reduceEqDiff, Nat.reduceAdd, Int.reduceAdd, Nat.reduceMul, Nat.reduceSub, Int.reduceToNat, Int.reduceLE, Int.reduceLT, Int.reduceEq, Int.reduceNe, reduceCtorEq, Nat.reduceLT, Nat.reduceLeDiff]
    refine call_ev (ev_shown hX hs hT) ?_
    simp only [go_sem, Nat.reduceMod, Nat.reduceBNe, Nat.reduceBEq, Nat.reduceEqDiff, Nat.reduceAdd, Int.reduceAdd, Nat.reduceMul, Nat.reduceSub, Int.reduceToNat, Int.reduceLE, Int.reduceLT, Int.reduceEq, Int.reduceNe, reduceCtorEq, Nat.reduceLT, Nat.reduceLeDiff]
  | false =>
    simp only [go_sem, Nat.reduceMod, Nat.reduceBNe, Nat.reduceBEq, Nat.reduceEqDiff, Nat.reduceAdd, Int.reduceAdd, Nat.reduceMul, Nat.reduceSub, Int.reduceToNat, Int.reduceLE, Int.reduceLT, Int.reduceEq, Int.reduceNe, reduceCtorEq, Nat.reduceLT, Nat.reduceLeDiff]
    refine ⟨fun hl => ?_, fun hl => ?_⟩
    · refine call_ev (ev_shown hX hs hT) ?_
      simp only [go_sem, Nat.reduceMod, Nat.reduceBNe, Nat.reduceBEq, Nat.reduceEqDiff, Nat.reduceAdd, Int.reduceAdd, Nat.reduceMul, Nat.reduceSub, Int.reduceToNat, Int.reduceLE, Int.reduceLT, Int.reduceEq, Int.reduceNe, reduceCtorEq, Nat.reduceLT, Nat.reduceLeDiff]
    refine call_ev (ev_Print20 hX hs hT ns up t) ?_
    simp only [prV, go_sem, Nat.reduceMod, Nat.reduceBNe, Nat.reduceBEq, Nat.reduceEqDiff, Nat.reduceAdd, Int.reduceAdd, Nat.reduceMul, Nat.reduceSub, Int.reduceToNat, Int.reduceLE, Int.reduceLT, Int.reduceEq, Int.reduceNe, reduceCtorEq, Nat.reduceLT, Nat.reduceLeDiff]
    refine call_ev (ev_rPrint hX hs ns up t) ?_
    simp only [prV, go_sem, Nat.reduceMod, Nat.reduceBNe, Nat.reduceBEq, Nat.reduceEqDiff, Nat.reduceAdd, Int.reduceAdd, Nat.reduceMul, Nat.reduceSub, Int.reduceToNat, Int.reduceLE, Int.reduceLT, Int.reduceEq, Int.reduceNe, reduceCtorEq, Nat.reduceLT, Nat.reduceLeDiff]
    refine call_ev (ev_Parse20 hX hs hE hR ns up s (by omega)) ?_
    simp only [paV, tyV, go_sem, Nat.reduceMod, Nat.reduceBNe, Nat.reduceBEq, Nat.reduceEqDiff, Nat.reduceAdd, Int.reduceAdd, Nat.reduceMul, Nat.reduceSub, Int.reduceToNat, Int.reduceLE, Int.reduceLT, Int.reduceEq, Int.reduceNe, reduceCtorEq, Nat.reduceLT, Nat.reduceLeDiff]
    refine call_ev (ev_rParse20 hX hs ns up s (by omega)) ?_
    simp only [paV, tyV, go_sem, Nat.reduceMod, Nat.reduceBNe, Nat.reduceBEq, Nat.reduceEqDiff, Nat.reduceAdd, Int.reduceAdd, Nat.reduceMul, Nat.reduceSub, Int.reduceToNat, Int.reduceLE, Int.reduceLT, Int.reduceEq, Int.reduceNe, reduceCtorEq, Nat.reduceLT, Nat.reduceLeDiff]
    refine ⟨fun he => ?_, fun he => ?_⟩
    · have h0 : Lat.tyS ns up t = 0 := by
        rw [Lat.tyPS] at he
        split at he
        · rename_i h; exact absurd he h
        · rename_i h; exact Decidable.byContradiction h
      have e1 : (Lat.tyPS ns up t).1 = Lat.tyTx ns t := by rw [Lat.tyPS, if_neg (by rw [h0]; decide)]
      rw [e1]
      refine call_ev (ev_Parse20 hX hs hE hR ns up (Lat.tyTx ns t) (tyTx_len h0)) ?_
      simp only [paV, Lat.pa_pr h0, tyV, go_sem, Nat.reduceMod, Nat.reduceBNe, Nat.reduceBEq, Nat.reduceEqDiff, Nat.reduceAdd, Int.reduceAdd, Nat.reduceMul, Nat.reduceSub, Int.reduceToNat, Int.reduceLE, Int.reduceLT, Int.reduceEq, Int.reduceNe, reduceCtorEq, Nat.reduceLT, Nat.reduceLeDiff]
      refine call_ev (ev_shown hX hs hT) ?_
      simp only [go_sem, Nat.reduceMod, Nat.reduceBNe, Nat.reduceBEq, Nat.reduceEqDiff, Nat.reduceAdd, Int.reduceAdd, Nat.reduceMul, Nat.reduceSub, Int.reduceToNat, Int.reduceLE, Int.reduceLT, Int.reduceEq, Int.reduceNe, reduceCtorEq, Nat.reduceLT, Nat.reduceLeDiff]
    · refine call_ev (ev_shown hX hs hT) ?_
      simp only [go_sem, Nat.reduceMod, Nat.reduceBNe, Nat.reduceBEq, Nat.reduceEqDiff, Nat.reduceAdd, Int.reduceAdd, Nat.reduceMul, Nat.reduceSub, Int.reduceToNat, Int.reduceLE, Int.reduceLT, Int.reduceEq, Int.reduceNe, reduceCtorEq, Nat.reduceLT, Nat.reduceLeDiff]
end
end Go.Avm

/- The context in which the seat's functions are proved. -/
namespace Go.Avm
open Go
/-- What is laid. -/
structure WEnv (X : Cx) : Prop where
  esc : X.G gEsc = some tabE
  pow : X.G (sRen.g 17) = some tabP
  rng : ∃ te, X.G (sRen.g 16) = some [.ifc te .undef]
theorem ev_l8 {X : Cx} (hX : X.P = Go.Proofs.Tryz.prog) (hs : Std X) (he : WEnv X) (ns : List (List UInt8)) (up : List UInt8) (t : Lat.Ty) (s : List UInt8) : Ev X F_law20_TypesTexts [.agg [lst AV.str .ro ns, lst u8 .ro up], .agg (tyC t), .str s] (.bool true) := by
  obtain ⟨te, h⟩ := he.rng
  exact ev_lTTexts hX hs he.pow he.esc h ns up t s
abbrev K5 : List Lf := [.int .i64, .int .i64, .int .i64, .int .i64, .int .i64]
theorem lf_ty {avs : List AV} (h : LfL K5 avs) : ∃ t : Lat.Ty, avs = tyC t := by
  obtain ⟨zs, hl, rfl⟩ := lf_z (n := 5) h
  match zs, hl with
  | [a, b, c, d, e], _ => exact ⟨⟨a, b, c, d, e⟩, rfl⟩
end Go.Avm
namespace Go.Proofs.YtbhdhlkjchgddaaGreatDoor
open Go Go.Avm Go.ChangeShapes Go.WideShapes Go.ChangeAt Go.WideMaps Go.WideElems Go.RowKit Go.Lib
theorem own : ownKnob Tryz.prog.godebug = none := by kernel_rfl
theorem laidOut : laidOutB Tryz.prog = true := by kernel_rfl
def laidL : List (String × DataW Unit) := [("math/bits.deBruijn32tab", Rows.laid_math_bits_deBruijn32tab), ("math/bits.deBruijn64tab", Rows.laid_math_bits_deBruijn64tab), ("internal/strconv.uint64pow10", Rows.laid_internal_strconv_uint64pow10), ("unicode/utf8.acceptRanges", Rows.laid_unicode_utf8_acceptRanges), ("strconv.ErrRange", Rows.laid_strconv_ErrRange), ("strconv.ErrSyntax", Rows.laid_strconv_ErrSyntax), ("invigilator/words.escapes", Rows.laid_invigilator_words_escapes), ("unicode/utf8.first", Rows.laid_unicode_utf8_first)]
theorem pow_eq : (Rows.laid_internal_strconv_uint64pow10 : DataW Unit) = tabData .u64 Lib.pow10Tab := by kernel_rfl
def escR : List (List Int) := [[34, 34], [92, 92], [10, 110], [13, 114], [9, 116]]
theorem esc_eq : (Rows.laid_invigilator_words_escapes : DataW Unit) = .agg (escR.map fun zs => .agg (zs.map fun z => .lit (.int .u8 z))) := by kernel_rfl
theorem gPow : Tryz.prog.globalNamed "internal/strconv.uint64pow10" = some 0 := by kernel_rfl
theorem yPow : (Tryz.prog.globals[0]?).map (·.type) = some 166 := by kernel_rfl
theorem gEscp : Tryz.prog.globalNamed "invigilator/words.escapes" = some 1 := by kernel_rfl
theorem yEscp : (Tryz.prog.globals[1]?).map (·.type) = some 171 := by kernel_rfl
theorem gRng : Tryz.prog.globalNamed "strconv.ErrRange" = some 3 := by kernel_rfl
theorem yRng : (Tryz.prog.globals[3]?).map (·.type) = some 108 := by kernel_rfl
theorem cx_ex {W : World} (h : laidMet Tryz.prog laidL W) : ∃ X : Cx, X.P = Tryz.prog ∧ Std X ∧ WEnv X ∧ ∀ x cs, X.G x = some cs → LaidAt W x cs := by
  have v1 : VarReads Tryz.prog W "internal/strconv.uint64pow10" (tabData .u64 Lib.pow10Tab) := pow_eq ▸ laidMet.reads h (.tail _ (.tail _ (.head _)))
  have v2 : VarReads Tryz.prog W "invigilator/words.escapes" (.agg (escR.map fun zs => .agg (zs.map fun z => .lit (.int .u8 z)))) := esc_eq ▸ laidMet.reads h (.tail _ (.tail _ (.tail _ (.tail _ (.tail _ (.tail _ (.head _)))))))
  have v3 : VarReads Tryz.prog W "strconv.ErrRange" Rows.laid_strconv_ErrRange := laidMet.reads h (.tail _ (.tail _ (.tail _ (.tail _ (.head _)))))
  have h1 : LaidAt W 0 tabP := laid_tab v1 gPow yPow Tryz.underlying166 Tryz.underlying143 (by kernel_rfl) (by kernel_rfl)
  have h2 : LaidAt W 1 tabE := laid_rows (rows := escR) v2 gEscp yEscp Tryz.underlying171 Tryz.underlying170 (fun j f hj => by
    match j, hj with
    | 0, hj => simp at hj; subst hj; exact ⟨Tryz.underlying5, rfl, by kernel_rfl⟩
    | 1, hj => simp at hj; subst hj; exact ⟨Tryz.underlying5, rfl, by kernel_rfl⟩
    | j + 2, hj => simp at hj) (by kernel_rfl) (by kernel_rfl) rfl
  obtain ⟨te, h3⟩ := laid_iface v3 gRng yRng Tryz.underlying108
  obtain ⟨X, hX, hs, hG, hl⟩ := cx_of Tryz.prog (by kernel_rfl) [(0, tabP), (1, tabE), (3, [.ifc te .undef])] (by
    intro p hp
    simp only [List.mem_cons, List.not_mem_nil, or_false] at hp
    rcases hp with rfl | rfl | rfl
    · exact h1
    · exact h2
    · exact h3)
  exact ⟨X, hX, hs, ⟨by rw [hG]; rfl, by rw [hG]; rfl, te, by rw [hG]; rfl⟩, hl⟩
end Go.Proofs.YtbhdhlkjchgddaaGreatDoor
