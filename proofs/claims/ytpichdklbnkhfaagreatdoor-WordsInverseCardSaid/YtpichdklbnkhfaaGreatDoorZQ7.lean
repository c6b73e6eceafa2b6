/- The laws of lists. -/
import Derived.Test.YtpichdklbnkhfaaGreatDoorZQ6
import Derived.Test.YtpichdklbnkhfaaGreatDoorZQ3
import Derived.Test.YtpichdklbnkhfaaGreatDoorN4
import Derived.Test.YtpichdklbnkhfaaGreatDoorZQ4
import Derived.Test.YtpichdklbnkhfaaGreatDoorZW
import Derived.Test.YtpichdklbnkhfaaGreatDoorRows
import Derived.OpenShut
import Derived.Stop.Joined
import Derived.Lay
import Derived.LaidMore
set_option linter.unusedSectionVars false
set_option linter.unusedSimpArgs false
set_option linter.unusedVariables false

/- The laws of lists. -/
namespace Go.Avm
open Go
set_option maxRecDepth 10000
section
variable {X : Cx} (hX : X.P = Go.Proofs.Tryz.prog) (hs : Std X) (he : WEnv X)
include hX hs he
theorem ev_lLists (l : List Int) (s : List UInt8) : Ev X F_law01_WordsLists [lst (AV.int .i64) .ro l, .str s] (.bool true) := by
  refine ev_of_wpc hs (A_law01_WordsLists_ok hX) 0 ?_
  have hsh := ev_shown hX hs he
  by_cases h1 : (510 : Int) < l.length
  · simp only [A_law01_WordsLists, go_sem, Nat.reduceMod, Nat.reduceBNe, Nat.reduceBEq, Nat.reduceEqDiff, Nat.reduceAdd, Int.reduceAdd, Nat.reduceMul, Nat.reduceSub, Int.reduceToNat, Int.reduceLE, Int.reduceLT, Int.reduceEq, Int.reduceNe, reduceCtorEq, Nat.reduceLT, Nat.reduceLeDiff, h1]
    refine call_ev hsh ?_
    simp only [go_sem, Nat.reduceMod, Nat.reduceBNe, Nat.reduceBEq, Nat.reduceEqDiff, Nat.reduceAdd, Int.reduceAdd, Nat.reduceMul, Nat.reduceSub, Int.reduceToNat, Int.reduceLE, Int.reduceLT, Int.reduceEq, Int.reduceNe, reduceCtorEq, Nat.reduceLT, Nat.reduceLeDiff]
  by_cases h2 : (2000 : Int) < s.length
  · simp only [A_law01_WordsLists, go_sem, Nat.reduceMod, Nat.reduceBNe, Nat.reduceBEq, Nat.reduceEqDiff, Nat.reduceAdd, Int.reduceAdd, Nat.reduceMul, Nat.reduceSub, Int.reduceToNat, Int.reduceLE, Int.reduceLT, Int.reduceEq, Int.reduceNe, reduceCtorEq, Nat.reduceLT, Nat.reduceLeDiff, h1, h2]
    refine call_ev hsh ?_
    simp only [go_sem, Nat.reduceMod, Nat.reduceBNe, Nat.reduceBEq, Nat.reduceEqDiff, Nat.reduceAdd, Int.reduceAdd, Nat.reduceMul, Nat.reduceSub, Int.reduceToNat, Int.reduceLE, Int.reduceLT, Int.reduceEq, Int.reduceNe, reduceCtorEq, Nat.reduceLT, Nat.reduceLeDiff]
  simp only [A_law01_WordsLists, go_sem, Nat.reduceMod, Nat.reduceBNe, Nat.reduceBEq, Nat.reduceEqDiff, Nat.reduceAdd, Int.reduceAdd, Nat.reduceMul, Nat.reduceSub, Int.reduceToNat, Int.reduceLE, Int.reduceLT, Int.reduceEq, Int.reduceNe, reduceCtorEq, Nat.reduceLT, Nat.reduceLeDiff, h1, h2]
  refine call_ev (ev_List hX hs he.pow l) ?_
  simp only [listV, go_sem, Nat.reduceMod, Nat.reduceBNe, Nat.reduceBEq, Nat.reduceEqDiff, Nat.reduceAdd, Int.reduceAdd, Nat.reduceMul, Nat.reduceSub, Int.reduceToNat, Int.reduceLE, Int.reduceLT, Int.reduceEq, Int.reduceNe, reduceCtorEq, Nat.reduceLT, Nat.reduceLeDiff]
  refine call_ev (ev_rList hX hs l) ?_
  simp only [listV, go_sem, Nat.reduceMod, Nat.reduceBNe, Nat.reduceBEq, Nat.reduceEqDiff, Nat.reduceAdd, Int.reduceAdd, Nat.reduceMul, Nat.reduceSub, Int.reduceToNat, Int.reduceLE, Int.reduceLT, Int.reduceEq, Int.reduceNe, reduceCtorEq, Nat.reduceLT, Nat.reduceLeDiff]
  refine call_ev (ev_ParseList hX hs he.pow s (by omega)) ?_
  simp only [plV, go_sem, Nat.reduceMod, Nat.reduceBNe, Nat.reduceBEq, Nat.reduceEqDiff, Nat.reduceAdd, Int.reduceAdd, Nat.reduceMul, Nat.reduceSub, Int.reduceToNat, Int.reduceLE, Int.reduceLT, Int.reduceEq, Int.reduceNe, reduceCtorEq, Nat.reduceLT, Nat.reduceLeDiff]
  refine call_ev (ev_rParseList hX hs s (by omega)) ?_
  simp only [plV, go_sem, Nat.reduceMod, Nat.reduceBNe, Nat.reduceBEq, Nat.reduceEqDiff, Nat.reduceAdd, Int.reduceAdd, Nat.reduceMul, Nat.reduceSub, Int.reduceToNat, Int.reduceLE, Int.reduceLT, Int.reduceEq, Int.reduceNe, reduceCtorEq, Nat.reduceLT, Nat.reduceLeDiff]
  refine call_ev (ev_lists hX hs _ _ ?_) ?_
  · have := Wo.plS_len s
    omega
  simp only [decide_true, go_sem, Nat.reduceMod, Nat.reduceBNe, Nat.reduceBEq, Nat.reduceEqDiff, Nat.reduceAdd, Int.reduceAdd, Nat.reduceMul, Nat.reduceSub, Int.reduceToNat, Int.reduceLE, Int.reduceLT, Int.reduceEq, Int.reduceNe, reduceCtorEq, Nat.reduceLT, Nat.reduceLeDiff]
  refine call_ev hsh ?_
  simp only [go_sem, Nat.reduceMod, Nat.reduceBNe, Nat.reduceBEq, Nat.reduceEqDiff, Nat.reduceAdd, Int.reduceAdd, Nat.reduceMul, Nat.reduceSub, Int.reduceToNat, Int.reduceLE, Int.reduceLT, Int.reduceEq, Int.reduceNe, reduceCtorEq, Nat.reduceLT, Nat.reduceLeDiff]
set_option maxHeartbeats 4000000 in
theorem ev_lKnown : Ev X F_law01_WordsKnown [] (.bool true) := by
  have hsh := ev_shown hX hs he
  obtain ⟨te, hR⟩ := he.rng
  refine ev_of_wpc hs (A_law01_WordsKnown_ok hX) 0 ?_
  simp only [A_law01_WordsKnown, go_sem, Nat.reduceMod, Nat.reduceBNe, Nat.reduceBEq, Nat.reduceEqDiff, Nat.reduceAdd, Int.reduceAdd, Nat.reduceMul, Nat.reduceSub, Int.reduceToNat, Int.reduceLE, Int.reduceLT, Int.reduceEq, Int.reduceNe, reduceCtorEq, Nat.reduceLT, Nat.reduceLeDiff]
  have k1 : intV [48, 48, 55] 0 10 = .tuple [.int .i64 0, .int .i64 6] := by kernel_rfl
  have k2 : intV [45, 48] 0 10 = .tuple [.int .i64 0, .int .i64 6] := by kernel_rfl
  have k3 : intV [49, 50] 0 10 = .tuple [.int .i64 0, .int .i64 7] := by kernel_rfl
  refine call_ev (ev_eqr (ev_Int hX hs hR _ _ _ (by decide)) k1) ?_
  simp only [go_sem, Nat.reduceMod, Nat.reduceBNe, Nat.reduceBEq, Nat.reduceEqDiff, Nat.reduceAdd, Int.reduceAdd, Nat.reduceMul, Nat.reduceSub, Int.reduceToNat, Int.reduceLE, Int.reduceLT, Int.reduceEq, Int.reduceNe, reduceCtorEq, Nat.reduceLT, Nat.reduceLeDiff]
  refine call_ev (ev_eqr (ev_Int hX hs hR _ _ _ (by decide)) k2) ?_
  simp only [go_sem, Nat.reduceMod, Nat.reduceBNe, Nat.reduceBEq, Nat.reduceEqDiff, Nat.reduceAdd, Int.reduceAdd, Nat.reduceMul, Nat.reduceSub, Int.reduceToNat, Int.reduceLE, Int.reduceLT, Int.reduceEq, Int.reduceNe, reduceCtorEq, Nat.reduceLT, Nat.reduceLeDiff]
  refine call_ev (ev_eqr (ev_Int hX hs hR _ _ _ (by decide)) k3) ?_
  simp only [go_sem, Nat.reduceMod, Nat.reduceBNe, Nat.reduceBEq, Nat.reduceEqDiff, Nat.reduceAdd, Int.reduceAdd, Nat.reduceMul, Nat.reduceSub, Int.reduceToNat, Int.reduceLE, Int.reduceLT, Int.reduceEq, Int.reduceNe, reduceCtorEq, Nat.reduceLT, Nat.reduceLeDiff]
  have u1 : Wo.unqV [34, 92, 120, 52, 49, 34] = ([], 6) := by kernel_rfl
  have u2 : Wo.unqV [34, 92, 120, 55, 70, 34] = ([], 6) := by kernel_rfl
  have u3 : Wo.unqV [34, 97] = ([], 6) := by kernel_rfl
  refine call_ev (ev_Unquote hX hs he.esc _ (by decide)) ?_
  rw [u1]
  simp only [go_sem, Nat.reduceMod, Nat.reduceBNe, Nat.reduceBEq, Nat.reduceEqDiff, Nat.reduceAdd, Int.reduceAdd, Nat.reduceMul, Nat.reduceSub, Int.reduceToNat, Int.reduceLE, Int.reduceLT, Int.reduceEq, Int.reduceNe, reduceCtorEq, Nat.reduceLT, Nat.reduceLeDiff]
  refine call_ev (ev_Unquote hX hs he.esc _ (by decide)) ?_
  rw [u2]
  simp only [go_sem, Nat.reduceMod, Nat.reduceBNe, Nat.reduceBEq, Nat.reduceEqDiff, Nat.reduceAdd, Int.reduceAdd, Nat.reduceMul, Nat.reduceSub, Int.reduceToNat, Int.reduceLE, Int.reduceLT, Int.reduceEq, Int.reduceNe, reduceCtorEq, Nat.reduceLT, Nat.reduceLeDiff]
  refine call_ev (ev_Unquote hX hs he.esc _ (by decide)) ?_
  rw [u3]
  simp only [go_sem, Nat.reduceMod, Nat.reduceBNe, Nat.reduceBEq, Nat.reduceEqDiff, Nat.reduceAdd, Int.reduceAdd, Nat.reduceMul, Nat.reduceSub, Int.reduceToNat, Int.reduceLE, Int.reduceLT, Int.reduceEq, Int.reduceNe, reduceCtorEq, Nat.reduceLT, Nat.reduceLeDiff]
  have s1 : splV [97, 32, 32, 98] = .tuple [lst fdV .ro [], .int .i64 6] := by kernel_rfl
  have s2 : splV [] = .tuple [lst fdV .ro [], .int .i64 0] := by kernel_rfl
  refine call_ev (ev_eqr (ev_Split hX hs he.esc _ (by decide)) s1) ?_
  simp only [go_sem, Nat.reduceMod, Nat.reduceBNe, Nat.reduceBEq, Nat.reduceEqDiff, Nat.reduceAdd, Int.reduceAdd, Nat.reduceMul, Nat.reduceSub, Int.reduceToNat, Int.reduceLE, Int.reduceLT, Int.reduceEq, Int.reduceNe, reduceCtorEq, Nat.reduceLT, Nat.reduceLeDiff]
  refine call_ev (ev_eqr (ev_Split hX hs he.esc _ (by decide)) s2) ?_
  simp only [go_sem, Nat.reduceMod, Nat.reduceBNe, Nat.reduceBEq, Nat.reduceEqDiff, Nat.reduceAdd, Int.reduceAdd, Nat.reduceMul, Nat.reduceSub, Int.reduceToNat, Int.reduceLE, Int.reduceLT, Int.reduceEq, Int.reduceNe, reduceCtorEq, Nat.reduceLT, Nat.reduceLeDiff]
  have l1 : listV [] = .tuple [.str [45], .int .i64 0] := by kernel_rfl
  refine call_ev (ev_eqr (ev_List hX hs he.pow []) l1) ?_
  simp only [go_sem, Nat.reduceMod, Nat.reduceBNe, Nat.reduceBEq, Nat.reduceEqDiff, Nat.reduceAdd, Int.reduceAdd, Nat.reduceMul, Nat.reduceSub, Int.reduceToNat, Int.reduceLE, Int.reduceLT, Int.reduceEq, Int.reduceNe, reduceCtorEq, Nat.reduceLT, Nat.reduceLeDiff]
  have p1 : plV [49, 45, 51, 44, 52] = .tuple [.sl .ro [], .int .i64 6] := by kernel_rfl
  have p2 : plV [51, 45, 51] = .tuple [.sl .ro [], .int .i64 6] := by kernel_rfl
  have p3 : plV [50, 44, 49] = .tuple [.sl .ro [], .int .i64 6] := by kernel_rfl
  have p4 : plV [48, 45, 54, 48, 48] = .tuple [.sl .ro [], .int .i64 3] := by kernel_rfl
  refine call_ev (ev_eqr (ev_ParseList hX hs he.pow _ (by decide)) p1) ?_
  simp only [go_sem, Nat.reduceMod, Nat.reduceBNe, Nat.reduceBEq, Nat.reduceEqDiff, Nat.reduceAdd, Int.reduceAdd, Nat.reduceMul, Nat.reduceSub, Int.reduceToNat, Int.reduceLE, Int.reduceLT, Int.reduceEq, Int.reduceNe, reduceCtorEq, Nat.reduceLT, Nat.reduceLeDiff]
  refine call_ev (ev_eqr (ev_ParseList hX hs he.pow _ (by decide)) p2) ?_
  simp only [go_sem, Nat.reduceMod, Nat.reduceBNe, Nat.reduceBEq, Nat.reduceEqDiff, Nat.reduceAdd, Int.reduceAdd, Nat.reduceMul, Nat.reduceSub, Int.reduceToNat, Int.reduceLE, Int.reduceLT, Int.reduceEq, Int.reduceNe, reduceCtorEq, Nat.reduceLT, Nat.reduceLeDiff]
  refine call_ev (ev_eqr (ev_ParseList hX hs he.pow _ (by decide)) p3) ?_
  simp only [go_sem, Nat.reduceMod, Nat.reduceBNe, Nat.reduceBEq, Nat.reduceEqDiff, Nat.reduceAdd, Int.reduceAdd, Nat.reduceMul, Nat.reduceSub, Int.reduceToNat, Int.reduceLE, Int.reduceLT, Int.reduceEq, Int.reduceNe, reduceCtorEq, Nat.reduceLT, Nat.reduceLeDiff]
  refine call_ev (ev_eqr (ev_ParseList hX hs he.pow _ (by decide)) p4) ?_
  simp only [go_sem, Nat.reduceMod, Nat.reduceBNe, Nat.reduceBEq, Nat.reduceEqDiff, Nat.reduceAdd, Int.reduceAdd, Nat.reduceMul, Nat.reduceSub, Int.reduceToNat, Int.reduceLE, Int.reduceLT, Int.reduceEq, Int.reduceNe, reduceCtorEq, Nat.reduceLT, Nat.reduceLeDiff]
  have n1 : Lat.isNm [87, 101, 98] = false := by kernel_rfl
  have n2 : Lat.isNm [97, 97, 97, 97, 97, 97, 97, 97, 97, 97, 97, 97, 97, 97, 97, 97, 97] = false := by kernel_rfl
  refine call_ev (ev_Name hX hs _) ?_
  rw [n1]
  simp only [go_sem, Nat.reduceMod, Nat.reduceBNe, Nat.reduceBEq, Nat.reduceEqDiff, Nat.reduceAdd, Int.reduceAdd, Nat.reduceMul, Nat.reduceSub, Int.reduceToNat, Int.reduceLE, Int.reduceLT, Int.reduceEq, Int.reduceNe, reduceCtorEq, Nat.reduceLT, Nat.reduceLeDiff]
  refine call_ev (ev_Name hX hs _) ?_
  rw [n2]
  simp only [go_sem, Nat.reduceMod, Nat.reduceBNe, Nat.reduceBEq, Nat.reduceEqDiff, Nat.reduceAdd, Int.reduceAdd, Nat.reduceMul, Nat.reduceSub, Int.reduceToNat, Int.reduceLE, Int.reduceLT, Int.reduceEq, Int.reduceNe, reduceCtorEq, Nat.reduceLT, Nat.reduceLeDiff]
  refine call_ev hsh ?_
  simp only [go_sem, Nat.reduceMod, Nat.reduceBNe, Nat.reduceBEq, Nat.reduceEqDiff, Nat.reduceAdd, Int.reduceAdd, Nat.reduceMul, Nat.reduceSub, Int.reduceToNat, Int.reduceLE, Int.reduceLT, Int.reduceEq, Int.reduceNe, reduceCtorEq, Nat.reduceLT, Nat.reduceLeDiff]
end
end Go.Avm

/- The context in which the seat's functions are proved. -/
namespace Go.Avm
open Go
theorem lf_fds {v : AV} (h : LfR (.sl true [.str, .bool]) v) : ∃ l : List Wo.Fd, v = lst fdV .ro l ∧ l.length ≤ Go.maxLen :=
  lf_sla (fun avs ha => by
    simp only [LfL, LfR] at ha
    obtain ⟨a, _, rfl, ⟨s, rfl, _⟩, b, _, rfl, ⟨q, rfl⟩, rfl⟩ := ha
    exact ⟨(s, q), rfl⟩) h
theorem lf_pq {avs : List AV} (h : LfL [.sl false [.int .i64], .int .i64] avs) : ∃ (l : List Int) (k : Int), avs = [lst (AV.int .i64) .ro l, .int .i64 k] ∧ (Lit.int .i64 k).wf = true := by
  simp only [LfL] at h
  obtain ⟨v, _, rfl, h1, w, _, rfl, h2, rfl⟩ := h
  obtain ⟨l, rfl, _⟩ := lf_ints .i64 h1
  simp only [LfR] at h2
  obtain ⟨z, rfl, hz⟩ := h2
  exact ⟨l, z, rfl, hz⟩
end Go.Avm
namespace Go.Proofs.YtpichdklbnkhfaaGreatDoor
open Go Go.Avm Go.ChangeShapes Go.WideShapes Go.ChangeAt Go.WideMaps Go.WideElems Go.RowKit Go.Lib
theorem own : ownKnob Tryz.prog.godebug = none := by kernel_rfl
theorem laidOut : laidOutB Tryz.prog = true := by kernel_rfl
def laidL : List (String × DataW Unit) := [("math/bits.deBruijn32tab", Rows.laid_math_bits_deBruijn32tab), ("math/bits.deBruijn64tab", Rows.laid_math_bits_deBruijn64tab), ("internal/strconv.uint64pow10", Rows.laid_internal_strconv_uint64pow10), ("unicode/utf8.acceptRanges", Rows.laid_unicode_utf8_acceptRanges), ("strconv.ErrRange", Rows.laid_strconv_ErrRange), ("strconv.ErrSyntax", Rows.laid_strconv_ErrSyntax), ("invigilator/words.escapes", Rows.laid_invigilator_words_escapes), ("unicode/utf8.first", Rows.laid_unicode_utf8_first)]
theorem pow_eq : (Rows.laid_internal_strconv_uint64pow10 : DataW Unit) = tabData .u64 Lib.pow10Tab := by kernel_rfl
def escR : List (List Int) := [[34, 34], [92, 92], [10, 110], [13, 114], [9, 116]]
theorem esc_eq : (Rows.laid_invigilator_words_escapes : DataW Unit) = .agg (escR.map fun zs => .agg (zs.map fun z => .lit (.int .u8 z))) := by kernel_rfl
theorem gPow : Tryz.prog.globalNamed "internal/strconv.uint64pow10" = some 4 := by kernel_rfl
theorem yPow : (Tryz.prog.globals[4]?).map (·.type) = some 136 := by kernel_rfl
theorem gEscp : Tryz.prog.globalNamed "invigilator/words.escapes" = some 0 := by kernel_rfl
theorem yEscp : (Tryz.prog.globals[0]?).map (·.type) = some 100 := by kernel_rfl
theorem gRng : Tryz.prog.globalNamed "strconv.ErrRange" = some 3 := by kernel_rfl
theorem yRng : (Tryz.prog.globals[3]?).map (·.type) = some 54 := by kernel_rfl
theorem cx_ex {W : World} (h : laidMet Tryz.prog laidL W) : ∃ X : Cx, X.P = Tryz.prog ∧ Std X ∧ WEnv X ∧ ∀ x cs, X.G x = some cs → LaidAt W x cs := by
  have v1 : VarReads Tryz.prog W "internal/strconv.uint64pow10" (tabData .u64 Lib.pow10Tab) := pow_eq ▸ laidMet.reads h (.tail _ (.tail _ (.head _)))
  have v2 : VarReads Tryz.prog W "invigilator/words.escapes" (.agg (escR.map fun zs => .agg (zs.map fun z => .lit (.int .u8 z)))) := esc_eq ▸ laidMet.reads h (.tail _ (.tail _ (.tail _ (.tail _ (.tail _ (.tail _ (.head _)))))))
  have v3 : VarReads Tryz.prog W "strconv.ErrRange" Rows.laid_strconv_ErrRange := laidMet.reads h (.tail _ (.tail _ (.tail _ (.tail _ (.head _)))))
  have h1 : LaidAt W 4 tabP := laid_tab v1 gPow yPow Tryz.underlying136 Tryz.underlying111 (by kernel_rfl) (by kernel_rfl)
  have h2 : LaidAt W 0 tabE := laid_rows (rows := escR) v2 gEscp yEscp Tryz.underlying100 Tryz.underlying99 (fun j f hj => by
    match j, hj with
    | 0, hj => simp at hj; subst hj; exact ⟨Tryz.underlying5, rfl, by kernel_rfl⟩
    | 1, hj => simp at hj; subst hj; exact ⟨Tryz.underlying5, rfl, by kernel_rfl⟩
    | j + 2, hj => simp at hj) (by kernel_rfl) (by kernel_rfl) rfl
  obtain ⟨te, h3⟩ := laid_iface v3 gRng yRng Tryz.underlying54
  obtain ⟨X, hX, hs, hG, hl⟩ := cx_of Tryz.prog (by kernel_rfl) [(4, tabP), (0, tabE), (3, [.ifc te .undef])] (by
    intro p hp
    simp only [List.mem_cons, List.not_mem_nil, or_false] at hp
    rcases hp with rfl | rfl | rfl
    · exact h1
    · exact h2
    · exact h3)
  exact ⟨X, hX, hs, ⟨by rw [hG]; rfl, by rw [hG]; rfl, te, by rw [hG]; rfl⟩, hl⟩
end Go.Proofs.YtpichdklbnkhfaaGreatDoor
