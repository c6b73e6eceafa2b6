/- Known. -/
import Derived.Test.YtpkgglpiboeogaaDoorAQ6
import Derived.Test.YtpkgglpiboeogaaDoorM5
set_option linter.unusedSectionVars false
set_option linter.unusedSimpArgs false
set_option linter.unusedVariables false

/- Known. -/
namespace Go.Avm
open Go Go.Rn Go.Lx
set_option maxRecDepth 10000
def knH : Heap := [.box (knT.map fun x => .str x.1), .box (knT.map fun x => .int .i64 (x.2.1 : Nat)), .box (knT.map fun x => .int .i64 x.2.2)]
section
variable {X : Cx} (hX : X.P = Go.Proofs.Tryd.prog) (hs : Std X) (hE : LEnv X)
include hX hs hE
set_option maxHeartbeats 4000000 in
theorem ev_LKnown : Ev X F_law14_LexerKnown [] (.bool true) := by
  refine ev_of_wpc hs (A_law14_LexerKnown_ok hX) 0 ?_
  simp only [A_law14_LexerKnown, go_sem, Nat.reduceMod, Nat.reduceBNe, Nat.reduceBEq, Nat.reduceEqDiff, Nat.reduceAdd, Int.reduceAdd, Nat.reduceMul, Nat.reduceSub, Int.reduceToNat, Int.reduceLE, Int.reduceLT, Int.reduceEq, Int.reduceNe, reduceCtorEq, Nat.reduceLT, Nat.reduceLeDiff]
  refine w_loop' hs.hm (ι := Nat) (fun i => i ≤ 9) (fun i => [(4, .int .i64 i), (1, .ptr 0 0), (2, .ptr 1 0), (3, .ptr 2 0)]) (fun _ => knH) (fun i => 9 - i) 0 ?_ fun i hi => ?_
  · simp only [go_sem, Nat.reduceMod, Nat.reduceBNe, Nat.reduceBEq, Nat.reduceEqDiff, Nat.reduceAdd, Int.reduceAdd, Nat.reduceMul, Nat.reduceSub, Int.reduceToNat, Int.reduceLE, Int.reduceLT, Int.reduceEq, Int.reduceNe, reduceCtorEq, Nat.reduceLT, Nat.reduceLeDiff]
    rfl
  by_cases hi9 : i < 9
  · have lk : ∀ k, (h : k < knT.length) → Ev X F_lexer_Line [.str knT[k].1] (.tuple [lst itV .ro [], .int .i64 (knT[k].2.1 : Nat), .int .i64 knT[k].2.2]) := fun k h => by
      have e := kn_line _ (List.getElem_mem h)
      have hl : ∀ x ∈ knT, x.1.length < 1000000 := by decide
      have := ev_LineE hX hs hE knT[k].1 (hl _ (List.getElem_mem h))
      rw [e] at this
      exact this
    rcases (by omega : i = 0 ∨ i = 1 ∨ i = 2 ∨ i = 3 ∨ i = 4 ∨ i = 5 ∨ i = 6 ∨ i = 7 ∨ i = 8) with rfl | rfl | rfl | rfl | rfl | rfl | rfl | rfl | rfl
    · simp only [A_law14_LexerKnownL0, go_sem, Nat.reduceMod, Nat.reduceBNe, Nat.reduceBEq, Nat.reduceEqDiff, Nat.reduceAdd, Int.reduceAdd, Nat.reduceMul, Nat.reduceSub, Int.reduceToNat, Int.reduceLE, Int.reduceLT, Int.reduceEq, Int.reduceNe, reduceCtorEq, Nat.reduceLT, Nat.reduceLeDiff, knH, knT, List.map_cons, List.map_nil]
      refine call_ev (show Ev X F_lexer_Line [.str [120, 32, 60, 32, 53]] (.tuple [lst itV .ro [], .int .i64 2, .int .i64 6]) from lk 0 (by decide)) ?_
      simp only [go_sem, Nat.reduceMod, Nat.reduceBNe, Nat.reduceBEq, Nat.reduceEqDiff, Nat.reduceAdd, Int.reduceAdd, Nat.reduceMul, Nat.reduceSub, Int.reduceToNat, Int.reduceLE, Int.reduceLT, Int.reduceEq, Int.reduceNe, reduceCtorEq, Nat.reduceLT, Nat.reduceLeDiff, List.map_cons, List.map_nil]
      exact ⟨1, by decide, by decide, rfl⟩
    · simp only [A_law14_LexerKnownL0, go_sem, Nat.reduceMod, Nat.reduceBNe, Nat.reduceBEq, Nat.reduceEqDiff, Nat.reduceAdd, Int.reduceAdd, Nat.reduceMul, Nat.reduceSub, Int.reduceToNat, Int.reduceLE, Int.reduceLT, Int.reduceEq, Int.reduceNe, reduceCtorEq, Nat.reduceLT, Nat.reduceLeDiff, knH, knT, List.map_cons, List.map_nil]
      refine call_ev (show Ev X F_lexer_Line [.str [45]] (.tuple [lst itV .ro [], .int .i64 0, .int .i64 6]) from lk 1 (by decide)) ?_
      simp only [go_sem, Nat.reduceMod, Nat.reduceBNe, Nat.reduceBEq, Nat.reduceEqDiff, Nat.reduceAdd, Int.reduceAdd, Nat.reduceMul, Nat.reduceSub, Int.reduceToNat, Int.reduceLE, Int.reduceLT, Int.reduceEq, Int.reduceNe, reduceCtorEq, Nat.reduceLT, Nat.reduceLeDiff, List.map_cons, List.map_nil]
      exact ⟨2, by decide, by decide, rfl⟩
    · simp only [A_law14_LexerKnownL0, go_sem, Nat.reduceMod, Nat.reduceBNe, Nat.reduceBEq, Nat.reduceEqDiff, Nat.reduceAdd, Int.reduceAdd, Nat.reduceMul, Nat.reduceSub, Int.reduceToNat, Int.reduceLE, Int.reduceLT, Int.reduceEq, Int.reduceNe, reduceCtorEq, Nat.reduceLT, Nat.reduceLeDiff, knH, knT, List.map_cons, List.map_nil]
      refine call_ev (show Ev X F_lexer_Line [.str [53, 120]] (.tuple [lst itV .ro [], .int .i64 1, .int .i64 6]) from lk 2 (by decide)) ?_
      simp only [go_sem, Nat.reduceMod, Nat.reduceBNe, Nat.reduceBEq, Nat.reduceEqDiff, Nat.reduceAdd, Int.reduceAdd, Nat.reduceMul, Nat.reduceSub, Int.reduceToNat, Int.reduceLE, Int.reduceLT, Int.reduceEq, Int.reduceNe, reduceCtorEq, Nat.reduceLT, Nat.reduceLeDiff, List.map_cons, List.map_nil]
      exact ⟨3, by decide, by decide, rfl⟩
    · simp only [A_law14_LexerKnownL0, go_sem, Nat.reduceMod, Nat.reduceBNe, Nat.reduceBEq, Nat.reduceEqDiff, Nat.reduceAdd, Int.reduceAdd, Nat.reduceMul, Nat.reduceSub, Int.reduceToNat, Int.reduceLE, Int.reduceLT, Int.reduceEq, Int.reduceNe, reduceCtorEq, Nat.reduceLT, Nat.reduceLeDiff, knH, knT, List.map_cons, List.map_nil]
      refine call_ev (show Ev X F_lexer_Line [.str [65]] (.tuple [lst itV .ro [], .int .i64 0, .int .i64 6]) from lk 3 (by decide)) ?_
      simp only [go_sem, Nat.reduceMod, Nat.reduceBNe, Nat.reduceBEq, Nat.reduceEqDiff, Nat.reduceAdd, Int.reduceAdd, Nat.reduceMul, Nat.reduceSub, Int.reduceToNat, Int.reduceLE, Int.reduceLT, Int.reduceEq, Int.reduceNe, reduceCtorEq, Nat.reduceLT, Nat.reduceLeDiff, List.map_cons, List.map_nil]
      exact ⟨4, by decide, by decide, rfl⟩
    · simp only [A_law14_LexerKnownL0, go_sem, Nat.reduceMod, Nat.reduceBNe, Nat.reduceBEq, Nat.reduceEqDiff, Nat.reduceAdd, Int.reduceAdd, Nat.reduceMul, Nat.reduceSub, Int.reduceToNat, Int.reduceLE, Int.reduceLT, Int.reduceEq, Int.reduceNe, reduceCtorEq, Nat.reduceLT, Nat.reduceLeDiff, knH, knT, List.map_cons, List.map_nil]
      refine call_ev (show Ev X F_lexer_Line [.str [57, 50, 50, 51, 51, 55, 50, 48, 51, 54, 56, 53, 52, 55, 55, 53, 56, 48, 56]] (.tuple [lst itV .ro [], .int .i64 0, .int .i64 7]) from lk 4 (by decide)) ?_
      simp only [go_sem, Nat.reduceMod, Nat.reduceBNe, Nat.reduceBEq, Nat.reduceEqDiff, Nat.reduceAdd, Int.reduceAdd, Nat.reduceMul, Nat.reduceSub, Int.reduceToNat, Int.reduceLE, Int.reduceLT, Int.reduceEq, Int.reduceNe, reduceCtorEq, Nat.reduceLT, Nat.reduceLeDiff, List.map_cons, List.map_nil]
      exact ⟨5, by decide, by decide, rfl⟩
    · simp only [A_law14_LexerKnownL0, go_sem, Nat.reduceMod, Nat.reduceBNe, Nat.reduceBEq, Nat.reduceEqDiff, Nat.reduceAdd, Int.reduceAdd, Nat.reduceMul, Nat.reduceSub, Int.reduceToNat, Int.reduceLE, Int.reduceLT, Int.reduceEq, Int.reduceNe, reduceCtorEq, Nat.reduceLT, Nat.reduceLeDiff, knH, knT, List.map_cons, List.map_nil]
      refine call_ev (show Ev X F_lexer_Line [.str [34, 97]] (.tuple [lst itV .ro [], .int .i64 0, .int .i64 6]) from lk 5 (by decide)) ?_
      simp only [go_sem, Nat.reduceMod, Nat.reduceBNe, Nat.reduceBEq, Nat.reduceEqDiff, Nat.reduceAdd, Int.reduceAdd, Nat.reduceMul, Nat.reduceSub, Int.reduceToNat, Int.reduceLE, Int.reduceLT, Int.reduceEq, Int.reduceNe, reduceCtorEq, Nat.reduceLT, Nat.reduceLeDiff, List.map_cons, List.map_nil]
      exact ⟨6, by decide, by decide, rfl⟩
    · simp only [A_law14_LexerKnownL0, go_sem, Nat.reduceMod, Nat.reduceBNe, Nat.reduceBEq, Nat.reduceEqDiff, Nat.reduceAdd, Int.reduceAdd, Nat.reduceMul, Nat.reduceSub, Int.reduceToNat, Int.reduceLE, Int.reduceLT, Int.reduceEq, Int.reduceNe, reduceCtorEq, Nat.reduceLT, Nat.reduceLeDiff, knH, knT, List.map_cons, List.map_nil]
      refine call_ev (show Ev X F_lexer_Line [.str [34, 92, 113, 34]] (.tuple [lst itV .ro [], .int .i64 1, .int .i64 6]) from lk 6 (by decide)) ?_
      simp only [go_sem, Nat.reduceMod, Nat.reduceBNe, Nat.reduceBEq, Nat.reduceEqDiff, Nat.reduceAdd, Int.reduceAdd, Nat.reduceMul, Nat.reduceSub, Int.reduceToNat, Int.reduceLE, Int.reduceLT, Int.reduceEq, Int.reduceNe, reduceCtorEq, Nat.reduceLT, Nat.reduceLeDiff, List.map_cons, List.map_nil]
      exact ⟨7, by decide, by decide, rfl⟩
    · simp only [A_law14_LexerKnownL0, go_sem, Nat.reduceMod, Nat.reduceBNe, Nat.reduceBEq, Nat.reduceEqDiff, Nat.reduceAdd, Int.reduceAdd, Nat.reduceMul, Nat.reduceSub, Int.reduceToNat, Int.reduceLE, Int.reduceLT, Int.reduceEq, Int.reduceNe, reduceCtorEq, Nat.reduceLT, Nat.reduceLeDiff, knH, knT, List.map_cons, List.map_nil]
      refine call_ev (show Ev X F_lexer_Line [.str [34, 92, 117, 49, 49, 48, 48, 48, 48, 59, 34]] (.tuple [lst itV .ro [], .int .i64 1, .int .i64 6]) from lk 7 (by decide)) ?_
      simp only [go_sem, Nat.reduceMod, Nat.reduceBNe, Nat.reduceBEq, Nat.reduceEqDiff, Nat.reduceAdd, Int.reduceAdd, Nat.reduceMul, Nat.reduceSub, Int.reduceToNat, Int.reduceLE, Int.reduceLT, Int.reduceEq, Int.reduceNe, reduceCtorEq, Nat.reduceLT, Nat.reduceLeDiff, List.map_cons, List.map_nil]
      exact ⟨8, by decide, by decide, rfl⟩
    · simp only [A_law14_LexerKnownL0, go_sem, Nat.reduceMod, Nat.reduceBNe, Nat.reduceBEq, Nat.reduceEqDiff, Nat.reduceAdd, Int.reduceAdd, Nat.reduceMul, Nat.reduceSub, Int.reduceToNat, Int.reduceLE, Int.reduceLT, Int.reduceEq, Int.reduceNe, reduceCtorEq, Nat.reduceLT, Nat.reduceLeDiff, knH, knT, List.map_cons, List.map_nil]
      refine call_ev (show Ev X F_lexer_Line [.str [97, 98, 99, 100, 101, 102, 103, 104, 105, 106, 107, 108, 109, 110, 111, 112, 113]] (.tuple [lst itV .ro [], .int .i64 16, .int .i64 3]) from lk 8 (by decide)) ?_
      simp only [go_sem, Nat.reduceMod, Nat.reduceBNe, Nat.reduceBEq, Nat.reduceEqDiff, Nat.reduceAdd, Int.reduceAdd, Nat.reduceMul, Nat.reduceSub, Int.reduceToNat, Int.reduceLE, Int.reduceLT, Int.reduceEq, Int.reduceNe, reduceCtorEq, Nat.reduceLT, Nat.reduceLeDiff, List.map_cons, List.map_nil]
      exact ⟨9, by decide, by decide, rfl⟩
  · have e9 : i = 9 := by omega
    subst e9
    simp only [A_law14_LexerKnownL0, go_sem, Nat.reduceMod, Nat.reduceBNe, Nat.reduceBEq, Nat.reduceEqDiff, Nat.reduceAdd, Int.reduceAdd, Nat.reduceMul, Nat.reduceSub, Int.reduceToNat, Int.reduceLE, Int.reduceLT, Int.reduceEq, Int.reduceNe, reduceCtorEq, Nat.reduceLT, Nat.reduceLeDiff]
    have l1 := ev_LineE hX hs hE k1T (by decide)
    rw [k1_line] at l1
    have hT : toks (k1L.map toT) = k1L.map (·.1) := toks_pt _
    have p1 := ev_PrintE hX hs hE (k1L.map toT) ⟨by decide, by unfold k1L toT I64; decide⟩
    rw [hT, prS_k1] at p1
    have l2 := ev_LineE hX hs hE k2T (by decide)
    rw [k2_line] at l2
    have sm := ev_Same hX hs (k2L.map toT) (k2L.map fun x => (x.1, 0, 0)) false (by decide)
    rw [same_toks (by rfl)] at sm
    refine call_ev l1 ?_
    simp only [go_sem, Nat.reduceMod, Nat.reduceBNe, Nat.reduceBEq, Nat.reduceEqDiff, Nat.reduceAdd, Int.reduceAdd, Nat.reduceMul, Nat.reduceSub, Int.reduceToNat, Int.reduceLE, Int.reduceLT, Int.reduceEq, Int.reduceNe, reduceCtorEq, Nat.reduceLT, Nat.reduceLeDiff]
    refine call_ev p1 ?_
    simp only [go_sem, Nat.reduceMod, Nat.reduceBNe, Nat.reduceBEq, Nat.reduceEqDiff, Nat.reduceAdd, Int.reduceAdd, Nat.reduceMul, Nat.reduceSub, Int.reduceToNat, Int.reduceLE, Int.reduceLT, Int.reduceEq, Int.reduceNe, reduceCtorEq, Nat.reduceLT, Nat.reduceLeDiff]
    refine call_ev l2 ?_
    simp only [go_sem, Nat.reduceMod, Nat.reduceBNe, Nat.reduceBEq, Nat.reduceEqDiff, Nat.reduceAdd, Int.reduceAdd, Nat.reduceMul, Nat.reduceSub, Int.reduceToNat, Int.reduceLE, Int.reduceLT, Int.reduceEq, Int.reduceNe, reduceCtorEq, Nat.reduceLT, Nat.reduceLeDiff]
    refine ⟨fun h => ?_, fun h => absurd rfl h⟩
    refine call_ev sm ?_
    simp only [go_sem, Nat.reduceMod, Nat.reduceBNe, Nat.reduceBEq, Nat.reduceEqDiff, Nat.reduceAdd, Int.reduceAdd, Nat.reduceMul, Nat.reduceSub, Int.reduceToNat, Int.reduceLE, Int.reduceLT, Int.reduceEq, Int.reduceNe, reduceCtorEq, Nat.reduceLT, Nat.reduceLeDiff]
    refine call_ev (ev_shown hX hs hE) ?_
    simp only [go_sem, Nat.reduceMod, Nat.reduceBNe, Nat.reduceBEq, Nat.reduceEqDiff, Nat.reduceAdd, Int.reduceAdd, Nat.reduceMul, Nat.reduceSub, Int.reduceToNat, Int.reduceLE, Int.reduceLT, Int.reduceEq, Int.reduceNe, reduceCtorEq, Nat.reduceLT, Nat.reduceLeDiff]
end
end Go.Avm
