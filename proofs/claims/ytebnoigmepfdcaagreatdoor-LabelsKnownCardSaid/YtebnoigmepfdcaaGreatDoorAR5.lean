/- Labels: the law of examples. -/
import Derived.Test.YtebnoigmepfdcaaGreatDoorAR4
set_option linter.unusedSectionVars false
set_option linter.unusedSimpArgs false
set_option linter.unusedVariables false

/- Labels: the law of examples. -/
namespace Go.Avm
open Go
theorem y_1 : (jnE dN dU [], ckE dN dU []) = (0, 0) := by decide +kernel
theorem y_2 : (mtE dN dU [3, 1], ckE dN dU [3, 1]) = (1, 0) := by decide +kernel
theorem y_3 : mtE dN dU [] = 3 := by decide +kernel
theorem y_4 : (bdL dN dU 1 (dnP dU 1), ckE dN dU [1]) = ([0, 1], 0) := by decide +kernel
theorem y_5 : (bdL dN dU 2 (upP dU 2), ckE dN dU [2]) = ([2, 3], 0) := by decide +kernel
theorem y_6 : (chV dN dU [0, 3, 1], ckE dN dU [0, 3, 1]) = (true, 0) := by decide +kernel
theorem y_7 : (chV dN dU [1, 2], ckE dN dU [1, 2]) = (false, 0) := by decide +kernel
theorem y_8 : shS dN dU [] = [45] := by decide +kernel
theorem y_9 : rdS dN dU [108, 111, 119, 44, 44, 97, 110, 110] = ([], 6) := by decide +kernel
theorem y_10 : rdS dN dU [101, 118, 101] = ([], 4) := by decide +kernel
set_option maxRecDepth 10000
section
variable {X : Cx} (hX : X.P = Go.Proofs.Tryz.prog) (hs : Std X)
include hX hs
set_option maxHeartbeats 4000000 in
theorem ev_LKnown (_ : True) : Ev X F_law04_LabelsKnown [] (.bool true) := by
  refine ev_of_wpc hs (A_law04_LabelsKnown_ok hX) 1 ?_
  simp only [A_law04_LabelsKnown, go_sem, Nat.reduceMod, Nat.reduceBNe, Nat.reduceBEq, Nat.reduceEqDiff, Nat.reduceAdd, Int.reduceAdd, Nat.reduceMul, Nat.reduceSub, Int.reduceToNat, Int.reduceLE, Int.reduceLT, Int.reduceEq, Int.reduceNe, reduceCtorEq, Nat.reduceLT, Nat.reduceLeDiff]
  refine call_ev (ev_Diamond hX hs) ?_
  simp only [go_sem, Nat.reduceMod, Nat.reduceBNe, Nat.reduceBEq, Nat.reduceEqDiff, Nat.reduceAdd, Int.reduceAdd, Nat.reduceMul, Nat.reduceSub, Int.reduceToNat, Int.reduceLE, Int.reduceLT, Int.reduceEq, Int.reduceNe, reduceCtorEq, Nat.reduceLT, Nat.reduceLeDiff]
  refine call_ev (ev_lJoin hX hs dN dU [] (by decide)) ?_
  rw [(Prod.mk.inj y_1).1, (Prod.mk.inj y_1).2]
  simp only [go_sem, Nat.reduceMod, Nat.reduceBNe, Nat.reduceBEq, Nat.reduceEqDiff, Nat.reduceAdd, Int.reduceAdd, Nat.reduceMul, Nat.reduceSub, Int.reduceToNat, Int.reduceLE, Int.reduceLT, Int.reduceEq, Int.reduceNe, reduceCtorEq, Nat.reduceLT, Nat.reduceLeDiff]
  refine call_ev (ev_lMeet hX hs dN dU [3, 1] (by decide)) ?_
  rw [(Prod.mk.inj y_2).1, (Prod.mk.inj y_2).2]
  simp only [go_sem, Nat.reduceMod, Nat.reduceBNe, Nat.reduceBEq, Nat.reduceEqDiff, Nat.reduceAdd, Int.reduceAdd, Nat.reduceMul, Nat.reduceSub, Int.reduceToNat, Int.reduceLE, Int.reduceLT, Int.reduceEq, Int.reduceNe, reduceCtorEq, Nat.reduceLT, Nat.reduceLeDiff]
  refine call_ev (ev_lMeet hX hs dN dU [] (by decide)) ?_
  rw [y_3, (Prod.mk.inj y_1).2]
  simp only [go_sem, Nat.reduceMod, Nat.reduceBNe, Nat.reduceBEq, Nat.reduceEqDiff, Nat.reduceAdd, Int.reduceAdd, Nat.reduceMul, Nat.reduceSub, Int.reduceToNat, Int.reduceLE, Int.reduceLT, Int.reduceEq, Int.reduceNe, reduceCtorEq, Nat.reduceLT, Nat.reduceLeDiff]
  refine call_ev (ev_lDown hX hs dN dU 1) ?_
  rw [(Prod.mk.inj y_4).1, (Prod.mk.inj y_4).2]
  simp only [go_sem, Nat.reduceMod, Nat.reduceBNe, Nat.reduceBEq, Nat.reduceEqDiff, Nat.reduceAdd, Int.reduceAdd, Nat.reduceMul, Nat.reduceSub, Int.reduceToNat, Int.reduceLE, Int.reduceLT, Int.reduceEq, Int.reduceNe, reduceCtorEq, Nat.reduceLT, Nat.reduceLeDiff]
  refine call_ev (ev_lUp hX hs dN dU 2) ?_
  rw [(Prod.mk.inj y_5).1, (Prod.mk.inj y_5).2]
  simp only [go_sem, Nat.reduceMod, Nat.reduceBNe, Nat.reduceBEq, Nat.reduceEqDiff, Nat.reduceAdd, Int.reduceAdd, Nat.reduceMul, Nat.reduceSub, Int.reduceToNat, Int.reduceLE, Int.reduceLT, Int.reduceEq, Int.reduceNe, reduceCtorEq, Nat.reduceLT, Nat.reduceLeDiff]
  refine call_ev (ev_rlSame hX hs [0, 1] [0, 1] (by decide) (by decide)) ?_
  simp only [go_sem, Nat.reduceMod, Nat.reduceBNe, Nat.reduceBEq, Nat.reduceEqDiff, Nat.reduceAdd, Int.reduceAdd, Nat.reduceMul, Nat.reduceSub, Int.reduceToNat, Int.reduceLE, Int.reduceLT, Int.reduceEq, Int.reduceNe, reduceCtorEq, Nat.reduceLT, Nat.reduceLeDiff]
  refine call_ev (ev_rlSame hX hs [2, 3] [2, 3] (by decide) (by decide)) ?_
  simp only [go_sem, Nat.reduceMod, Nat.reduceBNe, Nat.reduceBEq, Nat.reduceEqDiff, Nat.reduceAdd, Int.reduceAdd, Nat.reduceMul, Nat.reduceSub, Int.reduceToNat, Int.reduceLE, Int.reduceLT, Int.reduceEq, Int.reduceNe, reduceCtorEq, Nat.reduceLT, Nat.reduceLeDiff]
  refine call_ev (ev_lChain hX hs dN dU [0, 3, 1] (by decide)) ?_
  rw [(Prod.mk.inj y_6).1, (Prod.mk.inj y_6).2]
  simp only [go_sem, Nat.reduceMod, Nat.reduceBNe, Nat.reduceBEq, Nat.reduceEqDiff, Nat.reduceAdd, Int.reduceAdd, Nat.reduceMul, Nat.reduceSub, Int.reduceToNat, Int.reduceLE, Int.reduceLT, Int.reduceEq, Int.reduceNe, reduceCtorEq, Nat.reduceLT, Nat.reduceLeDiff]
  refine call_ev (ev_lChain hX hs dN dU [1, 2] (by decide)) ?_
  rw [(Prod.mk.inj y_7).1, (Prod.mk.inj y_7).2]
  simp only [go_sem, Nat.reduceMod, Nat.reduceBNe, Nat.reduceBEq, Nat.reduceEqDiff, Nat.reduceAdd, Int.reduceAdd, Nat.reduceMul, Nat.reduceSub, Int.reduceToNat, Int.reduceLE, Int.reduceLT, Int.reduceEq, Int.reduceNe, reduceCtorEq, Nat.reduceLT, Nat.reduceLeDiff]
  refine call_ev (ev_lShow hX hs dN dU [] (by decide) d_long) ?_
  rw [y_8, (Prod.mk.inj y_1).2]
  simp only [go_sem, Nat.reduceMod, Nat.reduceBNe, Nat.reduceBEq, Nat.reduceEqDiff, Nat.reduceAdd, Int.reduceAdd, Nat.reduceMul, Nat.reduceSub, Int.reduceToNat, Int.reduceLE, Int.reduceLT, Int.reduceEq, Int.reduceNe, reduceCtorEq, Nat.reduceLT, Nat.reduceLeDiff]
  refine call_ev (ev_lRead hX hs dN dU [108, 111, 119, 44, 44, 97, 110, 110] (by decide)) ?_
  rw [y_9]
  simp only [go_sem, Nat.reduceMod, Nat.reduceBNe, Nat.reduceBEq, Nat.reduceEqDiff, Nat.reduceAdd, Int.reduceAdd, Nat.reduceMul, Nat.reduceSub, Int.reduceToNat, Int.reduceLE, Int.reduceLT, Int.reduceEq, Int.reduceNe, reduceCtorEq, Nat.reduceLT, Nat.reduceLeDiff]
  refine call_ev (ev_lRead hX hs dN dU [101, 118, 101] (by decide)) ?_
  rw [y_10]
  simp only [go_sem, Nat.reduceMod, Nat.reduceBNe, Nat.reduceBEq, Nat.reduceEqDiff, Nat.reduceAdd, Int.reduceAdd, Nat.reduceMul, Nat.reduceSub, Int.reduceToNat, Int.reduceLE, Int.reduceLT, Int.reduceEq, Int.reduceNe, reduceCtorEq, Nat.reduceLT, Nat.reduceLeDiff]
  refine call_ev (ev_awake hX hs) ?_
  simp only [go_sem, Nat.reduceMod, Nat.reduceBNe, Nat.reduceBEq, Nat.reduceEqDiff, Nat.reduceAdd, Int.reduceAdd, Nat.reduceMul, Nat.reduceSub, Int.reduceToNat, Int.reduceLE, Int.reduceLT, Int.reduceEq, Int.reduceNe, reduceCtorEq, Nat.reduceLT, Nat.reduceLeDiff]
end
end Go.Avm
