/- LatticeKnown. -/
import Derived.Test.YtngmmanggdpeaaaDoorU7
set_option linter.unusedSectionVars false
set_option linter.unusedSimpArgs false
set_option linter.unusedVariables false

/- LatticeKnown. -/
namespace Go.Avm
open Go
theorem k_leq : leqS dN dU 1 2 = false := by decide +kernel
theorem k_ask : askS dN dU 1 2 = 0 := by decide +kernel
theorem k_bot : botS dN dU = 0 := by decide +kernel
theorem k_top : topS dN dU = 3 := by decide +kernel
theorem k_chk : Lat.checkS [[108, 111, 119], [97, 110, 110], [98, 111, 98]] [7, 2, 4] = (1, 4) := by decide +kernel
theorem k_m1 : mkE [[97], [98]] [[49, 48, 49], [48, 49]] = (0, 6) := by decide +kernel
theorem k_m2 : mkE [[97], [98]] [[49, 49], [49, 49]] = (0, 6) := by decide +kernel
def dR : List (List UInt8) := [[49, 49, 49, 49], [48, 49, 48, 49], [48, 48, 49, 49], [48, 48, 48, 49]]
theorem k_m3 : mkE dN dR = (0, 0) := by decide +kernel
theorem k_m4 : upsOf dR 4 = dU := by decide +kernel
theorem ev_eqr {X : Cx} {f : Nat} {args : List AV} {r r' : AV} (h : Ev X f args r) (e : r = r') : Ev X f args r' := e ▸ h
set_option maxRecDepth 10000
section
variable {X : Cx} (hX : X.P = Go.Proofs.Tryd.prog) (hs : Std X)
include hX hs
set_option maxHeartbeats 4000000 in
theorem ev_lKnown : Ev X F_law03_LatticeKnown [] (.bool true) := by
  refine ev_of_wpc hs (A_law03_LatticeKnown_ok hX) 1 ?_
  simp only [A_law03_LatticeKnown, go_sem, Nat.reduceBEq, Nat.reduceEqDiff, Nat.reduceAdd, Int.reduceAdd, Nat.reduceMul, Nat.reduceSub, Int.reduceToNat, Int.reduceLE, Int.reduceLT, Int.reduceEq, Int.reduceNe, reduceCtorEq, Nat.reduceLT, Nat.reduceLeDiff]
  refine call_ev (ev_Diamond hX hs) ?_
  simp only [go_sem, Nat.reduceBEq, Nat.reduceEqDiff, Nat.reduceAdd, Int.reduceAdd, Nat.reduceMul, Nat.reduceSub, Int.reduceToNat, Int.reduceLE, Int.reduceLT, Int.reduceEq, Int.reduceNe, reduceCtorEq, Nat.reduceLT, Nat.reduceLeDiff]
  refine call_ev (r := .tuple [.bool false, .int .i64 0]) (ev_eqr (ev_Leq hX hs dN dU 1 2) (by rw [k_leq, k_ask])) ?_
  simp only [go_sem, Nat.reduceBEq, Nat.reduceEqDiff, Nat.reduceAdd, Int.reduceAdd, Nat.reduceMul, Nat.reduceSub, Int.reduceToNat, Int.reduceLE, Int.reduceLT, Int.reduceEq, Int.reduceNe, reduceCtorEq, Nat.reduceLT, Nat.reduceLeDiff]
  refine call_ev (ev_Diamond hX hs) ?_
  simp only [go_sem, Nat.reduceBEq, Nat.reduceEqDiff, Nat.reduceAdd, Int.reduceAdd, Nat.reduceMul, Nat.reduceSub, Int.reduceToNat, Int.reduceLE, Int.reduceLT, Int.reduceEq, Int.reduceNe, reduceCtorEq, Nat.reduceLT, Nat.reduceLeDiff]
  refine call_ev (r := .tuple [.int .i64 0, .int .i64 0]) (ev_eqr (ev_Bottom hX hs dN dU) (by rw [k_bot, d_chk])) ?_
  simp only [go_sem, Nat.reduceBEq, Nat.reduceEqDiff, Nat.reduceAdd, Int.reduceAdd, Nat.reduceMul, Nat.reduceSub, Int.reduceToNat, Int.reduceLE, Int.reduceLT, Int.reduceEq, Int.reduceNe, reduceCtorEq, Nat.reduceLT, Nat.reduceLeDiff]
  refine call_ev (ev_Diamond hX hs) ?_
  simp only [go_sem, Nat.reduceBEq, Nat.reduceEqDiff, Nat.reduceAdd, Int.reduceAdd, Nat.reduceMul, Nat.reduceSub, Int.reduceToNat, Int.reduceLE, Int.reduceLT, Int.reduceEq, Int.reduceNe, reduceCtorEq, Nat.reduceLT, Nat.reduceLeDiff]
  refine call_ev (r := .tuple [.int .i64 3, .int .i64 0]) (ev_eqr (ev_Top hX hs dN dU) (by rw [k_top, d_chk])) ?_
  simp only [go_sem, Nat.reduceBEq, Nat.reduceEqDiff, Nat.reduceAdd, Int.reduceAdd, Nat.reduceMul, Nat.reduceSub, Int.reduceToNat, Int.reduceLE, Int.reduceLT, Int.reduceEq, Int.reduceNe, reduceCtorEq, Nat.reduceLT, Nat.reduceLeDiff]
  refine call_ev (r := .tuple [.int .i64 1, .int .i64 4]) (ev_eqr (ev_Check hX hs [[108, 111, 119], [97, 110, 110], [98, 111, 98]] [7, 2, 4]) (by rw [k_chk])) ?_
  simp only [go_sem, Nat.reduceBEq, Nat.reduceEqDiff, Nat.reduceAdd, Int.reduceAdd, Nat.reduceMul, Nat.reduceSub, Int.reduceToNat, Int.reduceLE, Int.reduceLT, Int.reduceEq, Int.reduceNe, reduceCtorEq, Nat.reduceLT, Nat.reduceLeDiff]
  refine call_ev (r := .tuple [.agg [.sl .ro [], .sl .ro []], .int .i64 0, .int .i64 6]) (ev_eqr (ev_Make hX hs [[97], [98]] [[49, 48, 49], [48, 49]] (by decide)) (mkV_no k_m1 (by decide)).symm) ?_
  simp only [go_sem, Nat.reduceBEq, Nat.reduceEqDiff, Nat.reduceAdd, Int.reduceAdd, Nat.reduceMul, Nat.reduceSub, Int.reduceToNat, Int.reduceLE, Int.reduceLT, Int.reduceEq, Int.reduceNe, reduceCtorEq, Nat.reduceLT, Nat.reduceLeDiff]
  refine call_ev (r := .tuple [.agg [.sl .ro [], .sl .ro []], .int .i64 0, .int .i64 6]) (ev_eqr (ev_Make hX hs [[97], [98]] [[49, 49], [49, 49]] (by decide)) (mkV_no k_m2 (by decide)).symm) ?_
  simp only [go_sem, Nat.reduceBEq, Nat.reduceEqDiff, Nat.reduceAdd, Int.reduceAdd, Nat.reduceMul, Nat.reduceSub, Int.reduceToNat, Int.reduceLE, Int.reduceLT, Int.reduceEq, Int.reduceNe, reduceCtorEq, Nat.reduceLT, Nat.reduceLeDiff]
  refine call_ev (r := .tuple [.agg [lst AV.str .ro dN, lst u8 .ro dU], .int .i64 0, .int .i64 0]) (ev_eqr (ev_Make hX hs dN dR (by decide)) (by rw [mkV, k_m3, show dN.length = 4 from rfl, k_m4]; rfl)) ?_
  simp only [go_sem, Nat.reduceBEq, Nat.reduceEqDiff, Nat.reduceAdd, Int.reduceAdd, Nat.reduceMul, Nat.reduceSub, Int.reduceToNat, Int.reduceLE, Int.reduceLT, Int.reduceEq, Int.reduceNe, reduceCtorEq, Nat.reduceLT, Nat.reduceLeDiff]
  refine callq_ev (ev_Diamond hX hs) ?_
  simp only [go_sem, Nat.reduceBEq, Nat.reduceEqDiff, Nat.reduceAdd, Int.reduceAdd, Nat.reduceMul, Nat.reduceSub, Int.reduceToNat, Int.reduceLE, Int.reduceLT, Int.reduceEq, Int.reduceNe, reduceCtorEq, Nat.reduceLT, Nat.reduceLeDiff, qr]
  refine callq_ev (r := .bool true) (ev_eqr (ev_rSame hX hs dN dU dN dU (by decide) (by decide)) (by simp only [and_self, decide_true])) ?_
  simp only [go_sem, Nat.reduceBEq, Nat.reduceEqDiff, Nat.reduceAdd, Int.reduceAdd, Nat.reduceMul, Nat.reduceSub, Int.reduceToNat, Int.reduceLE, Int.reduceLT, Int.reduceEq, Int.reduceNe, reduceCtorEq, Nat.reduceLT, Nat.reduceLeDiff, qr]
  refine callq_ev (ev_awake hX hs) ?_
  simp only [go_sem, Nat.reduceBEq, Nat.reduceEqDiff, Nat.reduceAdd, Int.reduceAdd, Nat.reduceMul, Nat.reduceSub, Int.reduceToNat, Int.reduceLE, Int.reduceLT, Int.reduceEq, Int.reduceNe, reduceCtorEq, Nat.reduceLT, Nat.reduceLeDiff, qr]
end
end Go.Avm
