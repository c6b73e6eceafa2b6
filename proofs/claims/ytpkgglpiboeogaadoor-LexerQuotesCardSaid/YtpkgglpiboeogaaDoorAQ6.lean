/- shown; Back. -/
import Derived.Test.YtpkgglpiboeogaaDoorAQ5
set_option linter.unusedSectionVars false
set_option linter.unusedSimpArgs false
set_option linter.unusedVariables false

/- shown; Back. -/
namespace Go.Avm
open Go Go.Rn Go.Lx
set_option maxRecDepth 10000
/-- what the package's tables hold -/
structure LEnv (X : Cx) : Prop where
  hN : X.G 0 = some [.int .i64 0, .int .i64 0]
  hB : X.G 8 = some tabB
  hP : X.G 3 = some (Lib.pow10Tab.map (AV.int .u64))
  hR : ∃ te, X.G 5 = some [.ifc te .undef]
  hR4 : ∃ te, X.G 4 = some [.ifc te .undef]
  h0 : X.G 1 = some tab0
  h1 : X.G 2 = some tab1
theorem lineV_eq (x : List PT × Nat × Int) : lineV x = .tuple [lst itV .ro (x.1.map toT), .int .i64 (x.2.1 : Nat), .int .i64 x.2.2] := by
  unfold lineV; rw [lst_pt]
section
variable {X : Cx} (hX : X.P = Go.Proofs.Tryd.prog) (hs : Std X) (hE : LEnv X)
include hX hs hE
theorem ev_LineE (s : List UInt8) (hl : s.length < 1000000) : Ev X F_lexer_Line [.str s] (.tuple [lst itV .ro ((lineR s).1.map toT), .int .i64 ((lineR s).2.1 : Nat), .int .i64 (lineR s).2.2]) := by
  obtain ⟨te, hR⟩ := hE.hR
  obtain ⟨te', hR4⟩ := hE.hR4
  rw [← lineV_eq]
  exact ev_Line hX hs hE.hN hE.hB hE.hP hR hR4 s hl
theorem ev_PrintE (l : List TT) (hl : okTT l) : Ev X F_lexer_Print [lst itV .ro l] (.tuple [.str (prS (toks l)).1, .int .i64 ((prS (toks l)).2.1 : Nat), .int .i64 (prS (toks l)).2.2]) :=
  ev_Print hX hs hE.hB hE.hP hE.h0 hE.h1 l hl
set_option maxHeartbeats 4000000 in
theorem ev_shown : Ev X F_law14_shown [] (.bool true) := by
  refine ev_of_wpc hs (A_law14_shown_ok hX) 0 ?_
  obtain ⟨m, m1, m2⟩ := line_ex
  have l1 := ev_LineE hX hs hE shT (by decide)
  have l2 := ev_LineE hX hs hE [53, 120] (by decide)
  have l3 := ev_LineE hX hs hE [120, 32, 60, 32, 53] (by decide)
  have p1 := ev_PrintE hX hs hE exT hok_ex
  rw [show toks exT = exTk from rfl, prS_ex] at p1
  rw [m1] at l1
  rw [line_5x] at l2
  rw [line_lt] at l3
  have sm := ev_Same hX hs (m.map toT) exT false (by
    have := congrArg List.length m2
    rw [List.length_map] at this ⊢
    rw [this]; decide)
  rw [same_toks (by rw [toks_pt, m2]; rfl)] at sm
  simp only [A_law14_shown, go_sem, Nat.reduceMod, Nat.reduceBNe, Nat.reduceBEq, Nat.reduceEqDiff, Nat.reduceAdd, Int.reduceAdd, Nat.reduceMul, Nat.reduceSub, Int.reduceToNat, Int.reduceLE, Int.reduceLT, Int.reduceEq, Int.reduceNe, reduceCtorEq, Nat.reduceLT, Nat.reduceLeDiff]
  refine call_ev l1 ?_
  simp only [go_sem, Nat.reduceMod, Nat.reduceBNe, Nat.reduceBEq, Nat.reduceEqDiff, Nat.reduceAdd, Int.reduceAdd, Nat.reduceMul, Nat.reduceSub, Int.reduceToNat, Int.reduceLE, Int.reduceLT, Int.reduceEq, Int.reduceNe, reduceCtorEq, Nat.reduceLT, Nat.reduceLeDiff]
  refine call_ev (ev_Example hX hs) ?_
  simp only [go_sem, Nat.reduceMod, Nat.reduceBNe, Nat.reduceBEq, Nat.reduceEqDiff, Nat.reduceAdd, Int.reduceAdd, Nat.reduceMul, Nat.reduceSub, Int.reduceToNat, Int.reduceLE, Int.reduceLT, Int.reduceEq, Int.reduceNe, reduceCtorEq, Nat.reduceLT, Nat.reduceLeDiff]
  refine call_ev p1 ?_
  simp only [go_sem, Nat.reduceMod, Nat.reduceBNe, Nat.reduceBEq, Nat.reduceEqDiff, Nat.reduceAdd, Int.reduceAdd, Nat.reduceMul, Nat.reduceSub, Int.reduceToNat, Int.reduceLE, Int.reduceLT, Int.reduceEq, Int.reduceNe, reduceCtorEq, Nat.reduceLT, Nat.reduceLeDiff]
  refine call_ev l2 ?_
  simp only [go_sem, Nat.reduceMod, Nat.reduceBNe, Nat.reduceBEq, Nat.reduceEqDiff, Nat.reduceAdd, Int.reduceAdd, Nat.reduceMul, Nat.reduceSub, Int.reduceToNat, Int.reduceLE, Int.reduceLT, Int.reduceEq, Int.reduceNe, reduceCtorEq, Nat.reduceLT, Nat.reduceLeDiff]
  refine call_ev l3 ?_
  simp only [go_sem, Nat.reduceMod, Nat.reduceBNe, Nat.reduceBEq, Nat.reduceEqDiff, Nat.reduceAdd, Int.reduceAdd, Nat.reduceMul, Nat.reduceSub, Int.reduceToNat, Int.reduceLE, Int.reduceLT, Int.reduceEq, Int.reduceNe, reduceCtorEq, Nat.reduceLT, Nat.reduceLeDiff]
  refine call_ev (ev_Example hX hs) ?_
  simp only [go_sem, Nat.reduceMod, Nat.reduceBNe, Nat.reduceBEq, Nat.reduceEqDiff, Nat.reduceAdd, Int.reduceAdd, Nat.reduceMul, Nat.reduceSub, Int.reduceToNat, Int.reduceLE, Int.reduceLT, Int.reduceEq, Int.reduceNe, reduceCtorEq, Nat.reduceLT, Nat.reduceLeDiff]
  refine call_ev sm ?_
  simp only [go_sem, Nat.reduceMod, Nat.reduceBNe, Nat.reduceBEq, Nat.reduceEqDiff, Nat.reduceAdd, Int.reduceAdd, Nat.reduceMul, Nat.reduceSub, Int.reduceToNat, Int.reduceLE, Int.reduceLT, Int.reduceEq, Int.reduceNe, reduceCtorEq, Nat.reduceLT, Nat.reduceLeDiff]
  exact fun h => absurd rfl h
/-- what is known of a given list of tokens -/
def argTT (l : List TT) : Prop := l.length ≤ 9223372036854775807 ∧ ∀ x ∈ l, I64 x.1.n ∧ x.1.s.length ≤ 9223372036854775807
set_option maxHeartbeats 4000000 in
theorem ev_LBack (l : List TT) (hl : argTT l) : Ev X F_law14_LexerBack [lst itV .ro l] (.bool true) := by
  refine ev_of_wpc hs (A_law14_LexerBack_ok hX) 0 ?_
  simp only [A_law14_LexerBack, go_sem, Nat.reduceMod, Nat.reduceBNe, Nat.reduceBEq, Nat.reduceEqDiff, Nat.reduceAdd, Int.reduceAdd, Nat.reduceMul, Nat.reduceSub, Int.reduceToNat, Int.reduceLE, Int.reduceLT, Int.reduceEq, Int.reduceNe, reduceCtorEq, Nat.reduceLT, Nat.reduceLeDiff]
  refine call_ev (ev_far hX hs l (fun x hx => (hl.2 x hx).2) hl.1) ?_
  cases hf : farB l with
  | true =>
    simp only [go_sem, Nat.reduceMod, Nat.reduceBNe, Nat.reduceBEq, Nat.reduceEqDiff, Nat.reduceAdd, Int.reduceAdd, Nat.reduceMul, Nat.reduceSub, Int.reduceToNat, Int.reduceLE, Int.reduceLT, Int.reduceEq, Int.reduceNe, reduceCtorEq, Nat.reduceLT, Nat.reduceLeDiff]
    refine call_ev (ev_shown hX hs hE) ?_
    simp only [go_sem, Nat.reduceMod, Nat.reduceBNe, Nat.reduceBEq, Nat.reduceEqDiff, Nat.reduceAdd, Int.reduceAdd, Nat.reduceMul, Nat.reduceSub, Int.reduceToNat, Int.reduceLE, Int.reduceLT, Int.reduceEq, Int.reduceNe, reduceCtorEq, Nat.reduceLT, Nat.reduceLeDiff]
  | false =>
    have hlen := far_no hf
    have hok : okTT l := ⟨by omega, hl.2⟩
    have hI : ∀ t ∈ toks l, I64 t.n := fun t ht => by
      obtain ⟨x, hx, rfl⟩ := List.mem_map.1 ht
      exact (hl.2 x hx).1
    have p1 := ev_PrintE hX hs hE l hok
    simp only [go_sem, Nat.reduceMod, Nat.reduceBNe, Nat.reduceBEq, Nat.reduceEqDiff, Nat.reduceAdd, Int.reduceAdd, Nat.reduceMul, Nat.reduceSub, Int.reduceToNat, Int.reduceLE, Int.reduceLT, Int.reduceEq, Int.reduceNe, reduceCtorEq, Nat.reduceLT, Nat.reduceLeDiff]
    rcases back hI with ⟨e1, e2⟩ | ⟨m, e1, e2, e3⟩
    · rw [e2] at p1
      refine call_ev p1 ?_
      simp only [go_sem, Nat.reduceMod, Nat.reduceBNe, Nat.reduceBEq, Nat.reduceEqDiff, Nat.reduceAdd, Int.reduceAdd, Nat.reduceMul, Nat.reduceSub, Int.reduceToNat, Int.reduceLE, Int.reduceLT, Int.reduceEq, Int.reduceNe, reduceCtorEq, Nat.reduceLT, Nat.reduceLeDiff, e1]
      refine call_ev (ev_shown hX hs hE) ?_
      simp only [go_sem, Nat.reduceMod, Nat.reduceBNe, Nat.reduceBEq, Nat.reduceEqDiff, Nat.reduceAdd, Int.reduceAdd, Nat.reduceMul, Nat.reduceSub, Int.reduceToNat, Int.reduceLE, Int.reduceLT, Int.reduceEq, Int.reduceNe, reduceCtorEq, Nat.reduceLT, Nat.reduceLeDiff]
    · have hT : toks (m.map toT) = toks l := by rw [toks_pt, e3]
      have hok2 : okTT (m.map toT) := by
        refine ⟨?_, fun x hx => ?_⟩
        · rw [← toks_len, hT, toks_len]; exact hok.1
        · have : x.1 ∈ toks l := by rw [← hT]; exact List.mem_map_of_mem hx
          obtain ⟨y, hy, he⟩ := List.mem_map.1 this
          rw [← he]; exact hl.2 y hy
      have p2 := ev_PrintE hX hs hE (m.map toT) hok2
      rw [hT] at p2
      have hw : (prS (toks l)).1.length ≤ 2000 := by
        have := e2
        unfold lineR at this
        split at this
        · cases this
        · omega
      have l1 := ev_LineE hX hs hE (prS (toks l)).1 (by omega)
      rw [e2] at l1
      have sm := ev_Same hX hs (m.map toT) l false hok2.1
      rw [same_toks hT] at sm
      rw [e1] at p1 p2
      refine call_ev p1 ?_
      simp only [go_sem, Nat.reduceMod, Nat.reduceBNe, Nat.reduceBEq, Nat.reduceEqDiff, Nat.reduceAdd, Int.reduceAdd, Nat.reduceMul, Nat.reduceSub, Int.reduceToNat, Int.reduceLE, Int.reduceLT, Int.reduceEq, Int.reduceNe, reduceCtorEq, Nat.reduceLT, Nat.reduceLeDiff]
      refine call_ev l1 ?_
      simp only [go_sem, Nat.reduceMod, Nat.reduceBNe, Nat.reduceBEq, Nat.reduceEqDiff, Nat.reduceAdd, Int.reduceAdd, Nat.reduceMul, Nat.reduceSub, Int.reduceToNat, Int.reduceLE, Int.reduceLT, Int.reduceEq, Int.reduceNe, reduceCtorEq, Nat.reduceLT, Nat.reduceLeDiff]
      refine call_ev p2 ?_
      simp only [go_sem, Nat.reduceMod, Nat.reduceBNe, Nat.reduceBEq, Nat.reduceEqDiff, Nat.reduceAdd, Int.reduceAdd, Nat.reduceMul, Nat.reduceSub, Int.reduceToNat, Int.reduceLE, Int.reduceLT, Int.reduceEq, Int.reduceNe, reduceCtorEq, Nat.reduceLT, Nat.reduceLeDiff]
      refine call_ev sm ?_
      simp only [go_sem, Nat.reduceMod, Nat.reduceBNe, Nat.reduceBEq, Nat.reduceEqDiff, Nat.reduceAdd, Int.reduceAdd, Nat.reduceMul, Nat.reduceSub, Int.reduceToNat, Int.reduceLE, Int.reduceLT, Int.reduceEq, Int.reduceNe, reduceCtorEq, Nat.reduceLT, Nat.reduceLeDiff]
      refine call_ev (ev_shown hX hs hE) ?_
      simp only [go_sem, Nat.reduceMod, Nat.reduceBNe, Nat.reduceBEq, Nat.reduceEqDiff, Nat.reduceAdd, Int.reduceAdd, Nat.reduceMul, Nat.reduceSub, Int.reduceToNat, Int.reduceLE, Int.reduceLT, Int.reduceEq, Int.reduceNe, reduceCtorEq, Nat.reduceLT, Nat.reduceLeDiff]
end
end Go.Avm
