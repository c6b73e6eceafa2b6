/- Joins. -/
import Derived.Test.YtpkgglpiboeogaaDoorAQ7
import Derived.Test.YtpkgglpiboeogaaDoorM4
set_option linter.unusedSectionVars false
set_option linter.unusedSimpArgs false
set_option linter.unusedVariables false

/- Joins. -/
namespace Go.Avm
open Go Go.Rn Go.Lx
set_option maxRecDepth 10000
section
variable {X : Cx} (hX : X.P = Go.Proofs.Tryd.prog) (hs : Std X) (hE : LEnv X)
include hX hs hE
set_option maxHeartbeats 4000000 in
theorem ev_LJoins (a b : List UInt8) : Ev X F_law14_LexerJoins [.str a, .str b] (.bool true) := by
  refine ev_of_wpc hs (A_law14_LexerJoins_ok hX) 0 ?_
  by_cases hab : 300 < a.length ∨ 300 < b.length
  · by_cases ha : (300 : Int) < a.length
    · simp only [A_law14_LexerJoins, go_sem, Nat.reduceMod, Nat.reduceBNe, Nat.reduceBEq, Nat.reduceEqDiff, Nat.reduceAdd, Int.reduceAdd, Nat.reduceMul, Nat.reduceSub, Int.reduceToNat, Int.reduceLE, Int.reduceLT, Int.reduceEq, Int.reduceNe, reduceCtorEq, Nat.reduceLT, Nat.reduceLeDiff, ha]
      refine call_ev (ev_shown hX hs hE) ?_
      simp only [go_sem, Nat.reduceMod, Nat.reduceBNe, Nat.reduceBEq, Nat.reduceEqDiff, Nat.reduceAdd, Int.reduceAdd, Nat.reduceMul, Nat.reduceSub, Int.reduceToNat, Int.reduceLE, Int.reduceLT, Int.reduceEq, Int.reduceNe, reduceCtorEq, Nat.reduceLT, Nat.reduceLeDiff]
    · have hb : (300 : Int) < b.length := by omega
      simp only [A_law14_LexerJoins, go_sem, Nat.reduceMod, Nat.reduceBNe, Nat.reduceBEq, Nat.reduceEqDiff, Nat.reduceAdd, Int.reduceAdd, Nat.reduceMul, Nat.reduceSub, Int.reduceToNat, Int.reduceLE, Int.reduceLT, Int.reduceEq, Int.reduceNe, reduceCtorEq, Nat.reduceLT, Nat.reduceLeDiff, ha, hb]
      refine call_ev (ev_shown hX hs hE) ?_
      simp only [go_sem, Nat.reduceMod, Nat.reduceBNe, Nat.reduceBEq, Nat.reduceEqDiff, Nat.reduceAdd, Int.reduceAdd, Nat.reduceMul, Nat.reduceSub, Int.reduceToNat, Int.reduceLE, Int.reduceLT, Int.reduceEq, Int.reduceNe, reduceCtorEq, Nat.reduceLT, Nat.reduceLeDiff]
  have ha : a.length ≤ 300 := by omega
  have hb : b.length ≤ 300 := by omega
  have ha' : ¬ (300 : Int) < a.length := by omega
  have hb' : ¬ (300 : Int) < b.length := by omega
  have l1 := ev_LineE hX hs hE a (by omega)
  have l2 := ev_LineE hX hs hE b (by omega)
  have l3 := ev_LineE hX hs hE (a ++ 32 :: b) (by rw [List.length_append, List.length_cons]; omega)
  have eab : a ++ [32] ++ b = a ++ 32 :: b := by simp
  simp only [A_law14_LexerJoins, go_sem, Nat.reduceMod, Nat.reduceBNe, Nat.reduceBEq, Nat.reduceEqDiff, Nat.reduceAdd, Int.reduceAdd, Nat.reduceMul, Nat.reduceSub, Int.reduceToNat, Int.reduceLE, Int.reduceLT, Int.reduceEq, Int.reduceNe, reduceCtorEq, Nat.reduceLT, Nat.reduceLeDiff, ha', hb']
  refine call_ev l1 ?_
  simp only [go_sem, Nat.reduceMod, Nat.reduceBNe, Nat.reduceBEq, Nat.reduceEqDiff, Nat.reduceAdd, Int.reduceAdd, Nat.reduceMul, Nat.reduceSub, Int.reduceToNat, Int.reduceLE, Int.reduceLT, Int.reduceEq, Int.reduceNe, reduceCtorEq, Nat.reduceLT, Nat.reduceLeDiff]
  refine call_ev l2 ?_
  simp only [go_sem, Nat.reduceMod, Nat.reduceBNe, Nat.reduceBEq, Nat.reduceEqDiff, Nat.reduceAdd, Int.reduceAdd, Nat.reduceMul, Nat.reduceSub, Int.reduceToNat, Int.reduceLE, Int.reduceLT, Int.reduceEq, Int.reduceNe, reduceCtorEq, Nat.reduceLT, Nat.reduceLeDiff, eab]
  refine ⟨by (try simp only [List.length_append, List.length_cons, List.length_nil]); omega, by (try simp only [List.length_append, List.length_cons, List.length_nil]); omega, ?_⟩
  refine call_ev l3 ?_
  rcases lineR_cases a (by omega) with ⟨l, e1, h1⟩ | ⟨d, e, e1, hd, he, _⟩
  case inr =>
    have hne : ¬ e = 0 := by omega
    simp only [go_sem, Nat.reduceMod, Nat.reduceBNe, Nat.reduceBEq, Nat.reduceEqDiff, Nat.reduceAdd, Int.reduceAdd, Nat.reduceMul, Nat.reduceSub, Int.reduceToNat, Int.reduceLE, Int.reduceLT, Int.reduceEq, Int.reduceNe, reduceCtorEq, Nat.reduceLT, Nat.reduceLeDiff, e1, hne]
    refine call_ev (ev_shown hX hs hE) ?_
    simp only [go_sem, Nat.reduceMod, Nat.reduceBNe, Nat.reduceBEq, Nat.reduceEqDiff, Nat.reduceAdd, Int.reduceAdd, Nat.reduceMul, Nat.reduceSub, Int.reduceToNat, Int.reduceLE, Int.reduceLT, Int.reduceEq, Int.reduceNe, reduceCtorEq, Nat.reduceLT, Nat.reduceLeDiff]
  rcases lineR_cases b (by omega) with ⟨m, e2, h2⟩ | ⟨d, e, e2, hd, he, hx⟩
  case inr =>
    have hne : ¬ e = 0 := by omega
    have e3 := join_bad ha hb h1 hx
    have hgt : (a.length : Int) < (d + (a.length + 1) : Nat) := by omega
    simp only [go_sem, Nat.reduceMod, Nat.reduceBNe, Nat.reduceBEq, Nat.reduceEqDiff, Nat.reduceAdd, Int.reduceAdd, Nat.reduceMul, Nat.reduceSub, Int.reduceToNat, Int.reduceLE, Int.reduceLT, Int.reduceEq, Int.reduceNe, reduceCtorEq, Nat.reduceLT, Nat.reduceLeDiff, e1, e2, e3, hne, hgt]
    refine call_ev (ev_shown hX hs hE) ?_
    simp only [go_sem, Nat.reduceMod, Nat.reduceBNe, Nat.reduceBEq, Nat.reduceEqDiff, Nat.reduceAdd, Int.reduceAdd, Nat.reduceMul, Nat.reduceSub, Int.reduceToNat, Int.reduceLE, Int.reduceLT, Int.reduceEq, Int.reduceNe, reduceCtorEq, Nat.reduceLT, Nat.reduceLeDiff]
  have e3 := join_ok ha hb h1 h2
  obtain ⟨N, hN⟩ : ∃ N, N = (l ++ Lx.sh (a.length + 1) m).map toT := ⟨_, rfl⟩
  obtain ⟨L, hL⟩ : ∃ L, L = l.map toT := ⟨_, rfl⟩
  obtain ⟨M, hM⟩ : ∃ M, M = m.map toT := ⟨_, rfl⟩
  have hll := lx_len h1
  have hml := lx_len h2
  have hLl : L.length = l.length := by rw [hL, List.length_map]
  have hMl : M.length = m.length := by rw [hM, List.length_map]
  have hNl : N.length = L.length + M.length := by rw [hN, hLl, hMl, List.length_map, List.length_append, sh_len]
  have hNt : N.take L.length = L := by rw [hN, hL, List.map_append, List.take_left' rfl]
  have hNd : toks (N.drop L.length) = toks M := by rw [hN, hL, List.map_append, List.drop_left' rfl, hM, toks_pt, toks_pt, sh_tok]
  have hNa : ∀ i, i < M.length → N.getD (L.length + i) default = ((M.getD i default).1, (M.getD i default).2.1 + (a.length + 1 : Nat), (M.getD i default).2.2 + (a.length + 1 : Nat)) := fun i hi => by
    rw [hMl] at hi
    have e0 : N.getD (L.length + i) default = ((Lx.sh (a.length + 1) m).map toT).getD i default := by
      rw [hN, hL, List.map_append, List.getD_eq_getElem?_getD, List.getElem?_append_right (by omega), Nat.add_sub_cancel_left, ← List.getD_eq_getElem?_getD]
    rw [e0, at_map _ (by rw [sh_len]; exact hi), hM, at_map _ hi, sh_at _ _ _ _ hi]
    simp only [toT]
    push_cast
    rfl
  have hMp : ∀ i, i < M.length → 0 ≤ (M.getD i default).2.1 ∧ (M.getD i default).2.1 ≤ 300 ∧ 0 ≤ (M.getD i default).2.2 ∧ (M.getD i default).2.2 ≤ 300 := fun i hi => by
    rw [hMl] at hi
    have := lx_places h2 _ (at_mem hi)
    rw [hM, at_map _ hi]
    simp only [toT]
    omega
  have s1 := ev_Same hX hs L L true (by omega)
  rw [same_refl] at s1
  have s2 := ev_Same hX hs (N.drop L.length) M false (by rw [List.length_drop]; omega)
  rw [same_toks hNd] at s2
  have w1 : IntKind.i64.wrap ((L.length : Int) + M.length) = (N.length : Int) := by rw [wi64 (by omega)]; omega
  simp only [go_sem, Nat.reduceMod, Nat.reduceBNe, Nat.reduceBEq, Nat.reduceEqDiff, Nat.reduceAdd, Int.reduceAdd, Nat.reduceMul, Nat.reduceSub, Int.reduceToNat, Int.reduceLE, Int.reduceLT, Int.reduceEq, Int.reduceNe, reduceCtorEq, Nat.reduceLT, Nat.reduceLeDiff, e1, e2, e3, ← hN, ← hL, ← hM, w1, hNt]
  refine ⟨by omega, call_ev s1 ?_⟩
  simp only [go_sem, Nat.reduceMod, Nat.reduceBNe, Nat.reduceBEq, Nat.reduceEqDiff, Nat.reduceAdd, Int.reduceAdd, Nat.reduceMul, Nat.reduceSub, Int.reduceToNat, Int.reduceLE, Int.reduceLT, Int.reduceEq, Int.reduceNe, reduceCtorEq, Nat.reduceLT, Nat.reduceLeDiff]
  refine ⟨by omega, call_ev s2 ?_⟩
  simp only [go_sem, Nat.reduceMod, Nat.reduceBNe, Nat.reduceBEq, Nat.reduceEqDiff, Nat.reduceAdd, Int.reduceAdd, Nat.reduceMul, Nat.reduceSub, Int.reduceToNat, Int.reduceLE, Int.reduceLT, Int.reduceEq, Int.reduceNe, reduceCtorEq, Nat.reduceLT, Nat.reduceLeDiff]
  clear hN hL hM
  refine w_loop' hs.hm (ι := Nat) (fun i => i ≤ M.length) (fun i => [(14, .int .i64 i), (11, lst itV .ro N), (8, lst itV .ro M), (5, lst itV .ro L), (0, .str a)]) (fun _ => []) (fun i => M.length - i) 0 ?_ fun i hx => ?_
  · simp only [go_sem, Nat.reduceMod, Nat.reduceBNe, Nat.reduceBEq, Nat.reduceEqDiff, Nat.reduceAdd, Int.reduceAdd, Nat.reduceMul, Nat.reduceSub, Int.reduceToNat, Int.reduceLE, Int.reduceLT, Int.reduceEq, Int.reduceNe, reduceCtorEq, Nat.reduceLT, Nat.reduceLeDiff]
    exact Nat.zero_le _
  by_cases hi : i < M.length
  · have hi' : (i : Int) < M.length := by omega
    have hn := hNa i hi
    have hp := hMp i hi
    have w2 : IntKind.i64.wrap ((L.length : Int) + i) = ((L.length + i : Nat) : Int) := by rw [wi64 (by omega)]; omega
    have w3 : IntKind.i64.wrap ((i : Int) + 1) = ((i + 1 : Nat) : Int) := by rw [wi64 (by omega)]; omega
    have hlt : ((L.length + i : Nat) : Int) < N.length := by omega
    have w4 : ∀ z : Int, 0 ≤ z ∧ z ≤ 300 → IntKind.i64.wrap (IntKind.i64.wrap (z + a.length) + 1) = z + (a.length + 1 : Nat) := fun z hz => by rw [wi64 (n := z + a.length) (by omega), wi64 (by omega)]; omega
    have w5 := w4 (M.getD i default).2.1 (by omega)
    have w6 := w4 (M.getD i default).2.2 (by omega)
    simp only [A_law14_LexerJoinsL0, go_sem, Nat.reduceMod, Nat.reduceBNe, Nat.reduceBEq, Nat.reduceEqDiff, Nat.reduceAdd, Int.reduceAdd, Nat.reduceMul, Nat.reduceSub, Int.reduceToNat, Int.reduceLE, Int.reduceLT, Int.reduceEq, Int.reduceNe, reduceCtorEq, Nat.reduceLT, Nat.reduceLeDiff, hi', w2, w3, hlt, hn, w5, w6]
    simp only [itV, tkV, go_sem, Nat.reduceMod, Nat.reduceBNe, Nat.reduceBEq, Nat.reduceEqDiff, Nat.reduceAdd, Int.reduceAdd, Nat.reduceMul, Nat.reduceSub, Int.reduceToNat, Int.reduceLE, Int.reduceLT, Int.reduceEq, Int.reduceNe, reduceCtorEq, Nat.reduceLT, Nat.reduceLeDiff, hi', w2, w3, hlt, hn, w5, w6]
    exact ⟨by omega, by omega, by omega, by omega, i + 1, by omega, hi, rfl⟩
  · have hi' : ¬ (i : Int) < M.length := by omega
    simp only [A_law14_LexerJoinsL0, go_sem, Nat.reduceMod, Nat.reduceBNe, Nat.reduceBEq, Nat.reduceEqDiff, Nat.reduceAdd, Int.reduceAdd, Nat.reduceMul, Nat.reduceSub, Int.reduceToNat, Int.reduceLE, Int.reduceLT, Int.reduceEq, Int.reduceNe, reduceCtorEq, Nat.reduceLT, Nat.reduceLeDiff, hi']
    refine call_ev (ev_shown hX hs hE) ?_
    simp only [go_sem, Nat.reduceMod, Nat.reduceBNe, Nat.reduceBEq, Nat.reduceEqDiff, Nat.reduceAdd, Int.reduceAdd, Nat.reduceMul, Nat.reduceSub, Int.reduceToNat, Int.reduceLE, Int.reduceLT, Int.reduceEq, Int.reduceNe, reduceCtorEq, Nat.reduceLT, Nat.reduceLeDiff]
end
end Go.Avm
