/- Print: the second writing. -/
import Derived.Test.YtpkgglpiboeogaaGreatDoorAQ6
set_option linter.unusedSectionVars false
set_option linter.unusedSimpArgs false
set_option linter.unusedVariables false

/- Print: the second writing. -/
namespace Go.Avm
open Go Go.Rn Go.Lx
set_option maxRecDepth 10000
/-- whether no blank stands before the i-th token, as far as the one before it says -/
def bAt (ts : List Tok) (i : Nat) : Bool := if i = 0 then true else isOp (ts.getD (i - 1) ⟨0, 0, []⟩)
structure PS3 where
  i : Nat
  c : List UInt8
section
variable {X : Cx} (hX : X.P = Go.Proofs.Tryz.prog) (hs : Std X)
include hX hs
set_option maxHeartbeats 4000000 in
theorem ev_rPrint (l : List TT) (hl0 : l.length < 1000000) (hl : ∀ x ∈ l, I64 x.1.n ∧ x.1.s.length < 1000000) : Ev X F_ref14_Print [lst itV .ro l] (printV (prS (toks l))) := by
  refine ev_of_wpc hs (A_ref14_Print_ok hX) 0 ?_
  have hat : ∀ {i : Nat}, i < l.length → I64 (l.getD i default).1.n ∧ (l.getD i default).1.s.length < 1000000 := fun {i} hi => by
    rw [List.getD_eq_getElem?_getD, List.getElem?_eq_getElem hi]
    exact hl _ (List.getElem_mem hi)
  simp only [A_ref14_Print, go_sem, Nat.reduceMod, Nat.reduceBNe, Nat.reduceBEq, Nat.reduceEqDiff, Nat.reduceAdd, Int.reduceAdd, Nat.reduceMul, Nat.reduceSub, Int.reduceToNat, Int.reduceLE, Int.reduceLT, Int.reduceEq, Int.reduceNe, reduceCtorEq, Nat.reduceLT, Nat.reduceLeDiff]
  refine w_loop' hs.hm (ι := Nat) (fun i => i ≤ l.length ∧ ∀ j, j < i → chk ((toks l).getD j ⟨0, 0, []⟩) = 0) (fun i => [(5, .int .i64 i), (0, lst itV .ro l)]) (fun _ => []) (fun i => l.length - i) 0 ?_ fun i hx => ?_
  · simp only [go_sem, Nat.reduceMod, Nat.reduceBNe, Nat.reduceBEq, Nat.reduceEqDiff, Nat.reduceAdd, Int.reduceAdd, Nat.reduceMul, Nat.reduceSub, Int.reduceToNat, Int.reduceLE, Int.reduceLT, Int.reduceEq, Int.reduceNe, reduceCtorEq, Nat.reduceLT, Nat.reduceLeDiff]
    exact ⟨Nat.zero_le _, fun j hj => absurd hj (Nat.not_lt_zero _)⟩
  obtain ⟨x1, x2⟩ := hx
  by_cases hi : i < l.length
  · have hi' : (i : Int) < l.length := by omega
    obtain ⟨k1, k2⟩ := hat hi
    have kt := toks_at l hi
    simp only [A_ref14_PrintL0, go_sem, Nat.reduceMod, Nat.reduceBNe, Nat.reduceBEq, Nat.reduceEqDiff, Nat.reduceAdd, Int.reduceAdd, Nat.reduceMul, Nat.reduceSub, Int.reduceToNat, Int.reduceLE, Int.reduceLT, Int.reduceEq, Int.reduceNe, reduceCtorEq, Nat.reduceLT, Nat.reduceLeDiff, hi']
    generalize l.getD i default = t at k1 k2 kt
    simp only [itV, tkV, go_sem, Nat.reduceMod, Nat.reduceBNe, Nat.reduceBEq, Nat.reduceEqDiff, Nat.reduceAdd, Int.reduceAdd, Nat.reduceMul, Nat.reduceSub, Int.reduceToNat, Int.reduceLE, Int.reduceLT, Int.reduceEq, Int.reduceNe, reduceCtorEq, Nat.reduceLT, Nat.reduceLeDiff]
    have hw : IntKind.i64.wrap ((i : Int) + 1) = ((i + 1 : Nat) : Int) := by rw [wi64 (by omega)]; omega
    refine ⟨by omega, call_ev (ev_rCheck hX hs t.1 t.2.1 t.2.2 k2) ?_⟩
    by_cases hc : chk t.1 = 0
    · simp only [go_sem, Nat.reduceMod, Nat.reduceBNe, Nat.reduceBEq, Nat.reduceEqDiff, Nat.reduceAdd, Int.reduceAdd, Nat.reduceMul, Nat.reduceSub, Int.reduceToNat, Int.reduceLE, Int.reduceLT, Int.reduceEq, Int.reduceNe, reduceCtorEq, Nat.reduceLT, Nat.reduceLeDiff, hc, hw]
      refine ⟨i + 1, by omega, ⟨hi, fun j hj => ?_⟩, rfl⟩
      rcases (by omega : j = i ∨ j < i) with rfl | h
      · rw [kt]; exact hc
      · exact x2 j h
    · simp only [go_sem, Nat.reduceMod, Nat.reduceBNe, Nat.reduceBEq, Nat.reduceEqDiff, Nat.reduceAdd, Int.reduceAdd, Nat.reduceMul, Nat.reduceSub, Int.reduceToNat, Int.reduceLE, Int.reduceLT, Int.reduceEq, Int.reduceNe, reduceCtorEq, Nat.reduceLT, Nat.reduceLeDiff, hc]
      have hb := badT_at (l := toks l) (i := i) (by rw [toks_len]; exact hi) x2 (by rw [kt]; exact hc)
      unfold prS
      rw [hb, kt]
      rfl
  have hi' : ¬ (i : Int) < l.length := by omega
  have hb : badT (toks l) = none := badT_all fun j hj => x2 j (by rw [toks_len] at hj; omega)
  have hprS : prS (toks l) = if 2000 < (prR true (toks l)).length then ([], 0, 3) else (prR true (toks l), 0, 0) := by
    unfold prS; rw [hb]
  have hok : ∀ j, j < l.length → chk (l.getD j default).1 = 0 := fun j hj => by
    rw [← toks_at l hj]; exact x2 j (by omega)
  simp only [A_ref14_PrintL0, go_sem, Nat.reduceMod, Nat.reduceBNe, Nat.reduceBEq, Nat.reduceEqDiff, Nat.reduceAdd, Int.reduceAdd, Nat.reduceMul, Nat.reduceSub, Int.reduceToNat, Int.reduceLE, Int.reduceLT, Int.reduceEq, Int.reduceNe, reduceCtorEq, Nat.reduceLT, Nat.reduceLeDiff, hi']
  rw [hprS]
  clear x2 hi hi' x1
  refine w_loop' hs.hm (ι := PS3) (fun x => x.i ≤ l.length ∧ prR true (toks l) = x.c ++ prR (bAt (toks l) x.i) ((toks l).drop x.i) ∧ x.c.length ≤ 2000) (fun x => [(8, .int .i64 x.i), (7, .str x.c), (0, lst itV .ro l)]) (fun _ => []) (fun x => l.length - x.i) ⟨0, []⟩ ?_ fun x hx => ?_
  · simp only [go_sem, Nat.reduceMod, Nat.reduceBNe, Nat.reduceBEq, Nat.reduceEqDiff, Nat.reduceAdd, Int.reduceAdd, Nat.reduceMul, Nat.reduceSub, Int.reduceToNat, Int.reduceLE, Int.reduceLT, Int.reduceEq, Int.reduceNe, reduceCtorEq, Nat.reduceLT, Nat.reduceLeDiff]
    exact ⟨Nat.zero_le _, rfl⟩
  obtain ⟨i, c⟩ := x
  obtain ⟨x1, x2, x3⟩ := hx
  dsimp only at x1 x2 x3 ⊢
  by_cases hi : i < l.length
  · have hi' : (i : Int) < l.length := by omega
    obtain ⟨k1, k2⟩ := hat hi
    have kt := toks_at l hi
    have hch := chk_0 (hok i hi)
    have hw : IntKind.i64.wrap ((i : Int) + 1) = ((i + 1 : Nat) : Int) := by rw [wi64 (by omega)]; omega
    have hst := pr_step (l := toks l) (i := i) (by rw [toks_len]; exact hi) (bAt (toks l) i)
    have hnb : bAt (toks l) (i + 1) = isOp ((toks l).getD i ⟨0, 0, []⟩) := by unfold bAt; rw [if_neg (Nat.succ_ne_zero i)]; rfl
    rw [← hnb, kt] at hst
    rw [hst] at x2
    by_cases h0 : i = 0
    · subst h0
      have hi' : (0 : Int) < l.length := by omega
      have hbt : bAt (toks l) 0 = true := rfl
      rw [hbt] at x2
      simp only [Bool.true_or, if_true, List.nil_append] at x2
      simp only [A_ref14_PrintL1, go_sem, Nat.reduceMod, Nat.reduceBNe, Nat.reduceBEq, Nat.reduceEqDiff, Nat.reduceAdd, Int.reduceAdd, Nat.reduceMul, Nat.reduceSub, Int.reduceToNat, Int.reduceLE, Int.reduceLT, Int.reduceEq, Int.reduceNe, reduceCtorEq, Nat.reduceLT, Nat.reduceLeDiff, hi']
      generalize l.getD 0 default = t at k1 k2 kt hch x2
      have hwl := wr_len k1
      have E : prR true (toks l) = (c ++ wr t.1) ++ prR (bAt (toks l) (0 + 1)) ((toks l).drop (0 + 1)) := by rw [x2, List.append_assoc]
      simp only [itV, tkV, go_sem, Nat.reduceMod, Nat.reduceBNe, Nat.reduceBEq, Nat.reduceEqDiff, Nat.reduceAdd, Int.reduceAdd, Nat.reduceMul, Nat.reduceSub, Int.reduceToNat, Int.reduceLE, Int.reduceLT, Int.reduceEq, Int.reduceNe, reduceCtorEq, Nat.reduceLT, Nat.reduceLeDiff]
      refine call_ev (ev_rwritten hX hs t.1 t.2.1 t.2.2 ⟨hch.1, hch.2.1⟩ k1 hch.2.2 k2) ?_
      simp only [go_sem, Nat.reduceMod, Nat.reduceBNe, Nat.reduceBEq, Nat.reduceEqDiff, Nat.reduceAdd, Int.reduceAdd, Nat.reduceMul, Nat.reduceSub, Int.reduceToNat, Int.reduceLE, Int.reduceLT, Int.reduceEq, Int.reduceNe, reduceCtorEq, Nat.reduceLT, Nat.reduceLeDiff, hw]
      refine ⟨by (try simp only [List.length_append, List.length_cons, List.length_nil]); omega, fun h => ?_, fun h => ?_⟩
      · rw [if_pos (by rw [E, List.length_append]; omega)]
        rfl
      · exact ⟨⟨_ + 1, _⟩, by dsimp only; omega, ⟨by dsimp only; omega, E, by dsimp only; omega⟩, rfl, rfl⟩
    · have hi0 : (0 : Int) < i := by omega
      have him : i - 1 < l.length := by omega
      have w1 : IntKind.i64.wrap ((i : Int) - 1) = ((i - 1 : Nat) : Int) := by rw [wi64 (by omega)]; omega
      have hbt : bAt (toks l) i = isOp (l.getD (i - 1) default).1 := by unfold bAt; rw [if_neg h0, toks_at l him]
      rw [hbt] at x2
      simp only [A_ref14_PrintL1, go_sem, Nat.reduceMod, Nat.reduceBNe, Nat.reduceBEq, Nat.reduceEqDiff, Nat.reduceAdd, Int.reduceAdd, Nat.reduceMul, Nat.reduceSub, Int.reduceToNat, Int.reduceLE, Int.reduceLT, Int.reduceEq, Int.reduceNe, reduceCtorEq, Nat.reduceLT, Nat.reduceLeDiff, hi', hi0, w1]
      simp only [itV, tkV, go_sem, Nat.reduceMod, Nat.reduceBNe, Nat.reduceBEq, Nat.reduceEqDiff, Nat.reduceAdd, Int.reduceAdd, Nat.reduceMul, Nat.reduceSub, Int.reduceToNat, Int.reduceLE, Int.reduceLT, Int.reduceEq, Int.reduceNe, reduceCtorEq, Nat.reduceLT, Nat.reduceLeDiff, hi', hi0, w1]
      refine ⟨⟨by omega, by omega⟩, by omega, callq_ev (ev_joined hX hs (l.getD (i - 1) default) (l.getD i default)) ?_⟩
      have hwl := wr_len k1
      cases hj : isOp (l.getD (i - 1) default).1 || isCl (l.getD i default).1 with
      | true =>
        have E : prR true (toks l) = (c ++ wr (l.getD i default).1) ++ prR (bAt (toks l) (i + 1)) ((toks l).drop (i + 1)) := by
          rw [x2, hj, if_pos rfl, List.nil_append, List.append_assoc]
        simp only [itV, tkV, go_sem, Nat.reduceMod, Nat.reduceBNe, Nat.reduceBEq, Nat.reduceEqDiff, Nat.reduceAdd, Int.reduceAdd, Nat.reduceMul, Nat.reduceSub, Int.reduceToNat, Int.reduceLE, Int.reduceLT, Int.reduceEq, Int.reduceNe, reduceCtorEq, Nat.reduceLT, Nat.reduceLeDiff, hi', hi0]
        refine ⟨by omega, call_ev (ev_rwritten hX hs (l.getD i default).1 (l.getD i default).2.1 (l.getD i default).2.2 ⟨hch.1, hch.2.1⟩ k1 hch.2.2 k2) ?_⟩
        simp only [go_sem, Nat.reduceMod, Nat.reduceBNe, Nat.reduceBEq, Nat.reduceEqDiff, Nat.reduceAdd, Int.reduceAdd, Nat.reduceMul, Nat.reduceSub, Int.reduceToNat, Int.reduceLE, Int.reduceLT, Int.reduceEq, Int.reduceNe, reduceCtorEq, Nat.reduceLT, Nat.reduceLeDiff, hw]
        refine ⟨by (try simp only [List.length_append, List.length_cons, List.length_nil]); omega, fun h => ?_, fun h => ?_⟩
        · rw [if_pos (by rw [E, List.length_append]; omega)]
          rfl
        · exact ⟨⟨_ + 1, _⟩, by dsimp only; omega, ⟨by dsimp only; omega, E, by dsimp only; omega⟩, rfl, rfl⟩
      | false =>
        have E : prR true (toks l) = (c ++ [32] ++ wr (l.getD i default).1) ++ prR (bAt (toks l) (i + 1)) ((toks l).drop (i + 1)) := by
          rw [x2, hj, if_neg (by decide), List.append_assoc, List.append_assoc]
        have h32 : (c ++ [32]).length = c.length + 1 := by rw [List.length_append]; rfl
        simp only [itV, tkV, go_sem, Nat.reduceMod, Nat.reduceBNe, Nat.reduceBEq, Nat.reduceEqDiff, Nat.reduceAdd, Int.reduceAdd, Nat.reduceMul, Nat.reduceSub, Int.reduceToNat, Int.reduceLE, Int.reduceLT, Int.reduceEq, Int.reduceNe, reduceCtorEq, Nat.reduceLT, Nat.reduceLeDiff, hi', hi0]
        refine ⟨by omega, by omega, call_ev (ev_rwritten hX hs (l.getD i default).1 (l.getD i default).2.1 (l.getD i default).2.2 ⟨hch.1, hch.2.1⟩ k1 hch.2.2 k2) ?_⟩
        simp only [go_sem, Nat.reduceMod, Nat.reduceBNe, Nat.reduceBEq, Nat.reduceEqDiff, Nat.reduceAdd, Int.reduceAdd, Nat.reduceMul, Nat.reduceSub, Int.reduceToNat, Int.reduceLE, Int.reduceLT, Int.reduceEq, Int.reduceNe, reduceCtorEq, Nat.reduceLT, Nat.reduceLeDiff, hw]
        refine ⟨by omega, fun h => ?_, fun h => ?_⟩
        · rw [if_pos (by rw [E, List.length_append]; omega)]
          rfl
        · exact ⟨⟨_ + 1, _⟩, by dsimp only; omega, ⟨by dsimp only; omega, E, by dsimp only; omega⟩, rfl, rfl⟩
  · have hi' : ¬ (i : Int) < l.length := by omega
    have e : prR true (toks l) = c := by
      rw [x2, List.drop_eq_nil_of_le (by rw [toks_len]; omega), prR, List.append_nil]
    simp only [A_ref14_PrintL1, go_sem, Nat.reduceMod, Nat.reduceBNe, Nat.reduceBEq, Nat.reduceEqDiff, Nat.reduceAdd, Int.reduceAdd, Nat.reduceMul, Nat.reduceSub, Int.reduceToNat, Int.reduceLE, Int.reduceLT, Int.reduceEq, Int.reduceNe, reduceCtorEq, Nat.reduceLT, Nat.reduceLeDiff, hi']
    rw [e, if_neg (by omega)]
    rfl
end
end Go.Avm

/- The law of Print. -/
namespace Go.Avm
open Go Go.Rn Go.Lx
set_option maxRecDepth 10000
theorem at_mem {α : Type} [Inhabited α] {l : List α} {i : Nat} (h : i < l.length) : l.getD i default ∈ l := by
  rw [List.getD_eq_getElem?_getD, List.getElem?_eq_getElem h]
  exact List.getElem_mem h
theorem mem_sum {l : List TT} {x : TT} (h : x ∈ l) : x.1.s.length ≤ sumL l l.length := by
  unfold sumL
  rw [List.take_length]
  induction l with
  | nil => simp at h
  | cons y l ih =>
    simp only [List.map_cons, List.sum_cons]
    rcases List.mem_cons.1 h with rfl | h
    · omega
    · have := ih h; omega
theorem sum_le {l : List TT} {N : Nat} (h : ∀ x ∈ l, x.1.s.length ≤ N) : sumL l l.length ≤ l.length * N := by
  unfold sumL
  rw [List.take_length]
  induction l with
  | nil => simp
  | cons y l ih =>
    have h1 := h y (by simp)
    have h2 := ih fun x hx => h x (by simp [hx])
    simp only [List.map_cons, List.sum_cons, List.length_cons, Nat.add_mul]
    omega
/-- what is known of a given list of tokens, where sizes are bounded -/
def argTB (l : List TT) : Prop := l.length ≤ 9223372036854775807 ∧ ∀ x ∈ l, I64 x.1.n ∧ x.1.s.length ≤ 140737488355328
theorem far_small {l : List TT} (hl : argTB l) (hf : farB l = false) : l.length ≤ 2005 ∧ ∀ x ∈ l, x.1.s.length ≤ 3000 := by
  have hlen := far_no hf
  refine ⟨hlen, fun x hx => ?_⟩
  have h1 := mem_sum hx
  have h2 := sum_le (N := 140737488355328) fun y hy => (hl.2 y hy).2
  have h3 : l.length * 140737488355328 ≤ 2005 * 140737488355328 := Nat.mul_le_mul_right _ hlen
  have h4 : totB l = (sumL l l.length : Nat) := wi64 (by omega)
  unfold farB at hf
  simp only [Bool.or_eq_false_iff, decide_eq_false_iff_not, h4] at hf
  omega
section
variable {X : Cx} (hX : X.P = Go.Proofs.Tryz.prog) (hs : Std X) (hE : LEnv X)
include hX hs hE
set_option maxHeartbeats 4000000 in
theorem ev_LPrints (l : List TT) (hl : argTB l) : Ev X F_law14_LexerPrints [lst itV .ro l] (.bool true) := by
  refine ev_of_wpc hs (A_law14_LexerPrints_ok hX) 0 ?_
  simp only [A_law14_LexerPrints, go_sem, Nat.reduceMod, Nat.reduceBNe, Nat.reduceBEq, Nat.reduceEqDiff, Nat.reduceAdd, Int.reduceAdd, Nat.reduceMul, Nat.reduceSub, Int.reduceToNat, Int.reduceLE, Int.reduceLT, Int.reduceEq, Int.reduceNe, reduceCtorEq, Nat.reduceLT, Nat.reduceLeDiff]
  refine call_ev (ev_far hX hs l (fun x hx => by have := (hl.2 x hx).2; omega) hl.1) ?_
  cases hf : farB l with
  | true =>
    simp only [go_sem, Nat.reduceMod, Nat.reduceBNe, Nat.reduceBEq, Nat.reduceEqDiff, Nat.reduceAdd, Int.reduceAdd, Nat.reduceMul, Nat.reduceSub, Int.reduceToNat, Int.reduceLE, Int.reduceLT, Int.reduceEq, Int.reduceNe, reduceCtorEq, Nat.reduceLT, Nat.reduceLeDiff]
    refine call_ev (ev_shown hX hs hE) ?_
    simp only [go_sem, Nat.reduceMod, Nat.reduceBNe, Nat.reduceBEq, Nat.reduceEqDiff, Nat.reduceAdd, Int.reduceAdd, Nat.reduceMul, Nat.reduceSub, Int.reduceToNat, Int.reduceLE, Int.reduceLT, Int.reduceEq, Int.reduceNe, reduceCtorEq, Nat.reduceLT, Nat.reduceLeDiff]
  | false =>
    obtain ⟨hlen, hsm⟩ := far_small hl hf
    have p1 := ev_PrintE hX hs hE l ⟨by omega, fun x hx => ⟨(hl.2 x hx).1, by have := hsm x hx; omega⟩⟩
    have p2 := ev_rPrint hX hs l (by omega) fun x hx => ⟨(hl.2 x hx).1, by have := hsm x hx; omega⟩
    unfold printV at p2
    simp only [go_sem, Nat.reduceMod, Nat.reduceBNe, Nat.reduceBEq, Nat.reduceEqDiff, Nat.reduceAdd, Int.reduceAdd, Nat.reduceMul, Nat.reduceSub, Int.reduceToNat, Int.reduceLE, Int.reduceLT, Int.reduceEq, Int.reduceNe, reduceCtorEq, Nat.reduceLT, Nat.reduceLeDiff]
    refine call_ev p1 ?_
    simp only [go_sem, Nat.reduceMod, Nat.reduceBNe, Nat.reduceBEq, Nat.reduceEqDiff, Nat.reduceAdd, Int.reduceAdd, Nat.reduceMul, Nat.reduceSub, Int.reduceToNat, Int.reduceLE, Int.reduceLT, Int.reduceEq, Int.reduceNe, reduceCtorEq, Nat.reduceLT, Nat.reduceLeDiff]
    refine call_ev p2 ?_
    simp only [go_sem, Nat.reduceMod, Nat.reduceBNe, Nat.reduceBEq, Nat.reduceEqDiff, Nat.reduceAdd, Int.reduceAdd, Nat.reduceMul, Nat.reduceSub, Int.reduceToNat, Int.reduceLE, Int.reduceLT, Int.reduceEq, Int.reduceNe, reduceCtorEq, Nat.reduceLT, Nat.reduceLeDiff]
    refine w_loop' hs.hm (ι := Nat) (fun i => i ≤ l.length) (fun i => [(9, .int .i64 i), (0, lst itV .ro l)]) (fun _ => []) (fun i => l.length - i) 0 ?_ fun i hx => ?_
    · simp only [go_sem, Nat.reduceMod, Nat.reduceBNe, Nat.reduceBEq, Nat.reduceEqDiff, Nat.reduceAdd, Int.reduceAdd, Nat.reduceMul, Nat.reduceSub, Int.reduceToNat, Int.reduceLE, Int.reduceLT, Int.reduceEq, Int.reduceNe, reduceCtorEq, Nat.reduceLT, Nat.reduceLeDiff]
      exact Nat.zero_le _
    by_cases hi : i < l.length
    · have hi' : (i : Int) < l.length := by omega
      have hm := at_mem hi
      have hw : IntKind.i64.wrap ((i : Int) + 1) = ((i + 1 : Nat) : Int) := by rw [wi64 (by omega)]; omega
      have hss := hsm _ hm
      simp only [A_law14_LexerPrintsL0, go_sem, Nat.reduceMod, Nat.reduceBNe, Nat.reduceBEq, Nat.reduceEqDiff, Nat.reduceAdd, Int.reduceAdd, Nat.reduceMul, Nat.reduceSub, Int.reduceToNat, Int.reduceLE, Int.reduceLT, Int.reduceEq, Int.reduceNe, reduceCtorEq, Nat.reduceLT, Nat.reduceLeDiff, hi']
      simp only [itV, tkV, go_sem, Nat.reduceMod, Nat.reduceBNe, Nat.reduceBEq, Nat.reduceEqDiff, Nat.reduceAdd, Int.reduceAdd, Nat.reduceMul, Nat.reduceSub, Int.reduceToNat, Int.reduceLE, Int.reduceLT, Int.reduceEq, Int.reduceNe, reduceCtorEq, Nat.reduceLT, Nat.reduceLeDiff, hi']
      refine ⟨by omega, callq_ev (ev_Check hX hs hE.h0 hE.h1 (l.getD i default).1 (l.getD i default).2.1 (l.getD i default).2.2 (by omega)) ?_⟩
      simp only [itV, tkV, go_sem, Nat.reduceMod, Nat.reduceBNe, Nat.reduceBEq, Nat.reduceEqDiff, Nat.reduceAdd, Int.reduceAdd, Nat.reduceMul, Nat.reduceSub, Int.reduceToNat, Int.reduceLE, Int.reduceLT, Int.reduceEq, Int.reduceNe, reduceCtorEq, Nat.reduceLT, Nat.reduceLeDiff, hi']
      refine ⟨by omega, callq_ev (ev_rCheck hX hs (l.getD i default).1 (l.getD i default).2.1 (l.getD i default).2.2 (by omega)) ?_⟩
      simp only [go_sem, Nat.reduceMod, Nat.reduceBNe, Nat.reduceBEq, Nat.reduceEqDiff, Nat.reduceAdd, Int.reduceAdd, Nat.reduceMul, Nat.reduceSub, Int.reduceToNat, Int.reduceLE, Int.reduceLT, Int.reduceEq, Int.reduceNe, reduceCtorEq, Nat.reduceLT, Nat.reduceLeDiff, hw]
      exact ⟨i + 1, by omega, hi, rfl⟩
    · have hi' : ¬ (i : Int) < l.length := by omega
      simp only [A_law14_LexerPrintsL0, go_sem, Nat.reduceMod, Nat.reduceBNe, Nat.reduceBEq, Nat.reduceEqDiff, Nat.reduceAdd, Int.reduceAdd, Nat.reduceMul, Nat.reduceSub, Int.reduceToNat, Int.reduceLE, Int.reduceLT, Int.reduceEq, Int.reduceNe, reduceCtorEq, Nat.reduceLT, Nat.reduceLeDiff, hi']
      refine call_ev (ev_shown hX hs hE) ?_
      simp only [go_sem, Nat.reduceMod, Nat.reduceBNe, Nat.reduceBEq, Nat.reduceEqDiff, Nat.reduceAdd, Int.reduceAdd, Nat.reduceMul, Nat.reduceSub, Int.reduceToNat, Int.reduceLE, Int.reduceLT, Int.reduceEq, Int.reduceNe, reduceCtorEq, Nat.reduceLT, Nat.reduceLeDiff]
end
end Go.Avm
