/- Blanks. -/
import Derived.Test.YtpkgglpiboeogaaDoorAQ8
set_option linter.unusedSectionVars false
set_option linter.unusedSimpArgs false
set_option linter.unusedVariables false

/- Blanks. -/
namespace Go.Avm
open Go Go.Rn Go.Lx
set_option maxRecDepth 10000
theorem ins_at {l : List PT} {b K i : Nat} (hK : K ≤ l.length) (hi : i < l.length) : (l.take K ++ Lx.sh b (l.drop K)).getD i default = ((l.getD i default).1, (l.getD i default).2.1 + (if K ≤ i then b else 0), (l.getD i default).2.2 + (if K ≤ i then b else 0)) := by
  by_cases h : K ≤ i
  · rw [if_pos h, List.getD_eq_getElem?_getD, List.getElem?_append_right (by rw [List.length_take]; omega), List.length_take, Nat.min_eq_left hK, ← List.getD_eq_getElem?_getD, sh_at _ _ _ _ (by rw [List.length_drop]; omega)]
    have : (l.drop K).getD (i - K) default = l.getD i default := by
      rw [List.getD_eq_getElem?_getD, List.getElem?_drop, show K + (i - K) = i by omega, ← List.getD_eq_getElem?_getD]
    rw [this]
  · rw [if_neg h, List.getD_eq_getElem?_getD, List.getElem?_append_left (by rw [List.length_take]; omega), List.getElem?_take, if_pos (by omega), ← List.getD_eq_getElem?_getD]
    simp
section
variable {X : Cx} (hX : X.P = Go.Proofs.Tryd.prog) (hs : Std X) (hE : LEnv X)
include hX hs hE
set_option maxHeartbeats 4000000 in
theorem ev_LBlanks (s : List UInt8) (p q : Int) (hp : 0 ≤ p ∧ p < 256) (hq : 0 ≤ q ∧ q < 256) : Ev X F_law14_LexerBlanks [.str s, .int .u8 p, .int .u8 q] (.bool true) := by
  refine ev_of_wpc hs (A_law14_LexerBlanks_ok hX) 0 ?_
  simp only [A_law14_LexerBlanks, go_sem, Nat.reduceMod, Nat.reduceBNe, Nat.reduceBEq, Nat.reduceEqDiff, Nat.reduceAdd, Int.reduceAdd, Nat.reduceMul, Nat.reduceSub, Int.reduceToNat, Int.reduceLE, Int.reduceLT, Int.reduceEq, Int.reduceNe, reduceCtorEq, Nat.reduceLT, Nat.reduceLeDiff]
  refine ⟨fun h => ?_, fun h => ?_⟩
  · refine call_ev (ev_shown hX hs hE) ?_
    simp only [go_sem, Nat.reduceMod, Nat.reduceBNe, Nat.reduceBEq, Nat.reduceEqDiff, Nat.reduceAdd, Int.reduceAdd, Nat.reduceMul, Nat.reduceSub, Int.reduceToNat, Int.reduceLE, Int.reduceLT, Int.reduceEq, Int.reduceNe, reduceCtorEq, Nat.reduceLT, Nat.reduceLeDiff]
  have hl : s.length ≤ 300 := by omega
  have l1 := ev_LineE hX hs hE s (by omega)
  refine call_ev l1 ?_
  rcases lineR_cases s (by omega) with ⟨l, e1, h1⟩ | ⟨d, e, e1, hd, he, _⟩
  case inr =>
    have hne : ¬ e = 0 := by omega
    simp only [go_sem, Nat.reduceMod, Nat.reduceBNe, Nat.reduceBEq, Nat.reduceEqDiff, Nat.reduceAdd, Int.reduceAdd, Nat.reduceMul, Nat.reduceSub, Int.reduceToNat, Int.reduceLE, Int.reduceLT, Int.reduceEq, Int.reduceNe, reduceCtorEq, Nat.reduceLT, Nat.reduceLeDiff, e1, hne]
    refine call_ev (ev_shown hX hs hE) ?_
    simp only [go_sem, Nat.reduceMod, Nat.reduceBNe, Nat.reduceBEq, Nat.reduceEqDiff, Nat.reduceAdd, Int.reduceAdd, Nat.reduceMul, Nat.reduceSub, Int.reduceToNat, Int.reduceLE, Int.reduceLT, Int.reduceEq, Int.reduceNe, reduceCtorEq, Nat.reduceLT, Nat.reduceLeDiff]
  have hll := lx_len h1
  obtain ⟨L, hL⟩ : ∃ L, L = l.map toT := ⟨_, rfl⟩
  have hLl : L.length = l.length := by rw [hL, List.length_map]
  have w0 : IntKind.i64.wrap ((L.length : Int) + 1) = ((L.length + 1 : Nat) : Int) := by rw [wi64 (by omega)]; omega
  have wq : IntKind.i64.wrap q = q := wi64 (by omega)
  obtain ⟨b, hb⟩ : ∃ b : Nat, p.tmod 5 = b ∧ b < 5 := by
    rw [Int.tmod_eq_emod_of_nonneg hp.1]
    exact ⟨(p % 5).toNat, by omega, by omega⟩
  obtain ⟨K, hK⟩ : ∃ K : Nat, q.tmod (L.length + 1 : Nat) = K ∧ K ≤ l.length := by
    rw [Int.tmod_eq_emod_of_nonneg hq.1]
    have h1 := Int.emod_nonneg q (show ((L.length + 1 : Nat) : Int) ≠ 0 by omega)
    have h2 := Int.emod_lt_of_pos q (show (0 : Int) < (L.length + 1 : Nat) by omega)
    exact ⟨(q % (L.length + 1 : Nat)).toNat, by omega, by omega⟩
  obtain ⟨A, hA⟩ : ∃ A, A = atK 0 l K := ⟨_, rfl⟩
  have hA0 : K = 0 → A = 0 := fun h => by rw [hA, h]; rfl
  have hA1 : 0 < K → A = (l.getD (K - 1) default).2.2 := fun h => by
    rw [hA]
    unfold atK
    rw [if_neg (by omega), List.getD_eq_getElem?_getD, List.getElem?_eq_getElem (by omega)]; rfl
  have hAs : A ≤ s.length := by
    rcases Nat.eq_zero_or_pos K with h | h
    · rw [hA0 h]; exact Nat.zero_le _
    · rw [hA1 h]
      have := (lx_places h1 _ (at_mem (show K - 1 < l.length by omega))).2.2
      omega
  have hins := ins_ok hl h1 (b := b) (by omega) hK.2
  rw [← hA] at hins
  obtain ⟨N, hN⟩ : ∃ N, N = (l.take K ++ Lx.sh b (l.drop K)).map toT := ⟨_, rfl⟩
  have hNl : N.length = L.length := by
    rw [hN, hLl, List.length_map, List.length_append, sh_len, List.length_take, List.length_drop]; omega
  have hNt : toks N = toks L := by
    rw [hN, hL, toks_pt, toks_pt, List.map_append, sh_tok, ← List.map_append, List.take_append_drop]
  have hNa : ∀ i, i < L.length → N.getD i default = ((L.getD i default).1, (L.getD i default).2.1 + (if K ≤ i then b else 0 : Nat), (L.getD i default).2.2 + (if K ≤ i then b else 0 : Nat)) := fun i hi => by
    rw [hLl] at hi
    rw [hN, hL, at_map _ (by rw [List.length_append, sh_len, List.length_take, List.length_drop]; omega), at_map _ hi, ins_at hK.2 hi]
    simp only [toT]
    push_cast
    rfl
  have hLp : ∀ i, i < L.length → 0 ≤ (L.getD i default).2.1 ∧ (L.getD i default).2.1 ≤ 300 ∧ 0 ≤ (L.getD i default).2.2 ∧ (L.getD i default).2.2 ≤ 300 := fun i hi => by
    rw [hLl] at hi
    have := lx_places h1 _ (at_mem hi)
    rw [hL, at_map _ hi]
    simp only [toT]
    omega
  have hLK : 0 < K → (L.getD (K - 1) default).2.2 = (A : Int) := fun h => by
    rw [hL, at_map _ (by omega), hA1 h]; rfl
  have l2 := ev_LineE hX hs hE (s.take A ++ List.replicate b 32 ++ s.drop A ++ List.replicate b 32) (by simp only [List.length_append, List.length_take, List.length_drop, List.length_replicate]; omega)
  rw [hins] at l2
  dsimp only at l2
  rw [← hN] at l2
  have s2 := ev_Same hX hs N L false (by omega)
  rw [same_toks hNt] at s2
  have tr := take_rep b (by omega)
  have tb : ((b : Nat) : Int).toNat = b := Int.toNat_natCast b
  have hAn : ¬ ((A : Nat) : Int) < 0 := by omega
  have hAs2 : ¬ (s.length : Int) < A := by omega
  simp only [go_sem, Nat.reduceMod, Nat.reduceBNe, Nat.reduceBEq, Nat.reduceEqDiff, Nat.reduceAdd, Int.reduceAdd, Nat.reduceMul, Nat.reduceSub, Int.reduceToNat, Int.reduceLE, Int.reduceLT, Int.reduceEq, Int.reduceNe, reduceCtorEq, Nat.reduceLT, Nat.reduceLeDiff, e1, ← hL, w0, wq, hb.1, hK.1, tb, tr]
  refine ⟨⟨⟨by omega, by omega⟩, by omega⟩, by omega, fun hk => ?_, fun hk => ?_⟩
  · have hk' : 0 < K := by omega
    have w7 : IntKind.i64.wrap ((K : Int) - 1) = ((K - 1 : Nat) : Int) := by rw [wi64 (by omega)]; omega
    have lk := hLK hk'
    simp only [itV, tkV, go_sem, Nat.reduceMod, Nat.reduceBNe, Nat.reduceBEq, Nat.reduceEqDiff, Nat.reduceAdd, Int.reduceAdd, Nat.reduceMul, Nat.reduceSub, Int.reduceToNat, Int.reduceLE, Int.reduceLT, Int.reduceEq, Int.reduceNe, reduceCtorEq, Nat.reduceLT, Nat.reduceLeDiff, w7, lk, hAn, hAs2, List.take_length]
    refine ⟨⟨by omega, by omega⟩, ⟨⟨by omega, by omega⟩, by omega⟩, by simp only [List.length_append, List.length_take, List.length_drop, List.length_replicate]; omega, ⟨⟨⟨by omega, by omega⟩, by omega⟩, by omega⟩, by simp only [List.length_append, List.length_take, List.length_drop, List.length_replicate]; omega, by simp only [List.length_append, List.length_take, List.length_drop, List.length_replicate]; omega, callq_ev l2 ?_⟩
    simp only [go_sem, Nat.reduceMod, Nat.reduceBNe, Nat.reduceBEq, Nat.reduceEqDiff, Nat.reduceAdd, Int.reduceAdd, Nat.reduceMul, Nat.reduceSub, Int.reduceToNat, Int.reduceLE, Int.reduceLT, Int.reduceEq, Int.reduceNe, reduceCtorEq, Nat.reduceLT, Nat.reduceLeDiff]
    refine call_ev s2 ?_
    simp only [go_sem, Nat.reduceMod, Nat.reduceBNe, Nat.reduceBEq, Nat.reduceEqDiff, Nat.reduceAdd, Int.reduceAdd, Nat.reduceMul, Nat.reduceSub, Int.reduceToNat, Int.reduceLE, Int.reduceLT, Int.reduceEq, Int.reduceNe, reduceCtorEq, Nat.reduceLT, Nat.reduceLeDiff]
    refine w_loop' hs.hm (ι := Nat) (fun i => i ≤ L.length) (fun i => [(16, .int .i64 i), (13, lst itV .ro N), (7, lst itV .ro L), (12, .int .i64 K), (10, .str (List.replicate b 32))]) (fun _ => []) (fun i => L.length - i) 0 ?_ fun i hx => ?_
    · simp only [go_sem, Nat.reduceMod, Nat.reduceBNe, Nat.reduceBEq, Nat.reduceEqDiff, Nat.reduceAdd, Int.reduceAdd, Nat.reduceMul, Nat.reduceSub, Int.reduceToNat, Int.reduceLE, Int.reduceLT, Int.reduceEq, Int.reduceNe, reduceCtorEq, Nat.reduceLT, Nat.reduceLeDiff]
      exact Nat.zero_le _
    by_cases hi : i < L.length
    · have hi' : (i : Int) < L.length := by omega
      have hiN : (i : Int) < N.length := by omega
      have hn := hNa i hi
      have hpp := hLp i hi
      have w3 : IntKind.i64.wrap ((i : Int) + 1) = ((i + 1 : Nat) : Int) := by rw [wi64 (by omega)]; omega
      have hrb : (List.replicate b (32 : UInt8)).length = b := List.length_replicate
      by_cases hge : K ≤ i
      · have hge' : (K : Int) ≤ i := by omega
        rw [if_pos hge] at hn
        have w4 : ∀ z : Int, 0 ≤ z ∧ z ≤ 300 → IntKind.i64.wrap (z + b) = z + b := fun z hz => wi64 (by omega)
        have w5 := w4 (L.getD i default).2.1 (by omega)
        have w6 := w4 (L.getD i default).2.2 (by omega)
        simp only [A_law14_LexerBlanksL0, go_sem, Nat.reduceMod, Nat.reduceBNe, Nat.reduceBEq, Nat.reduceEqDiff, Nat.reduceAdd, Int.reduceAdd, Nat.reduceMul, Nat.reduceSub, Int.reduceToNat, Int.reduceLE, Int.reduceLT, Int.reduceEq, Int.reduceNe, reduceCtorEq, Nat.reduceLT, Nat.reduceLeDiff, hi', hiN, w3, hge', hrb, hn, w5, w6]
        simp only [itV, tkV, go_sem, Nat.reduceMod, Nat.reduceBNe, Nat.reduceBEq, Nat.reduceEqDiff, Nat.reduceAdd, Int.reduceAdd, Nat.reduceMul, Nat.reduceSub, Int.reduceToNat, Int.reduceLE, Int.reduceLT, Int.reduceEq, Int.reduceNe, reduceCtorEq, Nat.reduceLT, Nat.reduceLeDiff, hi', hiN, w3, hge', hrb, hn, w5, w6]
        exact ⟨by omega, by omega, by omega, by omega, i + 1, by omega, hi, rfl⟩
      · have hge' : ¬ (K : Int) ≤ i := by omega
        rw [if_neg hge] at hn
        have w4 : ∀ z : Int, 0 ≤ z ∧ z ≤ 300 → IntKind.i64.wrap (z + 0) = z := fun z hz => by rw [Int.add_zero]; exact wi64 (by omega)
        have w5 := w4 (L.getD i default).2.1 (by omega)
        have w6 := w4 (L.getD i default).2.2 (by omega)
        have hn : N.getD i default = L.getD i default := by rw [hn]; simp
        simp only [A_law14_LexerBlanksL0, go_sem, Nat.reduceMod, Nat.reduceBNe, Nat.reduceBEq, Nat.reduceEqDiff, Nat.reduceAdd, Int.reduceAdd, Nat.reduceMul, Nat.reduceSub, Int.reduceToNat, Int.reduceLE, Int.reduceLT, Int.reduceEq, Int.reduceNe, reduceCtorEq, Nat.reduceLT, Nat.reduceLeDiff, hi', hiN, w3, hge', hn, w5, w6]
        simp only [itV, tkV, go_sem, Nat.reduceMod, Nat.reduceBNe, Nat.reduceBEq, Nat.reduceEqDiff, Nat.reduceAdd, Int.reduceAdd, Nat.reduceMul, Nat.reduceSub, Int.reduceToNat, Int.reduceLE, Int.reduceLT, Int.reduceEq, Int.reduceNe, reduceCtorEq, Nat.reduceLT, Nat.reduceLeDiff, hi', hiN, w3, hge', hn, w5, w6]
        exact ⟨by omega, by omega, by omega, by omega, i + 1, by omega, hi, rfl⟩
    · have hi' : ¬ (i : Int) < L.length := by omega
      simp only [A_law14_LexerBlanksL0, go_sem, Nat.reduceMod, Nat.reduceBNe, Nat.reduceBEq, Nat.reduceEqDiff, Nat.reduceAdd, Int.reduceAdd, Nat.reduceMul, Nat.reduceSub, Int.reduceToNat, Int.reduceLE, Int.reduceLT, Int.reduceEq, Int.reduceNe, reduceCtorEq, Nat.reduceLT, Nat.reduceLeDiff, hi']
      refine call_ev (ev_shown hX hs hE) ?_
      simp only [go_sem, Nat.reduceMod, Nat.reduceBNe, Nat.reduceBEq, Nat.reduceEqDiff, Nat.reduceAdd, Int.reduceAdd, Nat.reduceMul, Nat.reduceSub, Int.reduceToNat, Int.reduceLE, Int.reduceLT, Int.reduceEq, Int.reduceNe, reduceCtorEq, Nat.reduceLT, Nat.reduceLeDiff]
  · have hk' : K = 0 := by omega
    have a0 := hA0 hk'
    have hs0 : ¬ (s.length : Int) < 0 := by omega
    rw [a0, List.take_zero, List.drop_zero, List.nil_append] at l2
    simp only [go_sem, Nat.reduceMod, Nat.reduceBNe, Nat.reduceBEq, Nat.reduceEqDiff, Nat.reduceAdd, Int.reduceAdd, Nat.reduceMul, Nat.reduceSub, Int.reduceToNat, Int.reduceLE, Int.reduceLT, Int.reduceEq, Int.reduceNe, reduceCtorEq, Nat.reduceLT, Nat.reduceLeDiff, hs0, List.take_length]
    refine ⟨by omega, by simp only [List.length_append, List.length_take, List.length_drop, List.length_replicate]; omega, ⟨⟨by omega, by omega⟩, by omega⟩, by simp only [List.length_append, List.length_take, List.length_drop, List.length_replicate]; omega, by simp only [List.length_append, List.length_take, List.length_drop, List.length_replicate]; omega, callq_ev l2 ?_⟩
    simp only [go_sem, Nat.reduceMod, Nat.reduceBNe, Nat.reduceBEq, Nat.reduceEqDiff, Nat.reduceAdd, Int.reduceAdd, Nat.reduceMul, Nat.reduceSub, Int.reduceToNat, Int.reduceLE, Int.reduceLT, Int.reduceEq, Int.reduceNe, reduceCtorEq, Nat.reduceLT, Nat.reduceLeDiff]
    refine call_ev s2 ?_
    simp only [go_sem, Nat.reduceMod, Nat.reduceBNe, Nat.reduceBEq, Nat.reduceEqDiff, Nat.reduceAdd, Int.reduceAdd, Nat.reduceMul, Nat.reduceSub, Int.reduceToNat, Int.reduceLE, Int.reduceLT, Int.reduceEq, Int.reduceNe, reduceCtorEq, Nat.reduceLT, Nat.reduceLeDiff]
    refine w_loop' hs.hm (ι := Nat) (fun i => i ≤ L.length) (fun i => [(16, .int .i64 i), (13, lst itV .ro N), (7, lst itV .ro L), (12, .int .i64 K), (10, .str (List.replicate b 32))]) (fun _ => []) (fun i => L.length - i) 0 ?_ fun i hx => ?_
    · simp only [go_sem, Nat.reduceMod, Nat.reduceBNe, Nat.reduceBEq, Nat.reduceEqDiff, Nat.reduceAdd, Int.reduceAdd, Nat.reduceMul, Nat.reduceSub, Int.reduceToNat, Int.reduceLE, Int.reduceLT, Int.reduceEq, Int.reduceNe, reduceCtorEq, Nat.reduceLT, Nat.reduceLeDiff]
      exact Nat.zero_le _
    by_cases hi : i < L.length
    · have hi' : (i : Int) < L.length := by omega
      have hiN : (i : Int) < N.length := by omega
      have hn := hNa i hi
      have hpp := hLp i hi
      have w3 : IntKind.i64.wrap ((i : Int) + 1) = ((i + 1 : Nat) : Int) := by rw [wi64 (by omega)]; omega
      have hrb : (List.replicate b (32 : UInt8)).length = b := List.length_replicate
      by_cases hge : K ≤ i
      · have hge' : (K : Int) ≤ i := by omega
        rw [if_pos hge] at hn
        have w4 : ∀ z : Int, 0 ≤ z ∧ z ≤ 300 → IntKind.i64.wrap (z + b) = z + b := fun z hz => wi64 (by omega)
        have w5 := w4 (L.getD i default).2.1 (by omega)
        have w6 := w4 (L.getD i default).2.2 (by omega)
        simp only [A_law14_LexerBlanksL0, go_sem, Nat.reduceMod, Nat.reduceBNe, Nat.reduceBEq, Nat.reduceEqDiff, Nat.reduceAdd, Int.reduceAdd, Nat.reduceMul, Nat.reduceSub, Int.reduceToNat, Int.reduceLE, Int.reduceLT, Int.reduceEq, Int.reduceNe, reduceCtorEq, Nat.reduceLT, Nat.reduceLeDiff, hi', hiN, w3, hge', hrb, hn, w5, w6]
        simp only [itV, tkV, go_sem, Nat.reduceMod, Nat.reduceBNe, Nat.reduceBEq, Nat.reduceEqDiff, Nat.reduceAdd, Int.reduceAdd, Nat.reduceMul, Nat.reduceSub, Int.reduceToNat, Int.reduceLE, Int.reduceLT, Int.reduceEq, Int.reduceNe, reduceCtorEq, Nat.reduceLT, Nat.reduceLeDiff, hi', hiN, w3, hge', hrb, hn, w5, w6]
        exact ⟨by omega, by omega, by omega, by omega, i + 1, by omega, hi, rfl⟩
      · have hge' : ¬ (K : Int) ≤ i := by omega
        rw [if_neg hge] at hn
        have w4 : ∀ z : Int, 0 ≤ z ∧ z ≤ 300 → IntKind.i64.wrap (z + 0) = z := fun z hz => by rw [Int.add_zero]; exact wi64 (by omega)
        have w5 := w4 (L.getD i default).2.1 (by omega)
        have w6 := w4 (L.getD i default).2.2 (by omega)
        have hn : N.getD i default = L.getD i default := by rw [hn]; simp
        simp only [A_law14_LexerBlanksL0, go_sem, Nat.reduceMod, Nat.reduceBNe, Nat.reduceBEq, Nat.reduceEqDiff, Nat.reduceAdd, Int.reduceAdd, Nat.reduceMul, Nat.reduceSub, Int.reduceToNat, Int.reduceLE, Int.reduceLT, Int.reduceEq, Int.reduceNe, reduceCtorEq, Nat.reduceLT, Nat.reduceLeDiff, hi', hiN, w3, hge', hn, w5, w6]
        simp only [itV, tkV, go_sem, Nat.reduceMod, Nat.reduceBNe, Nat.reduceBEq, Nat.reduceEqDiff, Nat.reduceAdd, Int.reduceAdd, Nat.reduceMul, Nat.reduceSub, Int.reduceToNat, Int.reduceLE, Int.reduceLT, Int.reduceEq, Int.reduceNe, reduceCtorEq, Nat.reduceLT, Nat.reduceLeDiff, hi', hiN, w3, hge', hn, w5, w6]
        exact ⟨by omega, by omega, by omega, by omega, i + 1, by omega, hi, rfl⟩
    · have hi' : ¬ (i : Int) < L.length := by omega
      simp only [A_law14_LexerBlanksL0, go_sem, Nat.reduceMod, Nat.reduceBNe, Nat.reduceBEq, Nat.reduceEqDiff, Nat.reduceAdd, Int.reduceAdd, Nat.reduceMul, Nat.reduceSub, Int.reduceToNat, Int.reduceLE, Int.reduceLT, Int.reduceEq, Int.reduceNe, reduceCtorEq, Nat.reduceLT, Nat.reduceLeDiff, hi']
      refine call_ev (ev_shown hX hs hE) ?_
      simp only [go_sem, Nat.reduceMod, Nat.reduceBNe, Nat.reduceBEq, Nat.reduceEqDiff, Nat.reduceAdd, Int.reduceAdd, Nat.reduceMul, Nat.reduceSub, Int.reduceToNat, Int.reduceLE, Int.reduceLT, Int.reduceEq, Int.reduceNe, reduceCtorEq, Nat.reduceLT, Nat.reduceLeDiff]
end
end Go.Avm
