/- Places. -/
import Derived.Test.YtpkgglpiboeogaaDoorAQ6
set_option linter.unusedSectionVars false
set_option linter.unusedSimpArgs false
set_option linter.unusedVariables false

/- Places. -/
namespace Go.Avm
open Go Go.Rn Go.Lx
set_option maxRecDepth 10000
/-- where the tokens before the i-th end -/
def lastE (l : List PT) (i : Nat) : Nat := if i = 0 then 0 else (l.getD (i - 1) default).2.2
theorem at_map (l : List PT) {i : Nat} (h : i < l.length) : (l.map toT).getD i default = toT (l.getD i default) := by
  rw [List.getD_eq_getElem?_getD, List.getD_eq_getElem?_getD, List.getElem?_map, List.getElem?_eq_getElem h]; rfl
theorem lastE_le {s : List UInt8} {l : List PT} (h : Lx 0 s l) {i : Nat} (hi : i < l.length) : lastE l i ≤ (l.getD i default).2.1 := by
  have := lx_asc h i hi
  have e0 : l.getD i default = l[i] := by rw [List.getD_eq_getElem?_getD, List.getElem?_eq_getElem hi]; rfl
  unfold lastE
  rw [e0]
  by_cases h0 : i = 0
  · rw [dif_pos h0] at this; rw [if_pos h0]; exact this
  · rw [dif_neg h0] at this; rw [if_neg h0, List.getD_eq_getElem?_getD, List.getElem?_eq_getElem (show i - 1 < l.length by omega)]; exact this
theorem at_mem {α : Type} [Inhabited α] {l : List α} {i : Nat} (h : i < l.length) : l.getD i default ∈ l := by
  rw [List.getD_eq_getElem?_getD, List.getElem?_eq_getElem h]
  exact List.getElem_mem h
theorem one_at {α : Type} [Inhabited α] {l : List α} {i : Nat} (h : i < l.length) : (l.take (i + 1)).drop i = [l.getD i default] := by
  rw [List.take_succ_eq_append_getElem h, List.drop_left' (by rw [List.length_take]; omega), List.getD_eq_getElem?_getD, List.getElem?_eq_getElem h]; rfl
theorem lx_len {p : Nat} {u : List UInt8} {l : List PT} (h : Lx p u l) : l.length ≤ u.length := by
  induction h with
  | nil p => exact Nat.le_refl _
  | blank _ ih => rw [List.length_cons]; omega
  | @tok p c r t n l h1 ht hl ih =>
    have hs := (tok_stab (by simp) ht).1
    rw [List.length_drop, List.length_cons] at ih
    rw [List.length_cons, List.length_cons]; omega
section
variable {X : Cx} (hX : X.P = Go.Proofs.Tryd.prog) (hs : Std X) (hE : LEnv X)
include hX hs hE
set_option maxHeartbeats 4000000 in
theorem ev_LPlaces (s : List UInt8) : Ev X F_law14_LexerPlaces [.str s] (.bool true) := by
  refine ev_of_wpc hs (A_law14_LexerPlaces_ok hX) 0 ?_
  simp only [A_law14_LexerPlaces, go_sem, Nat.reduceMod, Nat.reduceBNe, Nat.reduceBEq, Nat.reduceEqDiff, Nat.reduceAdd, Int.reduceAdd, Nat.reduceMul, Nat.reduceSub, Int.reduceToNat, Int.reduceLE, Int.reduceLT, Int.reduceEq, Int.reduceNe, reduceCtorEq, Nat.reduceLT, Nat.reduceLeDiff]
  refine ⟨fun h => ?_, fun h => ?_⟩
  · refine call_ev (ev_shown hX hs hE) ?_
    simp only [go_sem, Nat.reduceMod, Nat.reduceBNe, Nat.reduceBEq, Nat.reduceEqDiff, Nat.reduceAdd, Int.reduceAdd, Nat.reduceMul, Nat.reduceSub, Int.reduceToNat, Int.reduceLE, Int.reduceLT, Int.reduceEq, Int.reduceNe, reduceCtorEq, Nat.reduceLT, Nat.reduceLeDiff]
  have hl : s.length ≤ 300 := by omega
  have l1 := ev_LineE hX hs hE s (by omega)
  rcases lineR_cases s (by omega) with ⟨l, e1, h0⟩ | ⟨d, e, e1, hd, he, _⟩
  · rw [e1] at l1
    refine call_ev l1 ?_
    have hlen : l.length ≤ s.length := lx_len h0
    simp only [go_sem, Nat.reduceMod, Nat.reduceBNe, Nat.reduceBEq, Nat.reduceEqDiff, Nat.reduceAdd, Int.reduceAdd, Nat.reduceMul, Nat.reduceSub, Int.reduceToNat, Int.reduceLE, Int.reduceLT, Int.reduceEq, Int.reduceNe, reduceCtorEq, Nat.reduceLT, Nat.reduceLeDiff]
    refine w_loop' hs.hm (ι := PS) (fun x => x.i ≤ l.length) (fun x => [(7, .int .i64 x.i), (6, .int .i64 (lastE l x.i : Nat)), (3, lst itV .ro (l.map toT)), (0, .str s), (4, .int .i64 0)]) (fun x => x.G) (fun x => l.length - x.i) ⟨0, []⟩ ?_ fun x hx => ?_
    · simp only [go_sem, Nat.reduceMod, Nat.reduceBNe, Nat.reduceBEq, Nat.reduceEqDiff, Nat.reduceAdd, Int.reduceAdd, Nat.reduceMul, Nat.reduceSub, Int.reduceToNat, Int.reduceLE, Int.reduceLT, Int.reduceEq, Int.reduceNe, reduceCtorEq, Nat.reduceLT, Nat.reduceLeDiff]
      exact ⟨Nat.zero_le _, rfl⟩
    obtain ⟨i, G⟩ := x
    dsimp only at hx ⊢
    by_cases hi : i < l.length
    · have hi' : (i : Int) < (l.map toT).length := by rw [List.length_map]; omega
      simp only [A_law14_LexerPlacesL0, go_sem, Nat.reduceMod, Nat.reduceBNe, Nat.reduceBEq, Nat.reduceEqDiff, Nat.reduceAdd, Int.reduceAdd, Nat.reduceMul, Nat.reduceSub, Int.reduceToNat, Int.reduceLE, Int.reduceLT, Int.reduceEq, Int.reduceNe, reduceCtorEq, Nat.reduceLT, Nat.reduceLeDiff, hi', at_map l hi]
      have hm := at_mem hi
      have hp := lx_places h0 _ hm
      have h1 := lx_one h0 _ hm
      have h2 := lastE_le h0 hi
      have h3 : lastE l (i + 1) = (l.getD i default).2.2 := by unfold lastE; rw [if_neg (Nat.succ_ne_zero i)]; rfl
      have h4 : ((l.map toT).take (i + 1)).drop i = [toT (l.getD i default)] := by
        rw [one_at (l := l.map toT) (by rw [List.length_map]; exact hi), at_map l hi]
      have hw : IntKind.i64.wrap ((i : Int) + 1) = ((i + 1 : Nat) : Int) := by rw [wi64 (by omega)]; omega
      generalize l.getD i default = t at hp h1 h2 h3 h4
      obtain ⟨t, a, b⟩ := t
      dsimp only at hp h1 h2 h3
      rw [Nat.sub_zero] at h1
      have c1 : ¬ (a : Int) < (lastE l i : Nat) := by omega
      have c2 : ¬ (b : Int) ≤ a := by omega
      have c3 : ¬ (s.length : Int) < b := by omega
      simp only [toT, itV, tkV, go_sem, Nat.reduceMod, Nat.reduceBNe, Nat.reduceBEq, Nat.reduceEqDiff, Nat.reduceAdd, Int.reduceAdd, Nat.reduceMul, Nat.reduceSub, Int.reduceToNat, Int.reduceLE, Int.reduceLT, Int.reduceEq, Int.reduceNe, reduceCtorEq, Nat.reduceLT, Nat.reduceLeDiff, gx0, gs0, c1, c2, c3]
      have hdl : ((s.drop a).take (b - a)).length ≤ 2000 := by rw [List.length_take, List.length_drop]; omega
      have l2 := ev_LineE hX hs hE ((s.drop a).take (b - a)) (by omega)
      rw [lineR_ok hdl h1] at l2
      have ed : (s.take b).drop a = (s.drop a).take (b - a) := List.drop_take
      rw [ed]
      refine ⟨by omega, ⟨⟨⟨by omega, by omega⟩, by omega⟩, by omega⟩, call_ev l2 ?_⟩
      simp only [go_sem, Nat.reduceMod, Nat.reduceBNe, Nat.reduceBEq, Nat.reduceEqDiff, Nat.reduceAdd, Int.reduceAdd, Nat.reduceMul, Nat.reduceSub, Int.reduceToNat, Int.reduceLE, Int.reduceLT, Int.reduceEq, Int.reduceNe, reduceCtorEq, Nat.reduceLT, Nat.reduceLeDiff, gx0, gs0, hw, h4]
      have sm := ev_Same hX hs [toT (t, 0, b - a)] [toT (t, a, b)] false (by simp)
      rw [same_toks (by rfl)] at sm
      have hw2 : IntKind.i64.wrap ((b : Int) - a) = ((b - a : Nat) : Int) := by rw [wi64 (by omega)]; omega
      have hlm : (i + 1 : Nat) ≤ (l.map toT).length := by rw [List.length_map]; omega
      refine ⟨by omega, callq_ev sm ?_⟩
      simp only [go_sem, Nat.reduceMod, Nat.reduceBNe, Nat.reduceBEq, Nat.reduceEqDiff, Nat.reduceAdd, Int.reduceAdd, Nat.reduceMul, Nat.reduceSub, Int.reduceToNat, Int.reduceLE, Int.reduceLT, Int.reduceEq, Int.reduceNe, reduceCtorEq, Nat.reduceLT, Nat.reduceLeDiff, gx0, gs0, hw, hw2, toT, itV, tkV]
      exact ⟨⟨i + 1, _⟩, by dsimp only; omega, by dsimp only; omega, ⟨rfl, by rw [h3]⟩, rfl⟩
    · have hi' : ¬ (i : Int) < (l.map toT).length := by rw [List.length_map]; omega
      simp only [A_law14_LexerPlacesL0, go_sem, Nat.reduceMod, Nat.reduceBNe, Nat.reduceBEq, Nat.reduceEqDiff, Nat.reduceAdd, Int.reduceAdd, Nat.reduceMul, Nat.reduceSub, Int.reduceToNat, Int.reduceLE, Int.reduceLT, Int.reduceEq, Int.reduceNe, reduceCtorEq, Nat.reduceLT, Nat.reduceLeDiff, hi']
      refine call_ev (ev_shown hX hs hE) ?_
      simp only [go_sem, Nat.reduceMod, Nat.reduceBNe, Nat.reduceBEq, Nat.reduceEqDiff, Nat.reduceAdd, Int.reduceAdd, Nat.reduceMul, Nat.reduceSub, Int.reduceToNat, Int.reduceLE, Int.reduceLT, Int.reduceEq, Int.reduceNe, reduceCtorEq, Nat.reduceLT, Nat.reduceLeDiff]
  · rw [e1] at l1
    refine call_ev l1 ?_
    have hne : ¬ e = 0 := by omega
    simp only [go_sem, Nat.reduceMod, Nat.reduceBNe, Nat.reduceBEq, Nat.reduceEqDiff, Nat.reduceAdd, Int.reduceAdd, Nat.reduceMul, Nat.reduceSub, Int.reduceToNat, Int.reduceLE, Int.reduceLT, Int.reduceEq, Int.reduceNe, reduceCtorEq, Nat.reduceLT, Nat.reduceLeDiff, hne]
    have hds : (d : Int) ≤ s.length := by omega
    have hd0 : (0 : Int) ≤ d := by omega
    simp only [go_sem, Nat.reduceMod, Nat.reduceBNe, Nat.reduceBEq, Nat.reduceEqDiff, Nat.reduceAdd, Int.reduceAdd, Nat.reduceMul, Nat.reduceSub, Int.reduceToNat, Int.reduceLE, Int.reduceLT, Int.reduceEq, Int.reduceNe, reduceCtorEq, Nat.reduceLT, Nat.reduceLeDiff, hds, hd0]
    refine call_ev (ev_shown hX hs hE) ?_
    simp only [go_sem, Nat.reduceMod, Nat.reduceBNe, Nat.reduceBEq, Nat.reduceEqDiff, Nat.reduceAdd, Int.reduceAdd, Nat.reduceMul, Nat.reduceSub, Int.reduceToNat, Int.reduceLE, Int.reduceLT, Int.reduceEq, Int.reduceNe, reduceCtorEq, Nat.reduceLT, Nat.reduceLeDiff]
end
end Go.Avm
