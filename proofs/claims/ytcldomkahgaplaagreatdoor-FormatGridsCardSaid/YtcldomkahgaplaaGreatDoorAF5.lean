/- The reference's grids. -/
import Derived.Test.YtcldomkahgaplaaGreatDoorAF4
import Derived.Test.YtcldomkahgaplaaGreatDoorM2
set_option linter.unusedSectionVars false
set_option linter.unusedSimpArgs false
set_option linter.unusedVariables false

/- The reference's grids. -/
namespace Go.Avm
open Go Go.Fm
set_option maxRecDepth 10000
/-- states of a run through a line: place, from where, what is cut off -/
structure CutS where
  i : Nat
  f : Nat
  a : List (List UInt8)
def CutS.C (s : List UInt8) (x : CutS) : Prop := (x.i ≤ s.length ∧ x.f ≤ x.i ∧ (∀ k, x.f ≤ k → k < x.i → s.getD k 0 ≠ 32) ∧ Wo.splC 32 s = x.a ++ Wo.splC 32 (s.drop x.f) ∧ x.a.length ≤ x.i) ∨ (x.i = s.length + 1 ∧ x.a = Wo.splC 32 s)
theorem cut_no {s : List UInt8} {f i : Nat} (hi : i ≤ s.length) (hf : f ≤ i) (h : ∀ k, f ≤ k → k < i → s.getD k 0 ≠ 32) : (32 : UInt8) ∉ (s.drop f).take (i - f) :=
  take_no (fun k hk => h _ (by omega) (by omega)) (by omega)
theorem cut_at {s : List UInt8} {f i : Nat} (hi : i < s.length) (hf : f ≤ i) (h : ∀ k, f ≤ k → k < i → s.getD k 0 ≠ 32) (hb : s.getD i 0 = 32) : Wo.splC 32 (s.drop f) = (s.take i).drop f :: Wo.splC 32 (s.drop (i + 1)) := by
  have e : s.drop f = (s.drop f).take (i - f) ++ 32 :: s.drop (i + 1) := by
    conv => lhs; rw [← List.take_append_drop (i - f) (s.drop f)]
    rw [List.drop_drop, show f + (i - f) = i by omega, drop_one hi, hb]
  conv => lhs; rw [e]
  rw [splC_hd (cut_no (by omega) hf h), List.drop_take]
theorem cut_end {s : List UInt8} {f : Nat} (hf : f ≤ s.length) (h : ∀ k, f ≤ k → k < s.length → s.getD k 0 ≠ 32) : Wo.splC 32 (s.drop f) = [(s.take s.length).drop f] := by
  have := cut_no (Nat.le_refl _) hf h
  rw [List.take_of_length_le (by rw [List.length_drop]; omega)] at this
  rw [splC_all this, List.take_length]
section
variable {X : Cx} (hX : X.P = Go.Proofs.Tryz.prog) (hs : Std X)
include hX hs
theorem ev_split33 (s : List UInt8) (hl : s.length < 1000000) : Ev X F_ref33_split [.str s] (lst AV.str .ro (Wo.splC 32 s)) := by
  refine ev_of_k (evK_of_wpc hs (A_ref33_split_ok hX) ?_)
  simp only [A_ref33_split, go_sem, Nat.reduceMod, Nat.reduceBNe, Nat.reduceBEq, Nat.reduceEqDiff, Nat.reduceAdd, Int.reduceAdd, Nat.reduceMul, Nat.reduceSub, Int.reduceToNat, Int.reduceLE, Int.reduceLT, Int.reduceEq, Int.reduceNe, reduceCtorEq, Nat.reduceLT, Nat.reduceLeDiff]
  refine w_loop hs.hm (ι := CutS) (CutS.C s) (fun x => [(5, .int .i64 x.i), (0, .str s), (4, .int .i64 x.f), (3, lst AV.str (.tok 0 1) x.a)]) (fun x => [.tok x.a.length]) (fun x => s.length + 1 - x.i) ⟨0, 0, []⟩ ⟨.inl ⟨Nat.zero_le _, Nat.le_refl _, fun k _ h => absurd h (by simp), rfl, Nat.le_refl _⟩, _, _, wk_tok 3 1 rfl, ?_⟩ fun x hx => ?_
  · exact ⟨⟨rfl, rfl, rfl, rfl, trivial⟩, rfl⟩
  obtain ⟨i, f, a⟩ := x
  unfold CutS.C at hx
  dsimp only at hx ⊢
  rcases hx with ⟨h1, h2, h3, h4, h5⟩ | ⟨h1, h2⟩
  · have c1 : (i : Int) ≤ s.length := by omega
    have hw : IntKind.i64.wrap ((i : Int) + 1) = ((i + 1 : Nat) : Int) := by rw [wi64 (by omega)]; omega
    simp only [A_ref33_splitL0, go_sem, Nat.reduceMod, Nat.reduceBNe, Nat.reduceBEq, Nat.reduceEqDiff, Nat.reduceAdd, Int.reduceAdd, Nat.reduceMul, Nat.reduceSub, Int.reduceToNat, Int.reduceLE, Int.reduceLT, Int.reduceEq, Int.reduceNe, reduceCtorEq, Nat.reduceLT, Nat.reduceLeDiff, c1]
    by_cases hi : i = s.length
    · subst hi
      have hst := cut_end h2 h3
      simp only [go_sem, Nat.reduceMod, Nat.reduceBNe, Nat.reduceBEq, Nat.reduceEqDiff, Nat.reduceAdd, Int.reduceAdd, Nat.reduceMul, Nat.reduceSub, Int.reduceToNat, Int.reduceLE, Int.reduceLT, Int.reduceEq, Int.reduceNe, reduceCtorEq, Nat.reduceLT, Nat.reduceLeDiff, app1]
      refine ⟨by omega, ⟨by omega, by omega⟩, ⟨s.length + 1, s.length + 1, a ++ [(s.take s.length).drop f]⟩, by dsimp only; omega, .inr ⟨rfl, ?_⟩, ⟨by rw [hw], by rw [hw], rfl⟩, by rw [List.length_append]; rfl⟩
      dsimp only
      rw [h4, hst]
    · have c2 : ¬ (i : Int) = s.length := by omega
      simp only [go_sem, Nat.reduceMod, Nat.reduceBNe, Nat.reduceBEq, Nat.reduceEqDiff, Nat.reduceAdd, Int.reduceAdd, Nat.reduceMul, Nat.reduceSub, Int.reduceToNat, Int.reduceLE, Int.reduceLT, Int.reduceEq, Int.reduceNe, reduceCtorEq, Nat.reduceLT, Nat.reduceLeDiff, c2]
      refine ⟨by omega, fun h6 => ?_, fun h6 => ?_⟩
      · have hb : s.getD i 0 = 32 := by
          apply UInt8.toNat_inj.1
          have : (s.getD i 0).toNat = 32 := by omega
          rw [this]; rfl
        have hst := cut_at (by omega) h2 h3 hb
        refine ⟨by omega, ⟨by omega, by omega⟩, ⟨i + 1, i + 1, a ++ [(s.take i).drop f]⟩, by dsimp only; omega, .inl ⟨by dsimp only; omega, Nat.le_refl _, fun k h7 h8 => absurd h7 (by dsimp only at h8 ⊢; omega), ?_, ?_⟩, ⟨by rw [hw], by rw [hw], rfl⟩, by rw [List.length_append]; rfl⟩
        · dsimp only
          rw [h4, hst, List.append_assoc]
          rfl
        · dsimp only
          rw [List.length_append, List.length_singleton]
          omega
      · have hb : s.getD i 0 ≠ 32 := fun e => h6 (by rw [e]; rfl)
        refine ⟨⟨i + 1, f, a⟩, by dsimp only; omega, .inl ⟨by dsimp only; omega, by dsimp only; omega, fun k h7 h8 => ?_, h4, by dsimp only; omega⟩, ⟨by rw [hw], rfl, rfl⟩, rfl⟩
        dsimp only at h7 h8
        rcases Nat.lt_or_eq_of_le (Nat.le_of_lt_succ h8) with h9 | h9
        · exact h3 k h7 h9
        · rw [h9]; exact hb
  · have c1 : ¬ (i : Int) ≤ s.length := by omega
    simp only [A_ref33_splitL0, go_sem, Nat.reduceMod, Nat.reduceBNe, Nat.reduceBEq, Nat.reduceEqDiff, Nat.reduceAdd, Int.reduceAdd, Nat.reduceMul, Nat.reduceSub, Int.reduceToNat, Int.reduceLE, Int.reduceLT, Int.reduceEq, Int.reduceNe, reduceCtorEq, Nat.reduceLT, Nat.reduceLeDiff, c1]
    rw [h2]
    exact ⟨⟨_, rfl⟩, rfl⟩
theorem ev_r33row (s : List UInt8) (hl : s.length < 1000000) : Ev X F_ref33_row [.str s] (.tuple [lst (AV.int .i64) .ro (rowR s).1, .int .i64 (rowR s).2]) := by
  refine ev_of_k (evK_of_wpc hs (A_ref33_row_ok hX) ?_)
  simp only [A_ref33_row, go_sem, Nat.reduceMod, Nat.reduceBNe, Nat.reduceBEq, Nat.reduceEqDiff, Nat.reduceAdd, Int.reduceAdd, Nat.reduceMul, Nat.reduceSub, Int.reduceToNat, Int.reduceLE, Int.reduceLT, Int.reduceEq, Int.reduceNe, reduceCtorEq, Nat.reduceLT, Nat.reduceLeDiff]
  refine call_ev (ev_split33 hX hs s hl) ?_
  unfold rowR fldB
  have hcn := Wo.splC_count 32 s
  have hcl := List.count_le_length (a := (32 : UInt8)) (l := s)
  have hfm : ∀ p ∈ Wo.splC 32 s, p.length ≤ s.length := fun p hp => Wo.splC_mlen hp
  generalize Wo.splC 32 s = fs at hcn hfm
  simp only [go_sem, Nat.reduceMod, Nat.reduceBNe, Nat.reduceBEq, Nat.reduceEqDiff, Nat.reduceAdd, Int.reduceAdd, Nat.reduceMul, Nat.reduceSub, Int.reduceToNat, Int.reduceLE, Int.reduceLT, Int.reduceEq, Int.reduceNe, reduceCtorEq, Nat.reduceLT, Nat.reduceLeDiff]
  refine w_loop hs.hm (ι := Nat) (fun i => i ≤ fs.length ∧ ((fs.take i).filter ne0).any (fun f => decide ((gI f).2 = 6)) = false) (fun i => [(7, .int .i64 i), (4, lst AV.str .ro fs), (6, .int .i64 (gE ((fs.take i).filter ne0))), (5, lst (AV.int .i64) (.tok 0 1) (gN ((fs.take i).filter ne0)))]) (fun i => [.tok ((fs.take i).filter ne0).length]) (fun i => fs.length - i) 0 ⟨⟨Nat.zero_le _, rfl⟩, _, _, wk_tok 5 1 rfl, ?_⟩ fun i hi => ?_
  · exact ⟨⟨rfl, rfl, rfl, rfl, trivial⟩, rfl⟩
  obtain ⟨i1, i2⟩ := hi
  by_cases hi' : i < fs.length
  · have h1 : (i : Int) < fs.length := by omega
    have hw : IntKind.i64.wrap ((i : Int) + 1) = ((i + 1 : Nat) : Int) := by rw [wi64 (by omega)]; omega
    have hlt : (gN ((fs.take i).filter ne0)).length = ((fs.take i).filter ne0).length := List.length_map _
    have hft := flt_take hi'
    have hfn : ((fs.take i).filter ne0).length ≤ i := by
      have := List.length_filter_le ne0 (fs.take i)
      rw [List.length_take] at this
      omega
    have hmem : fs.getD i [] ∈ fs := by rw [List.getD_eq_getElem?_getD, List.getElem?_eq_getElem hi']; exact List.getElem_mem _
    have hfl2 : (fs.getD i []).length < 1000000 := by have := hfm _ hmem; omega
    have ec := gI_e (fs.getD i [])
    have ed : fs.getD i default = fs.getD i [] := rfl
    simp only [A_ref33_rowL0, go_sem, Nat.reduceMod, Nat.reduceBNe, Nat.reduceBEq, Nat.reduceEqDiff, Nat.reduceAdd, Int.reduceAdd, Nat.reduceMul, Nat.reduceSub, Int.reduceToNat, Int.reduceLE, Int.reduceLT, Int.reduceEq, Int.reduceNe, reduceCtorEq, Nat.reduceLT, Nat.reduceLeDiff, h1]
    rw [ed]
    have ei : intV (fs.getD i []) (-9223372036854775808) 9223372036854775807 = .tuple [.int .i64 (gI (fs.getD i [])).1, .int .i64 (gI (fs.getD i [])).2] := rfl
    have hint := ev_rInt hX hs (fs.getD i []) (-9223372036854775808) 9223372036854775807 hfl2
    rw [ei] at hint
    have hR6 : ne0 (fs.getD i []) = true → (gI (fs.getD i [])).2 = 6 → rowL (fs.filter ne0) = ([], 6) := fun h h' => by
      unfold rowL
      rw [if_pos]
      rw [List.any_eq_true]
      exact ⟨fs.getD i [], List.mem_filter.2 ⟨hmem, h⟩, by rw [h']; rfl⟩
    generalize fs.getD i [] = f at *
    refine ⟨by omega, fun h6 => ?_, fun h6 => ⟨by omega, call_ev hint ?_⟩⟩
    · subst h6
      have e0 : (fs.take (i + 1)).filter ne0 = (fs.take i).filter ne0 := by rw [hft]; exact List.append_nil _
      exact ⟨i + 1, by omega, ⟨hi', by rw [e0]; exact i2⟩, ⟨by rw [hw], by rw [e0], by rw [e0]⟩, by rw [e0]⟩
    · have hn0 : ne0 f = true := by
        unfold ne0
        cases f with
        | nil => exact absurd rfl h6
        | cons b u => rfl
      rw [if_pos hn0] at hft
      have e1 := gE_app ((fs.take i).filter ne0) f
      have e2 := gN_app ((fs.take i).filter ne0) f
      rw [← hft] at e1 e2
      have e3 : ((fs.take (i + 1)).filter ne0).any (fun f => decide ((gI f).2 = 6)) = decide ((gI f).2 = 6) := by
        rw [hft, List.any_append, i2]
        simp
      have e4 : ((fs.take (i + 1)).filter ne0).length = ((fs.take i).filter ne0).length + 1 := by rw [hft, List.length_append]; rfl
      have hR6 := hR6 hn0
      generalize hG : gI f = G at *
      obtain ⟨v, e⟩ := G
      dsimp only at *
      rcases ec with rfl | rfl | rfl
      · simp only [go_sem, Nat.reduceMod, Nat.reduceBNe, Nat.reduceBEq, Nat.reduceEqDiff, Nat.reduceAdd, Int.reduceAdd, Nat.reduceMul, Nat.reduceSub, Int.reduceToNat, Int.reduceLE, Int.reduceLT, Int.reduceEq, Int.reduceNe, reduceCtorEq, Nat.reduceLT, Nat.reduceLeDiff, app1, hlt, ← e2, hw]
        exact ⟨⟨by omega, by omega⟩, i + 1, by omega, ⟨hi', by rw [e3]; rfl⟩, ⟨rfl, by rw [e1]; rfl, rfl⟩, by rw [e4]⟩
      · simp only [go_sem, Nat.reduceMod, Nat.reduceBNe, Nat.reduceBEq, Nat.reduceEqDiff, Nat.reduceAdd, Int.reduceAdd, Nat.reduceMul, Nat.reduceSub, Int.reduceToNat, Int.reduceLE, Int.reduceLT, Int.reduceEq, Int.reduceNe, reduceCtorEq, Nat.reduceLT, Nat.reduceLeDiff]
        rw [hR6 rfl]
        exact ⟨⟨_, rfl⟩, rfl⟩
      · simp only [go_sem, Nat.reduceMod, Nat.reduceBNe, Nat.reduceBEq, Nat.reduceEqDiff, Nat.reduceAdd, Int.reduceAdd, Nat.reduceMul, Nat.reduceSub, Int.reduceToNat, Int.reduceLE, Int.reduceLT, Int.reduceEq, Int.reduceNe, reduceCtorEq, Nat.reduceLT, Nat.reduceLeDiff, app1, hlt, ← e2, hw]
        exact ⟨⟨by omega, by omega⟩, i + 1, by omega, ⟨hi', by rw [e3]; rfl⟩, ⟨rfl, by rw [e1]; rfl, rfl⟩, by rw [e4]⟩
  · have h1 : ¬ (i : Int) < fs.length := by omega
    have ei : i = fs.length := by omega
    subst ei
    rw [List.take_length] at i2 ⊢
    simp only [A_ref33_rowL0, go_sem, Nat.reduceMod, Nat.reduceBNe, Nat.reduceBEq, Nat.reduceEqDiff, Nat.reduceAdd, Int.reduceAdd, Nat.reduceMul, Nat.reduceSub, Int.reduceToNat, Int.reduceLE, Int.reduceLT, Int.reduceEq, Int.reduceNe, reduceCtorEq, Nat.reduceLT, Nat.reduceLeDiff, h1]
    generalize fs.filter ne0 = gs at i2
    have hlt : (gN gs).length = gs.length := List.length_map _
    by_cases h0 : gs = []
    · subst h0
      simp only [go_sem, Nat.reduceMod, Nat.reduceBNe, Nat.reduceBEq, Nat.reduceEqDiff, Nat.reduceAdd, Int.reduceAdd, Nat.reduceMul, Nat.reduceSub, Int.reduceToNat, Int.reduceLE, Int.reduceLT, Int.reduceEq, Int.reduceNe, reduceCtorEq, Nat.reduceLT, Nat.reduceLeDiff, hlt, List.length_nil]
      exact ⟨⟨_, rfl⟩, rfl⟩
    · have hp := List.length_pos_iff.2 h0
      have h2 : ¬ ((gs.length : Nat) : Int) = 0 := by omega
      have : rowL gs = (gN gs, gE gs) := by
        unfold rowL
        rw [i2, if_neg (by decide), if_neg h0]
      rw [this]
      simp only [go_sem, Nat.reduceMod, Nat.reduceBNe, Nat.reduceBEq, Nat.reduceEqDiff, Nat.reduceAdd, Int.reduceAdd, Nat.reduceMul, Nat.reduceSub, Int.reduceToNat, Int.reduceLE, Int.reduceLT, Int.reduceEq, Int.reduceNe, reduceCtorEq, Nat.reduceLT, Nat.reduceLeDiff, hlt, h2]
      exact ⟨⟨_, rfl⟩, rfl⟩
end
end Go.Avm

/- The reference's grids, on. -/
namespace Go.Avm
open Go Go.Fm
set_option maxRecDepth 10000
section
variable {X : Cx} (hX : X.P = Go.Proofs.Tryz.prog) (hs : Std X)
include hX hs
theorem ev_r33Grid (s : List UInt8) (hl : s.length < 1000000) : Ev X F_ref33_Grid [.str s] (grV (gridR s)) := by
  refine ev_of_k (evK_of_wpc hs (A_ref33_Grid_ok hX) ?_)
  simp only [A_ref33_Grid, go_sem, Nat.reduceMod, Nat.reduceBNe, Nat.reduceBEq, Nat.reduceEqDiff, Nat.reduceAdd, Int.reduceAdd, Nat.reduceMul, Nat.reduceSub, Int.reduceToNat, Int.reduceLE, Int.reduceLT, Int.reduceEq, Int.reduceNe, reduceCtorEq, Nat.reduceLT, Nat.reduceLeDiff]
  refine call_ev (ev_rLines hX hs s (by omega)) ?_
  unfold gridR
  have hll := lines_len s
  have hlm : ∀ p ∈ (Wo.linesS s).1, p.length ≤ s.length := fun p h => lines_mlen h
  unfold linesV
  generalize Wo.linesS s = L at hll hlm
  obtain ⟨ls, e⟩ := L
  dsimp only at hll hlm ⊢
  by_cases he : e = 0
  · subst he
    rw [if_neg (by decide)]
    simp only [go_sem, Nat.reduceMod, Nat.reduceBNe, Nat.reduceBEq, Nat.reduceEqDiff, Nat.reduceAdd, Int.reduceAdd, Nat.reduceMul, Nat.reduceSub, Int.reduceToNat, Int.reduceLE, Int.reduceLT, Int.reduceEq, Int.reduceNe, reduceCtorEq, Nat.reduceLT, Nat.reduceLeDiff]
    by_cases h0 : ls = []
    · subst h0
      simp only [go_sem, Nat.reduceMod, Nat.reduceBNe, Nat.reduceBEq, Nat.reduceEqDiff, Nat.reduceAdd, Int.reduceAdd, Nat.reduceMul, Nat.reduceSub, Int.reduceToNat, Int.reduceLE, Int.reduceLT, Int.reduceEq, Int.reduceNe, reduceCtorEq, Nat.reduceLT, Nat.reduceLeDiff, List.length_nil]
      exact ⟨⟨_, rfl⟩, rfl⟩
    · have hp := List.length_pos_iff.2 h0
      have h2 : ¬ ((ls.length : Nat) : Int) = 0 := by omega
      rw [if_neg h0]
      simp only [go_sem, Nat.reduceMod, Nat.reduceBNe, Nat.reduceBEq, Nat.reduceEqDiff, Nat.reduceAdd, Int.reduceAdd, Nat.reduceMul, Nat.reduceSub, Int.reduceToNat, Int.reduceLE, Int.reduceLT, Int.reduceEq, Int.reduceNe, reduceCtorEq, Nat.reduceLT, Nat.reduceLeDiff, h2]
      refine w_loop hs.hm (ι := Nat) (fun i => i ≤ ls.length ∧ ∀ j, j < i → rowBad ls j = 0) (fun i => [(8, .int .i64 i), (5, lst AV.str .ro ls), (2, .ptr 0 0), (7, .ptr 1 0)]) (fun i => [.box [.int .i64 0, .int .i64 0, .int .i64 0, .int .i64 0, .sl .ex []], .box [.int .i64 1, .int .i64 2, .int .i64 ls.length, .int .i64 (if i = 0 then 0 else ((Fm.rowAt ls 0).1.length : Nat)), lst (AV.int .i64) (.tok 2 1) (cellsG ls i)], .tok (cellsG ls i).length]) (fun i => ls.length - i) 0 ⟨⟨Nat.zero_le _, no_lt0⟩, _, _, wk_tokb 1 4 1 rfl rfl, ?_⟩ fun i hx => ?_
      · exact ⟨⟨rfl, rfl, rfl, rfl, trivial⟩, rfl⟩
      obtain ⟨i1, i2⟩ := hx
      by_cases hi : i < ls.length
      · have h1 : (i : Int) < ls.length := by omega
        have hw : IntKind.i64.wrap ((i : Int) + 1) = ((i + 1 : Nat) : Int) := by rw [wi64 (by omega)]; omega
        have hmem : ls.getD i [] ∈ ls := by rw [List.getD_eq_getElem?_getD, List.getElem?_eq_getElem hi]; exact List.getElem_mem _
        have hlen : (ls.getD i []).length < 1000000 := by have := hlm _ hmem; omega
        have hrl := rowR_len (ls.getD i [])
        have hcl := cellsG_len hlm i
        have hcb : i * (s.length + 1) ≤ 5000 * 1000000 := Nat.mul_le_mul (by omega) (by omega)
        simp only [A_ref33_GridL0, go_sem, Nat.reduceMod, Nat.reduceBNe, Nat.reduceBEq, Nat.reduceEqDiff, Nat.reduceAdd, Int.reduceAdd, Nat.reduceMul, Nat.reduceSub, Int.reduceToNat, Int.reduceLE, Int.reduceLT, Int.reduceEq, Int.reduceNe, reduceCtorEq, Nat.reduceLT, Nat.reduceLeDiff, h1]
        have ed : ls.getD i default = ls.getD i [] := rfl
        rw [ed]
        refine ⟨by omega, call_ev (ev_r33row hX hs (ls.getD i []) hlen) ?_⟩
        have er : rowR (ls.getD i []) = Fm.rowAt ls i := rfl
        rw [er] at hrl ⊢
        simp only [go_sem, Nat.reduceMod, Nat.reduceBNe, Nat.reduceBEq, Nat.reduceEqDiff, Nat.reduceAdd, Int.reduceAdd, Nat.reduceMul, Nat.reduceSub, Int.reduceToNat, Int.reduceLE, Int.reduceLT, Int.reduceEq, Int.reduceNe, reduceCtorEq, Nat.reduceLT, Nat.reduceLeDiff]
        have bad : rowBad ls i ≠ 0 → gridL ls = (zA, (i : Int) + 1, rowBad ls i) := fun h => by
          unfold gridL
          rw [Lat.ff_some hi (decide_eq_true h) fun j hj => by rw [i2 j hj]; rfl]
        have go : (Fm.rowAt ls i).2 = 0 → (0 < i → (Fm.rowAt ls i).1.length = (Fm.rowAt ls 0).1.length) → rowBad ls i = 0 := fun h h' => by
          unfold rowBad
          rw [if_neg (by omega), if_neg (fun hc => hc.2 (h' hc.1))]
        have hbd : (cellsG ls i).length + (Fm.rowAt ls i).1.length ≤ 5001000001 := by omega
        have nxt : rowBad ls i = 0 → ∃ j : Nat, ls.length - j < ls.length - i ∧ (j ≤ ls.length ∧ ∀ k, k < j → rowBad ls k = 0) ∧ AV.int .i64 (IntKind.i64.wrap ((i : Int) + 1)) = AV.int .i64 j ∧ [Blk.box [.int .i64 0, .int .i64 0, .int .i64 0, .int .i64 0, .sl .ex []], Blk.box [.int .i64 1, .int .i64 2, .int .i64 ls.length, .int .i64 ((Fm.rowAt ls i).1.length : Nat), lst (AV.int .i64) (.tok 2 1) (cellsG ls i ++ (Fm.rowAt ls i).1)], Blk.tok ((cellsG ls i).length + (Fm.rowAt ls i).1.length)] = [Blk.box [.int .i64 0, .int .i64 0, .int .i64 0, .int .i64 0, .sl .ex []], Blk.box [.int .i64 1, .int .i64 2, .int .i64 ls.length, .int .i64 (if j = 0 then 0 else ((Fm.rowAt ls 0).1.length : Nat)), lst (AV.int .i64) (.tok 2 1) (cellsG ls j)], Blk.tok (cellsG ls j).length] := fun h => by
          refine ⟨i + 1, by omega, ⟨hi, fun k hk => ?_⟩, by rw [hw], ?_⟩
          · rcases Nat.lt_or_eq_of_le (Nat.le_of_lt_succ hk) with h' | h'
            · exact i2 k h'
            · rw [h']; exact h
          · have el : (Fm.rowAt ls i).1.length = (Fm.rowAt ls 0).1.length := by
              rcases Nat.eq_zero_or_pos i with h0 | h0
              · rw [h0]
              · exact (rowAt_ok h).2 h0
            rw [if_neg (by omega), cellsG_succ, List.length_append, el]
        refine ⟨fun h => ⟨fun h3 => ⟨fun h4 => ?_, fun h4 => ⟨fun h5 => absurd h h5, fun _ => ?_⟩⟩, fun h3 => ⟨fun h5 => absurd h h5, fun _ => ?_⟩⟩, fun h => ?_⟩
        · rw [if_neg (by omega)] at h4
          have eb : rowBad ls i = 11 := by unfold rowBad; rw [if_neg (by omega), if_pos ⟨by omega, by omega⟩]
          rw [bad (by rw [eb]; decide), hw, eb]
          exact ⟨⟨_, rfl⟩, rfl⟩
        · rw [if_neg (by omega)] at h4
          exact ⟨⟨by omega, by omega⟩, nxt (go h fun _ => by omega)⟩
        · exact ⟨⟨by omega, by omega⟩, nxt (go h fun h0 => by omega)⟩
        · have eb : rowBad ls i = (Fm.rowAt ls i).2 := if_pos h
          have kf : Kept [] (grV (gridL ls)) (AV.tuple [AV.agg [.int .i64 0, .int .i64 0, .int .i64 0, .int .i64 0, .sl .ex []], .int .i64 (IntKind.i64.wrap ((i : Int) + 1)), .int .i64 (Fm.rowAt ls i).2]) [Blk.box [.int .i64 0, .int .i64 0, .int .i64 0, .int .i64 0, .sl .ex []], Blk.box [.int .i64 1, .int .i64 2, .int .i64 ls.length, .int .i64 (if i = 0 then 0 else ((Fm.rowAt ls 0).1.length : Nat)), lst (AV.int .i64) (.tok 2 1) (cellsG ls i)], Blk.tok (cellsG ls i).length] := by
            rw [bad (by rw [eb]; exact h), hw, eb]
            exact ⟨⟨_, rfl⟩, rfl⟩
          first | exact kf | exact ⟨fun _ => kf, fun h' => absurd h' h⟩
      · have h1 : ¬ (i : Int) < ls.length := by omega
        have ei : i = ls.length := by omega
        subst ei
        have hn : Lat.ff ls.length (fun i => decide (rowBad ls i ≠ 0)) = none := Lat.ff_none fun j hj => by rw [i2 j hj]; rfl
        simp only [A_ref33_GridL0, go_sem, Nat.reduceMod, Nat.reduceBNe, Nat.reduceBEq, Nat.reduceEqDiff, Nat.reduceAdd, Int.reduceAdd, Nat.reduceMul, Nat.reduceSub, Int.reduceToNat, Int.reduceLE, Int.reduceLT, Int.reduceEq, Int.reduceNe, reduceCtorEq, Nat.reduceLT, Nat.reduceLeDiff, h1]
        unfold gridL
        rw [hn]
        dsimp only
        refine ⟨fun hc => ?_, fun hc => ?_⟩
        · rw [if_pos (by omega)]
          exact ⟨⟨_, rfl⟩, rfl⟩
        · rw [if_neg (by omega), if_neg (by omega)]
          exact ⟨⟨_, rfl⟩, rfl⟩
  · rw [if_pos he]
    simp only [go_sem, Nat.reduceMod, Nat.reduceBNe, Nat.reduceBEq, Nat.reduceEqDiff, Nat.reduceAdd, Int.reduceAdd, Nat.reduceMul, Nat.reduceSub, Int.reduceToNat, Int.reduceLE, Int.reduceLT, Int.reduceEq, Int.reduceNe, reduceCtorEq, Nat.reduceLT, Nat.reduceLeDiff, he]
    exact ⟨⟨_, rfl⟩, rfl⟩
end
end Go.Avm

/- The law of grids. -/
namespace Go.Avm
open Go Go.Fm
set_option maxRecDepth 10000
section
variable {X : Cx} (hX : X.P = Go.Proofs.Tryz.prog) (hs : Std X) (hP : X.G (sRen.g 17) = some tabQ) {te : Nat} (hR : X.G (sRen.g 16) = some [.ifc te .undef])
include hX hs hP hR
theorem ev_FormatGrids (s : List UInt8) : Ev X F_law33_FormatGrids [.str s] (.bool true) := by
  refine ev_of_wpc hs (A_law33_FormatGrids_ok hX) 3 ?_
  simp only [A_law33_FormatGrids, go_sem, Nat.reduceMod, Nat.reduceBNe, Nat.reduceBEq, Nat.reduceEqDiff, Nat.reduceAdd, Int.reduceAdd, Nat.reduceMul, Nat.reduceSub, Int.reduceToNat, Int.reduceLE, Int.reduceLT, Int.reduceEq, Int.reduceNe, reduceCtorEq, Nat.reduceLT, Nat.reduceLeDiff]
  refine ⟨fun h => ?_, fun h => ?_⟩
  · refine call_ev (ev_shown hX hs hP hR) ?_
    simp only [go_sem, Nat.reduceMod, Nat.reduceBNe, Nat.reduceBEq, Nat.reduceEqDiff, Nat.reduceAdd, Int.reduceAdd, Nat.reduceMul, Nat.reduceSub, Int.reduceToNat, Int.reduceLE, Int.reduceLT, Int.reduceEq, Int.reduceNe, reduceCtorEq, Nat.reduceLT, Nat.reduceLeDiff]
  · have hl : s.length ≤ 3000 := by omega
    have hG := ev_Grid hX hs hR s (by omega)
    have hG2 := ev_r33Grid hX hs s (by omega)
    have hml := mrS_len s
    have hG3 := ev_Grid hX hs hR (mrS s) (by omega)
    rw [grid_mr s hl] at hG3
    have hgc := grid_len s
    generalize gridR s = g at hG hG2 hG3 hgc
    obtain ⟨a, i, e⟩ := g
    dsimp only at hgc
    have hsm := ev_same6 hX hs a a (by omega)
    rw [Go.Tb.sameA_refl] at hsm
    unfold grV at hG hG2 hG3
    dsimp only at hG hG2 hG3
    obtain ⟨k, r, l0, l1, c⟩ := a
    refine call_ev hG ?_
    simp only [arr_cells, go_sem, Nat.reduceMod, Nat.reduceBNe, Nat.reduceBEq, Nat.reduceEqDiff, Nat.reduceAdd, Int.reduceAdd, Nat.reduceMul, Nat.reduceSub, Int.reduceToNat, Int.reduceLE, Int.reduceLT, Int.reduceEq, Int.reduceNe, reduceCtorEq, Nat.reduceLT, Nat.reduceLeDiff]
    refine call_ev hG2 ?_
    simp only [arr_cells, go_sem, Nat.reduceMod, Nat.reduceBNe, Nat.reduceBEq, Nat.reduceEqDiff, Nat.reduceAdd, Int.reduceAdd, Nat.reduceMul, Nat.reduceSub, Int.reduceToNat, Int.reduceLE, Int.reduceLT, Int.reduceEq, Int.reduceNe, reduceCtorEq, Nat.reduceLT, Nat.reduceLeDiff]
    refine call_ev hsm ?_
    simp only [go_sem, Nat.reduceMod, Nat.reduceBNe, Nat.reduceBEq, Nat.reduceEqDiff, Nat.reduceAdd, Int.reduceAdd, Nat.reduceMul, Nat.reduceSub, Int.reduceToNat, Int.reduceLE, Int.reduceLT, Int.reduceEq, Int.reduceNe, reduceCtorEq, Nat.reduceLT, Nat.reduceLeDiff]
    refine w_loop' hs.hm (ι := Nat) (fun j => j ≤ s.length) (fun j => [(10, .int .i64 j), (9, .str (mrS (s.take j))), (0, .str s), (3, .ptr 0 0), (4, .int .i64 i), (5, .int .i64 e)]) (fun _ => [.box [.int .i64 k, .int .i64 r, .int .i64 l0, .int .i64 l1, lst (AV.int .i64) .ro c], .box [.int .i64 k, .int .i64 r, .int .i64 l0, .int .i64 l1, lst (AV.int .i64) .ro c]]) (fun j => s.length - j) 0 ⟨Nat.zero_le _, ⟨rfl, rfl, rfl, rfl, rfl, rfl, trivial⟩, rfl⟩ fun j hj => ?_
    by_cases hj' : j < s.length
    · have h1 : (j : Int) < s.length := by omega
      have hw : IntKind.i64.wrap ((j : Int) + 1) = ((j + 1 : Nat) : Int) := by rw [wi64 (by omega)]; omega
      have em := mrS_take hj'
      have hml2 := mrS_len (s.take j)
      have hlt : (s.take j).length = j := by rw [List.length_take]; omega
      have ex : (s.take (j + 1)).drop j = [s.getD j 0] := by
        rw [List.take_succ_eq_append_getElem hj', List.drop_append_of_le_length (by omega), List.drop_of_length_le (by omega), List.getD_eq_getElem?_getD, List.getElem?_eq_getElem hj']
        rfl
      simp only [A_law33_FormatGridsL0, go_sem, Nat.reduceMod, Nat.reduceBNe, Nat.reduceBEq, Nat.reduceEqDiff, Nat.reduceAdd, Int.reduceAdd, Nat.reduceMul, Nat.reduceSub, Int.reduceToNat, Int.reduceLE, Int.reduceLT, Int.reduceEq, Int.reduceNe, reduceCtorEq, Nat.reduceLT, Nat.reduceLeDiff, h1, hw]
      have eb : ∀ n : Nat, n < 256 → ((((s.getD j 0).toNat : Nat) : Int) = n ↔ s.getD j 0 = UInt8.ofNat n) := fun n hn => by
        constructor
        · intro h
          apply UInt8.toNat_inj.1
          rw [UInt8.toNat_ofNat', Nat.mod_eq_of_lt hn]
          omega
        · intro h
          rw [h, UInt8.toNat_ofNat', Nat.mod_eq_of_lt hn]
      have b32 := eb 32 (by decide)
      have b10 := eb 10 (by decide)
      have m1 : (s.getD j 0 = 32 ∨ s.getD j 0 = 10) → mr1 (s.getD j 0) = [32, s.getD j 0] := fun h => if_pos h
      have m2 : ¬ (s.getD j 0 = 32 ∨ s.getD j 0 = 10) → mr1 (s.getD j 0) = [s.getD j 0] := fun h => if_neg h
      rw [ex]
      refine ⟨by omega, fun h3 => ?_, fun h3 => ⟨by omega, fun h4 => ?_, fun h4 => ?_⟩⟩
      · refine ⟨by omega, by omega, by simp only [List.length_append, List.length_singleton]; omega, j + 1, by omega, hj', rfl, ?_⟩
        rw [em, m1 (.inl (b32.1 h3)), List.append_assoc]
        rfl
      · refine ⟨by omega, by omega, by simp only [List.length_append, List.length_singleton]; omega, j + 1, by omega, hj', rfl, ?_⟩
        rw [em, m1 (.inr (b10.1 h4)), List.append_assoc]
        rfl
      · refine ⟨by omega, by simp only [List.length_singleton]; omega, j + 1, by omega, hj', rfl, ?_⟩
        rw [em, m2 (fun hc => hc.elim (fun h => h3 (b32.2 h)) fun h => h4 (b10.2 h))]
    · have h1 : ¬ (j : Int) < s.length := by omega
      have ej : j = s.length := by omega
      subst ej
      simp only [A_law33_FormatGridsL0, go_sem, Nat.reduceMod, Nat.reduceBNe, Nat.reduceBEq, Nat.reduceEqDiff, Nat.reduceAdd, Int.reduceAdd, Nat.reduceMul, Nat.reduceSub, Int.reduceToNat, Int.reduceLE, Int.reduceLT, Int.reduceEq, Int.reduceNe, reduceCtorEq, Nat.reduceLT, Nat.reduceLeDiff, h1]
      rw [List.take_length]
      refine call_ev hG3 ?_
      simp only [arr_cells, go_sem, Nat.reduceMod, Nat.reduceBNe, Nat.reduceBEq, Nat.reduceEqDiff, Nat.reduceAdd, Int.reduceAdd, Nat.reduceMul, Nat.reduceSub, Int.reduceToNat, Int.reduceLE, Int.reduceLT, Int.reduceEq, Int.reduceNe, reduceCtorEq, Nat.reduceLT, Nat.reduceLeDiff]
      refine call_ev hsm ?_
      simp only [go_sem, Nat.reduceMod, Nat.reduceBNe, Nat.reduceBEq, Nat.reduceEqDiff, Nat.reduceAdd, Int.reduceAdd, Nat.reduceMul, Nat.reduceSub, Int.reduceToNat, Int.reduceLE, Int.reduceLT, Int.reduceEq, Int.reduceNe, reduceCtorEq, Nat.reduceLT, Nat.reduceLeDiff]
      refine call_ev (ev_shown hX hs hP hR) ?_
      simp only [go_sem, Nat.reduceMod, Nat.reduceBNe, Nat.reduceBEq, Nat.reduceEqDiff, Nat.reduceAdd, Int.reduceAdd, Nat.reduceMul, Nat.reduceSub, Int.reduceToNat, Int.reduceLE, Int.reduceLT, Int.reduceEq, Int.reduceNe, reduceCtorEq, Nat.reduceLT, Nat.reduceLeDiff]
end
theorem ev_LGrids {X : Cx} (hX : X.P = Go.Proofs.Tryz.prog) (hs : Std X) (he : GEnv X) (s : List UInt8) : Ev X F_law33_FormatGrids [.str s] (.bool true) := by
  obtain ⟨hP, te, hR⟩ := he
  exact ev_FormatGrids hX hs hP hR s
end Go.Avm
