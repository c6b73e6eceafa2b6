/- The reference's cells. -/
import Derived.Test.YtcldomkahgaplaaGreatDoorAF4
import Derived.Test.YtcldomkahgaplaaGreatDoorAK2
import Derived.Test.YtcldomkahgaplaaGreatDoorAV2
import Derived.Test.YtcldomkahgaplaaGreatDoorM2
set_option linter.unusedSectionVars false
set_option linter.unusedSimpArgs false
set_option linter.unusedVariables false

/- The reference's cells. -/
namespace Go.Avm
open Go Go.Fm
set_option maxRecDepth 10000
section
variable {X : Cx} (hX : X.P = Go.Proofs.Tryz.prog) (hs : Std X)
include hX hs
theorem ev_r33digits (v : Int) (hv : -9223372036854775808 ≤ v ∧ v ≤ 9223372036854775807) : Ev X F_ref33_digits [.int .i64 v] (.str (Lib.itoa v)) := by
  refine ev_of_wpc hs (A_ref33_digits_ok hX) 0 ?_
  simp only [A_ref33_digits, go_sem, Nat.reduceMod, Nat.reduceBNe, Nat.reduceBEq, Nat.reduceEqDiff, Nat.reduceAdd, Int.reduceAdd, Nat.reduceMul, Nat.reduceSub, Int.reduceToNat, Int.reduceLE, Int.reduceLT, Int.reduceEq, Int.reduceNe, reduceCtorEq, Nat.reduceLT, Nat.reduceLeDiff]
  refine call_ev (ev_rDigits hX hs v hv) ?_
  simp only [go_sem, Nat.reduceMod, Nat.reduceBNe, Nat.reduceBEq, Nat.reduceEqDiff, Nat.reduceAdd, Int.reduceAdd, Nat.reduceMul, Nat.reduceSub, Int.reduceToNat, Int.reduceLE, Int.reduceLT, Int.reduceEq, Int.reduceNe, reduceCtorEq, Nat.reduceLT, Nat.reduceLeDiff]
theorem ev_r33cell (k v : Int) (hv : -9223372036854775808 ≤ v ∧ v ≤ 9223372036854775807) : Ev X F_ref33_cell [.int .i64 k, .int .i64 v] (.str (cellS k v)) := by
  refine ev_of_wpc hs (A_ref33_cell_ok hX) 0 ?_
  simp only [A_ref33_cell, go_sem, Nat.reduceMod, Nat.reduceBNe, Nat.reduceBEq, Nat.reduceEqDiff, Nat.reduceAdd, Int.reduceAdd, Nat.reduceMul, Nat.reduceSub, Int.reduceToNat, Int.reduceLE, Int.reduceLT, Int.reduceEq, Int.reduceNe, reduceCtorEq, Nat.reduceLT, Nat.reduceLeDiff]
  refine ⟨fun h => ?_, fun h => ?_⟩
  · refine call_ev (ev_r33digits hX hs v hv) ?_
    simp only [go_sem, Nat.reduceMod, Nat.reduceBNe, Nat.reduceBEq, Nat.reduceEqDiff, Nat.reduceAdd, Int.reduceAdd, Nat.reduceMul, Nat.reduceSub, Int.reduceToNat, Int.reduceLE, Int.reduceLT, Int.reduceEq, Int.reduceNe, reduceCtorEq, Nat.reduceLT, Nat.reduceLeDiff]
    rw [cellS, if_pos h]
  · by_cases h3 : 32 ≤ v
    · by_cases h4 : v ≤ 126
      · have hb : b2sX (.sl .ex [.int .u8 (IntKind.u8.wrap v)]) = some (true, .str [UInt8.ofNat v.toNat], none) := by
          have e : ([.int .u8 (IntKind.u8.wrap v)] : List AV) = [u8 (UInt8.ofNat v.toNat)] := by
            rw [wu8 (by omega)]
            simp only [u8, UInt8.toNat_ofNat']
            congr 2
            omega
          rw [e]
          exact bs_1 .ex _
        simp only [go_sem, Nat.reduceMod, Nat.reduceBNe, Nat.reduceBEq, Nat.reduceEqDiff, Nat.reduceAdd, Int.reduceAdd, Nat.reduceMul, Nat.reduceSub, Int.reduceToNat, Int.reduceLE, Int.reduceLT, Int.reduceEq, Int.reduceNe, reduceCtorEq, Nat.reduceLT, Nat.reduceLeDiff, h3, h4, hb]
        rw [cellS, if_neg h, if_pos ⟨h3, h4⟩]
      · simp only [go_sem, Nat.reduceMod, Nat.reduceBNe, Nat.reduceBEq, Nat.reduceEqDiff, Nat.reduceAdd, Int.reduceAdd, Nat.reduceMul, Nat.reduceSub, Int.reduceToNat, Int.reduceLE, Int.reduceLT, Int.reduceEq, Int.reduceNe, reduceCtorEq, Nat.reduceLT, Nat.reduceLeDiff, h3, h4]
        rw [cellS, if_neg h, if_neg (fun c => h4 c.2)]
    · simp only [go_sem, Nat.reduceMod, Nat.reduceBNe, Nat.reduceBEq, Nat.reduceEqDiff, Nat.reduceAdd, Int.reduceAdd, Nat.reduceMul, Nat.reduceSub, Int.reduceToNat, Int.reduceLE, Int.reduceLT, Int.reduceEq, Int.reduceNe, reduceCtorEq, Nat.reduceLT, Nat.reduceLeDiff, h3]
      rw [cellS, if_neg h, if_neg (fun c => h3 c.1)]
theorem ev_r33blanks (n : Int) (c : UInt8) (hn : n ≤ 100000) : Ev X F_ref33_blanks [.int .i64 n, .str [c]] (.str (List.replicate n.toNat c)) := by
  refine ev_of_wpc hs (A_ref33_blanks_ok hX) 0 ?_
  simp only [A_ref33_blanks, go_sem, Nat.reduceMod, Nat.reduceBNe, Nat.reduceBEq, Nat.reduceEqDiff, Nat.reduceAdd, Int.reduceAdd, Nat.reduceMul, Nat.reduceSub, Int.reduceToNat, Int.reduceLE, Int.reduceLT, Int.reduceEq, Int.reduceNe, reduceCtorEq, Nat.reduceLT, Nat.reduceLeDiff]
  refine w_loop' hs.hm (ι := Nat) (fun i => i ≤ n.toNat) (fun i => [(6, .int .i64 i), (0, .int .i64 n), (1, .str [c]), (5, .str (List.replicate i c))]) (fun _ => []) (fun i => n.toNat - i) 0 ⟨Nat.zero_le _, ⟨rfl, rfl, rfl, rfl, trivial⟩, rfl⟩ fun i hi => ?_
  by_cases hi' : i < n.toNat
  · have h1 : (i : Int) < n := by omega
    have hw : IntKind.i64.wrap ((i : Int) + 1) = ((i + 1 : Nat) : Int) := by rw [wi64 (by omega)]; omega
    simp only [A_ref33_blanksL0, go_sem, Nat.reduceMod, Nat.reduceBNe, Nat.reduceBEq, Nat.reduceEqDiff, Nat.reduceAdd, Int.reduceAdd, Nat.reduceMul, Nat.reduceSub, Int.reduceToNat, Int.reduceLE, Int.reduceLT, Int.reduceEq, Int.reduceNe, reduceCtorEq, Nat.reduceLT, Nat.reduceLeDiff, h1, hw, List.length_replicate]
    exact ⟨by omega, i + 1, by omega, hi', rfl, by rw [List.replicate_succ']⟩
  · have h1 : ¬ (i : Int) < n := by omega
    simp only [A_ref33_blanksL0, go_sem, Nat.reduceMod, Nat.reduceBNe, Nat.reduceBEq, Nat.reduceEqDiff, Nat.reduceAdd, Int.reduceAdd, Nat.reduceMul, Nat.reduceSub, Int.reduceToNat, Int.reduceLE, Int.reduceLT, Int.reduceEq, Int.reduceNe, reduceCtorEq, Nat.reduceLT, Nat.reduceLeDiff, h1]
    rw [show i = n.toNat by omega]
theorem ev_r33widest (k : Int) (l : List Int) (s : List UInt8) (hv : ∀ v ∈ l, -9223372036854775808 ≤ v ∧ v ≤ 9223372036854775807) (hl : l.length < 1000000) (hn : s.length ≤ 1000) :
    Ev X F_ref33_widest [.int .i64 k, lst (AV.int .i64) .ro l, .str s] (.int .i64 (wid k l s.length : Nat)) := by
  refine ev_of_wpc hs (A_ref33_widest_ok hX) 0 ?_
  simp only [A_ref33_widest, go_sem, Nat.reduceMod, Nat.reduceBNe, Nat.reduceBEq, Nat.reduceEqDiff, Nat.reduceAdd, Int.reduceAdd, Nat.reduceMul, Nat.reduceSub, Int.reduceToNat, Int.reduceLE, Int.reduceLT, Int.reduceEq, Int.reduceNe, reduceCtorEq, Nat.reduceLT, Nat.reduceLeDiff]
  refine w_loop' hs.hm (ι := Nat) (fun i => i ≤ l.length) (fun i => [(8, .int .i64 i), (0, .int .i64 k), (1, lst (AV.int .i64) .ro l), (7, .int .i64 (wid k (l.take i) s.length : Nat))]) (fun _ => []) (fun i => l.length - i) 0 ⟨Nat.zero_le _, ⟨rfl, rfl, rfl, rfl, trivial⟩, rfl⟩ fun i hi => ?_
  by_cases hi' : i < l.length
  · have h1 : (i : Int) < l.length := by omega
    have hw : IntKind.i64.wrap ((i : Int) + 1) = ((i + 1 : Nat) : Int) := by rw [wi64 (by omega)]; omega
    have hr := hv (l.getD i 0) (by rw [List.getD_eq_getElem?_getD, List.getElem?_eq_getElem hi']; exact List.getElem_mem _)
    have ew := wid_take (k := k) (n := s.length) hi'
    simp only [A_ref33_widestL0, go_sem, Nat.reduceMod, Nat.reduceBNe, Nat.reduceBEq, Nat.reduceEqDiff, Nat.reduceAdd, Int.reduceAdd, Nat.reduceMul, Nat.reduceSub, Int.reduceToNat, Int.reduceLE, Int.reduceLT, Int.reduceEq, Int.reduceNe, reduceCtorEq, Nat.reduceLT, Nat.reduceLeDiff, h1, hw, def0]
    refine ⟨by omega, call_ev (ev_r33cell hX hs k _ hr) ?_⟩
    simp only [go_sem, Nat.reduceMod, Nat.reduceBNe, Nat.reduceBEq, Nat.reduceEqDiff, Nat.reduceAdd, Int.reduceAdd, Nat.reduceMul, Nat.reduceSub, Int.reduceToNat, Int.reduceLE, Int.reduceLT, Int.reduceEq, Int.reduceNe, reduceCtorEq, Nat.reduceLT, Nat.reduceLeDiff, hw]
    refine ⟨fun h => ⟨i + 1, by omega, hi', rfl, ?_⟩, fun h => ⟨i + 1, by omega, hi', rfl, ?_⟩⟩
    · rw [ew, show max (wid k (l.take i) s.length) (cellS k (l.getD i 0)).length = (cellS k (l.getD i 0)).length by omega]
    · rw [ew, show max (wid k (l.take i) s.length) (cellS k (l.getD i 0)).length = wid k (l.take i) s.length by omega]
  · have h1 : ¬ (i : Int) < l.length := by omega
    simp only [A_ref33_widestL0, go_sem, Nat.reduceMod, Nat.reduceBNe, Nat.reduceBEq, Nat.reduceEqDiff, Nat.reduceAdd, Int.reduceAdd, Nat.reduceMul, Nat.reduceSub, Int.reduceToNat, Int.reduceLE, Int.reduceLT, Int.reduceEq, Int.reduceNe, reduceCtorEq, Nat.reduceLT, Nat.reduceLeDiff, h1]
    rw [List.take_of_length_le (by omega)]
theorem ev_r33aligned (k : Int) (s : List UInt8) (w : Nat) (hw : w ≤ 1000) (hl : s.length ≤ 1000) : Ev X F_ref33_aligned [.int .i64 k, .str s, .int .i64 (w : Nat)] (.str (padB (decide (k = 1)) w s)) := by
  refine ev_of_wpc hs (A_ref33_aligned_ok hX) 0 ?_
  have hb := ev_r33blanks hX hs ((w : Int) - s.length) 32 (by omega)
  have ht : ((w : Int) - (s.length : Int)).toNat = w - s.length := by omega
  rw [ht] at hb
  have hww : IntKind.i64.wrap ((w : Int) - (s.length : Int)) = (w : Int) - s.length := by rw [wi64 (by omega)]
  simp only [A_ref33_aligned, go_sem, Nat.reduceMod, Nat.reduceBNe, Nat.reduceBEq, Nat.reduceEqDiff, Nat.reduceAdd, Int.reduceAdd, Nat.reduceMul, Nat.reduceSub, Int.reduceToNat, Int.reduceLE, Int.reduceLT, Int.reduceEq, Int.reduceNe, reduceCtorEq, Nat.reduceLT, Nat.reduceLeDiff, hww]
  refine ⟨fun h => ?_, fun h => ?_⟩
  · refine call_ev hb ?_
    simp only [go_sem, Nat.reduceMod, Nat.reduceBNe, Nat.reduceBEq, Nat.reduceEqDiff, Nat.reduceAdd, Int.reduceAdd, Nat.reduceMul, Nat.reduceSub, Int.reduceToNat, Int.reduceLE, Int.reduceLT, Int.reduceEq, Int.reduceNe, reduceCtorEq, Nat.reduceLT, Nat.reduceLeDiff, List.length_replicate]
    refine ⟨by omega, ?_⟩
    rw [padB, if_pos (decide_eq_true h), blk]
  · refine call_ev hb ?_
    simp only [go_sem, Nat.reduceMod, Nat.reduceBNe, Nat.reduceBEq, Nat.reduceEqDiff, Nat.reduceAdd, Int.reduceAdd, Nat.reduceMul, Nat.reduceSub, Int.reduceToNat, Int.reduceLE, Int.reduceLT, Int.reduceEq, Int.reduceNe, reduceCtorEq, Nat.reduceLT, Nat.reduceLeDiff, List.length_replicate]
    refine ⟨by omega, ?_⟩
    rw [padB, if_neg (by simpa using h), blk]
theorem ev_r33joined (l : List (List UInt8)) (hl : l.length ≤ 1000) (hm : ∀ x ∈ l, x.length ≤ 1000) : Ev X F_ref33_joined [lst AV.str .ro l] (.str (Lib.join l [32, 32] ++ [10])) := by
  refine ev_of_wpc hs (A_ref33_joined_ok hX) 0 ?_
  simp only [A_ref33_joined, go_sem, Nat.reduceMod, Nat.reduceBNe, Nat.reduceBEq, Nat.reduceEqDiff, Nat.reduceAdd, Int.reduceAdd, Nat.reduceMul, Nat.reduceSub, Int.reduceToNat, Int.reduceLE, Int.reduceLT, Int.reduceEq, Int.reduceNe, reduceCtorEq, Nat.reduceLT, Nat.reduceLeDiff]
  refine w_loop' hs.hm (ι := Nat) (fun i => i ≤ l.length) (fun i => [(4, .int .i64 i), (0, lst AV.str .ro l), (3, .str (Lib.join (l.take i) [32, 32]))]) (fun _ => []) (fun i => l.length - i) 0 ⟨Nat.zero_le _, ⟨rfl, rfl, rfl, trivial⟩, rfl⟩ fun i hi => ?_
  have hjl := join_len [32, 32] 1000 (l.take i) fun x hx => hm x (List.mem_of_mem_take hx)
  have hjb : (l.take i).length * ([32, 32].length + 1000) ≤ 1000 * 1002 := Nat.mul_le_mul (by rw [List.length_take]; omega) (Nat.le_refl _)
  by_cases hi' : i < l.length
  · have h1 : (i : Int) < l.length := by omega
    have hw : IntKind.i64.wrap ((i : Int) + 1) = ((i + 1 : Nat) : Int) := by rw [wi64 (by omega)]; omega
    have ej := join_take hi' [32, 32]
    have hx := hm (l.getD i []) (by rw [List.getD_eq_getElem?_getD, List.getElem?_eq_getElem hi']; exact List.getElem_mem _)
    have ed : l.getD i default = l.getD i [] := rfl
    simp only [A_ref33_joinedL0, go_sem, Nat.reduceMod, Nat.reduceBNe, Nat.reduceBEq, Nat.reduceEqDiff, Nat.reduceAdd, Int.reduceAdd, Nat.reduceMul, Nat.reduceSub, Int.reduceToNat, Int.reduceLE, Int.reduceLT, Int.reduceEq, Int.reduceNe, reduceCtorEq, Nat.reduceLT, Nat.reduceLeDiff, h1, hw]
    rw [ed]
    refine ⟨fun h0 => ?_, fun h0 => ?_⟩
    · rw [if_pos (by omega)] at ej
      exact ⟨by omega, by omega, by simp only [List.length_append, List.length_cons, List.length_nil]; omega, i + 1, by omega, hi', rfl, by rw [ej]⟩
    · rw [if_neg (by omega)] at ej
      exact ⟨by omega, by omega, i + 1, by omega, hi', rfl, by rw [ej]⟩
  · have h1 : ¬ (i : Int) < l.length := by omega
    have et : l.take i = l := List.take_of_length_le (by omega)
    rw [et] at hjl hjb ⊢
    simp only [A_ref33_joinedL0, go_sem, Nat.reduceMod, Nat.reduceBNe, Nat.reduceBEq, Nat.reduceEqDiff, Nat.reduceAdd, Int.reduceAdd, Nat.reduceMul, Nat.reduceSub, Int.reduceToNat, Int.reduceLE, Int.reduceLT, Int.reduceEq, Int.reduceNe, reduceCtorEq, Nat.reduceLT, Nat.reduceLeDiff, h1]
    omega
end
end Go.Avm

/- The reference's tables. -/
namespace Go.Avm
open Go Go.Fm
set_option maxRecDepth 10000
section
variable {X : Cx} (hX : X.P = Go.Proofs.Tryz.prog) (hs : Std X)
include hX hs
theorem ev_r33Widths (t : Go.Tb.Tab) (hv : ∀ a ∈ t.c, ∀ v ∈ a.c, -9223372036854775808 ≤ v ∧ v ≤ 9223372036854775807) (hl : ∀ a ∈ t.c, a.c.length < 1000000) :
    Ev X F_ref33_Widths [tabV t] (.tuple [lst (AV.int .i64) .ro (widthsR t).1, .int .i64 (widthsR t).2]) := by
  refine ev_of_k (evK_of_wpc hs (A_ref33_Widths_ok hX) ?_)
  simp only [A_ref33_Widths, tabV, go_sem, Nat.reduceMod, Nat.reduceBNe, Nat.reduceBEq, Nat.reduceEqDiff, Nat.reduceAdd, Int.reduceAdd, Nat.reduceMul, Nat.reduceSub, Int.reduceToNat, Int.reduceLE, Int.reduceLT, Int.reduceEq, Int.reduceNe, reduceCtorEq, Nat.reduceLT, Nat.reduceLeDiff]
  refine call_ev (ev_r13Check hX hs t hl) ?_
  unfold widthsR
  by_cases h : (Go.Tb.chk t).2 = 0
  · have hg := Go.Tb.chk_good.1 h
    have e0 : drawnR t = (drawnL t t.c.length, 0) := by unfold drawnR; rw [if_neg (by omega)]
    rw [e0]
    simp only [go_sem, Nat.reduceMod, Nat.reduceBNe, Nat.reduceBEq, Nat.reduceEqDiff, Nat.reduceAdd, Int.reduceAdd, Nat.reduceMul, Nat.reduceSub, Int.reduceToNat, Int.reduceLE, Int.reduceLT, Int.reduceEq, Int.reduceNe, reduceCtorEq, Nat.reduceLT, Nat.reduceLeDiff, h]
    have h16 := hg.len
    have heq := hg.eq
    refine w_loop hs.hm (ι := Nat) (fun i => i ≤ t.c.length) (fun i => [(7, .int .i64 i), (1, .ptr 0 0), (6, lst (AV.int .i64) (.tok 1 1) (widL (drawnL t i)))]) (fun i => [.box [lst AV.str .ro t.n, lst arrV .ro t.c], .tok i]) (fun i => t.c.length - i) 0 ⟨Nat.zero_le _, _, _, wk_tok 6 1 rfl, ?_⟩ fun i hi => ?_
    · exact ⟨⟨rfl, rfl, rfl, trivial⟩, rfl⟩
    by_cases hi' : i < t.c.length
    · have h1 : (i : Int) < t.n.length := by omega
      have h2 : (i : Int) < t.c.length := by omega
      have hw : IntKind.i64.wrap ((i : Int) + 1) = ((i + 1 : Nat) : Int) := by rw [wi64 (by omega)]; omega
      have hcm := col_mem hi'
      have hnm : (t.n.getD i default).length ≤ 1000 := by
        rw [nm_eq t i (by omega)]
        have := Go.Tb.nm_len (Go.Tb.colE_0 (hg.col i (by omega))).1
        omega
      have e := drawnL_succ t i
      have ew : widL (drawnL t i) ++ [((wid (t.col i).k (t.col i).c (t.n.getD i default).length : Nat) : Int)] = widL (drawnL t (i + 1)) := by rw [e, widL_app]; rfl
      have hdl : (widL (drawnL t i)).length = i := by rw [widL, List.length_map, drawnL_len]
      simp only [A_ref33_WidthsL0, go_sem, Nat.reduceMod, Nat.reduceBNe, Nat.reduceBEq, Nat.reduceEqDiff, Nat.reduceAdd, Int.reduceAdd, Nat.reduceMul, Nat.reduceSub, Int.reduceToNat, Int.reduceLE, Int.reduceLT, Int.reduceEq, Int.reduceNe, reduceCtorEq, Nat.reduceLT, Nat.reduceLeDiff, h1, h2]
      rw [col_eq t i hi']
      simp only [arr_cells, go_sem, Nat.reduceMod, Nat.reduceBNe, Nat.reduceBEq, Nat.reduceEqDiff, Nat.reduceAdd, Int.reduceAdd, Nat.reduceMul, Nat.reduceSub, Int.reduceToNat, Int.reduceLE, Int.reduceLT, Int.reduceEq, Int.reduceNe, reduceCtorEq, Nat.reduceLT, Nat.reduceLeDiff]
      have ec : ∀ d, t.c.getD i d = t.col i := col_eq t i hi'
      rw [ec]
      refine ⟨by omega, by omega, by omega, callq_ev (ev_r33widest hX hs _ _ _ (hv _ hcm) (hl _ hcm) hnm) ?_⟩
      simp only [go_sem, Nat.reduceMod, Nat.reduceBNe, Nat.reduceBEq, Nat.reduceEqDiff, Nat.reduceAdd, Int.reduceAdd, Nat.reduceMul, Nat.reduceSub, Int.reduceToNat, Int.reduceLE, Int.reduceLT, Int.reduceEq, Int.reduceNe, reduceCtorEq, Nat.reduceLT, Nat.reduceLeDiff, app1, hdl, ew, hw]
      exact ⟨⟨by omega, by omega⟩, i + 1, by omega, hi', ⟨rfl, rfl⟩, rfl⟩
    · have h1 : ¬ (i : Int) < t.n.length := by omega
      simp only [A_ref33_WidthsL0, go_sem, Nat.reduceMod, Nat.reduceBNe, Nat.reduceBEq, Nat.reduceEqDiff, Nat.reduceAdd, Int.reduceAdd, Nat.reduceMul, Nat.reduceSub, Int.reduceToNat, Int.reduceLE, Int.reduceLT, Int.reduceEq, Int.reduceNe, reduceCtorEq, Nat.reduceLT, Nat.reduceLeDiff, h1]
      rw [show i = t.c.length by omega]
      exact ⟨⟨_, rfl⟩, rfl⟩
  · have e0 : drawnR t = ([], (Go.Tb.chk t).2) := if_pos h
    rw [e0]
    dsimp only
    rw [if_pos h]
    simp only [go_sem, Nat.reduceMod, Nat.reduceBNe, Nat.reduceBEq, Nat.reduceEqDiff, Nat.reduceAdd, Int.reduceAdd, Nat.reduceMul, Nat.reduceSub, Int.reduceToNat, Int.reduceLE, Int.reduceLT, Int.reduceEq, Int.reduceNe, reduceCtorEq, Nat.reduceLT, Nat.reduceLeDiff, h]
    exact ⟨⟨_, rfl⟩, rfl⟩
end
end Go.Avm
