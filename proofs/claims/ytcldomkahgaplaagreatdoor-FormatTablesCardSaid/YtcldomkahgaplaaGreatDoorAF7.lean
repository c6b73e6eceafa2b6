/- The reference's tables, on. -/
import Derived.Test.YtcldomkahgaplaaGreatDoorAF6
set_option linter.unusedSectionVars false
set_option linter.unusedSimpArgs false
set_option linter.unusedVariables false

/- The reference's tables, on. -/
namespace Go.Avm
open Go Go.Fm
set_option maxRecDepth 10000
section
variable {X : Cx} (hX : X.P = Go.Proofs.Tryz.prog) (hs : Std X)
include hX hs
theorem rtab_L2 {Q : Exit → Fr → Heap → Prop} {F : FL} (t : Go.Tb.Tab) (row : Nat) (K : Heap) (v9 : AV) (hv : ∀ a ∈ t.c, ∀ v ∈ a.c, -9223372036854775808 ≤ v ∧ v ≤ 9223372036854775807) (hn : t.c.length ≤ 16) (hr : ∀ i, i < t.c.length → row < (t.col i).c.length) (hw : ∀ i, i < t.c.length → (colAt (drawnL t t.c.length) i).w ≤ 1000) (hrow : row ≤ 400)
    (hF : FL.has F.get [(12, .int .i64 0), (4, lst (AV.int .i64) .ro (widL (drawnL t t.c.length))), (1, .ptr 0 0), (10, .int .i64 row), (9, v9), (11, .sl .ex [])])
    (hQ : ∀ (F' : FL) (G : Heap) (tk : Nat), FL.has F'.get [(11, lst AV.str (.tok tk 1) ((List.range t.c.length).map (cellG (drawnL t t.c.length) row))), (4, lst (AV.int .i64) .ro (widL (drawnL t t.c.length))), (1, .ptr 0 0), (10, .int .i64 row), (9, v9)] → Q (.exit 4) F'.get (.box [lst AV.str .ro t.n, lst arrV .ro t.c] :: (K ++ G))) :
    wpc X 109 (.loop A_ref33_TableL2) Q F.get (.box [lst AV.str .ro t.n, lst arrV .ro t.c] :: K) := by
  obtain ⟨D, ho, hwD⟩ := wk_odd (X := X) (N := 109) (fr := F.get) (.box [lst AV.str .ro t.n, lst arrV .ro t.c] :: K)
  obtain ⟨K1, hK1⟩ : ∃ K1, K1 = K ++ D := ⟨_, rfl⟩
  rw [List.cons_append, ← hK1, List.length_cons] at ho
  rw [List.cons_append, ← hK1] at hwD
  refine w_loop hs.hm (ι := Nat × Heap) (fun x => x.1 ≤ t.c.length) (fun x => [(12, .int .i64 x.1), (4, lst (AV.int .i64) .ro (widL (drawnL t t.c.length))), (1, .ptr 0 0), (10, .int .i64 row), (9, v9), (11, lst AV.str (.tok (K1.length + 1) 1) ((List.range x.1).map (cellG (drawnL t t.c.length) row)))]) (fun x => .box [lst AV.str .ro t.n, lst arrV .ro t.c] :: (K1 ++ .tok x.1 :: x.2)) (fun x => t.c.length - x.1) (0, []) ⟨Nat.zero_le _, _, _, hwD.trans (wk_tok 11 1 hF.2.2.2.2.2.1), ?_⟩ fun x hx => ?_
  · obtain ⟨f1, f2, f3, f4, f5, f6, _⟩ := hF
    exact ⟨⟨f1, f2, f3, f4, f5, rfl, trivial⟩, rfl⟩
  obtain ⟨n, G⟩ := x
  dsimp only at hx ⊢
  have hwl : (widL (drawnL t t.c.length)).length = t.c.length := by rw [widL, List.length_map, drawnL_len]
  by_cases hi : n < t.c.length
  · have h1 : (n : Int) < t.c.length := by omega
    have hww : IntKind.i64.wrap ((n : Int) + 1) = ((n + 1 : Nat) : Int) := by rw [wi64 (by omega)]; omega
    have hlr : ((List.range n).map (cellG (drawnL t t.c.length) row)).length = n := by rw [List.length_map, List.length_range]
    have hpar : ((K1.length + 1) % 2 != 0) = true := by rw [bne_iff_ne]; omega
    have e := rng_succ (cellG (drawnL t t.c.length) row) n
    rw [cellG_eq t hi (hr n hi)] at e
    have hcm := col_mem hi
    have hcv := hv _ hcm ((t.col n).c.getD row 0) (by rw [List.getD_eq_getElem?_getD, List.getElem?_eq_getElem (hr n hi)]; exact List.getElem_mem _)
    have hcl := cellS_len (k := (t.col n).k) hcv
    have hrn := hr n hi
    have ewn : (widL (drawnL t t.c.length)).getD n 0 = _ := widL_at (by rw [drawnL_len]; exact hi)
    simp only [A_ref33_TableL2, go_sem, Nat.reduceMod, Nat.reduceBNe, Nat.reduceBEq, Nat.reduceEqDiff, Nat.reduceAdd, Int.reduceAdd, Nat.reduceMul, Nat.reduceSub, Int.reduceToNat, Int.reduceLE, Int.reduceLT, Int.reduceEq, Int.reduceNe, reduceCtorEq, Nat.reduceLT, Nat.reduceLeDiff, hwl, h1, def0, ewn]
    rw [col_eq t n hi]
    simp only [arr_cells, go_sem, Nat.reduceMod, Nat.reduceBNe, Nat.reduceBEq, Nat.reduceEqDiff, Nat.reduceAdd, Int.reduceAdd, Nat.reduceMul, Nat.reduceSub, Int.reduceToNat, Int.reduceLE, Int.reduceLT, Int.reduceEq, Int.reduceNe, reduceCtorEq, Nat.reduceLT, Nat.reduceLeDiff, List.append_assoc, p0g, p0s, z1l, z1g, z1s, def0]
    refine ⟨by omega, by omega, callq_ev (ev_r33cell hX hs _ _ hcv) ?_⟩
    simp only [go_sem, Nat.reduceMod, Nat.reduceBNe, Nat.reduceBEq, Nat.reduceEqDiff, Nat.reduceAdd, Int.reduceAdd, Nat.reduceMul, Nat.reduceSub, Int.reduceToNat, Int.reduceLE, Int.reduceLT, Int.reduceEq, Int.reduceNe, reduceCtorEq, Nat.reduceLT, Nat.reduceLeDiff, hwl, def0, ewn]
    refine ⟨by omega, callq_ev (ev_r33aligned hX hs _ _ _ (hw n hi) (by omega)) ?_⟩
    simp only [go_sem, Nat.reduceMod, Nat.reduceBNe, Nat.reduceBEq, Nat.reduceEqDiff, Nat.reduceAdd, Int.reduceAdd, Nat.reduceMul, Nat.reduceSub, Int.reduceToNat, Int.reduceLE, Int.reduceLT, Int.reduceEq, Int.reduceNe, reduceCtorEq, Nat.reduceLT, Nat.reduceLeDiff, app1, hlr, hpar, List.append_assoc, p0g, p0s, ← e, hww]
    exact ⟨⟨by omega, by omega⟩, (n + 1, _), by dsimp only; omega, hi, ⟨rfl, by rw [List.range_succ]⟩, rfl⟩
  · have h1 : ¬ (n : Int) < t.c.length := by omega
    have en : n = t.c.length := by omega
    subst en
    simp only [A_ref33_TableL2, go_sem, Nat.reduceMod, Nat.reduceBNe, Nat.reduceBEq, Nat.reduceEqDiff, Nat.reduceAdd, Int.reduceAdd, Nat.reduceMul, Nat.reduceSub, Int.reduceToNat, Int.reduceLE, Int.reduceLT, Int.reduceEq, Int.reduceNe, reduceCtorEq, Nat.reduceLT, Nat.reduceLeDiff, hwl, h1]
    rw [hK1, List.append_assoc]
    exact hQ _ _ ((K ++ D).length + 1) ⟨by rw [← hK1]; rfl, rfl, rfl, rfl, rfl, trivial⟩
theorem ev_r33Table (t : Go.Tb.Tab) (hv : ∀ a ∈ t.c, ∀ v ∈ a.c, -9223372036854775808 ≤ v ∧ v ≤ 9223372036854775807) (hl : ∀ a ∈ t.c, a.c.length < 1000000) :
    Ev X F_ref33_Table [tabV t] (.tuple [.str (tableR t).1, .int .i64 (tableR t).2]) := by
  refine ev_of_k (evK_of_wpc hs (A_ref33_Table_ok hX) ?_)
  have hwd := ev_r33Widths hX hs t hv hl
  simp only [A_ref33_Table, tabV, go_sem, Nat.reduceMod, Nat.reduceBNe, Nat.reduceBEq, Nat.reduceEqDiff, Nat.reduceAdd, Int.reduceAdd, Nat.reduceMul, Nat.reduceSub, Int.reduceToNat, Int.reduceLE, Int.reduceLT, Int.reduceEq, Int.reduceNe, reduceCtorEq, Nat.reduceLT, Nat.reduceLeDiff]
  refine call_ev hwd ?_
  unfold tableR widthsR
  by_cases h : (Go.Tb.chk t).2 = 0
  · have hg := Go.Tb.chk_good.1 h
    have e0 : drawnR t = (drawnL t t.c.length, 0) := by unfold drawnR; rw [if_neg (by omega)]
    have hok := tab_ok hg hv
    have hat := fun i (hi : i < t.c.length) => (hg.at (by have := hg.eq; omega : i < t.n.length)).2.2.1
    have hmn := hg.many
    rw [e0]
    dsimp only
    have hwl : (widL (drawnL t t.c.length)).length = t.c.length := by rw [widL, List.length_map, drawnL_len]
    have hcl := drawnL_len t t.c.length
    have hc := hok.c
    have hcn := hok.n
    by_cases hcs : t.c.length = 0
    · have ecs : drawnL t t.c.length = [] := List.length_eq_zero_iff.1 (by omega)
      rw [ecs]
      simp only [go_sem, Nat.reduceMod, Nat.reduceBNe, Nat.reduceBEq, Nat.reduceEqDiff, Nat.reduceAdd, Int.reduceAdd, Nat.reduceMul, Nat.reduceSub, Int.reduceToNat, Int.reduceLE, Int.reduceLT, Int.reduceEq, Int.reduceNe, reduceCtorEq, Nat.reduceLT, Nat.reduceLeDiff, widL, List.map_nil, List.length_nil]
      exact ⟨⟨_, rfl⟩, rfl⟩
    · have hne : drawnL t t.c.length ≠ [] := fun e => hcs (by rw [← hcl, e]; rfl)
      have h0 : ¬ ((t.c.length : Nat) : Int) = 0 := by omega
      simp only [go_sem, Nat.reduceMod, Nat.reduceBNe, Nat.reduceBEq, Nat.reduceEqDiff, Nat.reduceAdd, Int.reduceAdd, Nat.reduceMul, Nat.reduceSub, Int.reduceToNat, Int.reduceLE, Int.reduceLT, Int.reduceEq, Int.reduceNe, reduceCtorEq, Nat.reduceLT, Nat.reduceLeDiff, hwl, h0, hne, or_self, if_false, not_true_eq_false, ne_eq]
      refine w_loop hs.hm (ι := Nat) (fun i => i ≤ t.c.length) (fun i => [(8, .int .i64 i), (4, lst (AV.int .i64) .ro (widL (drawnL t t.c.length))), (1, .ptr 0 0), (6, lst AV.str (.tok 1 1) ((List.range i).map (headG t.n (drawnL t t.c.length)))), (7, lst AV.str (.tok 2 1) ((List.range i).map (dashG (drawnL t t.c.length))))]) (fun i => [.box [lst AV.str .ro t.n, lst arrV .ro t.c], .tok i, .tok i]) (fun i => t.c.length - i) 0 ⟨Nat.zero_le _, _, _, WkA.trans (wk_tok 6 1 rfl) (wk_tok 7 1 rfl), ?_⟩ fun i hi => ?_
      · exact ⟨⟨rfl, rfl, rfl, rfl, rfl, trivial⟩, rfl⟩
      by_cases hi' : i < t.c.length
      · have h1 : (i : Int) < t.c.length := by omega
        have h2 : (i : Int) < t.n.length := by omega
        have hww : IntKind.i64.wrap ((i : Int) + 1) = ((i + 1 : Nat) : Int) := by rw [wi64 (by omega)]; omega
        have el1 : ((List.range i).map (headG t.n (drawnL t t.c.length))).length = i := by rw [List.length_map, List.length_range]
        have el2 : ((List.range i).map (dashG (drawnL t t.c.length))).length = i := by rw [List.length_map, List.length_range]
        have e1 := rng_succ (headG t.n (drawnL t t.c.length)) i
        have e2 := rng_succ (dashG (drawnL t t.c.length)) i
        rw [headG_eq t hi'] at e1
        have ew := (hok.col i (by omega)).w
        have hnm := hok.nm i (by omega)
        have hb := ev_r33blanks hX hs ((colAt (drawnL t t.c.length) i).w : Int) 45 (by omega)
        have hbt : (((colAt (drawnL t t.c.length) i).w : Nat) : Int).toNat = (colAt (drawnL t t.c.length) i).w := by omega
        rw [hbt] at hb
        have edg : dashG (drawnL t t.c.length) i = List.replicate (colAt (drawnL t t.c.length) i).w 45 := rfl
        rw [edg] at e2
        have ewn : (widL (drawnL t t.c.length)).getD i 0 = _ := widL_at (by rw [drawnL_len]; exact hi')
        have ec : ∀ d, t.c.getD i d = t.col i := col_eq t i hi'
        have ed : t.n.getD i default = t.n.getD i [] := rfl
        simp only [A_ref33_TableL0, go_sem, Nat.reduceMod, Nat.reduceBNe, Nat.reduceBEq, Nat.reduceEqDiff, Nat.reduceAdd, Int.reduceAdd, Nat.reduceMul, Nat.reduceSub, Int.reduceToNat, Int.reduceLE, Int.reduceLT, Int.reduceEq, Int.reduceNe, reduceCtorEq, Nat.reduceLT, Nat.reduceLeDiff, hwl, h1, def0, ewn]
        rw [ec]
        simp only [arr_cells, go_sem, Nat.reduceMod, Nat.reduceBNe, Nat.reduceBEq, Nat.reduceEqDiff, Nat.reduceAdd, Int.reduceAdd, Nat.reduceMul, Nat.reduceSub, Int.reduceToNat, Int.reduceLE, Int.reduceLT, Int.reduceEq, Int.reduceNe, reduceCtorEq, Nat.reduceLT, Nat.reduceLeDiff, hwl, def0, ewn]
        rw [ed]
        refine ⟨by omega, by omega, by omega, callq_ev (ev_r33aligned hX hs _ _ _ ew (by omega)) ?_⟩
        simp only [go_sem, Nat.reduceMod, Nat.reduceBNe, Nat.reduceBEq, Nat.reduceEqDiff, Nat.reduceAdd, Int.reduceAdd, Nat.reduceMul, Nat.reduceSub, Int.reduceToNat, Int.reduceLE, Int.reduceLT, Int.reduceEq, Int.reduceNe, reduceCtorEq, Nat.reduceLT, Nat.reduceLeDiff, app1, el1, el2, hwl, def0, ewn, ← e1]
        refine ⟨⟨by omega, by omega⟩, by omega, call_ev hb ?_⟩
        simp only [go_sem, Nat.reduceMod, Nat.reduceBNe, Nat.reduceBEq, Nat.reduceEqDiff, Nat.reduceAdd, Int.reduceAdd, Nat.reduceMul, Nat.reduceSub, Int.reduceToNat, Int.reduceLE, Int.reduceLT, Int.reduceEq, Int.reduceNe, reduceCtorEq, Nat.reduceLT, Nat.reduceLeDiff, app1, el1, el2, hww, ← e2]
        exact ⟨⟨by omega, by omega⟩, i + 1, by omega, hi', ⟨rfl, by rw [List.range_succ], by rw [List.range_succ]⟩, rfl⟩
      · have h1 : ¬ (i : Int) < t.c.length := by omega
        have ei : i = t.c.length := by omega
        subst ei
        have hj1 := ev_r33joined hX hs ((List.range t.c.length).map (headG t.n (drawnL t t.c.length))) (by rw [List.length_map, List.length_range]; omega) (fun x hx => by
          obtain ⟨j, hj, rfl⟩ := List.mem_map.1 hx
          exact hok.head j (by have := List.mem_range.1 hj; omega))
        have hj2 := ev_r33joined hX hs ((List.range t.c.length).map (dashG (drawnL t t.c.length))) (by rw [List.length_map, List.length_range]; omega) (fun x hx => by
          obtain ⟨j, hj, rfl⟩ := List.mem_map.1 hx
          exact hok.dash j (by have := List.mem_range.1 hj; omega))
        have hl1 := lineP_len hok.head
        have hl2 := lineP_len hok.dash
        rw [hcl] at hl1 hl2
        have el1 : Lib.join ((List.range t.c.length).map (headG t.n (drawnL t t.c.length))) [32, 32] ++ [10] = lineP (headG t.n (drawnL t t.c.length)) t.c.length := rfl
        have el2 : Lib.join ((List.range t.c.length).map (dashG (drawnL t t.c.length))) [32, 32] ++ [10] = lineP (dashG (drawnL t t.c.length)) t.c.length := rfl
        rw [el1] at hj1
        rw [el2] at hj2
        simp only [A_ref33_TableL0, go_sem, Nat.reduceMod, Nat.reduceBNe, Nat.reduceBEq, Nat.reduceEqDiff, Nat.reduceAdd, Int.reduceAdd, Nat.reduceMul, Nat.reduceSub, Int.reduceToNat, Int.reduceLE, Int.reduceLT, Int.reduceEq, Int.reduceNe, reduceCtorEq, Nat.reduceLT, Nat.reduceLeDiff, hwl, h1]
        refine call_ev hj1 ?_
        simp only [go_sem, Nat.reduceMod, Nat.reduceBNe, Nat.reduceBEq, Nat.reduceEqDiff, Nat.reduceAdd, Int.reduceAdd, Nat.reduceMul, Nat.reduceSub, Int.reduceToNat, Int.reduceLE, Int.reduceLT, Int.reduceEq, Int.reduceNe, reduceCtorEq, Nat.reduceLT, Nat.reduceLeDiff]
        refine call_ev hj2 ?_
        simp only [go_sem, Nat.reduceMod, Nat.reduceBNe, Nat.reduceBEq, Nat.reduceEqDiff, Nat.reduceAdd, Int.reduceAdd, Nat.reduceMul, Nat.reduceSub, Int.reduceToNat, Int.reduceLE, Int.reduceLT, Int.reduceEq, Int.reduceNe, reduceCtorEq, Nat.reduceLT, Nat.reduceLeDiff]
        refine ⟨by omega, ?_⟩
        have hp0 : 0 < t.c.length := by omega
        have hm0 : (colAt (drawnL t t.c.length) 0).c.length = (t.col 0).c.length := by rw [colAt_in t hp0]; exact List.length_map _
        have hc0 := hat 0 hp0
        have ec : ∀ d, t.c.getD 0 d = t.col 0 := col_eq t 0 hp0
        have e9 : tabP2 t.n (drawnL t t.c.length) 0 = lineP (headG t.n (drawnL t t.c.length)) t.c.length ++ lineP (dashG (drawnL t t.c.length)) t.c.length := by simp [tabP2, headP, hcl]
        rw [hm0]
        refine w_loop' hs.hm (ι := Nat × Heap) (fun x => x.1 ≤ (t.col 0).c.length) (fun x => [(10, .int .i64 x.1), (9, .str (tabP2 t.n (drawnL t t.c.length) x.1)), (4, lst (AV.int .i64) .ro (widL (drawnL t t.c.length))), (1, .ptr 0 0)]) (fun x => .box [lst AV.str .ro t.n, lst arrV .ro t.c] :: x.2) (fun x => (t.col 0).c.length - x.1) (0, [.tok t.c.length, .tok t.c.length]) ⟨Nat.zero_le _, ⟨rfl, by dsimp only; rw [e9]; rfl, rfl, rfl, trivial⟩, rfl⟩ fun x hx => ?_
        obtain ⟨row, K⟩ := x
        dsimp only at hx ⊢
        by_cases hr : row < (t.col 0).c.length
        · have h3 : (row : Int) < (t.col 0).c.length := by omega
          have hww : IntKind.i64.wrap ((row : Int) + 1) = ((row + 1 : Nat) : Int) := by rw [wi64 (by omega)]; omega
          have htl := hok.len row
          have hlc := lineP_len (hok.cell row)
          rw [hcl] at hlc
          have hj3 := ev_r33joined hX hs ((List.range t.c.length).map (cellG (drawnL t t.c.length) row)) (by rw [List.length_map, List.length_range]; omega) (fun x hx => by
            obtain ⟨j, hj, rfl⟩ := List.mem_map.1 hx
            exact hok.cell row j (by have := List.mem_range.1 hj; omega))
          have el3 : Lib.join ((List.range t.c.length).map (cellG (drawnL t t.c.length) row)) [32, 32] ++ [10] = lineP (cellG (drawnL t t.c.length) row) t.c.length := rfl
          rw [el3] at hj3
          have ets := tabP2_succ t.n (drawnL t t.c.length) row
          rw [hcl] at ets
          simp only [A_ref33_TableL1, go_sem, Nat.reduceMod, Nat.reduceBNe, Nat.reduceBEq, Nat.reduceEqDiff, Nat.reduceAdd, Int.reduceAdd, Nat.reduceMul, Nat.reduceSub, Int.reduceToNat, Int.reduceLE, Int.reduceLT, Int.reduceEq, Int.reduceNe, reduceCtorEq, Nat.reduceLT, Nat.reduceLeDiff]
          rw [ec]
          simp only [arr_cells, go_sem, Nat.reduceMod, Nat.reduceBNe, Nat.reduceBEq, Nat.reduceEqDiff, Nat.reduceAdd, Int.reduceAdd, Nat.reduceMul, Nat.reduceSub, Int.reduceToNat, Int.reduceLE, Int.reduceLT, Int.reduceEq, Int.reduceNe, reduceCtorEq, Nat.reduceLT, Nat.reduceLeDiff, h3]
          refine ⟨by omega, ?_⟩
          refine rtab_L2 hX hs t row K (.str (tabP2 t.n (drawnL t t.c.length) row)) hv (by omega) (fun i hi => by have := hat i hi; omega) (fun i hi => (hok.col i (by omega)).w) (by omega) ⟨rfl, rfl, rfl, rfl, rfl, rfl, trivial⟩ fun F' G tk hF' => ?_
          obtain ⟨g1, g2, g3, g4, g5, _⟩ := hF'
          simp only [go_sem, Nat.reduceMod, Nat.reduceBNe, Nat.reduceBEq, Nat.reduceEqDiff, Nat.reduceAdd, Int.reduceAdd, Nat.reduceMul, Nat.reduceSub, Int.reduceToNat, Int.reduceLE, Int.reduceLT, Int.reduceEq, Int.reduceNe, reduceCtorEq, Nat.reduceLT, Nat.reduceLeDiff, g1, g2, g3, g4, g5]
          refine call_ev hj3 ?_
          simp only [go_sem, Nat.reduceMod, Nat.reduceBNe, Nat.reduceBEq, Nat.reduceEqDiff, Nat.reduceAdd, Int.reduceAdd, Nat.reduceMul, Nat.reduceSub, Int.reduceToNat, Int.reduceLE, Int.reduceLT, Int.reduceEq, Int.reduceNe, reduceCtorEq, Nat.reduceLT, Nat.reduceLeDiff, g1, g2, g3, g4, g5, hww, ← ets]
          exact ⟨by omega, (row + 1, K ++ G), by dsimp only; omega, hr, ⟨rfl, rfl⟩, rfl⟩
        · have h3 : ¬ (row : Int) < (t.col 0).c.length := by omega
          simp only [A_ref33_TableL1, go_sem, Nat.reduceMod, Nat.reduceBNe, Nat.reduceBEq, Nat.reduceEqDiff, Nat.reduceAdd, Int.reduceAdd, Nat.reduceMul, Nat.reduceSub, Int.reduceToNat, Int.reduceLE, Int.reduceLT, Int.reduceEq, Int.reduceNe, reduceCtorEq, Nat.reduceLT, Nat.reduceLeDiff]
          rw [ec]
          simp only [arr_cells, go_sem, Nat.reduceMod, Nat.reduceBNe, Nat.reduceBEq, Nat.reduceEqDiff, Nat.reduceAdd, Int.reduceAdd, Nat.reduceMul, Nat.reduceSub, Int.reduceToNat, Int.reduceLE, Int.reduceLT, Int.reduceEq, Int.reduceNe, reduceCtorEq, Nat.reduceLT, Nat.reduceLeDiff, h3]
          rw [show row = (t.col 0).c.length by omega]
          exact ⟨by omega, ⟨_, rfl⟩, rfl⟩
  · have e0 : drawnR t = ([], (Go.Tb.chk t).2) := if_pos h
    rw [e0]
    dsimp only
    rw [if_pos h, if_pos (.inl h)]
    simp only [go_sem, Nat.reduceMod, Nat.reduceBNe, Nat.reduceBEq, Nat.reduceEqDiff, Nat.reduceAdd, Int.reduceAdd, Nat.reduceMul, Nat.reduceSub, Int.reduceToNat, Int.reduceLE, Int.reduceLT, Int.reduceEq, Int.reduceNe, reduceCtorEq, Nat.reduceLT, Nat.reduceLeDiff, h]
    exact ⟨⟨_, rfl⟩, rfl⟩
end
end Go.Avm

/- The law of tables. -/
namespace Go.Avm
open Go Go.Fm
set_option maxRecDepth 10000
def farA (a : Lat.Arr) : Bool := (decide (60 < a.c.length) && decide (a.c.length ≤ 400)) || decide (405 < a.c.length)
def farT3 (t : Go.Tb.Tab) : Bool := decide (18 < t.n.length) || decide (18 < t.c.length) || t.c.any farA || t.n.any (fun s => decide (100 < s.length))
section
variable {X : Cx} (hX : X.P = Go.Proofs.Tryz.prog) (hs : Std X)
include hX hs
theorem ev_Far33 (a : Lat.Arr) : Ev X F_law33_Far [arrV a] (.bool (farA a)) := by
  obtain ⟨k, r, l0, l1, c⟩ := a
  refine ev_of_wpc hs (A_law33_Far_ok hX) 1 ?_
  have e405 : decide ((405 : Int) < (c.length : Nat)) = decide (405 < c.length) := decide_eq_decide.2 (by omega)
  simp only [A_law33_Far, arrV, go_sem, Nat.reduceMod, Nat.reduceBNe, Nat.reduceBEq, Nat.reduceEqDiff, Nat.reduceAdd, Int.reduceAdd, Nat.reduceMul, Nat.reduceSub, Int.reduceToNat, Int.reduceLE, Int.reduceLT, Int.reduceEq, Int.reduceNe, reduceCtorEq, Nat.reduceLT, Nat.reduceLeDiff, farA, e405]
  refine ⟨fun h1 => ⟨fun h2 => ?_, fun h2 => ?_⟩, fun h1 => ?_⟩
  · rw [decide_eq_true (show 60 < c.length by omega), decide_eq_true (show c.length ≤ 400 by omega)]; rfl
  · rw [decide_eq_false (show ¬ c.length ≤ 400 by omega), Bool.and_false, Bool.false_or]
  · rw [decide_eq_false (show ¬ 60 < c.length by omega), Bool.false_and, Bool.false_or]
theorem ev_FarTable (t : Go.Tb.Tab) : Ev X F_law33_FarTable [tabV t] (.bool (farT3 t)) := by
  refine ev_of_wpc hs (A_law33_FarTable_ok hX) 1 ?_
  simp only [A_law33_FarTable, tabV, go_sem, Nat.reduceMod, Nat.reduceBNe, Nat.reduceBEq, Nat.reduceEqDiff, Nat.reduceAdd, Int.reduceAdd, Nat.reduceMul, Nat.reduceSub, Int.reduceToNat, Int.reduceLE, Int.reduceLT, Int.reduceEq, Int.reduceNe, reduceCtorEq, Nat.reduceLT, Nat.reduceLeDiff]
  refine ⟨fun h => ?_, fun h => ⟨fun h2 => ?_, fun h2 => ?_⟩⟩
  · rw [farT3, decide_eq_true (by omega)]; simp
  · rw [farT3, decide_eq_true (show 18 < t.c.length by omega)]; simp
  · have f1 : decide (18 < t.n.length) = false := decide_eq_false (by omega)
    have f2 : decide (18 < t.c.length) = false := decide_eq_false (by omega)
    refine w_loop' hs.hm (ι := Nat) (fun i => i ≤ t.c.length ∧ (t.c.take i).any farA = false) (fun i => [(3, .int .i64 i), (1, .ptr 0 0)]) (fun _ => [.box [lst AV.str .ro t.n, lst arrV .ro t.c]]) (fun i => t.c.length - i) 0 ⟨⟨Nat.zero_le _, rfl⟩, ⟨rfl, rfl, trivial⟩, rfl⟩ fun i hi => ?_
    obtain ⟨i1, i2⟩ := hi
    by_cases hi' : i < t.c.length
    · have h3 : (i : Int) < t.c.length := by omega
      have hw : IntKind.i64.wrap ((i : Int) + 1) = ((i + 1 : Nat) : Int) := by rw [wi64 (by omega)]; omega
      have ec : ∀ d, t.c.getD i d = t.col i := col_eq t i hi'
      have e3 : (t.c.take (i + 1)).any farA = ((t.c.take i).any farA || farA (t.col i)) := by
        rw [List.take_succ_eq_append_getElem hi', List.any_append, ← ec default, List.getD_eq_getElem?_getD, List.getElem?_eq_getElem hi']
        simp
      simp only [A_law33_FarTableL0, go_sem, Nat.reduceMod, Nat.reduceBNe, Nat.reduceBEq, Nat.reduceEqDiff, Nat.reduceAdd, Int.reduceAdd, Nat.reduceMul, Nat.reduceSub, Int.reduceToNat, Int.reduceLE, Int.reduceLT, Int.reduceEq, Int.reduceNe, reduceCtorEq, Nat.reduceLT, Nat.reduceLeDiff, h3]
      rw [ec]
      simp only [arr_cells, go_sem, Nat.reduceMod, Nat.reduceBNe, Nat.reduceBEq, Nat.reduceEqDiff, Nat.reduceAdd, Int.reduceAdd, Nat.reduceMul, Nat.reduceSub, Int.reduceToNat, Int.reduceLE, Int.reduceLT, Int.reduceEq, Int.reduceNe, reduceCtorEq, Nat.reduceLT, Nat.reduceLeDiff]
      refine ⟨by omega, call_ev (ev_Far33 hX hs (t.col i)) ?_⟩
      cases hf : farA (t.col i) with
      | true =>
        simp only [go_sem, Nat.reduceMod, Nat.reduceBNe, Nat.reduceBEq, Nat.reduceEqDiff, Nat.reduceAdd, Int.reduceAdd, Nat.reduceMul, Nat.reduceSub, Int.reduceToNat, Int.reduceLE, Int.reduceLT, Int.reduceEq, Int.reduceNe, reduceCtorEq, Nat.reduceLT, Nat.reduceLeDiff]
        rw [farT3, show t.c.any farA = true from List.any_eq_true.2 ⟨_, col_mem hi', hf⟩]
        simp
      | false =>
        simp only [go_sem, Nat.reduceMod, Nat.reduceBNe, Nat.reduceBEq, Nat.reduceEqDiff, Nat.reduceAdd, Int.reduceAdd, Nat.reduceMul, Nat.reduceSub, Int.reduceToNat, Int.reduceLE, Int.reduceLT, Int.reduceEq, Int.reduceNe, reduceCtorEq, Nat.reduceLT, Nat.reduceLeDiff, hw]
        exact ⟨i + 1, by omega, ⟨hi', by rw [e3, i2, hf]; rfl⟩, rfl⟩
    · have h3 : ¬ (i : Int) < t.c.length := by omega
      rw [List.take_of_length_le (by omega)] at i2
      simp only [A_law33_FarTableL0, go_sem, Nat.reduceMod, Nat.reduceBNe, Nat.reduceBEq, Nat.reduceEqDiff, Nat.reduceAdd, Int.reduceAdd, Nat.reduceMul, Nat.reduceSub, Int.reduceToNat, Int.reduceLE, Int.reduceLT, Int.reduceEq, Int.reduceNe, reduceCtorEq, Nat.reduceLT, Nat.reduceLeDiff, h3]
      refine w_loop' hs.hm (ι := Nat) (fun i => i ≤ t.n.length ∧ (t.n.take i).any (fun s => decide (100 < s.length)) = false) (fun i => [(4, .int .i64 i), (1, .ptr 0 0)]) (fun _ => [.box [lst AV.str .ro t.n, lst arrV .ro t.c]]) (fun i => t.n.length - i) 0 ⟨⟨Nat.zero_le _, rfl⟩, ⟨rfl, rfl, trivial⟩, rfl⟩ fun i hi => ?_
      obtain ⟨i3, i4⟩ := hi
      by_cases hi2 : i < t.n.length
      · have h4 : (i : Int) < t.n.length := by omega
        have hw : IntKind.i64.wrap ((i : Int) + 1) = ((i + 1 : Nat) : Int) := by rw [wi64 (by omega)]; omega
        have e3 := Go.Fm.any_take (p := fun s : List UInt8 => decide (100 < s.length)) hi2
        have hmem : t.n.getD i [] ∈ t.n := by rw [List.getD_eq_getElem?_getD, List.getElem?_eq_getElem hi2]; exact List.getElem_mem _
        have ed : t.n.getD i default = t.n.getD i [] := rfl
        simp only [A_law33_FarTableL1, go_sem, Nat.reduceMod, Nat.reduceBNe, Nat.reduceBEq, Nat.reduceEqDiff, Nat.reduceAdd, Int.reduceAdd, Nat.reduceMul, Nat.reduceSub, Int.reduceToNat, Int.reduceLE, Int.reduceLT, Int.reduceEq, Int.reduceNe, reduceCtorEq, Nat.reduceLT, Nat.reduceLeDiff, h4]
        rw [ed]
        refine ⟨by omega, fun h5 => ?_, fun h5 => ?_⟩
        · rw [farT3, show t.n.any (fun s => decide (100 < s.length)) = true from List.any_eq_true.2 ⟨_, hmem, decide_eq_true (by omega)⟩]
          simp
        · simp only [hw]
          exact ⟨i + 1, by omega, ⟨hi2, by rw [e3, i4, decide_eq_false (by omega)]; rfl⟩, rfl⟩
      · have h4 : ¬ (i : Int) < t.n.length := by omega
        rw [List.take_of_length_le (by omega)] at i4
        simp only [A_law33_FarTableL1, go_sem, Nat.reduceMod, Nat.reduceBNe, Nat.reduceBEq, Nat.reduceEqDiff, Nat.reduceAdd, Int.reduceAdd, Nat.reduceMul, Nat.reduceSub, Int.reduceToNat, Int.reduceLE, Int.reduceLT, Int.reduceEq, Int.reduceNe, reduceCtorEq, Nat.reduceLT, Nat.reduceLeDiff, h4]
        rw [farT3, f1, f2, i2, i4]
        rfl
variable (hP : X.G (sRen.g 17) = some tabQ) {te : Nat} (hR : X.G (sRen.g 16) = some [.ifc te .undef])
include hP hR
theorem ev_FormatTables (t : Go.Tb.Tab) (hv : ∀ a ∈ t.c, ∀ v ∈ a.c, -9223372036854775808 ≤ v ∧ v ≤ 9223372036854775807) : Ev X F_law33_FormatTables [tabV t] (.bool true) := by
  refine ev_of_k (evK_of_wpc hs (A_law33_FormatTables_ok hX) ?_)
  have hf := ev_FarTable hX hs t
  simp only [A_law33_FormatTables, tabV, go_sem, Nat.reduceMod, Nat.reduceBNe, Nat.reduceBEq, Nat.reduceEqDiff, Nat.reduceAdd, Int.reduceAdd, Nat.reduceMul, Nat.reduceSub, Int.reduceToNat, Int.reduceLE, Int.reduceLT, Int.reduceEq, Int.reduceNe, reduceCtorEq, Nat.reduceLT, Nat.reduceLeDiff]
  refine call_ev hf ?_
  cases hfar : farT3 t with
  | true =>
    simp only [go_sem, Nat.reduceMod, Nat.reduceBNe, Nat.reduceBEq, Nat.reduceEqDiff, Nat.reduceAdd, Int.reduceAdd, Nat.reduceMul, Nat.reduceSub, Int.reduceToNat, Int.reduceLE, Int.reduceLT, Int.reduceEq, Int.reduceNe, reduceCtorEq, Nat.reduceLT, Nat.reduceLeDiff]
    refine call_ev (ev_shown hX hs hP hR) ?_
    simp only [go_sem, Nat.reduceMod, Nat.reduceBNe, Nat.reduceBEq, Nat.reduceEqDiff, Nat.reduceAdd, Int.reduceAdd, Nat.reduceMul, Nat.reduceSub, Int.reduceToNat, Int.reduceLE, Int.reduceLT, Int.reduceEq, Int.reduceNe, reduceCtorEq, Nat.reduceLT, Nat.reduceLeDiff]
    exact ⟨⟨_, rfl⟩, rfl⟩
  | false =>
    have hl : ∀ a ∈ t.c, a.c.length < 1000000 := fun a ha => by
      unfold farT3 at hfar
      simp only [Bool.or_eq_false_iff] at hfar
      have h1 := hfar.1.2
      have h2 : farA a = false := by
        cases h : farA a with
        | false => rfl
        | true => rw [List.any_eq_true.2 ⟨a, ha, h⟩] at h1; cases h1
      unfold farA at h2
      simp only [Bool.or_eq_false_iff, decide_eq_false_iff_not] at h2
      omega
    have h1 := ev_Table hX hs hP t hv hl
    have h2 := ev_r33Table hX hs t hv hl
    have h3 := ev_Widths hX hs hP t hv hl
    have h4 := ev_r33Widths hX hs t hv hl
    have hwl : (widthsR t).1.length < 1000000 := by
      by_cases hc : (Go.Tb.chk t).2 = 0
      · have hg := Go.Tb.chk_good.1 hc
        have := hg.len
        have := hg.eq
        have e0 : drawnR t = (drawnL t t.c.length, 0) := by unfold drawnR; rw [if_neg (by omega)]
        unfold widthsR
        rw [e0, if_neg (by simp)]
        simp only [widL, List.length_map, drawnL_len]
        omega
      · have e0 : drawnR t = ([], (Go.Tb.chk t).2) := if_pos hc
        unfold widthsR
        rw [e0]
        split <;> simp [widL]
    generalize widthsR t = W at h3 h4 hwl
    generalize tableR t = T at h1 h2
    obtain ⟨w, e⟩ := W
    obtain ⟨s, f⟩ := T
    dsimp only at h1 h2 h3 h4 hwl
    simp only [go_sem, Nat.reduceMod, Nat.reduceBNe, Nat.reduceBEq, Nat.reduceEqDiff, Nat.reduceAdd, Int.reduceAdd, Nat.reduceMul, Nat.reduceSub, Int.reduceToNat, Int.reduceLE, Int.reduceLT, Int.reduceEq, Int.reduceNe, reduceCtorEq, Nat.reduceLT, Nat.reduceLeDiff]
    refine call_ev h1 ?_
    simp only [go_sem, Nat.reduceMod, Nat.reduceBNe, Nat.reduceBEq, Nat.reduceEqDiff, Nat.reduceAdd, Int.reduceAdd, Nat.reduceMul, Nat.reduceSub, Int.reduceToNat, Int.reduceLE, Int.reduceLT, Int.reduceEq, Int.reduceNe, reduceCtorEq, Nat.reduceLT, Nat.reduceLeDiff]
    refine call_ev h2 ?_
    simp only [go_sem, Nat.reduceMod, Nat.reduceBNe, Nat.reduceBEq, Nat.reduceEqDiff, Nat.reduceAdd, Int.reduceAdd, Nat.reduceMul, Nat.reduceSub, Int.reduceToNat, Int.reduceLE, Int.reduceLT, Int.reduceEq, Int.reduceNe, reduceCtorEq, Nat.reduceLT, Nat.reduceLeDiff]
    refine call_ev h3 ?_
    simp only [go_sem, Nat.reduceMod, Nat.reduceBNe, Nat.reduceBEq, Nat.reduceEqDiff, Nat.reduceAdd, Int.reduceAdd, Nat.reduceMul, Nat.reduceSub, Int.reduceToNat, Int.reduceLE, Int.reduceLT, Int.reduceEq, Int.reduceNe, reduceCtorEq, Nat.reduceLT, Nat.reduceLeDiff]
    refine call_ev h4 ?_
    simp only [go_sem, Nat.reduceMod, Nat.reduceBNe, Nat.reduceBEq, Nat.reduceEqDiff, Nat.reduceAdd, Int.reduceAdd, Nat.reduceMul, Nat.reduceSub, Int.reduceToNat, Int.reduceLE, Int.reduceLT, Int.reduceEq, Int.reduceNe, reduceCtorEq, Nat.reduceLT, Nat.reduceLeDiff]
    refine w_loop' hs.hm (ι := Nat) (fun i => i ≤ w.length) (fun i => [(11, .int .i64 i), (7, lst (AV.int .i64) .ro w), (9, lst (AV.int .i64) .ro w)]) (fun _ => [.box [lst AV.str .ro t.n, lst arrV .ro t.c]]) (fun i => w.length - i) 0 ⟨Nat.zero_le _, ⟨rfl, rfl, rfl, trivial⟩, rfl⟩ fun i hi => ?_
    by_cases hi' : i < w.length
    · have h5 : (i : Int) < w.length := by omega
      have hw : IntKind.i64.wrap ((i : Int) + 1) = ((i + 1 : Nat) : Int) := by rw [wi64 (by omega)]; omega
      simp only [A_law33_FormatTablesL0, go_sem, Nat.reduceMod, Nat.reduceBNe, Nat.reduceBEq, Nat.reduceEqDiff, Nat.reduceAdd, Int.reduceAdd, Nat.reduceMul, Nat.reduceSub, Int.reduceToNat, Int.reduceLE, Int.reduceLT, Int.reduceEq, Int.reduceNe, reduceCtorEq, Nat.reduceLT, Nat.reduceLeDiff, h5, hw]
      exact ⟨by omega, by omega, i + 1, by omega, hi', rfl⟩
    · have h5 : ¬ (i : Int) < w.length := by omega
      simp only [A_law33_FormatTablesL0, go_sem, Nat.reduceMod, Nat.reduceBNe, Nat.reduceBEq, Nat.reduceEqDiff, Nat.reduceAdd, Int.reduceAdd, Nat.reduceMul, Nat.reduceSub, Int.reduceToNat, Int.reduceLE, Int.reduceLT, Int.reduceEq, Int.reduceNe, reduceCtorEq, Nat.reduceLT, Nat.reduceLeDiff, h5]
      refine call_ev (ev_shown hX hs hP hR) ?_
      simp only [go_sem, Nat.reduceMod, Nat.reduceBNe, Nat.reduceBEq, Nat.reduceEqDiff, Nat.reduceAdd, Int.reduceAdd, Nat.reduceMul, Nat.reduceSub, Int.reduceToNat, Int.reduceLE, Int.reduceLT, Int.reduceEq, Int.reduceNe, reduceCtorEq, Nat.reduceLT, Nat.reduceLeDiff]
      exact ⟨⟨_, rfl⟩, rfl⟩
end
theorem ev_LTables {X : Cx} (hX : X.P = Go.Proofs.Tryz.prog) (hs : Std X) (he : GEnv X) (t : Go.Tb.Tab) (hv : ∀ a ∈ t.c, ∀ v ∈ a.c, -9223372036854775808 ≤ v ∧ v ≤ 9223372036854775807) : Ev X F_law33_FormatTables [tabV t] (.bool true) := by
  obtain ⟨hP, te, hR⟩ := he
  exact ev_FormatTables hX hs hP hR t hv
end Go.Avm
