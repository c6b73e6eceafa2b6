/- The law Each. -/
import Derived.Test.YtabdnpjbofiknaaDoorAK3
import Derived.Test.YtabdnpjbofiknaaDoorM1
set_option linter.unusedSectionVars false
set_option linter.unusedSimpArgs false
set_option linter.unusedVariables false

/- The law Each. -/
namespace Go.Avm
open Go Go.Tb
set_option maxRecDepth 10000
def tabB' (t : Tab) : Blk := .box [lst AV.str .ro t.n, lst arrV .ro t.c]
/-- What is asked of a table that comes from without: sizes. -/
structure SzT (t : Tab) : Prop where
  a : ∀ a ∈ t.c, a.c.length ≤ 140737488355328
section
variable {X : Cx} (hX : X.P = Go.Proofs.Tryd.prog) (hs : Std X) (hP : X.G (sRen.g 17) = some tabQ)
include hX hs hP
set_option maxHeartbeats 2000000 in
theorem ev_LEach (t : Tab) (rows : List Int) (hz : SzT t) : Ev X F_law13_TablesEach [tabV t, lst (AV.int .i64) .ro rows] (.bool true) := by
  refine ev_of_wpc hs (A_law13_TablesEach_ok hX) 1 ?_
  simp only [A_law13_TablesEach, tabV, go_sem, Nat.reduceMod, Nat.reduceBNe, Nat.reduceBEq, Nat.reduceEqDiff, Nat.reduceAdd, Int.reduceAdd, Nat.reduceMul, Nat.reduceSub, Int.reduceToNat, Int.reduceLE, Int.reduceLT, Int.reduceEq, Int.reduceNe, reduceCtorEq, Nat.reduceLT, Nat.reduceLeDiff]
  refine call_ev (ev_Far hX hs t hz.a) ?_
  cases hf : farT t with
  | true =>
    simp only [go_sem, Nat.reduceMod, Nat.reduceBNe, Nat.reduceBEq, Nat.reduceEqDiff, Nat.reduceAdd, Int.reduceAdd, Nat.reduceMul, Nat.reduceSub, Int.reduceToNat, Int.reduceLE, Int.reduceLT, Int.reduceEq, Int.reduceNe, reduceCtorEq, Nat.reduceLT, Nat.reduceLeDiff]
    refine call_ev (ev_awake hX hs hP) ?_
    simp only [go_sem, Nat.reduceMod, Nat.reduceBNe, Nat.reduceBEq, Nat.reduceEqDiff, Nat.reduceAdd, Int.reduceAdd, Nat.reduceMul, Nat.reduceSub, Int.reduceToNat, Int.reduceLE, Int.reduceLT, Int.reduceEq, Int.reduceNe, reduceCtorEq, Nat.reduceLT, Nat.reduceLeDiff]
  | false =>
    obtain ⟨f1, f2, f3, f4⟩ := farT_no hf
    have hl : ∀ a ∈ t.c, a.c.length < 1000000 := fun a ha => by have := f3 a ha; omega
    simp only [go_sem, Nat.reduceMod, Nat.reduceBNe, Nat.reduceBEq, Nat.reduceEqDiff, Nat.reduceAdd, Int.reduceAdd, Nat.reduceMul, Nat.reduceSub, Int.reduceToNat, Int.reduceLE, Int.reduceLT, Int.reduceEq, Int.reduceNe, reduceCtorEq, Nat.reduceLT, Nat.reduceLeDiff]
    refine ⟨fun h => ?_, fun h => ?_⟩
    · refine call_ev (ev_awake hX hs hP) ?_
      simp only [go_sem, Nat.reduceMod, Nat.reduceBNe, Nat.reduceBEq, Nat.reduceEqDiff, Nat.reduceAdd, Int.reduceAdd, Nat.reduceMul, Nat.reduceSub, Int.reduceToNat, Int.reduceLE, Int.reduceLT, Int.reduceEq, Int.reduceNe, reduceCtorEq, Nat.reduceLT, Nat.reduceLeDiff]
    have hr60 : rows.length ≤ 60 := by omega
    refine call_ev (ev_Take hX hs t rows hl (by omega)) ?_
    by_cases he : (takeR t rows).2.2 = 0
    · obtain ⟨g1, g2, g3⟩ := takeR_0 he
      have g4 := good_taken g1 g2 g3
      have eT := takeR_ok g1 g2 g3
      have heq := g1.eq
      have hm := g1.many
      rw [eT]
      simp only [tv_eq, go_sem, Nat.reduceMod, Nat.reduceBNe, Nat.reduceBEq, Nat.reduceEqDiff, Nat.reduceAdd, Int.reduceAdd, Nat.reduceMul, Nat.reduceSub, Int.reduceToNat, Int.reduceLE, Int.reduceLT, Int.reduceEq, Int.reduceNe, reduceCtorEq, Nat.reduceLT, Nat.reduceLeDiff]
      have hlu : ∀ a ∈ (takenT t rows).c, a.c.length < 1000000 := fun a ha => by
        obtain ⟨b, _, rfl⟩ := List.mem_map.1 ha
        simp [takenC]; omega
      refine call_ev (ev_Check hX hs (takenT t rows) hlu) ?_
      rw [chk_ok g4]
      have en : (takenT t rows).n = t.n := rfl
      simp only [go_sem, Nat.reduceMod, Nat.reduceBNe, Nat.reduceBEq, Nat.reduceEqDiff, Nat.reduceAdd, Int.reduceAdd, Nat.reduceMul, Nat.reduceSub, Int.reduceToNat, Int.reduceLE, Int.reduceLT, Int.reduceEq, Int.reduceNe, reduceCtorEq, Nat.reduceLT, Nat.reduceLeDiff, en]
      refine call_ev (ev_Rows hX hs t hl) ?_
      rw [chk_ok g1]
      simp only [go_sem, Nat.reduceMod, Nat.reduceBNe, Nat.reduceBEq, Nat.reduceEqDiff, Nat.reduceAdd, Int.reduceAdd, Nat.reduceMul, Nat.reduceSub, Int.reduceToNat, Int.reduceLE, Int.reduceLT, Int.reduceEq, Int.reduceNe, reduceCtorEq, Nat.reduceLT, Nat.reduceLeDiff]
      obtain ⟨N, hN⟩ : ∃ N : Nat, (N : Int) = many t := ⟨(many t).toNat, by omega⟩
      rw [← hN]
      have hrg : ∀ i : Nat, rg 0 (i + 1) = rg 0 i ++ [(i : Int)] := fun i => by
        rw [rg_app (Nat.zero_le i) (Nat.le_succ i)]
        congr 1
        unfold rg
        rw [show i + 1 - i = 1 by omega]; rfl
      refine w_loop hs.hm (ι := Nat) (fun i => i ≤ N) (fun i => [(13, .int .i64 i), (10, .int .i64 N), (12, lst (AV.int .i64) (.tok 2 1) (rg 0 i)), (2, .ptr 0 0), (5, .ptr 1 0), (1, lst (AV.int .i64) .ro rows)]) (fun i => [tabB' t, tabB' (takenT t rows), .tok i]) (fun i => N - i) 0 ⟨Nat.zero_le _, _, _, wk_tok 12 1 (by simp only [go_sem, Nat.reduceMod, Nat.reduceBNe, Nat.reduceBEq, Nat.reduceEqDiff, Nat.reduceAdd, Int.reduceAdd, Nat.reduceMul, Nat.reduceSub, Int.reduceToNat, Int.reduceLE, Int.reduceLT, Int.reduceEq, Int.reduceNe, reduceCtorEq, Nat.reduceLT, Nat.reduceLeDiff]), ?_⟩ fun i hi => ?_
      · simp only [Inv, go_sem, Nat.reduceMod, Nat.reduceBNe, Nat.reduceBEq, Nat.reduceEqDiff, Nat.reduceAdd, Int.reduceAdd, Nat.reduceMul, Nat.reduceSub, Int.reduceToNat, Int.reduceLE, Int.reduceLT, Int.reduceEq, Int.reduceNe, reduceCtorEq, Nat.reduceLT, Nat.reduceLeDiff]
        exact ⟨rfl, rfl⟩
      by_cases hiN : i < N
      · have h1 : (i : Int) < N := by omega
        have hw : IntKind.i64.wrap ((i : Int) + 1) = ((i + 1 : Nat) : Int) := by rw [wi64 (by omega)]; omega
        have hgl := rg_len 0 i
        simp only [A_law13_TablesEachL0, go_sem, Nat.reduceMod, Nat.reduceBNe, Nat.reduceBEq, Nat.reduceEqDiff, Nat.reduceAdd, Int.reduceAdd, Nat.reduceMul, Nat.reduceSub, Int.reduceToNat, Int.reduceLE, Int.reduceLT, Int.reduceEq, Int.reduceNe, reduceCtorEq, Nat.reduceLT, Nat.reduceLeDiff, h1, hw, app1, tabB', hgl, Nat.sub_zero]
        exact ⟨by omega, i + 1, by omega, hiN, ⟨rfl, by rw [hrg]⟩, rfl⟩
      have h1 : ¬ (i : Int) < N := by omega
      have ei : i = N := by omega
      subst ei
      simp only [A_law13_TablesEachL0, go_sem, Nat.reduceMod, Nat.reduceBNe, Nat.reduceBEq, Nat.reduceEqDiff, Nat.reduceAdd, Int.reduceAdd, Nat.reduceMul, Nat.reduceSub, Int.reduceToNat, Int.reduceLE, Int.reduceLT, Int.reduceEq, Int.reduceNe, reduceCtorEq, Nat.reduceLT, Nat.reduceLeDiff, h1, tabB']
      have hall := takenT_all g1 i hN
      have hrA : ∀ k ∈ rg 0 i, 0 ≤ k ∧ k < many t := fun k hk => by
        have := rg_mem.1 hk
        omega
      have hgl := rg_len 0 i
      refine call_ev (ev_Take hX hs t (rg 0 i) hl (by omega)) ?_
      rw [takeR_ok g1 (by omega) hrA, hall]
      simp only [tv_eq, go_sem, Nat.reduceMod, Nat.reduceBNe, Nat.reduceBEq, Nat.reduceEqDiff, Nat.reduceAdd, Int.reduceAdd, Nat.reduceMul, Nat.reduceSub, Int.reduceToNat, Int.reduceLE, Int.reduceLT, Int.reduceEq, Int.reduceNe, reduceCtorEq, Nat.reduceLT, Nat.reduceLeDiff]
      refine call_ev (ev_same13 hX hs t t hl (by omega) (by omega)) ?_
      rw [sameT_refl]
      simp only [go_sem, Nat.reduceMod, Nat.reduceBNe, Nat.reduceBEq, Nat.reduceEqDiff, Nat.reduceAdd, Int.reduceAdd, Nat.reduceMul, Nat.reduceSub, Int.reduceToNat, Int.reduceLE, Int.reduceLT, Int.reduceEq, Int.reduceNe, reduceCtorEq, Nat.reduceLT, Nat.reduceLeDiff]
      refine w_loop' hs.hm (ι := Nat × Heap) (fun x => x.1 ≤ t.n.length) (fun x => [(16, .int .i64 x.1), (2, .ptr 0 0), (5, .ptr 1 0), (1, lst (AV.int .i64) .ro rows)]) (fun x => tabB' t :: tabB' (takenT t rows) :: x.2) (fun x => t.n.length - x.1) (0, [.tok i, tabB' t]) ?_ fun x hx => ?_
      · simp only [go_sem, Nat.reduceMod, Nat.reduceBNe, Nat.reduceBEq, Nat.reduceEqDiff, Nat.reduceAdd, Int.reduceAdd, Nat.reduceMul, Nat.reduceSub, Int.reduceToNat, Int.reduceLE, Int.reduceLT, Int.reduceEq, Int.reduceNe, reduceCtorEq, Nat.reduceLT, Nat.reduceLeDiff, tabB']
        exact Nat.zero_le _
      clear hall hrA hgl
      obtain ⟨k, G⟩ := x
      dsimp only at hx ⊢
      by_cases hk : k < t.n.length
      · have hkc : k < t.c.length := by omega
        have h1 : (k : Int) < t.n.length := by omega
        have h2 : (k : Int) < t.c.length := by omega
        have hw : IntKind.i64.wrap ((k : Int) + 1) = ((k + 1 : Nat) : Int) := by rw [wi64 (by omega)]; omega
        have ga := g1.at hk
        have hO : ∀ a ∈ (oneT (t.col k)).c, a.c.length < 1000000 := fun a ha => by
          rw [List.mem_singleton.1 ha]; exact hl _ (col_mem hkc)
        have eO : takeR (oneT (t.col k)) rows = (oneT (takenC rows (t.col k)), 0, 0) := takeR_ok (good_one ga.1 ga.2.1) g2 (by rw [many_one, ga.2.2.2.1]; exact g3)
        have eu : (takenT t rows).col k = takenC rows (t.col k) := col_map hkc
        have ecl : (takenT t rows).c.length = t.c.length := by simp [takenT]
        simp only [A_law13_TablesEachL1, go_sem, Nat.reduceMod, Nat.reduceBNe, Nat.reduceBEq, Nat.reduceEqDiff, Nat.reduceAdd, Int.reduceAdd, Nat.reduceMul, Nat.reduceSub, Int.reduceToNat, Int.reduceLE, Int.reduceLT, Int.reduceEq, Int.reduceNe, reduceCtorEq, Nat.reduceLT, Nat.reduceLeDiff, tabB', h1, h2, hw]
        rw [col_eq t k hkc]
        simp only [arr_cells, go_sem, Nat.reduceMod, Nat.reduceBNe, Nat.reduceBEq, Nat.reduceEqDiff, Nat.reduceAdd, Int.reduceAdd, Nat.reduceMul, Nat.reduceSub, Int.reduceToNat, Int.reduceLE, Int.reduceLT, Int.reduceEq, Int.reduceNe, reduceCtorEq, Nat.reduceLT, Nat.reduceLeDiff]
        refine ⟨by omega, call_ev (ev_Take hX hs (oneT (t.col k)) rows hO (by omega)) ?_⟩
        rw [eO]
        have eo1 : (oneT (takenC rows (t.col k))).c = [takenC rows (t.col k)] := rfl
        have h3 : (k : Int) < (takenT t rows).c.length := by omega
        have e6 : ∀ d, (takenT t rows).c.getD k d = takenC rows (t.col k) := fun d => by rw [col_eq (takenT t rows) k (by omega), eu]
        have e7 : (takenC rows (t.col k)).c.length = rows.length := by simp [takenC]
        simp only [tv_eq, eo1, go_sem, Nat.reduceMod, Nat.reduceBNe, Nat.reduceBEq, Nat.reduceEqDiff, Nat.reduceAdd, Int.reduceAdd, Nat.reduceMul, Nat.reduceSub, Int.reduceToNat, Int.reduceLE, Int.reduceLT, Int.reduceEq, Int.reduceNe, reduceCtorEq, Nat.reduceLT, Nat.reduceLeDiff, h3, e6, arr_cells]
        refine ⟨by omega, callq_ev (ev_same6 hX hs (takenC rows (t.col k)) (takenC rows (t.col k)) (by omega)) ?_⟩
        rw [sameA_refl]
        simp only [go_sem, Nat.reduceMod, Nat.reduceBNe, Nat.reduceBEq, Nat.reduceEqDiff, Nat.reduceAdd, Int.reduceAdd, Nat.reduceMul, Nat.reduceSub, Int.reduceToNat, Int.reduceLE, Int.reduceLT, Int.reduceEq, Int.reduceNe, reduceCtorEq, Nat.reduceLT, Nat.reduceLeDiff, h1, h2, en, e6, e7, arr_cells]
        refine ⟨by omega, by omega, by omega, ?_⟩
        refine w_loop' hs.hm (ι := Nat) (fun j => j ≤ rows.length) (fun j => [(20, .int .i64 j), (16, .int .i64 k), (2, .ptr 0 0), (5, .ptr 1 0), (1, lst (AV.int .i64) .ro rows)]) (fun _ => tabB' t :: tabB' (takenT t rows) :: (G ++ [.box [lst AV.str .ro (oneT (takenC rows (t.col k))).n, lst arrV .ro [takenC rows (t.col k)]]])) (fun j => rows.length - j) 0 ?_ fun j hj => ?_
        · simp only [go_sem, Nat.reduceMod, Nat.reduceBNe, Nat.reduceBEq, Nat.reduceEqDiff, Nat.reduceAdd, Int.reduceAdd, Nat.reduceMul, Nat.reduceSub, Int.reduceToNat, Int.reduceLE, Int.reduceLT, Int.reduceEq, Int.reduceNe, reduceCtorEq, Nat.reduceLT, Nat.reduceLeDiff, tabB', en]
          exact Nat.zero_le _
        by_cases hjr : j < rows.length
        · have hj1 : (j : Int) < rows.length := by omega
          have hj3 : IntKind.i64.wrap ((j : Int) + 1) = ((j + 1 : Nat) : Int) := by rw [wi64 (by omega)]; omega
          have hrj := g3 (rows.getD j 0) (by rw [List.getD_eq_getElem?_getD, List.getElem?_eq_getElem hjr]; exact List.getElem_mem _)
          have e8 : ∀ d, (takenC rows (t.col k)).c.getD j d = (t.col k).c.getD (rows.getD j 0).toNat 0 := fun d => by
            simp only [takenC, List.getD_eq_getElem?_getD, List.getElem?_map, List.getElem?_eq_getElem hjr, Option.map_some, Option.getD_some]
          simp only [A_law13_TablesEachL2, go_sem, Nat.reduceMod, Nat.reduceBNe, Nat.reduceBEq, Nat.reduceEqDiff, Nat.reduceAdd, Int.reduceAdd, Nat.reduceMul, Nat.reduceSub, Int.reduceToNat, Int.reduceLE, Int.reduceLT, Int.reduceEq, Int.reduceNe, reduceCtorEq, Nat.reduceLT, Nat.reduceLeDiff, hj1, hj3, tabB', h2, h3, e6, e7, e8, def0, arr_cells]
          rw [col_eq t k hkc]
          simp only [go_sem, Nat.reduceMod, Nat.reduceBNe, Nat.reduceBEq, Nat.reduceEqDiff, Nat.reduceAdd, Int.reduceAdd, Nat.reduceMul, Nat.reduceSub, Int.reduceToNat, Int.reduceLE, Int.reduceLT, Int.reduceEq, Int.reduceNe, reduceCtorEq, Nat.reduceLT, Nat.reduceLeDiff, arr_cells, def0, e8]
          exact ⟨by omega, by omega, by omega, by omega, by omega, j + 1, by omega, hjr, rfl⟩
        · have hj1 : ¬ (j : Int) < rows.length := by omega
          simp only [A_law13_TablesEachL2, go_sem, Nat.reduceMod, Nat.reduceBNe, Nat.reduceBEq, Nat.reduceEqDiff, Nat.reduceAdd, Int.reduceAdd, Nat.reduceMul, Nat.reduceSub, Int.reduceToNat, Int.reduceLE, Int.reduceLT, Int.reduceEq, Int.reduceNe, reduceCtorEq, Nat.reduceLT, Nat.reduceLeDiff, hj1, tabB']
          exact ⟨(k + 1, _), by dsimp only; omega, hk, by rw [hw], rfl⟩
      · have h1 : ¬ (k : Int) < t.n.length := by omega
        simp only [A_law13_TablesEachL1, go_sem, Nat.reduceMod, Nat.reduceBNe, Nat.reduceBEq, Nat.reduceEqDiff, Nat.reduceAdd, Int.reduceAdd, Nat.reduceMul, Nat.reduceSub, Int.reduceToNat, Int.reduceLE, Int.reduceLT, Int.reduceEq, Int.reduceNe, reduceCtorEq, Nat.reduceLT, Nat.reduceLeDiff, tabB', h1]
        refine call_ev (ev_awake hX hs hP) ?_
        simp only [go_sem, Nat.reduceMod, Nat.reduceBNe, Nat.reduceBEq, Nat.reduceEqDiff, Nat.reduceAdd, Int.reduceAdd, Nat.reduceMul, Nat.reduceSub, Int.reduceToNat, Int.reduceLE, Int.reduceLT, Int.reduceEq, Int.reduceNe, reduceCtorEq, Nat.reduceLT, Nat.reduceLeDiff]
    · have eT := takeR_bad he
      rw [eT]
      simp only [go_sem, Nat.reduceMod, Nat.reduceBNe, Nat.reduceBEq, Nat.reduceEqDiff, Nat.reduceAdd, Int.reduceAdd, Nat.reduceMul, Nat.reduceSub, Int.reduceToNat, Int.reduceLE, Int.reduceLT, Int.reduceEq, Int.reduceNe, reduceCtorEq, Nat.reduceLT, Nat.reduceLeDiff, he, tv_eq, zeroT]
      refine call_ev (ev_awake hX hs hP) ?_
      simp only [go_sem, Nat.reduceMod, Nat.reduceBNe, Nat.reduceBEq, Nat.reduceEqDiff, Nat.reduceAdd, Int.reduceAdd, Nat.reduceMul, Nat.reduceSub, Int.reduceToNat, Int.reduceLE, Int.reduceLT, Int.reduceEq, Int.reduceNe, reduceCtorEq, Nat.reduceLT, Nat.reduceLeDiff]
end
end Go.Avm

/- The law Sorted. -/
namespace Go.Avm
open Go Go.Tb
set_option maxRecDepth 10000
section
variable {X : Cx} (hX : X.P = Go.Proofs.Tryd.prog) (hs : Std X) (hP : X.G (sRen.g 17) = some tabQ)
include hX hs hP
set_option maxHeartbeats 2000000 in
theorem ev_LSorted (t : Tab) (s : List UInt8) (hz : SzT t) : Ev X F_law13_TablesSorted [tabV t, .str s] (.bool true) := by
  refine ev_of_wpc hs (A_law13_TablesSorted_ok hX) 1 ?_
  simp only [A_law13_TablesSorted, tabV, go_sem, Nat.reduceMod, Nat.reduceBNe, Nat.reduceBEq, Nat.reduceEqDiff, Nat.reduceAdd, Int.reduceAdd, Nat.reduceMul, Nat.reduceSub, Int.reduceToNat, Int.reduceLE, Int.reduceLT, Int.reduceEq, Int.reduceNe, reduceCtorEq, Nat.reduceLT, Nat.reduceLeDiff]
  refine call_ev (ev_Far hX hs t hz.a) ?_
  cases hf : farT t with
  | true =>
    simp only [go_sem, Nat.reduceMod, Nat.reduceBNe, Nat.reduceBEq, Nat.reduceEqDiff, Nat.reduceAdd, Int.reduceAdd, Nat.reduceMul, Nat.reduceSub, Int.reduceToNat, Int.reduceLE, Int.reduceLT, Int.reduceEq, Int.reduceNe, reduceCtorEq, Nat.reduceLT, Nat.reduceLeDiff]
    refine call_ev (ev_awake hX hs hP) ?_
    simp only [go_sem, Nat.reduceMod, Nat.reduceBNe, Nat.reduceBEq, Nat.reduceEqDiff, Nat.reduceAdd, Int.reduceAdd, Nat.reduceMul, Nat.reduceSub, Int.reduceToNat, Int.reduceLE, Int.reduceLT, Int.reduceEq, Int.reduceNe, reduceCtorEq, Nat.reduceLT, Nat.reduceLeDiff]
  | false =>
    obtain ⟨f1, f2, f3, f4⟩ := farT_no hf
    have hl : ∀ a ∈ t.c, a.c.length < 1000000 := fun a ha => by have := f3 a ha; omega
    simp only [go_sem, Nat.reduceMod, Nat.reduceBNe, Nat.reduceBEq, Nat.reduceEqDiff, Nat.reduceAdd, Int.reduceAdd, Nat.reduceMul, Nat.reduceSub, Int.reduceToNat, Int.reduceLE, Int.reduceLT, Int.reduceEq, Int.reduceNe, reduceCtorEq, Nat.reduceLT, Nat.reduceLeDiff]
    refine ⟨fun h => ?_, fun h => ?_⟩
    · refine call_ev (ev_awake hX hs hP) ?_
      simp only [go_sem, Nat.reduceMod, Nat.reduceBNe, Nat.reduceBEq, Nat.reduceEqDiff, Nat.reduceAdd, Int.reduceAdd, Nat.reduceMul, Nat.reduceSub, Int.reduceToNat, Int.reduceLE, Int.reduceLT, Int.reduceEq, Int.reduceNe, reduceCtorEq, Nat.reduceLT, Nat.reduceLeDiff]
    refine call_ev (ev_Order hX hs t s hl) ?_
    by_cases he : (atI t s).2 = 0
    · obtain ⟨i, e, hi, hg, hn, hj, eo, es, ec⟩ := orderR_0 he
      have hag := sort_again he
      have hic : i < t.c.length := by rw [hg.eq]; exact hi
      have ha := hg.at hi
      have hrows := ord_rows hg hi
      have eT : takeR t (ordL (t.col i).c) = (takenT t (ordL (t.col i).c), 0, 0) := takeR_ok hg (by rw [ordL_len]; exact ha.2.2.2.2.2.1) hrows
      rw [es] at hag
      have hls : ∀ a ∈ (takenT t (ordL (t.col i).c)).c, a.c.length < 1000000 := fun a ha => by
        obtain ⟨b, _, rfl⟩ := List.mem_map.1 ha
        simp only [takenC, List.length_map, ordL_len]
        exact hl _ (col_mem hic)
      have hol := ordL_len (t.col i).c
      have hnd := ordL_nodup (t.col i).c
      have hsr := ordL_srt' (t.col i).c
      rw [eo]
      simp only [go_sem, Nat.reduceMod, Nat.reduceBNe, Nat.reduceBEq, Nat.reduceEqDiff, Nat.reduceAdd, Int.reduceAdd, Nat.reduceMul, Nat.reduceSub, Int.reduceToNat, Int.reduceLE, Int.reduceLT, Int.reduceEq, Int.reduceNe, reduceCtorEq, Nat.reduceLT, Nat.reduceLeDiff]
      refine call_ev (ev_Sort hX hs t s hl) ?_
      rw [es]
      simp only [tv_eq, go_sem, Nat.reduceMod, Nat.reduceBNe, Nat.reduceBEq, Nat.reduceEqDiff, Nat.reduceAdd, Int.reduceAdd, Nat.reduceMul, Nat.reduceSub, Int.reduceToNat, Int.reduceLE, Int.reduceLT, Int.reduceEq, Int.reduceNe, reduceCtorEq, Nat.reduceLT, Nat.reduceLeDiff]
      refine call_ev (ev_Rows hX hs t hl) ?_
      rw [chk_ok hg]
      simp only [go_sem, Nat.reduceMod, Nat.reduceBNe, Nat.reduceBEq, Nat.reduceEqDiff, Nat.reduceAdd, Int.reduceAdd, Nat.reduceMul, Nat.reduceSub, Int.reduceToNat, Int.reduceLE, Int.reduceLT, Int.reduceEq, Int.reduceNe, reduceCtorEq, Nat.reduceLT, Nat.reduceLeDiff]
      refine call_ev (ev_Column hX hs t s hl) ?_
      rw [ec]
      simp only [arr_cells, go_sem, Nat.reduceMod, Nat.reduceBNe, Nat.reduceBEq, Nat.reduceEqDiff, Nat.reduceAdd, Int.reduceAdd, Nat.reduceMul, Nat.reduceSub, Int.reduceToNat, Int.reduceLE, Int.reduceLT, Int.reduceEq, Int.reduceNe, reduceCtorEq, Nat.reduceLT, Nat.reduceLeDiff]
      refine call_ev (ev_Take hX hs t (ordL (t.col i).c) hl (by rw [hol]; exact hl _ (col_mem hic))) ?_
      rw [eT]
      simp only [tv_eq, go_sem, Nat.reduceMod, Nat.reduceBNe, Nat.reduceBEq, Nat.reduceEqDiff, Nat.reduceAdd, Int.reduceAdd, Nat.reduceMul, Nat.reduceSub, Int.reduceToNat, Int.reduceLE, Int.reduceLT, Int.reduceEq, Int.reduceNe, reduceCtorEq, Nat.reduceLT, Nat.reduceLeDiff]
      refine call_ev (ev_Sort hX hs (takenT t (ordL (t.col i).c)) s hls) ?_
      rw [hag]
      have hlm : ((ordL (t.col i).c).length : Int) = many t := by rw [hol]; exact ha.2.2.1
      simp only [tv_eq, go_sem, Nat.reduceMod, Nat.reduceBNe, Nat.reduceBEq, Nat.reduceEqDiff, Nat.reduceAdd, Int.reduceAdd, Nat.reduceMul, Nat.reduceSub, Int.reduceToNat, Int.reduceLE, Int.reduceLT, Int.reduceEq, Int.reduceNe, reduceCtorEq, Nat.reduceLT, Nat.reduceLeDiff, hlm]
      refine call_ev (ev_same13 hX hs _ _ hls (by simp only [takenT]; omega) (by simp only [takenT, List.length_map]; omega)) ?_
      rw [sameT_refl]
      simp only [go_sem, Nat.reduceMod, Nat.reduceBNe, Nat.reduceBEq, Nat.reduceEqDiff, Nat.reduceAdd, Int.reduceAdd, Nat.reduceMul, Nat.reduceSub, Int.reduceToNat, Int.reduceLE, Int.reduceLT, Int.reduceEq, Int.reduceNe, reduceCtorEq, Nat.reduceLT, Nat.reduceLeDiff]
      refine call_ev (ev_same13 hX hs _ _ hls (by simp only [takenT]; omega) (by simp only [takenT, List.length_map]; omega)) ?_
      rw [sameT_refl]
      simp only [go_sem, Nat.reduceMod, Nat.reduceBNe, Nat.reduceBEq, Nat.reduceEqDiff, Nat.reduceAdd, Int.reduceAdd, Nat.reduceMul, Nat.reduceSub, Int.reduceToNat, Int.reduceLE, Int.reduceLT, Int.reduceEq, Int.reduceNe, reduceCtorEq, Nat.reduceLT, Nat.reduceLeDiff]
      refine ⟨by omega, ?_⟩
      obtain ⟨N, hN⟩ : ∃ N : Nat, many t = (N : Int) := ⟨(many t).toNat, by have := hg.many; omega⟩
      rw [hN] at hlm hrows ⊢
      have hlN : (ordL (t.col i).c).length = N := by omega
      have hcN : ((t.col i).c.length : Int) = N := by omega
      have hN4 : N ≤ 400 := by have := ha.2.2.2.2.2.1; omega
      have hgetC : ∀ k : Nat, k < N → 0 ≤ (ordL (t.col i).c).getD k 0 ∧ (ordL (t.col i).c).getD k 0 < N := fun k hk => hrows _ (getD_mem (by omega) 0)
      have hlt : ∀ k : Nat, k + 1 < N → ltc (cellA (t.col i).c) ((ordL (t.col i).c).getD k 0) ((ordL (t.col i).c).getD (k + 1) 0) := fun k hk => pw_getD hsr (Nat.lt_succ_self k) (by omega) 0
      have hno : ∀ k : Nat, k < N → usedB (ordL (t.col i).c) k ((ordL (t.col i).c).getD k 0).toNat = false := fun k hk => usedB_no hnd (by omega) (hgetC k hk).1
      have hsu : ∀ k : Nat, k < N → ∀ x, usedB (ordL (t.col i).c) (k + 1) x = if x = ((ordL (t.col i).c).getD k 0).toNat then true else usedB (ordL (t.col i).c) k x := fun k hk => usedB_succ (by omega) (hgetC k hk).1
      have h0 : ∀ x, usedB (ordL (t.col i).c) 0 x = false := fun x => by simp [usedB]
      clear hrows hnd hsr eo es ec hag eT hls
      generalize ordL (t.col i).c = L at *
      generalize t.col i = a at *
      obtain ⟨ak, ar, al0, al1, C⟩ := a
      dsimp only at *
      generalize hS : takenT t L = T at *
      refine w_loop' hs.hm (ι := Nat) (fun k => k ≤ N) (fun k => [(19, .int .i64 k), (18, .rsl 5 0 N N 1), (9, .int .i64 N), (5, lst (AV.int .i64) .ro L), (11, .ptr 2 0)]) (fun k => [.box [lst AV.str .ro t.n, lst arrV .ro t.c], .box [lst AV.str .ro T.n, lst arrV .ro T.c], .box [.int .i64 ak, .int .i64 ar, .int .i64 al0, .int .i64 al1, lst (AV.int .i64) .ro C], .box [lst AV.str .ro T.n, lst arrV .ro T.c], .box [lst AV.str .ro T.n, lst arrV .ro T.c], .box (tb N fun x => .bool (usedB L k x))]) (fun k => N - k) 0 ?_ fun k hk => ?_
      · simp only [go_sem, Nat.reduceMod, Nat.reduceBNe, Nat.reduceBEq, Nat.reduceEqDiff, Nat.reduceAdd, Int.reduceAdd, Nat.reduceMul, Nat.reduceSub, Int.reduceToNat, Int.reduceLE, Int.reduceLT, Int.reduceEq, Int.reduceNe, reduceCtorEq, Nat.reduceLT, Nat.reduceLeDiff, h0]
        exact Nat.zero_le _
      by_cases hkN : k < N
      · have h1 : (k : Int) < N := by omega
        have h2 : (k : Int) < L.length := by omega
        have hw : IntKind.i64.wrap ((k : Int) + 1) = ((k + 1 : Nat) : Int) := by rw [wi64 (by omega)]; omega
        have hr := hgetC k hkN
        have h3 : ¬ L.getD k 0 < 0 := by omega
        have h4 : ¬ (N : Int) ≤ L.getD k 0 := by omega
        have hb := hno k hkN
        have hlt2 : (L.getD k 0).toNat < N := by omega
        have e5 : ∀ d, (tb N fun x => AV.bool (usedB L k x)).getD (L.getD k 0).toNat d = .bool false := fun d => by rw [tb_getD _ _ hlt2, hb]
        have e6 : (tb N fun x => AV.bool (usedB L k x)).set (L.getD k 0).toNat (.bool true) = tb N fun x => AV.bool (usedB L (k + 1) x) := by
          rw [tb_set]
          refine tb_congr fun x _ => ?_
          rw [hsu k hkN]
          split <;> rfl
        simp only [A_law13_TablesSortedL0, go_sem, Nat.reduceMod, Nat.reduceBNe, Nat.reduceBEq, Nat.reduceEqDiff, Nat.reduceAdd, Int.reduceAdd, Nat.reduceMul, Nat.reduceSub, Int.reduceToNat, Int.reduceLE, Int.reduceLT, Int.reduceEq, Int.reduceNe, reduceCtorEq, Nat.reduceLT, Nat.reduceLeDiff, h1, h2, hw, def0, h3, ge_iff_le, h4, ix_r, tb_len, e5, e6]
        refine ⟨by omega, by omega, by omega, hr, by omega, by omega, hr, by omega, fun hk0 => ?_, fun _ => ⟨k + 1, by omega, hkN, rfl, rfl⟩⟩
        obtain ⟨m, rfl⟩ : ∃ m, k = m + 1 := ⟨k - 1, by omega⟩
        have hwm : IntKind.i64.wrap (((m + 1 : Nat) : Int) - 1) = (m : Int) := by rw [wi64 (by omega)]; omega
        have hrm := hgetC m (by omega)
        have hc := hlt m hkN
        unfold ltc cellA at hc
        rw [hwm]
        simp only [Int.toNat_natCast]
        refine ⟨by omega, by omega, by omega, by omega, fun hh => ?_, fun _ => ⟨by omega, by omega, by omega, by omega, fun hh => ⟨by omega, by omega, fun hh2 => ?_, fun _ => ⟨m + 1 + 1, by omega, hkN, rfl, rfl⟩⟩, fun _ => ⟨m + 1 + 1, by omega, hkN, rfl, rfl⟩⟩⟩
        · omega
        · omega
      · have h1 : ¬ (k : Int) < N := by omega
        simp only [A_law13_TablesSortedL0, go_sem, Nat.reduceMod, Nat.reduceBNe, Nat.reduceBEq, Nat.reduceEqDiff, Nat.reduceAdd, Int.reduceAdd, Nat.reduceMul, Nat.reduceSub, Int.reduceToNat, Int.reduceLE, Int.reduceLT, Int.reduceEq, Int.reduceNe, reduceCtorEq, Nat.reduceLT, Nat.reduceLeDiff, h1]
        refine call_ev (ev_awake hX hs hP) ?_
        simp only [go_sem, Nat.reduceMod, Nat.reduceBNe, Nat.reduceBEq, Nat.reduceEqDiff, Nat.reduceAdd, Int.reduceAdd, Nat.reduceMul, Nat.reduceSub, Int.reduceToNat, Int.reduceLE, Int.reduceLT, Int.reduceEq, Int.reduceNe, reduceCtorEq, Nat.reduceLT, Nat.reduceLeDiff]
    · obtain ⟨eo, es, _⟩ := orderR_bad he
      rw [eo]
      simp only [go_sem, Nat.reduceMod, Nat.reduceBNe, Nat.reduceBEq, Nat.reduceEqDiff, Nat.reduceAdd, Int.reduceAdd, Nat.reduceMul, Nat.reduceSub, Int.reduceToNat, Int.reduceLE, Int.reduceLT, Int.reduceEq, Int.reduceNe, reduceCtorEq, Nat.reduceLT, Nat.reduceLeDiff]
      refine call_ev (ev_Sort hX hs t s hl) ?_
      rw [es]
      simp only [go_sem, Nat.reduceMod, Nat.reduceBNe, Nat.reduceBEq, Nat.reduceEqDiff, Nat.reduceAdd, Int.reduceAdd, Nat.reduceMul, Nat.reduceSub, Int.reduceToNat, Int.reduceLE, Int.reduceLT, Int.reduceEq, Int.reduceNe, reduceCtorEq, Nat.reduceLT, Nat.reduceLeDiff, he, tv_eq, zeroT]
      refine call_ev (ev_awake hX hs hP) ?_
      simp only [go_sem, Nat.reduceMod, Nat.reduceBNe, Nat.reduceBEq, Nat.reduceEqDiff, Nat.reduceAdd, Int.reduceAdd, Nat.reduceMul, Nat.reduceSub, Int.reduceToNat, Int.reduceLE, Int.reduceLT, Int.reduceEq, Int.reduceNe, reduceCtorEq, Nat.reduceLT, Nat.reduceLeDiff]
end
end Go.Avm
