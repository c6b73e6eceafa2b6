/- The reference: Check, Rows, at, Column, Find. -/
import Derived.Test.YtcldomkahgaplaaGreatDoorAK1
set_option linter.unusedSectionVars false
set_option linter.unusedSimpArgs false
set_option linter.unusedVariables false

/- The reference: Check, Rows, at, Column, Find. -/
namespace Go.Avm
open Go Go.Tb
set_option maxRecDepth 10000
theorem contains_take {l : List (List UInt8)} {i : Nat} (s : List UInt8) : (∃ k, k < i ∧ k < l.length ∧ l.getD k [] = s) ↔ (l.take i).contains s = true := by
  rw [List.contains_iff_mem]
  constructor
  · rintro ⟨k, h1, h2, e⟩
    rw [List.getD_eq_getElem?_getD, List.getElem?_eq_getElem h2, Option.getD_some] at e
    rw [← e]
    exact List.mem_iff_getElem.2 ⟨k, by rw [List.length_take]; omega, by rw [List.getElem_take]⟩
  · intro h
    obtain ⟨k, hk, e⟩ := List.getElem_of_mem h
    rw [List.length_take] at hk
    refine ⟨k, by omega, by omega, ?_⟩
    rw [List.getElem_take] at e
    rw [List.getD_eq_getElem?_getD, List.getElem?_eq_getElem (by omega), Option.getD_some, e]
section
variable {X : Cx} (hX : X.P = Go.Proofs.Tryz.prog) (hs : Std X)
include hX hs
set_option maxHeartbeats 1000000 in
theorem ev_r13Check (t : Tab) (hl : ∀ a ∈ t.c, a.c.length < 1000000) : Ev X F_ref13_Check [tabV t] (.tuple [.int .i64 (chk t).1, .int .i64 (chk t).2]) := by
  refine ev_of_wpc hs (A_ref13_Check_ok hX) 0 ?_
  simp only [A_ref13_Check, tabV, go_sem, Nat.reduceMod, Nat.reduceBNe, Nat.reduceBEq, Nat.reduceEqDiff, Nat.reduceAdd, Int.reduceAdd, Nat.reduceMul, Nat.reduceSub, Int.reduceToNat, Int.reduceLE, Int.reduceLT, Int.reduceEq, Int.reduceNe, reduceCtorEq, Nat.reduceLT, Nat.reduceLeDiff]
  refine ⟨fun h => ?_, fun h => ⟨fun h2 => ?_, fun h2 => ?_⟩⟩
  · rw [chk_long (by omega)]
  · rw [chk_form (by omega) (by omega)]
  have hlen : t.n.length ≤ 16 := by omega
  have heq : t.c.length = t.n.length := by omega
  refine w_loop' hs.hm (ι := Nat × Heap) (fun x => x.1 ≤ t.n.length ∧ ∀ j, j < x.1 → colE t j = 0) (fun x => [(4, .int .i64 x.1), (1, .ptr 0 0)]) (fun x => .box [lst AV.str .ro t.n, lst arrV .ro t.c] :: x.2) (fun x => t.n.length - x.1) (0, []) ?_ fun x hx => ?_
  · simp only [go_sem, Nat.reduceMod, Nat.reduceBNe, Nat.reduceBEq, Nat.reduceEqDiff, Nat.reduceAdd, Int.reduceAdd, Nat.reduceMul, Nat.reduceSub, Int.reduceToNat, Int.reduceLE, Int.reduceLT, Int.reduceEq, Int.reduceNe, reduceCtorEq, Nat.reduceLT, Nat.reduceLeDiff]
    exact ⟨Nat.zero_le _, no_lt0⟩
  obtain ⟨i, G⟩ := x
  obtain ⟨i1, i2⟩ := hx
  dsimp only at i1 i2 ⊢
  by_cases hi : i < t.n.length
  · have hi' : (i : Int) < t.n.length := by omega
    have hic : (i : Int) < t.c.length := by omega
    have hic0 : (0 : Int) < t.c.length := by omega
    have hw : IntKind.i64.wrap ((i : Int) + 1) = ((i + 1 : Nat) : Int) := by rw [wi64 (by omega)]; omega
    have hcE : colE t i ≠ 0 → ∀ k : Int, k = colE t i → AV.tuple [.int .i64 i, .int .i64 k] = AV.tuple [.int .i64 (chk t).1, .int .i64 (chk t).2] := fun h k hk => by rw [chk_col hlen heq hi i2 h, hk]
    simp only [A_ref13_CheckL0, go_sem, Nat.reduceMod, Nat.reduceBNe, Nat.reduceBEq, Nat.reduceEqDiff, Nat.reduceAdd, Int.reduceAdd, Nat.reduceMul, Nat.reduceSub, Int.reduceToNat, Int.reduceLE, Int.reduceLT, Int.reduceEq, Int.reduceNe, reduceCtorEq, Nat.reduceLT, Nat.reduceLeDiff, hi']
    rw [nm_eq t i hi]
    refine ⟨by omega, call_ev (ev_rName hX hs (t.nm i)) ?_⟩
    cases hN : Lat.isNm (t.nm i) with
    | false =>
      simp only [go_sem, Nat.reduceMod, Nat.reduceBNe, Nat.reduceBEq, Nat.reduceEqDiff, Nat.reduceAdd, Int.reduceAdd, Nat.reduceMul, Nat.reduceSub, Int.reduceToNat, Int.reduceLE, Int.reduceLT, Int.reduceEq, Int.reduceNe, reduceCtorEq, Nat.reduceLT, Nat.reduceLeDiff]
      have e : colE t i = 6 := if_pos hN
      exact hcE (by rw [e]; decide) 6 e.symm
    | true =>
      have hN' : ¬ Lat.isNm (t.nm i) = false := by rw [hN]; decide
      simp only [go_sem, Nat.reduceMod, Nat.reduceBNe, Nat.reduceBEq, Nat.reduceEqDiff, Nat.reduceAdd, Int.reduceAdd, Nat.reduceMul, Nat.reduceSub, Int.reduceToNat, Int.reduceLE, Int.reduceLT, Int.reduceEq, Int.reduceNe, reduceCtorEq, Nat.reduceLT, Nat.reduceLeDiff]
      refine w_loop' hs.hm (ι := Nat) (fun k => k ≤ i ∧ ∀ j, j < k → t.nm j ≠ t.nm i) (fun k => [(5, .int .i64 k), (4, .int .i64 i), (1, .ptr 0 0)]) (fun _ => .box [lst AV.str .ro t.n, lst arrV .ro t.c] :: G) (fun k => i - k) 0 ?_ fun k hk => ?_
      · simp only [go_sem, Nat.reduceMod, Nat.reduceBNe, Nat.reduceBEq, Nat.reduceEqDiff, Nat.reduceAdd, Int.reduceAdd, Nat.reduceMul, Nat.reduceSub, Int.reduceToNat, Int.reduceLE, Int.reduceLT, Int.reduceEq, Int.reduceNe, reduceCtorEq, Nat.reduceLT, Nat.reduceLeDiff]
        exact ⟨Nat.zero_le _, no_lt0⟩
      obtain ⟨k1, k2⟩ := hk
      by_cases hk : k < i
      · have h3 : (k : Int) < i := by omega
        have h4 : (k : Int) < t.n.length := by omega
        have hwk : IntKind.i64.wrap ((k : Int) + 1) = ((k + 1 : Nat) : Int) := by rw [wi64 (by omega)]; omega
        simp only [A_ref13_CheckL1, go_sem, Nat.reduceMod, Nat.reduceBNe, Nat.reduceBEq, Nat.reduceEqDiff, Nat.reduceAdd, Int.reduceAdd, Nat.reduceMul, Nat.reduceSub, Int.reduceToNat, Int.reduceLE, Int.reduceLT, Int.reduceEq, Int.reduceNe, reduceCtorEq, Nat.reduceLT, Nat.reduceLeDiff, h3, h4, hi', hwk]
        rw [nm_eq t i hi, nm_eq t k (by omega)]
        refine ⟨by omega, by omega, fun h => ?_, fun h => ⟨k + 1, by omega, ⟨hk, fun j hj => ?_⟩, rfl⟩⟩
        · have e : colE t i = 8 := by
            unfold colE
            rw [if_neg hN', if_pos]
            exact (contains_take (l := t.n) (i := i) (t.nm i)).1 ⟨k, hk, by omega, h⟩
          exact hcE (by rw [e]; decide) 8 e.symm
        · rcases (by omega : j = k ∨ j < k) with rfl | hj
          · exact h
          · exact k2 j hj
      have h3 : ¬ (k : Int) < i := by omega
      have hC' : ¬ (t.n.take i).contains (t.nm i) = true := fun h => by
        obtain ⟨j, j1, j2, e⟩ := (contains_take (t.nm i)).2 h
        exact k2 j (by omega) e
      have e00 : ∀ d, t.c.getD 0 d = t.col 0 := col_eq t 0 (by omega)
      simp only [A_ref13_CheckL1, go_sem, Nat.reduceMod, Nat.reduceBNe, Nat.reduceBEq, Nat.reduceEqDiff, Nat.reduceAdd, Int.reduceAdd, Nat.reduceMul, Nat.reduceSub, Int.reduceToNat, Int.reduceLE, Int.reduceLT, Int.reduceEq, Int.reduceNe, reduceCtorEq, Nat.reduceLT, Nat.reduceLeDiff, h3, hic, hw]
      rw [col_eq t i (by omega)]
      simp only [arr_cells, go_sem, Nat.reduceMod, Nat.reduceBNe, Nat.reduceBEq, Nat.reduceEqDiff, Nat.reduceAdd, Int.reduceAdd, Nat.reduceMul, Nat.reduceSub, Int.reduceToNat, Int.reduceLE, Int.reduceLT, Int.reduceEq, Int.reduceNe, reduceCtorEq, Nat.reduceLT, Nat.reduceLeDiff, gx0, gs0]
      refine ⟨by omega, call_ev (ev_r6Check hX hs (t.col i) (hl _ (col_mem (by omega)))) ?_⟩
      by_cases hA : Lat.arrE (t.col i) = 0
      · simp only [go_sem, Nat.reduceMod, Nat.reduceBNe, Nat.reduceBEq, Nat.reduceEqDiff, Nat.reduceAdd, Int.reduceAdd, Nat.reduceMul, Nat.reduceSub, Int.reduceToNat, Int.reduceLE, Int.reduceLT, Int.reduceEq, Int.reduceNe, reduceCtorEq, Nat.reduceLT, Nat.reduceLeDiff, hA, gx0]
        by_cases hr : (t.col i).r = 1
        · simp only [go_sem, Nat.reduceMod, Nat.reduceBNe, Nat.reduceBEq, Nat.reduceEqDiff, Nat.reduceAdd, Int.reduceAdd, Nat.reduceMul, Nat.reduceSub, Int.reduceToNat, Int.reduceLE, Int.reduceLT, Int.reduceEq, Int.reduceNe, reduceCtorEq, Nat.reduceLT, Nat.reduceLeDiff, hr, gx0, hic0, e00, arr_cells]
          have hw' : IntKind.i64.wrap ((i : Int) + 1) = ((i + 1 : Nat) : Int) := hw
          refine ⟨fun h => ?_, fun h => ?_⟩
          · have e : colE t i = 11 := by
              unfold colE
              rw [if_neg hN', if_neg hC', if_neg (fun h => h hA), if_neg (fun h => h hr), if_pos]
              rintro ⟨a1, a2⟩
              rw [a1, a2] at h
              simp at h
            exact hcE (by rw [e]; decide) 11 e.symm
          · simp only [beq_iff_eq] at h
            have e : colE t i = 0 := by unfold colE; rw [if_neg hN', if_neg hC', if_neg (fun h => h hA), if_neg (fun h => h hr), if_neg (fun h' => h' h)]
            refine ⟨(i + 1, _), by dsimp only; omega, ⟨by dsimp only; omega, fun j hj => ?_⟩, by rw [hw'], rfl⟩
            dsimp only at hj
            by_cases ej : j = i
            · rw [ej, e]
            · exact i2 j (by omega)
        · simp only [go_sem, Nat.reduceMod, Nat.reduceBNe, Nat.reduceBEq, Nat.reduceEqDiff, Nat.reduceAdd, Int.reduceAdd, Nat.reduceMul, Nat.reduceSub, Int.reduceToNat, Int.reduceLE, Int.reduceLT, Int.reduceEq, Int.reduceNe, reduceCtorEq, Nat.reduceLT, Nat.reduceLeDiff, hr]
          have e : colE t i = 22 := by unfold colE; rw [if_neg hN', if_neg hC', if_neg (fun h => h hA), if_pos hr]
          exact hcE (by rw [e]; decide) 22 e.symm
      · simp only [go_sem, Nat.reduceMod, Nat.reduceBNe, Nat.reduceBEq, Nat.reduceEqDiff, Nat.reduceAdd, Int.reduceAdd, Nat.reduceMul, Nat.reduceSub, Int.reduceToNat, Int.reduceLE, Int.reduceLT, Int.reduceEq, Int.reduceNe, reduceCtorEq, Nat.reduceLT, Nat.reduceLeDiff, hA]
        have e : colE t i = Lat.arrE (t.col i) := by unfold colE; rw [if_neg hN', if_neg hC', if_pos hA]
        exact hcE (by rw [e]; exact hA) _ e.symm
  · have hi' : ¬ (i : Int) < t.n.length := by omega
    simp only [A_ref13_CheckL0, go_sem, Nat.reduceMod, Nat.reduceBNe, Nat.reduceBEq, Nat.reduceEqDiff, Nat.reduceAdd, Int.reduceAdd, Nat.reduceMul, Nat.reduceSub, Int.reduceToNat, Int.reduceLE, Int.reduceLT, Int.reduceEq, Int.reduceNe, reduceCtorEq, Nat.reduceLT, Nat.reduceLeDiff, hi']
    rw [chk_ok ⟨hlen, heq, fun j hj => i2 j (by omega)⟩]
end
end Go.Avm
