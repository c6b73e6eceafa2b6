/- The reference's tables, on. -/
import Derived.Test.YtcldomkahgaplaaGreatDoorAF6
set_option linter.unusedSectionVars false
set_option linter.unusedSimpArgs false
set_option linter.unusedVariables false

/- The reference's tables, on. -/
namespace Go.Avm
open Go Go.Fm
set_option maxRecDepth 10000
section
variable {X : Cx} (hX : X.P = Go.Proofs.Tryz.prog) (hs : Std X)
include hX hs
end
end Go.Avm

/- The law of tables. -/
namespace Go.Avm
open Go Go.Fm
set_option maxRecDepth 10000
def farA (a : Lat.Arr) : Bool := (decide (60 < a.c.length) && decide (a.c.length ≤ 400)) || decide (405 < a.c.length)
def farT3 (t : Go.Tb.Tab) : Bool := decide (18 < t.n.length) || decide (18 < t.c.length) || t.c.any farA || t.n.any (fun s => decide (100 < s.length))
section
variable {X : Cx} (hX : X.P = Go.Proofs.Tryz.prog) (hs : Std X)
include hX hs
theorem ev_Far33 (a : Lat.Arr) : Ev X F_law33_Far [arrV a] (.bool (farA a)) := by
  obtain ⟨k, r, l0, l1, c⟩ := a
  refine ev_of_wpc hs (A_law33_Far_ok hX) 1 ?_
  have e405 : decide ((405 : Int) < (c.length : Nat)) = decide (405 < c.length) := decide_eq_decide.2 (by omega)
  simp only [A_law33_Far, arrV, go_sem, Nat.reduceMod, Nat.reduceBNe, Nat.reduceBEq, Nat.reduceEqDiff, Nat.reduceAdd, Int.reduceAdd, Nat.reduceMul, Nat.reduceSub, Int.reduceToNat, Int.reduceLE, Int.reduceLT, Int.reduceEq, Int.reduceNe, reduceCtorEq, Nat.reduceLT, Nat.reduceLeDiff, farA, e405]
  refine ⟨fun h1 => ⟨fun h2 => ?_, fun h2 => ?_⟩, fun h1 => ?_⟩
  · rw [decide_eq_true (show 60 < c.length by omega), decide_eq_true (show c.length ≤ 400 by omega)]; rfl
  · rw [decide_eq_false (show ¬ c.length ≤ 400 by omega), Bool.and_false, Bool.false_or]
  · rw [decide_eq_false (show ¬ 60 < c.length by omega), Bool.false_and, Bool.false_or]
theorem ev_FarTable (t : Go.Tb.Tab) : Ev X F_law33_FarTable [tabV t] (.bool (farT3 t)) := by
  refine ev_of_wpc hs (A_law33_FarTable_ok hX) 1 ?_
  simp only [A_law33_FarTable, tabV, go_sem, Nat.reduceMod, Nat.reduceBNe, Nat.reduceBEq, Nat.reduceEqDiff, Nat.reduceAdd, Int.reduceAdd, Nat.reduceMul, Nat.reduceSub, Int.reduceToNat, Int.reduceLE, Int.reduceLT, Int.reduceEq, Int.reduceNe, reduceCtorEq, Nat.reduceLT, Nat.reduceLeDiff]
  refine ⟨fun h => ?_, fun h => ⟨fun h2 => ?_, fun h2 => ?_⟩⟩
  · rw [farT3, decide_eq_true (by omega)]; simp
  · rw [farT3, decide_eq_true (show 18 < t.c.length by omega)]; simp
  · have f1 : decide (18 < t.n.length) = false := decide_eq_false (by omega)
    have f2 : decide (18 < t.c.length) = false := decide_eq_false (by omega)
    refine w_loop' hs.hm (ι := Nat) (fun i => i ≤ t.c.length ∧ (t.c.take i).any farA = false) (fun i => [(3, .int .i64 i), (1, .ptr 0 0)]) (fun _ => [.box [lst AV.str .ro t.n, lst arrV .ro t.c]]) (fun i => t.c.length - i) 0 ⟨⟨Nat.zero_le _, rfl⟩, ⟨rfl, rfl, trivial⟩, rfl⟩ fun i hi => ?_
    obtain ⟨i1, i2⟩ := hi
    by_cases hi' : i < t.c.length
    · have h3 : (i : Int) < t.c.length := by omega
      have hw : IntKind.i64.wrap ((i : Int) + 1) = ((i + 1 : Nat) : Int) := by rw [wi64 (by omega)]; omega
      have ec : ∀ d, t.c.getD i d = t.col i := col_eq t i hi'
      have e3 : (t.c.take (i + 1)).any farA = ((t.c.take i).any farA || farA (t.col i)) := by
        rw [List.take_succ_eq_append_getElem hi', List.any_append, ← ec default, List.getD_eq_getElem?_getD, List.getElem?_eq_getElem hi']
        simp
      simp only [A_law33_FarTableL0, go_sem, Nat.reduceMod, Nat.reduceBNe, Nat.reduceBEq, Nat.reduceEqDiff, Nat.reduceAdd, Int.reduceAdd, Nat.reduceMul, Nat.reduceSub, Int.reduceToNat, Int.reduceLE, Int.reduceLT, Int.reduceEq, Int.reduceNe, reduceCtorEq, Nat.reduceLT, Nat.reduceLeDiff, h3]
      rw [ec]
      simp only [arr_cells, go_sem, Nat.reduceMod, Nat.reduceBNe, Nat.reduceBEq, Nat.reduceEqDiff, Nat.reduceAdd, Int.reduceAdd, Nat.reduceMul, Nat.reduceSub, Int.reduceToNat, Int.reduceLE, Int.reduceLT, Int.reduceEq, Int.reduceNe, reduceCtorEq, Nat.reduceLT, Nat.reduceLeDiff]
      refine ⟨by omega, call_ev (ev_Far33 hX hs (t.col i)) ?_⟩
      cases hf : farA (t.col i) with
      | true =>
        simp only [go_sem, Nat.reduceMod, Nat.reduceBNe, Nat.reduceBEq, Nat.reduceEqDiff, Nat.reduceAdd, Int.reduceAdd, Nat.reduceMul, Nat.reduceSub, Int.reduceToNat, Int.reduceLE, Int.reduceLT, Int.reduceEq, Int.reduceNe, reduceCtorEq, Nat.reduceLT, Nat.reduceLeDiff]
        rw [farT3, show t.c.any farA = true from List.any_eq_true.2 ⟨_, col_mem hi', hf⟩]
        simp
      | false =>
        simp only [go_sem, Nat.reduceMod, Nat.reduceBNe, Nat.reduceBEq, Nat.reduceEqDiff, Nat.reduceAdd, Int.reduceAdd, Nat.reduceMul, Nat.reduceSub, Int.reduceToNat, Int.reduceLE, Int.reduceLT, Int.reduceEq, Int.reduceNe, reduceCtorEq, Nat.reduceLT, Nat.reduceLeDiff, hw]
        exact ⟨i + 1, by omega, ⟨hi', by rw [e3, i2, hf]; rfl⟩, rfl⟩
    · have h3 : ¬ (i : Int) < t.c.length := by omega
      rw [List.take_of_length_le (by omega)] at i2
      simp only [A_law33_FarTableL0, go_sem, Nat.reduceMod, Nat.reduceBNe, Nat.reduceBEq, Nat.reduceEqDiff, Nat.reduceAdd, Int.reduceAdd, Nat.reduceMul, Nat.reduceSub, Int.reduceToNat, Int.reduceLE, Int.reduceLT, Int.reduceEq, Int.reduceNe, reduceCtorEq, Nat.reduceLT, Nat.reduceLeDiff, h3]
      refine w_loop' hs.hm (ι := Nat) (fun i => i ≤ t.n.length ∧ (t.n.take i).any (fun s => decide (100 < s.length)) = false) (fun i => [(4, .int .i64 i), (1, .ptr 0 0)]) (fun _ => [.box [lst AV.str .ro t.n, lst arrV .ro t.c]]) (fun i => t.n.length - i) 0 ⟨⟨Nat.zero_le _, rfl⟩, ⟨rfl, rfl, trivial⟩, rfl⟩ fun i hi => ?_
      obtain ⟨i3, i4⟩ := hi
      by_cases hi2 : i < t.n.length
      · have h4 : (i : Int) < t.n.length := by omega
        have hw : IntKind.i64.wrap ((i : Int) + 1) = ((i + 1 : Nat) : Int) := by rw [wi64 (by omega)]; omega
        have e3 := Go.Fm.any_take (p := fun s : List UInt8 => decide (100 < s.length)) hi2
        have hmem : t.n.getD i [] ∈ t.n := by rw [List.getD_eq_getElem?_getD, List.getElem?_eq_getElem hi2]; exact List.getElem_mem _
        have ed : t.n.getD i default = t.n.getD i [] := rfl
        simp only [A_law33_FarTableL1, go_sem, Nat.reduceMod, Nat.reduceBNe, Nat.reduceBEq, Nat.reduceEqDiff, Nat.reduceAdd, Int.reduceAdd, Nat.reduceMul, Nat.reduceSub, Int.reduceToNat, Int.reduceLE, Int.reduceLT, Int.reduceEq, Int.reduceNe, reduceCtorEq, Nat.reduceLT, Nat.reduceLeDiff, h4]
        rw [ed]
        refine ⟨by omega, fun h5 => ?_, fun h5 => ?_⟩
        · rw [farT3, show t.n.any (fun s => decide (100 < s.length)) = true from List.any_eq_true.2 ⟨_, hmem, decide_eq_true (by omega)⟩]
          simp
        · simp only [hw]
          exact ⟨i + 1, by omega, ⟨hi2, by rw [e3, i4, decide_eq_false (by omega)]; rfl⟩, rfl⟩
      · have h4 : ¬ (i : Int) < t.n.length := by omega
        rw [List.take_of_length_le (by omega)] at i4
        simp only [A_law33_FarTableL1, go_sem, Nat.reduceMod, Nat.reduceBNe, Nat.reduceBEq, Nat.reduceEqDiff, Nat.reduceAdd, Int.reduceAdd, Nat.reduceMul, Nat.reduceSub, Int.reduceToNat, Int.reduceLE, Int.reduceLT, Int.reduceEq, Int.reduceNe, reduceCtorEq, Nat.reduceLT, Nat.reduceLeDiff, h4]
        rw [farT3, f1, f2, i2, i4]
        rfl
variable (hP : X.G (sRen.g 17) = some tabQ) {te : Nat} (hR : X.G (sRen.g 16) = some [.ifc te .undef])
include hP hR
end
end Go.Avm
