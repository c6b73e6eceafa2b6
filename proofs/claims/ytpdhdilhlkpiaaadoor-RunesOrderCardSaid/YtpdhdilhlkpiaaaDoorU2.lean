/- Contracts of the functions that the statements reach. -/
import Derived.Test.YtpdhdilhlkpiaaaDoorU1
set_option linter.unusedSectionVars false
set_option linter.unusedSimpArgs false
set_option linter.unusedVariables false

namespace Go.Avm
open Go
set_option maxRecDepth 8000
set_option maxHeartbeats 2000000
section
variable {X : Cx} (hX : X.P = Go.Proofs.Tryd.prog) (hs : Std X) (hG0 : X.G 0 = some tab0) (hG1 : X.G 1 = some tab1)
include hX hs hG0 hG1
theorem runeL_len (b : List UInt8) (h : ckE b = 0) : (runeL b).length ≤ 8000 := by
  have h1 := ckE_0 h
  have h2 := startsF_len b 0
  have h3 : (runeL b).length = (startsF 0 (runs b)).length := by
    simp only [runeL, List.length_map]
    have : ∀ (r : List (Int × Nat)) p, (startsF p r).length = r.length := fun r => by
      induction r with
      | nil => intro p; rfl
      | cons x t ih => intro p; obtain ⟨a, n⟩ := x; simp only [startsF, List.length_cons, ih]
    rw [this]
  omega
theorem law10_0 (b : List UInt8) (l : List Int) (c : 200 < (b.length : Int) ∧ (b.length : Int) ≤ 8000) : Ev X 10 [lst u8 .ro b, lst (AV.int .i64) .ro l] (.bool true) := by
  have aw := ev_awake hX hs hG0 hG1
  refine ev_of_wpc hs (A10_ok hX) 0 ?_
  simp only [A10, go_sem, Nat.reduceBEq, Nat.reduceEqDiff, Nat.reduceAdd, Int.reduceAdd, Nat.reduceMul, Nat.reduceSub, Int.reduceToNat, Int.reduceLE, Int.reduceLT, Int.reduceEq, Int.reduceNe, reduceCtorEq, Nat.reduceLT, Nat.reduceLeDiff, c.1, c.2]
  refine call_ev aw ?_
  simp only [go_sem, Nat.reduceBEq, Nat.reduceEqDiff, Nat.reduceAdd, Int.reduceAdd, Nat.reduceMul, Nat.reduceSub, Int.reduceToNat, Int.reduceLE, Int.reduceLT, Int.reduceEq, Int.reduceNe, reduceCtorEq, Nat.reduceLT, Nat.reduceLeDiff]
theorem law10_1 (b : List UInt8) (l : List Int) (c : 200 < (b.length : Int) ∧ ¬ (b.length : Int) ≤ 8000 ∧ 8100 < (b.length : Int)) : Ev X 10 [lst u8 .ro b, lst (AV.int .i64) .ro l] (.bool true) := by
  have aw := ev_awake hX hs hG0 hG1
  refine ev_of_wpc hs (A10_ok hX) 0 ?_
  simp only [A10, go_sem, Nat.reduceBEq, Nat.reduceEqDiff, Nat.reduceAdd, Int.reduceAdd, Nat.reduceMul, Nat.reduceSub, Int.reduceToNat, Int.reduceLE, Int.reduceLT, Int.reduceEq, Int.reduceNe, reduceCtorEq, Nat.reduceLT, Nat.reduceLeDiff, c.1, c.2.1, c.2.2]
  refine call_ev aw ?_
  simp only [go_sem, Nat.reduceBEq, Nat.reduceEqDiff, Nat.reduceAdd, Int.reduceAdd, Nat.reduceMul, Nat.reduceSub, Int.reduceToNat, Int.reduceLE, Int.reduceLT, Int.reduceEq, Int.reduceNe, reduceCtorEq, Nat.reduceLT, Nat.reduceLeDiff]
theorem law10_20 (b : List UInt8) (l : List Int) (c : ¬ 200 < (b.length : Int) ∧ ¬ 8100 < (b.length : Int)) (d : 100 < (l.length : Int) ∧ (l.length : Int) ≤ 2000) : Ev X 10 [lst u8 .ro b, lst (AV.int .i64) .ro l] (.bool true) := by
  have aw := ev_awake hX hs hG0 hG1
  refine ev_of_wpc hs (A10_ok hX) 0 ?_
  simp only [A10, go_sem, Nat.reduceBEq, Nat.reduceEqDiff, Nat.reduceAdd, Int.reduceAdd, Nat.reduceMul, Nat.reduceSub, Int.reduceToNat, Int.reduceLE, Int.reduceLT, Int.reduceEq, Int.reduceNe, reduceCtorEq, Nat.reduceLT, Nat.reduceLeDiff, c.1, c.2, d.1, d.2]
  refine call_ev aw ?_
  simp only [go_sem, Nat.reduceBEq, Nat.reduceEqDiff, Nat.reduceAdd, Int.reduceAdd, Nat.reduceMul, Nat.reduceSub, Int.reduceToNat, Int.reduceLE, Int.reduceLT, Int.reduceEq, Int.reduceNe, reduceCtorEq, Nat.reduceLT, Nat.reduceLeDiff]
theorem law10_21 (b : List UInt8) (l : List Int) (c : ¬ 200 < (b.length : Int) ∧ ¬ 8100 < (b.length : Int)) (d : 100 < (l.length : Int) ∧ ¬ (l.length : Int) ≤ 2000 ∧ 8100 < (l.length : Int)) : Ev X 10 [lst u8 .ro b, lst (AV.int .i64) .ro l] (.bool true) := by
  have aw := ev_awake hX hs hG0 hG1
  refine ev_of_wpc hs (A10_ok hX) 0 ?_
  simp only [A10, go_sem, Nat.reduceBEq, Nat.reduceEqDiff, Nat.reduceAdd, Int.reduceAdd, Nat.reduceMul, Nat.reduceSub, Int.reduceToNat, Int.reduceLE, Int.reduceLT, Int.reduceEq, Int.reduceNe, reduceCtorEq, Nat.reduceLT, Nat.reduceLeDiff, c.1, c.2, d.1, d.2.1, d.2.2]
  refine call_ev aw ?_
  simp only [go_sem, Nat.reduceBEq, Nat.reduceEqDiff, Nat.reduceAdd, Int.reduceAdd, Nat.reduceMul, Nat.reduceSub, Int.reduceToNat, Int.reduceLE, Int.reduceLT, Int.reduceEq, Int.reduceNe, reduceCtorEq, Nat.reduceLT, Nat.reduceLeDiff]
theorem law10_22 (b : List UInt8) (l : List Int) (hl : ∀ r ∈ l, -9223372036854775808 ≤ r ∧ r < 9223372036854775808) (c : ¬ 200 < (b.length : Int) ∧ ¬ 8100 < (b.length : Int)) (d : ¬ 100 < (l.length : Int) ∧ ¬ 8100 < (l.length : Int)) : Ev X 10 [lst u8 .ro b, lst (AV.int .i64) .ro l] (.bool true) := by
  have aw := ev_awake hX hs hG0 hG1
  have hb : b.length < 9223372036854775800 := by omega
  have hll : l.length < 9223372036854775807 := by omega
  have hsame : Ev X 21 [lst (AV.int .i64) .ro (if ckE b = 0 then runeL b else []), lst (AV.int .i64) .ro (if ckE b = 0 then runeL b else [])] (.bool true) := by
    have := ev_same hX hs (if ckE b = 0 then runeL b else []) (if ckE b = 0 then runeL b else []) (by split
                                                                                                      · have := runeL_len hX hs hG0 hG1 b (by assumption); omega
                                                                                                      · simp)
    simpa using this
  refine ev_of_wpc hs (A10_ok hX) 0 ?_
  simp only [A10, go_sem, Nat.reduceBEq, Nat.reduceEqDiff, Nat.reduceAdd, Int.reduceAdd, Nat.reduceMul, Nat.reduceSub, Int.reduceToNat, Int.reduceLE, Int.reduceLT, Int.reduceEq, Int.reduceNe, reduceCtorEq, Nat.reduceLT, Nat.reduceLeDiff, c.1, c.2, d.1, d.2]
  refine call_ev (ev_Check hX hs hG0 hG1 b) ?_
  simp only [go_sem, Nat.reduceBEq, Nat.reduceEqDiff, Nat.reduceAdd, Int.reduceAdd, Nat.reduceMul, Nat.reduceSub, Int.reduceToNat, Int.reduceLE, Int.reduceLT, Int.reduceEq, Int.reduceNe, reduceCtorEq, Nat.reduceLT, Nat.reduceLeDiff]
  refine call_ev (ev_refCheck hX hs b hb) ?_
  simp only [go_sem, Nat.reduceBEq, Nat.reduceEqDiff, Nat.reduceAdd, Int.reduceAdd, Nat.reduceMul, Nat.reduceSub, Int.reduceToNat, Int.reduceLE, Int.reduceLT, Int.reduceEq, Int.reduceNe, reduceCtorEq, Nat.reduceLT, Nat.reduceLeDiff]
  refine call_ev (ev_Count hX hs hG0 hG1 b) ?_
  simp only [go_sem, Nat.reduceBEq, Nat.reduceEqDiff, Nat.reduceAdd, Int.reduceAdd, Nat.reduceMul, Nat.reduceSub, Int.reduceToNat, Int.reduceLE, Int.reduceLT, Int.reduceEq, Int.reduceNe, reduceCtorEq, Nat.reduceLT, Nat.reduceLeDiff]
  refine call_ev (ev_refCount hX hs b hb) ?_
  simp only [go_sem, Nat.reduceBEq, Nat.reduceEqDiff, Nat.reduceAdd, Int.reduceAdd, Nat.reduceMul, Nat.reduceSub, Int.reduceToNat, Int.reduceLE, Int.reduceLT, Int.reduceEq, Int.reduceNe, reduceCtorEq, Nat.reduceLT, Nat.reduceLeDiff]
  refine call_ev (ev_Runes hX hs hG0 hG1 b) ?_
  simp only [go_sem, Nat.reduceBEq, Nat.reduceEqDiff, Nat.reduceAdd, Int.reduceAdd, Nat.reduceMul, Nat.reduceSub, Int.reduceToNat, Int.reduceLE, Int.reduceLT, Int.reduceEq, Int.reduceNe, reduceCtorEq, Nat.reduceLT, Nat.reduceLeDiff]
  refine call_ev (ev_refRunes hX hs b hb) ?_
  simp only [go_sem, Nat.reduceBEq, Nat.reduceEqDiff, Nat.reduceAdd, Int.reduceAdd, Nat.reduceMul, Nat.reduceSub, Int.reduceToNat, Int.reduceLE, Int.reduceLT, Int.reduceEq, Int.reduceNe, reduceCtorEq, Nat.reduceLT, Nat.reduceLeDiff]
  refine call_ev (ev_Bytes hX hs l hl hll) ?_
  simp only [go_sem, Nat.reduceBEq, Nat.reduceEqDiff, Nat.reduceAdd, Int.reduceAdd, Nat.reduceMul, Nat.reduceSub, Int.reduceToNat, Int.reduceLE, Int.reduceLT, Int.reduceEq, Int.reduceNe, reduceCtorEq, Nat.reduceLT, Nat.reduceLeDiff]
  refine call_ev (ev_refBytes hX hs l hll) ?_
  simp only [go_sem, Nat.reduceBEq, Nat.reduceEqDiff, Nat.reduceAdd, Int.reduceAdd, Nat.reduceMul, Nat.reduceSub, Int.reduceToNat, Int.reduceLE, Int.reduceLT, Int.reduceEq, Int.reduceNe, reduceCtorEq, Nat.reduceLT, Nat.reduceLeDiff]
  refine call_ev hsame ?_
  simp only [go_sem, Nat.reduceBEq, Nat.reduceEqDiff, Nat.reduceAdd, Int.reduceAdd, Nat.reduceMul, Nat.reduceSub, Int.reduceToNat, Int.reduceLE, Int.reduceLT, Int.reduceEq, Int.reduceNe, reduceCtorEq, Nat.reduceLT, Nat.reduceLeDiff]
  refine call_ev aw ?_
  simp only [go_sem, Nat.reduceBEq, Nat.reduceEqDiff, Nat.reduceAdd, Int.reduceAdd, Nat.reduceMul, Nat.reduceSub, Int.reduceToNat, Int.reduceLE, Int.reduceLT, Int.reduceEq, Int.reduceNe, reduceCtorEq, Nat.reduceLT, Nat.reduceLeDiff]
theorem law10_23 (b : List UInt8) (l : List Int) (hl : ∀ r ∈ l, -9223372036854775808 ≤ r ∧ r < 9223372036854775808) (c : ¬ 200 < (b.length : Int) ∧ ¬ 8100 < (b.length : Int)) (d : 100 < (l.length : Int) ∧ ¬ (l.length : Int) ≤ 2000 ∧ ¬ 8100 < (l.length : Int)) : Ev X 10 [lst u8 .ro b, lst (AV.int .i64) .ro l] (.bool true) := by
  have aw := ev_awake hX hs hG0 hG1
  have hb : b.length < 9223372036854775800 := by omega
  have hll : l.length < 9223372036854775807 := by omega
  have hsame : Ev X 21 [lst (AV.int .i64) .ro (if ckE b = 0 then runeL b else []), lst (AV.int .i64) .ro (if ckE b = 0 then runeL b else [])] (.bool true) := by
    have := ev_same hX hs (if ckE b = 0 then runeL b else []) (if ckE b = 0 then runeL b else []) (by split
                                                                                                      · have := runeL_len hX hs hG0 hG1 b (by assumption); omega
                                                                                                      · simp)
    simpa using this
  refine ev_of_wpc hs (A10_ok hX) 0 ?_
  simp only [A10, go_sem, Nat.reduceBEq, Nat.reduceEqDiff, Nat.reduceAdd, Int.reduceAdd, Nat.reduceMul, Nat.reduceSub, Int.reduceToNat, Int.reduceLE, Int.reduceLT, Int.reduceEq, Int.reduceNe, reduceCtorEq, Nat.reduceLT, Nat.reduceLeDiff, c.1, c.2, d.1, d.2.1, d.2.2]
  refine call_ev (ev_Check hX hs hG0 hG1 b) ?_
  simp only [go_sem, Nat.reduceBEq, Nat.reduceEqDiff, Nat.reduceAdd, Int.reduceAdd, Nat.reduceMul, Nat.reduceSub, Int.reduceToNat, Int.reduceLE, Int.reduceLT, Int.reduceEq, Int.reduceNe, reduceCtorEq, Nat.reduceLT, Nat.reduceLeDiff]
  refine call_ev (ev_refCheck hX hs b hb) ?_
  simp only [go_sem, Nat.reduceBEq, Nat.reduceEqDiff, Nat.reduceAdd, Int.reduceAdd, Nat.reduceMul, Nat.reduceSub, Int.reduceToNat, Int.reduceLE, Int.reduceLT, Int.reduceEq, Int.reduceNe, reduceCtorEq, Nat.reduceLT, Nat.reduceLeDiff]
  refine call_ev (ev_Count hX hs hG0 hG1 b) ?_
  simp only [go_sem, Nat.reduceBEq, Nat.reduceEqDiff, Nat.reduceAdd, Int.reduceAdd, Nat.reduceMul, Nat.reduceSub, Int.reduceToNat, Int.reduceLE, Int.reduceLT, Int.reduceEq, Int.reduceNe, reduceCtorEq, Nat.reduceLT, Nat.reduceLeDiff]
  refine call_ev (ev_refCount hX hs b hb) ?_
  simp only [go_sem, Nat.reduceBEq, Nat.reduceEqDiff, Nat.reduceAdd, Int.reduceAdd, Nat.reduceMul, Nat.reduceSub, Int.reduceToNat, Int.reduceLE, Int.reduceLT, Int.reduceEq, Int.reduceNe, reduceCtorEq, Nat.reduceLT, Nat.reduceLeDiff]
  refine call_ev (ev_Runes hX hs hG0 hG1 b) ?_
  simp only [go_sem, Nat.reduceBEq, Nat.reduceEqDiff, Nat.reduceAdd, Int.reduceAdd, Nat.reduceMul, Nat.reduceSub, Int.reduceToNat, Int.reduceLE, Int.reduceLT, Int.reduceEq, Int.reduceNe, reduceCtorEq, Nat.reduceLT, Nat.reduceLeDiff]
  refine call_ev (ev_refRunes hX hs b hb) ?_
  simp only [go_sem, Nat.reduceBEq, Nat.reduceEqDiff, Nat.reduceAdd, Int.reduceAdd, Nat.reduceMul, Nat.reduceSub, Int.reduceToNat, Int.reduceLE, Int.reduceLT, Int.reduceEq, Int.reduceNe, reduceCtorEq, Nat.reduceLT, Nat.reduceLeDiff]
  refine call_ev (ev_Bytes hX hs l hl hll) ?_
  simp only [go_sem, Nat.reduceBEq, Nat.reduceEqDiff, Nat.reduceAdd, Int.reduceAdd, Nat.reduceMul, Nat.reduceSub, Int.reduceToNat, Int.reduceLE, Int.reduceLT, Int.reduceEq, Int.reduceNe, reduceCtorEq, Nat.reduceLT, Nat.reduceLeDiff]
  refine call_ev (ev_refBytes hX hs l hll) ?_
  simp only [go_sem, Nat.reduceBEq, Nat.reduceEqDiff, Nat.reduceAdd, Int.reduceAdd, Nat.reduceMul, Nat.reduceSub, Int.reduceToNat, Int.reduceLE, Int.reduceLT, Int.reduceEq, Int.reduceNe, reduceCtorEq, Nat.reduceLT, Nat.reduceLeDiff]
  refine call_ev hsame ?_
  simp only [go_sem, Nat.reduceBEq, Nat.reduceEqDiff, Nat.reduceAdd, Int.reduceAdd, Nat.reduceMul, Nat.reduceSub, Int.reduceToNat, Int.reduceLE, Int.reduceLT, Int.reduceEq, Int.reduceNe, reduceCtorEq, Nat.reduceLT, Nat.reduceLeDiff]
  refine call_ev aw ?_
  simp only [go_sem, Nat.reduceBEq, Nat.reduceEqDiff, Nat.reduceAdd, Int.reduceAdd, Nat.reduceMul, Nat.reduceSub, Int.reduceToNat, Int.reduceLE, Int.reduceLT, Int.reduceEq, Int.reduceNe, reduceCtorEq, Nat.reduceLT, Nat.reduceLeDiff]
theorem law10_30 (b : List UInt8) (l : List Int) (c : 200 < (b.length : Int) ∧ ¬ (b.length : Int) ≤ 8000 ∧ ¬ 8100 < (b.length : Int)) (d : 100 < (l.length : Int) ∧ (l.length : Int) ≤ 2000) : Ev X 10 [lst u8 .ro b, lst (AV.int .i64) .ro l] (.bool true) := by
  have aw := ev_awake hX hs hG0 hG1
  refine ev_of_wpc hs (A10_ok hX) 0 ?_
  simp only [A10, go_sem, Nat.reduceBEq, Nat.reduceEqDiff, Nat.reduceAdd, Int.reduceAdd, Nat.reduceMul, Nat.reduceSub, Int.reduceToNat, Int.reduceLE, Int.reduceLT, Int.reduceEq, Int.reduceNe, reduceCtorEq, Nat.reduceLT, Nat.reduceLeDiff, c.1, c.2.1, c.2.2, d.1, d.2]
  refine call_ev aw ?_
  simp only [go_sem, Nat.reduceBEq, Nat.reduceEqDiff, Nat.reduceAdd, Int.reduceAdd, Nat.reduceMul, Nat.reduceSub, Int.reduceToNat, Int.reduceLE, Int.reduceLT, Int.reduceEq, Int.reduceNe, reduceCtorEq, Nat.reduceLT, Nat.reduceLeDiff]
theorem law10_31 (b : List UInt8) (l : List Int) (c : 200 < (b.length : Int) ∧ ¬ (b.length : Int) ≤ 8000 ∧ ¬ 8100 < (b.length : Int)) (d : 100 < (l.length : Int) ∧ ¬ (l.length : Int) ≤ 2000 ∧ 8100 < (l.length : Int)) : Ev X 10 [lst u8 .ro b, lst (AV.int .i64) .ro l] (.bool true) := by
  have aw := ev_awake hX hs hG0 hG1
  refine ev_of_wpc hs (A10_ok hX) 0 ?_
  simp only [A10, go_sem, Nat.reduceBEq, Nat.reduceEqDiff, Nat.reduceAdd, Int.reduceAdd, Nat.reduceMul, Nat.reduceSub, Int.reduceToNat, Int.reduceLE, Int.reduceLT, Int.reduceEq, Int.reduceNe, reduceCtorEq, Nat.reduceLT, Nat.reduceLeDiff, c.1, c.2.1, c.2.2, d.1, d.2.1, d.2.2]
  refine call_ev aw ?_
  simp only [go_sem, Nat.reduceBEq, Nat.reduceEqDiff, Nat.reduceAdd, Int.reduceAdd, Nat.reduceMul, Nat.reduceSub, Int.reduceToNat, Int.reduceLE, Int.reduceLT, Int.reduceEq, Int.reduceNe, reduceCtorEq, Nat.reduceLT, Nat.reduceLeDiff]
theorem law10_32 (b : List UInt8) (l : List Int) (hl : ∀ r ∈ l, -9223372036854775808 ≤ r ∧ r < 9223372036854775808) (c : 200 < (b.length : Int) ∧ ¬ (b.length : Int) ≤ 8000 ∧ ¬ 8100 < (b.length : Int)) (d : ¬ 100 < (l.length : Int) ∧ ¬ 8100 < (l.length : Int)) : Ev X 10 [lst u8 .ro b, lst (AV.int .i64) .ro l] (.bool true) := by
  have aw := ev_awake hX hs hG0 hG1
  have hb : b.length < 9223372036854775800 := by omega
  have hll : l.length < 9223372036854775807 := by omega
  have hsame : Ev X 21 [lst (AV.int .i64) .ro (if ckE b = 0 then runeL b else []), lst (AV.int .i64) .ro (if ckE b = 0 then runeL b else [])] (.bool true) := by
    have := ev_same hX hs (if ckE b = 0 then runeL b else []) (if ckE b = 0 then runeL b else []) (by split
                                                                                                      · have := runeL_len hX hs hG0 hG1 b (by assumption); omega
                                                                                                      · simp)
    simpa using this
  refine ev_of_wpc hs (A10_ok hX) 0 ?_
  simp only [A10, go_sem, Nat.reduceBEq, Nat.reduceEqDiff, Nat.reduceAdd, Int.reduceAdd, Nat.reduceMul, Nat.reduceSub, Int.reduceToNat, Int.reduceLE, Int.reduceLT, Int.reduceEq, Int.reduceNe, reduceCtorEq, Nat.reduceLT, Nat.reduceLeDiff, c.1, c.2.1, c.2.2, d.1, d.2]
  refine call_ev (ev_Check hX hs hG0 hG1 b) ?_
  simp only [go_sem, Nat.reduceBEq, Nat.reduceEqDiff, Nat.reduceAdd, Int.reduceAdd, Nat.reduceMul, Nat.reduceSub, Int.reduceToNat, Int.reduceLE, Int.reduceLT, Int.reduceEq, Int.reduceNe, reduceCtorEq, Nat.reduceLT, Nat.reduceLeDiff]
  refine call_ev (ev_refCheck hX hs b hb) ?_
  simp only [go_sem, Nat.reduceBEq, Nat.reduceEqDiff, Nat.reduceAdd, Int.reduceAdd, Nat.reduceMul, Nat.reduceSub, Int.reduceToNat, Int.reduceLE, Int.reduceLT, Int.reduceEq, Int.reduceNe, reduceCtorEq, Nat.reduceLT, Nat.reduceLeDiff]
  refine call_ev (ev_Count hX hs hG0 hG1 b) ?_
  simp only [go_sem, Nat.reduceBEq, Nat.reduceEqDiff, Nat.reduceAdd, Int.reduceAdd, Nat.reduceMul, Nat.reduceSub, Int.reduceToNat, Int.reduceLE, Int.reduceLT, Int.reduceEq, Int.reduceNe, reduceCtorEq, Nat.reduceLT, Nat.reduceLeDiff]
  refine call_ev (ev_refCount hX hs b hb) ?_
  simp only [go_sem, Nat.reduceBEq, Nat.reduceEqDiff, Nat.reduceAdd, Int.reduceAdd, Nat.reduceMul, Nat.reduceSub, Int.reduceToNat, Int.reduceLE, Int.reduceLT, Int.reduceEq, Int.reduceNe, reduceCtorEq, Nat.reduceLT, Nat.reduceLeDiff]
  refine call_ev (ev_Runes hX hs hG0 hG1 b) ?_
  simp only [go_sem, Nat.reduceBEq, Nat.reduceEqDiff, Nat.reduceAdd, Int.reduceAdd, Nat.reduceMul, Nat.reduceSub, Int.reduceToNat, Int.reduceLE, Int.reduceLT, Int.reduceEq, Int.reduceNe, reduceCtorEq, Nat.reduceLT, Nat.reduceLeDiff]
  refine call_ev (ev_refRunes hX hs b hb) ?_
  simp only [go_sem, Nat.reduceBEq, Nat.reduceEqDiff, Nat.reduceAdd, Int.reduceAdd, Nat.reduceMul, Nat.reduceSub, Int.reduceToNat, Int.reduceLE, Int.reduceLT, Int.reduceEq, Int.reduceNe, reduceCtorEq, Nat.reduceLT, Nat.reduceLeDiff]
  refine call_ev (ev_Bytes hX hs l hl hll) ?_
  simp only [go_sem, Nat.reduceBEq, Nat.reduceEqDiff, Nat.reduceAdd, Int.reduceAdd, Nat.reduceMul, Nat.reduceSub, Int.reduceToNat, Int.reduceLE, Int.reduceLT, Int.reduceEq, Int.reduceNe, reduceCtorEq, Nat.reduceLT, Nat.reduceLeDiff]
  refine call_ev (ev_refBytes hX hs l hll) ?_
  simp only [go_sem, Nat.reduceBEq, Nat.reduceEqDiff, Nat.reduceAdd, Int.reduceAdd, Nat.reduceMul, Nat.reduceSub, Int.reduceToNat, Int.reduceLE, Int.reduceLT, Int.reduceEq, Int.reduceNe, reduceCtorEq, Nat.reduceLT, Nat.reduceLeDiff]
  refine call_ev hsame ?_
  simp only [go_sem, Nat.reduceBEq, Nat.reduceEqDiff, Nat.reduceAdd, Int.reduceAdd, Nat.reduceMul, Nat.reduceSub, Int.reduceToNat, Int.reduceLE, Int.reduceLT, Int.reduceEq, Int.reduceNe, reduceCtorEq, Nat.reduceLT, Nat.reduceLeDiff]
  refine call_ev aw ?_
  simp only [go_sem, Nat.reduceBEq, Nat.reduceEqDiff, Nat.reduceAdd, Int.reduceAdd, Nat.reduceMul, Nat.reduceSub, Int.reduceToNat, Int.reduceLE, Int.reduceLT, Int.reduceEq, Int.reduceNe, reduceCtorEq, Nat.reduceLT, Nat.reduceLeDiff]
theorem law10_33 (b : List UInt8) (l : List Int) (hl : ∀ r ∈ l, -9223372036854775808 ≤ r ∧ r < 9223372036854775808) (c : 200 < (b.length : Int) ∧ ¬ (b.length : Int) ≤ 8000 ∧ ¬ 8100 < (b.length : Int)) (d : 100 < (l.length : Int) ∧ ¬ (l.length : Int) ≤ 2000 ∧ ¬ 8100 < (l.length : Int)) : Ev X 10 [lst u8 .ro b, lst (AV.int .i64) .ro l] (.bool true) := by
  have aw := ev_awake hX hs hG0 hG1
  have hb : b.length < 9223372036854775800 := by omega
  have hll : l.length < 9223372036854775807 := by omega
  have hsame : Ev X 21 [lst (AV.int .i64) .ro (if ckE b = 0 then runeL b else []), lst (AV.int .i64) .ro (if ckE b = 0 then runeL b else [])] (.bool true) := by
    have := ev_same hX hs (if ckE b = 0 then runeL b else []) (if ckE b = 0 then runeL b else []) (by split
                                                                                                      · have := runeL_len hX hs hG0 hG1 b (by assumption); omega
                                                                                                      · simp)
    simpa using this
  refine ev_of_wpc hs (A10_ok hX) 0 ?_
  simp only [A10, go_sem, Nat.reduceBEq, Nat.reduceEqDiff, Nat.reduceAdd, Int.reduceAdd, Nat.reduceMul, Nat.reduceSub, Int.reduceToNat, Int.reduceLE, Int.reduceLT, Int.reduceEq, Int.reduceNe, reduceCtorEq, Nat.reduceLT, Nat.reduceLeDiff, c.1, c.2.1, c.2.2, d.1, d.2.1, d.2.2]
  refine call_ev (ev_Check hX hs hG0 hG1 b) ?_
  simp only [go_sem, Nat.reduceBEq, Nat.reduceEqDiff, Nat.reduceAdd, Int.reduceAdd, Nat.reduceMul, Nat.reduceSub, Int.reduceToNat, Int.reduceLE, Int.reduceLT, Int.reduceEq, Int.reduceNe, reduceCtorEq, Nat.reduceLT, Nat.reduceLeDiff]
  refine call_ev (ev_refCheck hX hs b hb) ?_
  simp only [go_sem, Nat.reduceBEq, Nat.reduceEqDiff, Nat.reduceAdd, Int.reduceAdd, Nat.reduceMul, Nat.reduceSub, Int.reduceToNat, Int.reduceLE, Int.reduceLT, Int.reduceEq, Int.reduceNe, reduceCtorEq, Nat.reduceLT, Nat.reduceLeDiff]
  refine call_ev (ev_Count hX hs hG0 hG1 b) ?_
  simp only [go_sem, Nat.reduceBEq, Nat.reduceEqDiff, Nat.reduceAdd, Int.reduceAdd, Nat.reduceMul, Nat.reduceSub, Int.reduceToNat, Int.reduceLE, Int.reduceLT, Int.reduceEq, Int.reduceNe, reduceCtorEq, Nat.reduceLT, Nat.reduceLeDiff]
  refine call_ev (ev_refCount hX hs b hb) ?_
  simp only [go_sem, Nat.reduceBEq, Nat.reduceEqDiff, Nat.reduceAdd, Int.reduceAdd, Nat.reduceMul, Nat.reduceSub, Int.reduceToNat, Int.reduceLE, Int.reduceLT, Int.reduceEq, Int.reduceNe, reduceCtorEq, Nat.reduceLT, Nat.reduceLeDiff]
  refine call_ev (ev_Runes hX hs hG0 hG1 b) ?_
  simp only [go_sem, Nat.reduceBEq, Nat.reduceEqDiff, Nat.reduceAdd, Int.reduceAdd, Nat.reduceMul, Nat.reduceSub, Int.reduceToNat, Int.reduceLE, Int.reduceLT, Int.reduceEq, Int.reduceNe, reduceCtorEq, Nat.reduceLT, Nat.reduceLeDiff]
  refine call_ev (ev_refRunes hX hs b hb) ?_
  simp only [go_sem, Nat.reduceBEq, Nat.reduceEqDiff, Nat.reduceAdd, Int.reduceAdd, Nat.reduceMul, Nat.reduceSub, Int.reduceToNat, Int.reduceLE, Int.reduceLT, Int.reduceEq, Int.reduceNe, reduceCtorEq, Nat.reduceLT, Nat.reduceLeDiff]
  refine call_ev (ev_Bytes hX hs l hl hll) ?_
  simp only [go_sem, Nat.reduceBEq, Nat.reduceEqDiff, Nat.reduceAdd, Int.reduceAdd, Nat.reduceMul, Nat.reduceSub, Int.reduceToNat, Int.reduceLE, Int.reduceLT, Int.reduceEq, Int.reduceNe, reduceCtorEq, Nat.reduceLT, Nat.reduceLeDiff]
  refine call_ev (ev_refBytes hX hs l hll) ?_
  simp only [go_sem, Nat.reduceBEq, Nat.reduceEqDiff, Nat.reduceAdd, Int.reduceAdd, Nat.reduceMul, Nat.reduceSub, Int.reduceToNat, Int.reduceLE, Int.reduceLT, Int.reduceEq, Int.reduceNe, reduceCtorEq, Nat.reduceLT, Nat.reduceLeDiff]
  refine call_ev hsame ?_
  simp only [go_sem, Nat.reduceBEq, Nat.reduceEqDiff, Nat.reduceAdd, Int.reduceAdd, Nat.reduceMul, Nat.reduceSub, Int.reduceToNat, Int.reduceLE, Int.reduceLT, Int.reduceEq, Int.reduceNe, reduceCtorEq, Nat.reduceLT, Nat.reduceLeDiff]
  refine call_ev aw ?_
  simp only [go_sem, Nat.reduceBEq, Nat.reduceEqDiff, Nat.reduceAdd, Int.reduceAdd, Nat.reduceMul, Nat.reduceSub, Int.reduceToNat, Int.reduceLE, Int.reduceLT, Int.reduceEq, Int.reduceNe, reduceCtorEq, Nat.reduceLT, Nat.reduceLeDiff]
theorem ev_law10 (b : List UInt8) (l : List Int) (hl : ∀ r ∈ l, -9223372036854775808 ≤ r ∧ r < 9223372036854775808) : Ev X 10 [lst u8 .ro b, lst (AV.int .i64) .ro l] (.bool true) := by
  rcases (by omega : (200 < (b.length : Int) ∧ (b.length : Int) ≤ 8000) ∨ (200 < (b.length : Int) ∧ ¬ (b.length : Int) ≤ 8000 ∧ 8100 < (b.length : Int)) ∨ (¬ 200 < (b.length : Int) ∧ ¬ 8100 < (b.length : Int)) ∨ (200 < (b.length : Int) ∧ ¬ (b.length : Int) ≤ 8000 ∧ ¬ 8100 < (b.length : Int))) with c | c | c | c
  · exact law10_0 hX hs hG0 hG1 b l c
  · exact law10_1 hX hs hG0 hG1 b l c
  · rcases (by omega : (100 < (l.length : Int) ∧ (l.length : Int) ≤ 2000) ∨ (100 < (l.length : Int) ∧ ¬ (l.length : Int) ≤ 2000 ∧ 8100 < (l.length : Int)) ∨ (¬ 100 < (l.length : Int) ∧ ¬ 8100 < (l.length : Int)) ∨ (100 < (l.length : Int) ∧ ¬ (l.length : Int) ≤ 2000 ∧ ¬ 8100 < (l.length : Int))) with d | d | d | d
    · exact law10_20 hX hs hG0 hG1 b l c d
    · exact law10_21 hX hs hG0 hG1 b l c d
    · exact law10_22 hX hs hG0 hG1 b l hl c d
    · exact law10_23 hX hs hG0 hG1 b l hl c d
  · rcases (by omega : (100 < (l.length : Int) ∧ (l.length : Int) ≤ 2000) ∨ (100 < (l.length : Int) ∧ ¬ (l.length : Int) ≤ 2000 ∧ 8100 < (l.length : Int)) ∨ (¬ 100 < (l.length : Int) ∧ ¬ 8100 < (l.length : Int)) ∨ (100 < (l.length : Int) ∧ ¬ (l.length : Int) ≤ 2000 ∧ ¬ 8100 < (l.length : Int))) with d | d | d | d
    · exact law10_30 hX hs hG0 hG1 b l c d
    · exact law10_31 hX hs hG0 hG1 b l c d
    · exact law10_32 hX hs hG0 hG1 b l hl c d
    · exact law10_33 hX hs hG0 hG1 b l hl c d
end
end Go.Avm
