/- The statement RunesJoins of the seat: the law returns true for every input. -/
import Derived.Test.YtpdhdilhlkpiaaaDoorS1
import Derived.Test.YtpdhdilhlkpiaaaDoorU2
import Derived.Test.YtpdhdilhlkpiaaaDoorL0
import Derived.Test.YtpdhdilhlkpiaaaDoorCards
import Derived.Test.YtpdhdilhlkpiaaaDoorTie
import Derived.SevenTiedAt
set_option linter.unusedSectionVars false
set_option linter.unusedSimpArgs false
set_option linter.unusedVariables false

namespace Go.Avm
open Go
theorem dec_none_iff (t : List UInt8) : dec t = none ↔ (t.length = 0 ∨ 128 ≤ bt t 0 ∧ ¬ (194 ≤ bt t 0 ∧ bt t 0 < 224 ∧ 2 ≤ t.length ∧ 128 ≤ bt t 1 ∧ bt t 1 < 192) ∧
    ¬ (224 ≤ bt t 0 ∧ bt t 0 < 240 ∧ 3 ≤ t.length ∧ lo (bt t 0) ≤ bt t 1 ∧ bt t 1 ≤ hi (bt t 0) ∧ 128 ≤ bt t 2 ∧ bt t 2 < 192) ∧
    ¬ (240 ≤ bt t 0 ∧ bt t 0 < 245 ∧ 4 ≤ t.length ∧ lo (bt t 0) ≤ bt t 1 ∧ bt t 1 ≤ hi (bt t 0) ∧ 128 ≤ bt t 2 ∧ bt t 2 < 192 ∧ 128 ≤ bt t 3 ∧ bt t 3 < 192)) := by
  simp only [dec, decI]
  split
  · simp only [reduceCtorEq, false_iff, true_iff]; omega
  split
  · simp only [reduceCtorEq, false_iff, true_iff]; omega
  split
  · simp only [reduceCtorEq, false_iff, true_iff]; omega
  split
  · simp only [reduceCtorEq, false_iff, true_iff]; omega
  split
  · simp only [reduceCtorEq, false_iff, true_iff]; omega
  · simp only [reduceCtorEq, false_iff, true_iff]; omega
theorem dec_app_none {t b : List UInt8} (h1 : dec t = none) (h2 : more t = false) (h3 : t ≠ []) : dec (t ++ b) = none ∧ more (t ++ b) = false := by
  have hn : 1 ≤ t.length := by cases t with
    | nil => exact absurd rfl h3
    | cons x y => simp
  have hL := lohi (bt t 0)
  have e0 : bt (t ++ b) 0 = bt t 0 := by rw [bt_ap, if_pos (by omega)]
  have e1 : 2 ≤ t.length → bt (t ++ b) 1 = bt t 1 := fun h => by rw [bt_ap, if_pos (by omega)]
  have e2 : 3 ≤ t.length → bt (t ++ b) 2 = bt t 2 := fun h => by rw [bt_ap, if_pos (by omega)]
  have e3 : 4 ≤ t.length → bt (t ++ b) 3 = bt t 3 := fun h => by rw [bt_ap, if_pos (by omega)]
  rw [dec_none_iff] at h1 ⊢
  simp only [more, moreI, Bool.or_eq_false_iff, decide_eq_false_iff_not] at h2 ⊢
  rw [e0]
  rw [List.length_append]
  generalize bt (t ++ b) 1 = y1 at *
  generalize bt (t ++ b) 2 = y2 at *
  generalize bt (t ++ b) 3 = y3 at *
  generalize bt t 0 = x0 at *
  generalize bt t 1 = x1 at *
  generalize bt t 2 = x2 at *
  generalize bt t 3 = x3 at *
  generalize lo x0 = L at *
  generalize hi x0 = U at *
  generalize t.length = n at *
  generalize b.length = m at *
  clear h3 e0
  rcases (by omega : n = 1 ∨ n = 2 ∨ n = 3 ∨ 4 ≤ n) with h | h | h | h
  · clear e1 e2 e3 hL; subst h; constructor <;> omega
  · have := e1 (by omega); clear e1 e2 e3 hL; subst h; subst this; constructor <;> omega
  · have := e1 (by omega); have h' := e2 (by omega); clear e1 e2 e3 hL; subst h; subst this; subst h'; constructor <;> omega
  · have := e1 (by omega); have h' := e2 (by omega); have h'' := e3 (by omega); clear e1 e2 e3 hL; subst this; subst h'; subst h''; constructor <;> omega
/-- A fault stays one if more follows. -/
theorem stop_app_bad {a : List UInt8} (h1 : stop a < a.length) (h2 : more (a.drop (stop a)) = false) (b : List UInt8) : stop (a ++ b) = stop a ∧ more ((a ++ b).drop (stop (a ++ b))) = false := by
  revert h1 h2
  refine runs_ind (P := fun a => stop a < a.length → more (a.drop (stop a)) = false → stop (a ++ b) = stop a ∧ more ((a ++ b).drop (stop (a ++ b))) = false) (fun t h h1 h2 => ?_) (fun t r n h ih h1 h2 => ?_) a
  · rw [stop_none h] at h1 h2 ⊢
    have hne : t ≠ [] := fun e => by subst e; simp at h1
    rw [List.drop_zero] at h2
    have := dec_app_none (b := b) h h2 hne
    rw [stop_none this.1]
    exact ⟨rfl, by rw [List.drop_zero]; exact this.2⟩
  · have hn := dec_rng' h
    have h3 : dec (t ++ b) = some (r, n) := dec_take.2 ⟨by rw [List.length_append]; omega, by rw [List.take_append_of_le_length hn.2.2]; exact (dec_take.1 h).2⟩
    rw [stop_some h] at h1 h2
    rw [← List.drop_drop] at h2
    have k := ih (by rw [List.length_drop]; omega) h2
    rw [stop_some h3, stop_some h, List.drop_append_of_le_length hn.2.2, k.1]
    refine ⟨rfl, ?_⟩
    rw [← List.drop_drop, List.drop_append_of_le_length hn.2.2]
    rw [k.1] at k; exact k.2
theorem startsF_append : ∀ (x y : List (Int × Nat)) (p : Nat), startsF p (x ++ y) = startsF p x ++ startsF (p + (x.map (·.2)).sum) y
  | [], y, p => by simp [startsF]
  | (r, n) :: t, y, p => by
    simp only [List.cons_append, startsF, startsF_append t y, List.map_cons, List.sum_cons]
    rw [Nat.add_assoc]
theorem startL_prefix {a b : List UInt8} (ha : stop a = a.length) (hb : stop b = b.length) : (startL (a ++ b)).take (startL a).length = startL a ∧ (startL a).length ≤ (startL (a ++ b)).length := by
  have e : startL (a ++ b) = startsF 0 (runs a) ++ (startsF a.length (runs b) ++ [((a ++ b).length : Int)]) := by
    simp only [startL, runs_append ha, startsF_append, List.append_assoc]
    have : ((runs a).map (·.2)).sum = a.length := ha
    rw [this, Nat.zero_add]
  have hl : (startL a).length = (startsF 0 (runs a)).length + 1 := by simp [startL]
  rw [e, hl]
  cases hd : dec b with
  | none =>
    rw [stop_none hd] at hb
    have : b = [] := List.length_eq_zero_iff.1 hb.symm
    subst this
    simp only [runs_none hd, startsF, startL, List.nil_append, List.append_nil]
    exact ⟨List.take_of_length_le (by simp), by simp⟩
  | some x =>
    obtain ⟨r, n⟩ := x
    rw [runs_some hd]
    simp only [startsF, List.cons_append, startL]
    constructor
    · rw [List.take_append, List.take_of_length_le (by omega)]
      simp
    · simp
end Go.Avm

namespace Go.Avm
open Go
set_option maxRecDepth 8000
set_option maxHeartbeats 2000000
section
variable {X : Cx} (hX : X.P = Go.Proofs.Tryd.prog) (hs : Std X) (hG0 : X.G 0 = some tab0) (hG1 : X.G 1 = some tab1)
include hX hs hG0 hG1
theorem ev_law5 (a b : List UInt8) : Ev X 5 [lst u8 .ro a, lst u8 .ro b] (.bool true) := by
  have aw := ev_awake hX hs hG0 hG1
  by_cases c1 : 200 < (a.length : Int)
  · refine ev_of_wpc hs (A5_ok hX) 0 ?_
    simp only [A5, go_sem, Nat.reduceBEq, Nat.reduceEqDiff, Nat.reduceAdd, Int.reduceAdd, Nat.reduceMul, Nat.reduceSub, Int.reduceToNat, Int.reduceLE, Int.reduceLT, Int.reduceEq, Int.reduceNe, reduceCtorEq, Nat.reduceLT, Nat.reduceLeDiff, c1]
    refine call_ev aw ?_
    simp only [go_sem, Nat.reduceBEq, Nat.reduceEqDiff, Nat.reduceAdd, Int.reduceAdd, Nat.reduceMul, Nat.reduceSub, Int.reduceToNat, Int.reduceLE, Int.reduceLT, Int.reduceEq, Int.reduceNe, reduceCtorEq, Nat.reduceLT, Nat.reduceLeDiff]
  by_cases c2 : 200 < (b.length : Int)
  · refine ev_of_wpc hs (A5_ok hX) 0 ?_
    simp only [A5, go_sem, Nat.reduceBEq, Nat.reduceEqDiff, Nat.reduceAdd, Int.reduceAdd, Nat.reduceMul, Nat.reduceSub, Int.reduceToNat, Int.reduceLE, Int.reduceLT, Int.reduceEq, Int.reduceNe, reduceCtorEq, Nat.reduceLT, Nat.reduceLeDiff, c1, c2]
    refine call_ev aw ?_
    simp only [go_sem, Nat.reduceBEq, Nat.reduceEqDiff, Nat.reduceAdd, Int.reduceAdd, Nat.reduceMul, Nat.reduceSub, Int.reduceToNat, Int.reduceLE, Int.reduceLT, Int.reduceEq, Int.reduceNe, reduceCtorEq, Nat.reduceLT, Nat.reduceLeDiff]
  have hal : a.length + b.length ≤ 400 := by omega
  by_cases ea : ckE a = 0
  · by_cases eb : ckE b = 0
    · have hsa := ckE_0 ea
      have hsb := ckE_0 eb
      have hst := stop_append hsa.2 b
      have eab : ckE (a ++ b) = 0 := by
        simp only [ckE, stopE, List.length_append]
        rw [if_neg (by omega), hst, hsb.2, if_neg (by omega)]
      have hrl : runeL (a ++ b) = runeL a ++ runeL b := by simp only [runeL, runs_append hsa.2, List.map_append]
      refine ev_of_wpc hs (A5_ok hX) 4 ?_
      simp only [A5, go_sem, Nat.reduceBEq, Nat.reduceEqDiff, Nat.reduceAdd, Int.reduceAdd, Nat.reduceMul, Nat.reduceSub, Int.reduceToNat, Int.reduceLE, Int.reduceLT, Int.reduceEq, Int.reduceNe, reduceCtorEq, Nat.reduceLT, Nat.reduceLeDiff, c1, c2]
      refine call_ev (ev_Runes hX hs hG0 hG1 a) ?_
      simp only [go_sem, Nat.reduceBEq, Nat.reduceEqDiff, Nat.reduceAdd, Int.reduceAdd, Nat.reduceMul, Nat.reduceSub, Int.reduceToNat, Int.reduceLE, Int.reduceLT, Int.reduceEq, Int.reduceNe, reduceCtorEq, Nat.reduceLT, Nat.reduceLeDiff, ea]
      refine call_ev (ev_Runes hX hs hG0 hG1 b) ?_
      simp only [go_sem, Nat.reduceBEq, Nat.reduceEqDiff, Nat.reduceAdd, Int.reduceAdd, Nat.reduceMul, Nat.reduceSub, Int.reduceToNat, Int.reduceLE, Int.reduceLT, Int.reduceEq, Int.reduceNe, reduceCtorEq, Nat.reduceLT, Nat.reduceLeDiff, eb]
      refine ⟨⟨by omega, by omega⟩, ⟨by omega, by omega⟩, ?_⟩
      refine call_ev (ev_Runes hX hs hG0 hG1 (a ++ b)) ?_
      simp only [go_sem, Nat.reduceBEq, Nat.reduceEqDiff, Nat.reduceAdd, Int.reduceAdd, Nat.reduceMul, Nat.reduceSub, Int.reduceToNat, Int.reduceLE, Int.reduceLT, Int.reduceEq, Int.reduceNe, reduceCtorEq, Nat.reduceLT, Nat.reduceLeDiff, eab]
      refine call_ev (ev_Count hX hs hG0 hG1 (a ++ b)) ?_
      simp only [go_sem, Nat.reduceBEq, Nat.reduceEqDiff, Nat.reduceAdd, Int.reduceAdd, Nat.reduceMul, Nat.reduceSub, Int.reduceToNat, Int.reduceLE, Int.reduceLT, Int.reduceEq, Int.reduceNe, reduceCtorEq, Nat.reduceLT, Nat.reduceLeDiff, eab]
      refine call_ev (ev_Starts hX hs hG0 hG1 a) ?_
      simp only [go_sem, Nat.reduceBEq, Nat.reduceEqDiff, Nat.reduceAdd, Int.reduceAdd, Nat.reduceMul, Nat.reduceSub, Int.reduceToNat, Int.reduceLE, Int.reduceLT, Int.reduceEq, Int.reduceNe, reduceCtorEq, Nat.reduceLT, Nat.reduceLeDiff, ea]
      refine call_ev (ev_Starts hX hs hG0 hG1 (a ++ b)) ?_
      simp only [go_sem, Nat.reduceBEq, Nat.reduceEqDiff, Nat.reduceAdd, Int.reduceAdd, Nat.reduceMul, Nat.reduceSub, Int.reduceToNat, Int.reduceLE, Int.reduceLT, Int.reduceEq, Int.reduceNe, reduceCtorEq, Nat.reduceLT, Nat.reduceLeDiff, eab]
      have hra := runeL_len hX hs hG0 hG1 a ea
      have hrb := runeL_len hX hs hG0 hG1 b eb
      have hsa' := startL_small ea
      have hsb' := startL_small eab
      have hpre := startL_prefix hsa.2 hsb.2
      have hlen2 : (runeL (a ++ b)).length = (runeL a).length + (runeL b).length := by rw [hrl, List.length_append]
      have w1 : IntKind.i64.wrap (((runeL a).length : Int) + ((runeL b).length : Int)) = ((runeL a).length : Int) + ((runeL b).length : Int) := wi64 (by omega)
      have hsm : Ev X 21 [lst (AV.int .i64) .ro (runeL (a ++ b)), lst (AV.int .i64) .ro (runeL a ++ runeL b)] (.bool true) := by
        have := ev_same hX hs (runeL (a ++ b)) (runeL a ++ runeL b) (by omega)
        rw [hrl] at this ⊢
        simpa using this
      refine ⟨fun d => absurd (by omega) d, fun d => ⟨⟨by omega, by omega⟩, ⟨by omega, by omega⟩, ?_⟩⟩
      refine call_ev hsm ?_
      simp only [go_sem, Nat.reduceBEq, Nat.reduceEqDiff, Nat.reduceAdd, Int.reduceAdd, Nat.reduceMul, Nat.reduceSub, Int.reduceToNat, Int.reduceLE, Int.reduceLT, Int.reduceEq, Int.reduceNe, reduceCtorEq, Nat.reduceLT, Nat.reduceLeDiff]
      refine ⟨fun d => ⟨⟨by omega, by omega⟩, ?_⟩, fun d => absurd (by omega) d⟩
      have hsi : Ev X 22 [lst (AV.int .i64) .ro (List.take (startL a).length (startL (a ++ b))), lst (AV.int .i64) .ro (startL a)] (.bool true) := by
        have := ev_sameInts hX hs (List.take (startL a).length (startL (a ++ b))) (startL a) (by rw [hpre.1]; omega)
        rw [hpre.1] at this ⊢
        simpa using this
      refine call_ev hsi ?_
      simp only [go_sem, Nat.reduceBEq, Nat.reduceEqDiff, Nat.reduceAdd, Int.reduceAdd, Nat.reduceMul, Nat.reduceSub, Int.reduceToNat, Int.reduceLE, Int.reduceLT, Int.reduceEq, Int.reduceNe, reduceCtorEq, Nat.reduceLT, Nat.reduceLeDiff]
      refine call_ev aw ?_
      simp only [go_sem, Nat.reduceBEq, Nat.reduceEqDiff, Nat.reduceAdd, Int.reduceAdd, Nat.reduceMul, Nat.reduceSub, Int.reduceToNat, Int.reduceLE, Int.reduceLT, Int.reduceEq, Int.reduceNe, reduceCtorEq, Nat.reduceLT, Nat.reduceLeDiff]
    · refine ev_of_wpc hs (A5_ok hX) 4 ?_
      simp only [A5, go_sem, Nat.reduceBEq, Nat.reduceEqDiff, Nat.reduceAdd, Int.reduceAdd, Nat.reduceMul, Nat.reduceSub, Int.reduceToNat, Int.reduceLE, Int.reduceLT, Int.reduceEq, Int.reduceNe, reduceCtorEq, Nat.reduceLT, Nat.reduceLeDiff, c1, c2]
      refine call_ev (ev_Runes hX hs hG0 hG1 a) ?_
      simp only [go_sem, Nat.reduceBEq, Nat.reduceEqDiff, Nat.reduceAdd, Int.reduceAdd, Nat.reduceMul, Nat.reduceSub, Int.reduceToNat, Int.reduceLE, Int.reduceLT, Int.reduceEq, Int.reduceNe, reduceCtorEq, Nat.reduceLT, Nat.reduceLeDiff, ea]
      refine call_ev (ev_Runes hX hs hG0 hG1 b) ?_
      simp only [go_sem, Nat.reduceBEq, Nat.reduceEqDiff, Nat.reduceAdd, Int.reduceAdd, Nat.reduceMul, Nat.reduceSub, Int.reduceToNat, Int.reduceLE, Int.reduceLT, Int.reduceEq, Int.reduceNe, reduceCtorEq, Nat.reduceLT, Nat.reduceLeDiff, eb]
      refine ⟨⟨by omega, by omega⟩, ⟨by omega, by omega⟩, ?_⟩
      refine call_ev (ev_Runes hX hs hG0 hG1 (a ++ b)) ?_
      simp only [go_sem, Nat.reduceBEq, Nat.reduceEqDiff, Nat.reduceAdd, Int.reduceAdd, Nat.reduceMul, Nat.reduceSub, Int.reduceToNat, Int.reduceLE, Int.reduceLT, Int.reduceEq, Int.reduceNe, reduceCtorEq, Nat.reduceLT, Nat.reduceLeDiff]
      refine call_ev (ev_Count hX hs hG0 hG1 (a ++ b)) ?_
      simp only [go_sem, Nat.reduceBEq, Nat.reduceEqDiff, Nat.reduceAdd, Int.reduceAdd, Nat.reduceMul, Nat.reduceSub, Int.reduceToNat, Int.reduceLE, Int.reduceLT, Int.reduceEq, Int.reduceNe, reduceCtorEq, Nat.reduceLT, Nat.reduceLeDiff, ea, eb]
      refine call_ev aw ?_
      simp only [go_sem, Nat.reduceBEq, Nat.reduceEqDiff, Nat.reduceAdd, Int.reduceAdd, Nat.reduceMul, Nat.reduceSub, Int.reduceToNat, Int.reduceLE, Int.reduceLT, Int.reduceEq, Int.reduceNe, reduceCtorEq, Nat.reduceLT, Nat.reduceLeDiff]
  · have hor : ckE a = 370 ∨ (ckE a = 6 ∧ ckE (a ++ b) = 6) := by
      have hl := stop_le a
      have q1 : ¬ 8000 < a.length := by omega
      have q2 : ¬ 8000 < a.length + b.length := by omega
      simp only [ckE, stopE, List.length_append, q1, q2, if_false] at ea ⊢
      by_cases hst : stop a < a.length
      · cases hm : more (a.drop (stop a)) with
        | true => left; simp [hst]
        | false =>
          right
          have h := stop_app_bad hst hm b
          have q3 : stop (a ++ b) < a.length + b.length := by omega
          simp [hst, q3, h.2]
      · simp [hst] at ea
    rcases hor with e370 | ⟨e6, e6'⟩
    · refine ev_of_wpc hs (A5_ok hX) 4 ?_
      simp only [A5, go_sem, Nat.reduceBEq, Nat.reduceEqDiff, Nat.reduceAdd, Int.reduceAdd, Nat.reduceMul, Nat.reduceSub, Int.reduceToNat, Int.reduceLE, Int.reduceLT, Int.reduceEq, Int.reduceNe, reduceCtorEq, Nat.reduceLT, Nat.reduceLeDiff, c1, c2]
      refine call_ev (ev_Runes hX hs hG0 hG1 a) ?_
      simp only [go_sem, Nat.reduceBEq, Nat.reduceEqDiff, Nat.reduceAdd, Int.reduceAdd, Nat.reduceMul, Nat.reduceSub, Int.reduceToNat, Int.reduceLE, Int.reduceLT, Int.reduceEq, Int.reduceNe, reduceCtorEq, Nat.reduceLT, Nat.reduceLeDiff, e370]
      refine call_ev (ev_Runes hX hs hG0 hG1 b) ?_
      simp only [go_sem, Nat.reduceBEq, Nat.reduceEqDiff, Nat.reduceAdd, Int.reduceAdd, Nat.reduceMul, Nat.reduceSub, Int.reduceToNat, Int.reduceLE, Int.reduceLT, Int.reduceEq, Int.reduceNe, reduceCtorEq, Nat.reduceLT, Nat.reduceLeDiff]
      refine ⟨⟨by omega, by omega⟩, ⟨by omega, by omega⟩, ?_⟩
      refine call_ev (ev_Runes hX hs hG0 hG1 (a ++ b)) ?_
      simp only [go_sem, Nat.reduceBEq, Nat.reduceEqDiff, Nat.reduceAdd, Int.reduceAdd, Nat.reduceMul, Nat.reduceSub, Int.reduceToNat, Int.reduceLE, Int.reduceLT, Int.reduceEq, Int.reduceNe, reduceCtorEq, Nat.reduceLT, Nat.reduceLeDiff]
      refine call_ev (ev_Count hX hs hG0 hG1 (a ++ b)) ?_
      simp only [go_sem, Nat.reduceBEq, Nat.reduceEqDiff, Nat.reduceAdd, Int.reduceAdd, Nat.reduceMul, Nat.reduceSub, Int.reduceToNat, Int.reduceLE, Int.reduceLT, Int.reduceEq, Int.reduceNe, reduceCtorEq, Nat.reduceLT, Nat.reduceLeDiff]
      refine call_ev aw ?_
      simp only [go_sem, Nat.reduceBEq, Nat.reduceEqDiff, Nat.reduceAdd, Int.reduceAdd, Nat.reduceMul, Nat.reduceSub, Int.reduceToNat, Int.reduceLE, Int.reduceLT, Int.reduceEq, Int.reduceNe, reduceCtorEq, Nat.reduceLT, Nat.reduceLeDiff]
    · refine ev_of_wpc hs (A5_ok hX) 4 ?_
      simp only [A5, go_sem, Nat.reduceBEq, Nat.reduceEqDiff, Nat.reduceAdd, Int.reduceAdd, Nat.reduceMul, Nat.reduceSub, Int.reduceToNat, Int.reduceLE, Int.reduceLT, Int.reduceEq, Int.reduceNe, reduceCtorEq, Nat.reduceLT, Nat.reduceLeDiff, c1, c2]
      refine call_ev (ev_Runes hX hs hG0 hG1 a) ?_
      simp only [go_sem, Nat.reduceBEq, Nat.reduceEqDiff, Nat.reduceAdd, Int.reduceAdd, Nat.reduceMul, Nat.reduceSub, Int.reduceToNat, Int.reduceLE, Int.reduceLT, Int.reduceEq, Int.reduceNe, reduceCtorEq, Nat.reduceLT, Nat.reduceLeDiff, e6]
      refine call_ev (ev_Runes hX hs hG0 hG1 b) ?_
      simp only [go_sem, Nat.reduceBEq, Nat.reduceEqDiff, Nat.reduceAdd, Int.reduceAdd, Nat.reduceMul, Nat.reduceSub, Int.reduceToNat, Int.reduceLE, Int.reduceLT, Int.reduceEq, Int.reduceNe, reduceCtorEq, Nat.reduceLT, Nat.reduceLeDiff]
      refine ⟨⟨by omega, by omega⟩, ⟨by omega, by omega⟩, ?_⟩
      refine call_ev (ev_Runes hX hs hG0 hG1 (a ++ b)) ?_
      simp only [go_sem, Nat.reduceBEq, Nat.reduceEqDiff, Nat.reduceAdd, Int.reduceAdd, Nat.reduceMul, Nat.reduceSub, Int.reduceToNat, Int.reduceLE, Int.reduceLT, Int.reduceEq, Int.reduceNe, reduceCtorEq, Nat.reduceLT, Nat.reduceLeDiff, e6']
      refine call_ev (ev_Count hX hs hG0 hG1 (a ++ b)) ?_
      simp only [go_sem, Nat.reduceBEq, Nat.reduceEqDiff, Nat.reduceAdd, Int.reduceAdd, Nat.reduceMul, Nat.reduceSub, Int.reduceToNat, Int.reduceLE, Int.reduceLT, Int.reduceEq, Int.reduceNe, reduceCtorEq, Nat.reduceLT, Nat.reduceLeDiff, e6']
      refine call_ev aw ?_
      simp only [go_sem, Nat.reduceBEq, Nat.reduceEqDiff, Nat.reduceAdd, Int.reduceAdd, Nat.reduceMul, Nat.reduceSub, Int.reduceToNat, Int.reduceLE, Int.reduceLT, Int.reduceEq, Int.reduceNe, reduceCtorEq, Nat.reduceLT, Nat.reduceLeDiff]
end
end Go.Avm

/- The statement RunesJoins of the seat: the law returns true for every input. -/
namespace Go.Proofs.YtpdhdilhlkpiaaaDoor
open Go Go.Avm Go.ChangeShapes Go.WideShapes Go.ChangeAt Go.WideMaps Go.WideElems Go.RowKit Go.Lib
set_option maxRecDepth 100000 in
theorem law5_lifted (os : Os) (started : os.Started) (H : Type) (enc : TypeId × Value → H) :
    ReturnsInHanded {} Tryd.checked os 5 .any (fun w args => (Rows.runesJoinsSpec.pre enc Tryd.prog Tryd.f5 [] false w args ∧ laidMetH Tryd.prog laidL w) ∧ sizedMet enc Tryd.prog Tryd.f5 (OpenSpec.ofChange Rows.runesJoinsSpec) false w args)
      (Rows.runesJoinsSpec.post enc Tryd.prog Tryd.f5 false true false false) := by
  refine returnsInHanded_of_change_and (C := Tryd.checked) (X := fun w _ => laidMetH Tryd.prog laidL w) (fun _ _ _ hh h => h.of_heap hh) own started (by kernel_rfl) Tryd.func5
    (ChangeSpec.witness_shaped (enc := enc) (C := Tryd.checked) (os := os) (X := fun w _ => laidMetH Tryd.prog laidL w) false (World.laidAll Tryd.prog os laidL) #[.slice Option.none 0 0, .slice Option.none 0 0] 8 (World.laidAll_os _ _ _)
      (World.shaped_of_ZipB (by kernel_rfl) (by kernel_rfl)) (by kernel_rfl) (by kernel_rfl) (by kernel_rfl)
      (by rw [MakeChecks.laidMetH_plain _ _ _ (by kernel_rfl)]; exact laidMet_laidAll _ (by kernel_rfl) (by kernel_rfl))) ?_
  intro W base args ds gs before hval0 hW _ _ hL _
  have hval : ∀ (j : Nat) t v, Tryd.f5.params[j]? = some t → args[j]? = some v → Value.okWide Tryd.prog W .any base t v := hval0
  have hW' := hW
  obtain ⟨p, q, hA0, hV, rfl, _, _⟩ := hW
  have hA : DataW.TrodAll enc Tryd.prog W 0 (fun _ => true) true Tryd.f5.params.toList args.toList ds p := hA0
  rw [Tryd.params5] at hA hval
  obtain ⟨v0, v1, d0, d1, p0, p1, hargs, rfl, rfl, h0, h1⟩ := trodAll_two hA
  have ha : args = #[v0, v1] := by cases args; simp_all
  subst ha
  obtain ⟨rfl, rfl⟩ := trodVars_none hV
  obtain ⟨z0, hz0, hm0, hr0⟩ := open_intsR Tryd.underlying22 Tryd.underlying5 c5 (hval 0 22 v0 rfl rfl) h0
  obtain ⟨z1, hz1, hm1, hr1⟩ := open_intsR Tryd.underlying22 Tryd.underlying5 c5 (hval 1 22 v1 rfl rfl) h1
  rw [MakeChecks.laidMetH_plain _ _ _ (by kernel_rfl)] at hL
  obtain ⟨X, hX, hs, hG0, hG1, hlaid⟩ := cx_ex
  have hev := ev_law5 hX hs hG0 hG1 (z0.map byteI) (z1.map byteI)
  have hc := calls_of_ev (vs := [v0, v1]) hev (hlaid W hL) (by simp only [RelL, Rel]; exact ⟨_, _, rfl, rel_bytes hz0 hr0, ⟨_, _, rfl, rel_bytes hz1 hr1, rfl⟩⟩)
  rw [hX] at hc
  refine hc.mono fun e W' ⟨v, g', he, hv, hold, hos, hout⟩ => ?_
  subst he
  simp only [Rel] at hv
  subst hv
  exact ⟨_, rfl, post_kept laidOut (by rw [Tryd.params5]; decide +kernel) Tryd.underlying4 (by kernel_rfl) rfl rfl hW' hold ⟨hos, hout⟩⟩
theorem law5_holds : Rows.RunesJoinsSaid :=
  OpenClaim.holds_of_wide 5 Tryd.f5 rfl rfl rfl rfl rfl rfl rfl ⟨rfl, rfl, rfl, rfl, rfl⟩ rfl rfl rfl rfl rfl (by kernel_rfl) Tryd.func5 (by kernel_rfl)
    (of_decide_eq_true (by kernel_rfl)) (by unfold Func.isWrapper; first | (rw [if_pos (by decide +kernel)]; kernel_rfl) | (rw [if_neg (by decide +kernel)]; exact ⟨rfl, rfl⟩))
    (fun os started H enc _ => law5_lifted os started H enc)
theorem runesJoins_card : Rows.RunesJoinsCardSaid :=
  Claim7.holds_tied_plain_at .later [] [.data, .pinned] true (true, "b997fd4f0a95dcff55ba39b6b0491c73e9972c78d2af94630bc3f6db96fd2af7") false law5_holds (fun _ h => by cases h) (by kernel_rfl) (fun _ h => by cases h) runesJoins_row_tie rfl ⟨rfl, rfl⟩ (by kernel_rfl) rfl
    (fun f fn hf hfn => by
      obtain rfl : f = 5 := Option.some.inj ((show Tryd.prog.funcNamed "invigilator/invigilatorlaw02.RunesJoins" = some 5 by kernel_rfl).symm.trans hf) |>.symm
      obtain rfl : fn = Tryd.f5 := (Option.some.inj (Tryd.func5.symm.trans hfn)).symm
      exact ⟨by kernel_rfl, fun j t ht => by
        rw [Tryd.params5] at ht
        have hm : t ∈ [22, 22] := by simpa using Array.mem_of_getElem? ht
        have hall : ([22, 22].all fun u => !Tryd.prog.wantsStandIn u) = true := by kernel_rfl
        exact (show Tryd.prog.wantsStandIn t = false by simpa using List.all_eq_true.1 hall t hm)⟩)
    (by kernel_rfl)
end Go.Proofs.YtpdhdilhlkpiaaaDoor
