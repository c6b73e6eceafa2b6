/- Contracts of the functions that the statements reach. -/
import Derived.Test.YtpdhdilhlkpiaaaDoorT5
set_option linter.unusedSectionVars false
set_option linter.unusedSimpArgs false
set_option linter.unusedVariables false

namespace Go.Avm
open Go
set_option maxRecDepth 4000
section
variable {X : Cx} (hX : X.P = Go.Proofs.Tryd.prog) (hs : Std X)
include hX hs
theorem ev_refCheck (b : List UInt8) (hb : b.length < 9223372036854775800) : Ev X 30 [lst u8 .ro b] (.tuple [.int .i64 (ckN b), .int .i64 (ckE b)]) := by
  refine ev_of_wpc hs (A30_ok hX) 0 ?_
  simp only [A30, go_sem, Nat.reduceBEq, Nat.reduceEqDiff, Nat.reduceAdd, Int.reduceAdd, Nat.reduceMul, Nat.reduceSub, Int.reduceToNat, Int.reduceLE, Int.reduceLT, Int.reduceEq, Int.reduceNe, reduceCtorEq, Nat.reduceLT, Nat.reduceLeDiff]
  refine ⟨fun h => ?_, fun h => ?_⟩
  · have : 8000 < b.length := by omega
    simp only [ckN, ckE, this, if_true]
  · refine w_loop' hs.hm (ι := Nat) (fun p => p ≤ b.length ∧ stop b = p + stop (b.drop p)) (fun p => [(0, lst u8 .ro b), (4, .int .i64 p)]) (fun _ => []) (fun p => b.length - p) 0 ?_ fun p hp => ?_
    · simp only [go_sem, Nat.reduceBEq, Nat.reduceEqDiff, Nat.reduceAdd, Int.reduceAdd, Nat.reduceMul, Nat.reduceSub, Int.reduceToNat, Int.reduceLE, Int.reduceLT, Int.reduceEq, Int.reduceNe, reduceCtorEq, Nat.reduceLT, Nat.reduceLeDiff]
      exact Nat.zero_le _
    · obtain ⟨p1, p2⟩ := hp
      simp only [A30L0, go_sem, Nat.reduceBEq, Nat.reduceEqDiff, Nat.reduceAdd, Int.reduceAdd, Nat.reduceMul, Nat.reduceSub, Int.reduceToNat, Int.reduceLE, Int.reduceLT, Int.reduceEq, Int.reduceNe, reduceCtorEq, Nat.reduceLT, Nat.reduceLeDiff]
      refine ⟨fun c => ?_, fun c => ?_⟩
      · refine call_ev (ev_refDecode hX hs b p (by omega) hb) ?_
        cases hd : dec (b.drop p) with
        | none =>
          have hne : ¬ (if more (b.drop p) = true then (370 : Int) else 6) = 0 := by split <;> omega
          simp only [go_sem, Nat.reduceBEq, Nat.reduceEqDiff, Nat.reduceAdd, Int.reduceAdd, Nat.reduceMul, Nat.reduceSub, Int.reduceToNat, Int.reduceLE, Int.reduceLT, Int.reduceEq, Int.reduceNe, reduceCtorEq, Nat.reduceLT, Nat.reduceLeDiff, dcv, hd, hne]
          have hk := ck_ok h p2 hd
          rw [← hk.1, ← hk.2.1 c]
        | some x =>
          obtain ⟨r, n⟩ := x
          have hr := dec_rng' hd
          rw [List.length_drop] at hr
          simp only [go_sem, Nat.reduceBEq, Nat.reduceEqDiff, Nat.reduceAdd, Int.reduceAdd, Nat.reduceMul, Nat.reduceSub, Int.reduceToNat, Int.reduceLE, Int.reduceLT, Int.reduceEq, Int.reduceNe, reduceCtorEq, Nat.reduceLT, Nat.reduceLeDiff, dcv, hd]
          refine ⟨p + n, by omega, ⟨by omega, by rw [p2, stop_some hd, List.drop_drop]; omega⟩, ?_⟩
          rw [wi64 (by omega)]; rfl
      · have hd : dec (b.drop p) = none := by rw [List.drop_of_length_le (by omega)]; rfl
        have hk := ck_ok h p2 hd
        rw [← hk.1, ← hk.2.2 c]
theorem ev_refRunes (b : List UInt8) (hb : b.length < 9223372036854775800) : Ev X 32 [lst u8 .ro b] (.tuple [lst (AV.int .i64) .ro (if ckE b = 0 then runeL b else []), .int .i64 (ckE b)]) := by
  by_cases he : ckE b = 0
  · rw [if_pos he]
    obtain ⟨hl, hst⟩ := ckE_0 he
    refine ev_of_wpc hs (A32_ok hX) 2 ?_
    simp only [A32, go_sem, Nat.reduceBEq, Nat.reduceEqDiff, Nat.reduceAdd, Int.reduceAdd, Nat.reduceMul, Nat.reduceSub, Int.reduceToNat, Int.reduceLE, Int.reduceLT, Int.reduceEq, Int.reduceNe, reduceCtorEq, Nat.reduceLT, Nat.reduceLeDiff]
    refine call_ev (ev_refCheck hX hs b hb) ?_
    simp only [go_sem, Nat.reduceBEq, Nat.reduceEqDiff, Nat.reduceAdd, Int.reduceAdd, Nat.reduceMul, Nat.reduceSub, Int.reduceToNat, Int.reduceLE, Int.reduceLT, Int.reduceEq, Int.reduceNe, reduceCtorEq, Nat.reduceLT, Nat.reduceLeDiff, he]
    refine w_loop hs.hm (ι := Nat × List Int) (fun s => s.1 ≤ b.length ∧ s.2.length ≤ s.1 ∧ runeL b = s.2 ++ runeL (b.drop s.1) ∧ stop b = s.1 + stop (b.drop s.1)) (fun s => [(0, lst u8 .ro b), (6, lst (AV.int .i64) (.tok 0 1) s.2), (7, .int .i64 s.1)]) (fun s => [.tok s.2.length]) (fun s => b.length - s.1) (0, []) ⟨by simp, _, _, wk_tok 6 1 rfl, ⟨by simp only [go_sem, Nat.reduceBEq, Nat.reduceEqDiff, Nat.reduceAdd, Int.reduceAdd, Nat.reduceMul, Nat.reduceSub, Int.reduceToNat, Int.reduceLE, Int.reduceLT, Int.reduceEq, Int.reduceNe, reduceCtorEq, Nat.reduceLT, Nat.reduceLeDiff]; rfl, rfl⟩⟩ fun s hp => ?_
    obtain ⟨p, acc⟩ := s
    obtain ⟨p1, p2, p3, p4⟩ := hp
    simp only at p1 p2 p3 p4
    simp only [A32L0, go_sem, Nat.reduceBEq, Nat.reduceEqDiff, Nat.reduceAdd, Int.reduceAdd, Nat.reduceMul, Nat.reduceSub, Int.reduceToNat, Int.reduceLE, Int.reduceLT, Int.reduceEq, Int.reduceNe, reduceCtorEq, Nat.reduceLT, Nat.reduceLeDiff]
    refine ⟨fun c => ?_, fun c => ?_⟩
    · cases hd : dec (b.drop p) with
      | none =>
        exfalso
        rw [stop_none hd] at p4; omega
      | some x =>
        obtain ⟨r, n⟩ := x
        have hr := dec_rng' hd
        rw [List.length_drop] at hr
        refine call_ev (ev_refDecode hX hs b p (by omega) (by omega)) ?_
        simp only [go_sem, Nat.reduceBEq, Nat.reduceEqDiff, Nat.reduceAdd, Int.reduceAdd, Nat.reduceMul, Nat.reduceSub, Int.reduceToNat, Int.reduceLE, Int.reduceLT, Int.reduceEq, Int.reduceNe, reduceCtorEq, Nat.reduceLT, Nat.reduceLeDiff, dcv, hd]
        refine ⟨⟨by omega, by omega⟩, (p + n, acc ++ [r]), by simp only; omega, ⟨by simp only; omega, by simp only [List.length_append, List.length_cons, List.length_nil]; omega, ?_, ?_⟩, ?_, by simp only [List.length_append, List.length_cons, List.length_nil, Nat.zero_add]⟩
        · simp only [p3, runeL_some hd, List.drop_drop, List.append_assoc, List.cons_append, List.nil_append]
        · simp only [p4, stop_some hd, List.drop_drop]; omega
        all_goals first | rfl | (rw [wi64 (by omega)]; exact ⟨rfl, rfl⟩)
    · have hd : dec (b.drop p) = none := by rw [List.drop_of_length_le (by omega)]; rfl
      rw [p3, runeL_none hd, List.append_nil]
  · rw [if_neg he]
    refine ev_ro2 (p := .ex) (es := []) ?_
    refine ev_of_wpc hs (A32_ok hX) 2 ?_
    simp only [A32, go_sem, Nat.reduceBEq, Nat.reduceEqDiff, Nat.reduceAdd, Int.reduceAdd, Nat.reduceMul, Nat.reduceSub, Int.reduceToNat, Int.reduceLE, Int.reduceLT, Int.reduceEq, Int.reduceNe, reduceCtorEq, Nat.reduceLT, Nat.reduceLeDiff]
    refine call_ev (ev_refCheck hX hs b hb) ?_
    simp only [go_sem, Nat.reduceBEq, Nat.reduceEqDiff, Nat.reduceAdd, Int.reduceAdd, Nat.reduceMul, Nat.reduceSub, Int.reduceToNat, Int.reduceLE, Int.reduceLT, Int.reduceEq, Int.reduceNe, reduceCtorEq, Nat.reduceLT, Nat.reduceLeDiff, he]
theorem ev_refStarts (b : List UInt8) (hb : b.length < 9223372036854775800) : Ev X 23 [lst u8 .ro b] (.tuple [lst (AV.int .i64) .ro (if ckE b = 0 then startL b else []), .int .i64 (ckE b)]) := by
  by_cases he : ckE b = 0
  · rw [if_pos he]
    obtain ⟨hl, hst⟩ := ckE_0 he
    refine ev_of_wpc hs (A23_ok hX) 2 ?_
    simp only [A23, go_sem, Nat.reduceBEq, Nat.reduceEqDiff, Nat.reduceAdd, Int.reduceAdd, Nat.reduceMul, Nat.reduceSub, Int.reduceToNat, Int.reduceLE, Int.reduceLT, Int.reduceEq, Int.reduceNe, reduceCtorEq, Nat.reduceLT, Nat.reduceLeDiff]
    refine call_ev (ev_refCheck hX hs b hb) ?_
    simp only [go_sem, Nat.reduceBEq, Nat.reduceEqDiff, Nat.reduceAdd, Int.reduceAdd, Nat.reduceMul, Nat.reduceSub, Int.reduceToNat, Int.reduceLE, Int.reduceLT, Int.reduceEq, Int.reduceNe, reduceCtorEq, Nat.reduceLT, Nat.reduceLeDiff, he]
    refine w_loop hs.hm (ι := Nat × List Int) (fun s => s.1 ≤ b.length ∧ s.2.length ≤ s.1 ∧ startsF 0 (runs b) = s.2 ++ startsF s.1 (runs (b.drop s.1)) ∧ stop b = s.1 + stop (b.drop s.1)) (fun s => [(0, lst u8 .ro b), (6, lst (AV.int .i64) (.tok 0 1) s.2), (7, .int .i64 s.1)]) (fun s => [.tok s.2.length]) (fun s => b.length - s.1) (0, []) ⟨by simp, _, _, wk_tok 6 1 rfl, ⟨by simp only [go_sem, Nat.reduceBEq, Nat.reduceEqDiff, Nat.reduceAdd, Int.reduceAdd, Nat.reduceMul, Nat.reduceSub, Int.reduceToNat, Int.reduceLE, Int.reduceLT, Int.reduceEq, Int.reduceNe, reduceCtorEq, Nat.reduceLT, Nat.reduceLeDiff]; rfl, rfl⟩⟩ fun s hp => ?_
    obtain ⟨p, acc⟩ := s
    obtain ⟨p1, p2, p3, p4⟩ := hp
    simp only at p1 p2 p3 p4
    simp only [A23L0, go_sem, Nat.reduceBEq, Nat.reduceEqDiff, Nat.reduceAdd, Int.reduceAdd, Nat.reduceMul, Nat.reduceSub, Int.reduceToNat, Int.reduceLE, Int.reduceLT, Int.reduceEq, Int.reduceNe, reduceCtorEq, Nat.reduceLT, Nat.reduceLeDiff]
    refine ⟨fun c => ?_, fun c => ?_⟩
    · cases hd : dec (b.drop p) with
      | none =>
        exfalso
        rw [stop_none hd] at p4; omega
      | some x =>
        obtain ⟨r, n⟩ := x
        have hr := dec_rng' hd
        rw [List.length_drop] at hr
        refine ⟨⟨by omega, by omega⟩, ?_⟩
        refine call_ev (ev_refDecode hX hs b p (by omega) (by omega)) ?_
        simp only [go_sem, Nat.reduceBEq, Nat.reduceEqDiff, Nat.reduceAdd, Int.reduceAdd, Nat.reduceMul, Nat.reduceSub, Int.reduceToNat, Int.reduceLE, Int.reduceLT, Int.reduceEq, Int.reduceNe, reduceCtorEq, Nat.reduceLT, Nat.reduceLeDiff, dcv, hd]
        refine ⟨(p + n, acc ++ [(p : Int)]), by simp only; omega, ⟨by simp only; omega, by simp only [List.length_append, List.length_cons, List.length_nil]; omega, ?_, ?_⟩, ?_, by simp only [List.length_append, List.length_cons, List.length_nil, Nat.zero_add]⟩
        · simp only [p3, runs_some hd, startsF, List.drop_drop, List.append_assoc, List.cons_append, List.nil_append]
        · simp only [p4, stop_some hd, List.drop_drop]; omega
        all_goals first | rfl | (rw [wi64 (by omega)]; exact ⟨rfl, rfl⟩)
    · have hd : dec (b.drop p) = none := by rw [List.drop_of_length_le (by omega)]; rfl
      refine ⟨⟨by omega, by omega⟩, ?_⟩
      have : p = b.length := by omega
      subst this
      rw [startL, p3, runs_none hd, startsF, List.append_nil]
  · rw [if_neg he]
    refine ev_ro2 (p := .ex) (es := []) ?_
    refine ev_of_wpc hs (A23_ok hX) 2 ?_
    simp only [A23, go_sem, Nat.reduceBEq, Nat.reduceEqDiff, Nat.reduceAdd, Int.reduceAdd, Nat.reduceMul, Nat.reduceSub, Int.reduceToNat, Int.reduceLE, Int.reduceLT, Int.reduceEq, Int.reduceNe, reduceCtorEq, Nat.reduceLT, Nat.reduceLeDiff]
    refine call_ev (ev_refCheck hX hs b hb) ?_
    simp only [go_sem, Nat.reduceBEq, Nat.reduceEqDiff, Nat.reduceAdd, Int.reduceAdd, Nat.reduceMul, Nat.reduceSub, Int.reduceToNat, Int.reduceLE, Int.reduceLT, Int.reduceEq, Int.reduceNe, reduceCtorEq, Nat.reduceLT, Nat.reduceLeDiff, he]
theorem ev_refCount (b : List UInt8) (hb : b.length < 9223372036854775800) : Ev X 31 [lst u8 .ro b] (.tuple [.int .i64 (if ckE b = 0 then (runeL b).length else 0), .int .i64 (ckE b)]) := by
  refine ev_of_wpc hs (A31_ok hX) 2 ?_
  simp only [A31, go_sem, Nat.reduceBEq, Nat.reduceEqDiff, Nat.reduceAdd, Int.reduceAdd, Nat.reduceMul, Nat.reduceSub, Int.reduceToNat, Int.reduceLE, Int.reduceLT, Int.reduceEq, Int.reduceNe, reduceCtorEq, Nat.reduceLT, Nat.reduceLeDiff]
  refine call_ev (ev_refRunes hX hs b hb) ?_
  simp only [go_sem, Nat.reduceBEq, Nat.reduceEqDiff, Nat.reduceAdd, Int.reduceAdd, Nat.reduceMul, Nat.reduceSub, Int.reduceToNat, Int.reduceLE, Int.reduceLT, Int.reduceEq, Int.reduceNe, reduceCtorEq, Nat.reduceLT, Nat.reduceLeDiff]
  split <;> rfl
end
end Go.Avm

namespace Go.Avm
open Go
def backE (b : List UInt8) (i : Int) : Int := if ckE b = 0 then (if i < 0 ∨ b.length < i then 7 else 0) else ckE b
def backR (b : List UInt8) (i : Int) : Int := if backE b i = 0 then backV b i else 0
theorem backE_bad {b : List UInt8} (i : Int) (h : ¬ ckE b = 0) : backE b i = ckE b ∧ backR b i = 0 := by
  have : backE b i = ckE b := by simp only [backE, if_neg h]
  exact ⟨this, by simp only [backR, this, if_neg h]⟩
theorem backE_out {b : List UInt8} {i : Int} (h : ckE b = 0) (hi : i < 0 ∨ b.length < i) : backE b i = 7 ∧ backR b i = 0 := by
  have : backE b i = 7 := by simp only [backE, if_pos h, if_pos hi]
  exact ⟨this, by simp [backR, this]⟩
theorem backE_ok {b : List UInt8} {i : Int} (h : ckE b = 0) (hi : ¬ (i < 0 ∨ b.length < i)) : backE b i = 0 ∧ backR b i = backV b i := by
  have : backE b i = 0 := by simp only [backE, if_pos h, if_neg hi]
  exact ⟨this, by simp [backR, this]⟩
theorem startsF_len (t : List UInt8) : ∀ q, (startsF q (runs t)).length ≤ stop t := by
  refine runs_ind (P := fun t => ∀ q, (startsF q (runs t)).length ≤ stop t) (fun t h q => by rw [runs_none h]; simp [startsF]) (fun t r n h ih q => ?_) t
  have hn := dec_rng' h
  rw [runs_some h, stop_some h]
  simp only [startsF, List.length_cons]
  have := ih (q + n); omega
theorem startL_len (b : List UInt8) : (startL b).length ≤ stop b + 1 := by
  have := startsF_len b 0
  simp only [startL, List.length_append, List.length_cons, List.length_nil]; omega
theorem u8_start (b : UInt8) : (!decide (bits .and .u8 (b.toNat : Int) 192 = 128)) = !conB (b.toNat : Int) := by
  have : ∀ n : Fin 256, (!decide (bits .and .u8 ((n.val : Nat) : Int) 192 = 128)) = !conB ((n.val : Nat) : Int) := by decide +kernel
  exact this ⟨b.toNat, b.toNat_lt⟩
set_option maxRecDepth 4000
section
variable {X : Cx} (hX : X.P = Go.Proofs.Tryd.prog) (hs : Std X)
include hX hs
theorem ev_runeStart (b : UInt8) : Ev X 46 [.int .u8 (b.toNat : Int)] (.bool (!conB (b.toNat : Int))) := by
  refine ev_of_wpc hs (A46_ok hX) 0 ?_
  simp only [A46, go_sem, Nat.reduceBEq, Nat.reduceEqDiff, Nat.reduceAdd, Int.reduceAdd, Nat.reduceMul, Nat.reduceSub, Int.reduceToNat, Int.reduceLE, Int.reduceLT, Int.reduceEq, Int.reduceNe, reduceCtorEq, Nat.reduceLT, Nat.reduceLeDiff]
  rw [u8_start]
theorem ev_refBack (b : List UInt8) (i : Int) (hb : b.length < 9223372036854775800) : Ev X 27 [lst u8 .ro b, .int .i64 i] (.tuple [.int .i64 (backR b i), .int .i64 (backE b i)]) := by
  by_cases he : ckE b = 0
  · have hst := ckE_0 he
    by_cases ho : i < 0 ∨ b.length < i
    · have hk := backE_out he ho
      refine ev_of_wpc hs (A27_ok hX) 0 ?_
      simp only [A27, go_sem, Nat.reduceBEq, Nat.reduceEqDiff, Nat.reduceAdd, Int.reduceAdd, Nat.reduceMul, Nat.reduceSub, Int.reduceToNat, Int.reduceLE, Int.reduceLT, Int.reduceEq, Int.reduceNe, reduceCtorEq, Nat.reduceLT, Nat.reduceLeDiff]
      refine call_ev (ev_refStarts hX hs b hb) ?_
      simp only [go_sem, Nat.reduceBEq, Nat.reduceEqDiff, Nat.reduceAdd, Int.reduceAdd, Nat.reduceMul, Nat.reduceSub, Int.reduceToNat, Int.reduceLE, Int.reduceLT, Int.reduceEq, Int.reduceNe, reduceCtorEq, Nat.reduceLT, Nat.reduceLeDiff, he]
      rw [hk.1, hk.2]
      refine ⟨fun c => rfl, fun c => ⟨fun c => rfl, fun c => by omega⟩⟩
    · have hk := backE_ok he ho
      refine ev_of_wpc hs (A27_ok hX) 0 ?_
      simp only [A27, go_sem, Nat.reduceBEq, Nat.reduceEqDiff, Nat.reduceAdd, Int.reduceAdd, Nat.reduceMul, Nat.reduceSub, Int.reduceToNat, Int.reduceLE, Int.reduceLT, Int.reduceEq, Int.reduceNe, reduceCtorEq, Nat.reduceLT, Nat.reduceLeDiff]
      refine call_ev (ev_refStarts hX hs b hb) ?_
      simp only [go_sem, Nat.reduceBEq, Nat.reduceEqDiff, Nat.reduceAdd, Int.reduceAdd, Nat.reduceMul, Nat.reduceSub, Int.reduceToNat, Int.reduceLE, Int.reduceLT, Int.reduceEq, Int.reduceNe, reduceCtorEq, Nat.reduceLT, Nat.reduceLeDiff, he]
      rw [hk.1, hk.2]
      refine ⟨fun c => by omega, fun c => ⟨fun c => by omega, fun c => ?_⟩⟩
      have hlen := startL_len b
      refine w_loop' hs.hm (ι := Nat) (fun k => k ≤ (startL b).length) (fun k => [(1, .int .i64 i), (6, lst (AV.int .i64) .ro (startL b)), (8, .int .i64 (((startL b).take k).foldl (fun o s => if s ≤ i then s else o) 0)), (9, .int .i64 k)]) (fun _ => []) (fun k => (startL b).length - k) 0 ?_ fun k hk2 => ?_
      · simp only [go_sem, Nat.reduceBEq, Nat.reduceEqDiff, Nat.reduceAdd, Int.reduceAdd, Nat.reduceMul, Nat.reduceSub, Int.reduceToNat, Int.reduceLE, Int.reduceLT, Int.reduceEq, Int.reduceNe, reduceCtorEq, Nat.reduceLT, Nat.reduceLeDiff, List.foldl_nil]
        exact Nat.zero_le _
      · simp only [A27L0, go_sem, Nat.reduceBEq, Nat.reduceEqDiff, Nat.reduceAdd, Int.reduceAdd, Nat.reduceMul, Nat.reduceSub, Int.reduceToNat, Int.reduceLE, Int.reduceLT, Int.reduceEq, Int.reduceNe, reduceCtorEq, Nat.reduceLT, Nat.reduceLeDiff]
        have hstep : ∀ h : k < (startL b).length, ((startL b).take (k + 1)).foldl (fun o s => if s ≤ i then s else o) 0 = if (startL b).getD k default ≤ i then (startL b).getD k default else ((startL b).take k).foldl (fun o s => if s ≤ i then s else o) 0 := fun h => by
          rw [List.take_succ_eq_append_getElem h, List.foldl_append]
          simp [List.getD, h]
        refine ⟨fun c => ⟨by omega, fun d => ⟨by omega, k + 1, by omega, by omega, ?_⟩, fun d => ⟨k + 1, by omega, by omega, ?_⟩⟩, fun c => ?_⟩
        · rw [hstep (by omega), if_pos d, wi64 (by omega)]; exact ⟨rfl, rfl⟩
        · rw [hstep (by omega), if_neg d, wi64 (by omega)]; exact ⟨rfl, rfl⟩
        · rw [List.take_of_length_le (by omega)]; rfl
  · have hk := backE_bad i he
    refine ev_of_wpc hs (A27_ok hX) 0 ?_
    simp only [A27, go_sem, Nat.reduceBEq, Nat.reduceEqDiff, Nat.reduceAdd, Int.reduceAdd, Nat.reduceMul, Nat.reduceSub, Int.reduceToNat, Int.reduceLE, Int.reduceLT, Int.reduceEq, Int.reduceNe, reduceCtorEq, Nat.reduceLT, Nat.reduceLeDiff]
    refine call_ev (ev_refStarts hX hs b hb) ?_
    simp only [go_sem, Nat.reduceBEq, Nat.reduceEqDiff, Nat.reduceAdd, Int.reduceAdd, Nat.reduceMul, Nat.reduceSub, Int.reduceToNat, Int.reduceLE, Int.reduceLT, Int.reduceEq, Int.reduceNe, reduceCtorEq, Nat.reduceLT, Nat.reduceLeDiff, he]
    rw [hk.1, hk.2]
theorem ev_refOn (b : List UInt8) (i : Int) (hb : b.length < 9223372036854775800) : Ev X 25 [lst u8 .ro b, .int .i64 i] (.tuple [.bool (decide (backE b i = 0 ∧ backR b i = i)), .int .i64 (backE b i)]) := by
  refine ev_of_wpc hs (A25_ok hX) 0 ?_
  simp only [A25, go_sem, Nat.reduceBEq, Nat.reduceEqDiff, Nat.reduceAdd, Int.reduceAdd, Nat.reduceMul, Nat.reduceSub, Int.reduceToNat, Int.reduceLE, Int.reduceLT, Int.reduceEq, Int.reduceNe, reduceCtorEq, Nat.reduceLT, Nat.reduceLeDiff]
  refine call_ev (ev_refBack hX hs b i hb) ?_
  simp only [go_sem, Nat.reduceBEq, Nat.reduceEqDiff, Nat.reduceAdd, Int.reduceAdd, Nat.reduceMul, Nat.reduceSub, Int.reduceToNat, Int.reduceLE, Int.reduceLT, Int.reduceEq, Int.reduceNe, reduceCtorEq, Nat.reduceLT, Nat.reduceLeDiff]
  refine ⟨fun c => ?_, fun c => ?_⟩
  · simp [c]
  · simp [c]
variable (hG0 : X.G 0 = some tab0) (hG1 : X.G 1 = some tab1)
include hG0 hG1
theorem ev_Back (b : List UInt8) (i : Int) : Ev X 26 [lst u8 .ro b, .int .i64 i] (.tuple [.int .i64 (backR b i), .int .i64 (backE b i)]) := by
  by_cases he : ckE b = 0
  · have hst := ckE_0 he
    by_cases ho : i < 0 ∨ b.length < i
    · have hk := backE_out he ho
      refine ev_of_wpc hs (A26_ok hX) 0 ?_
      simp only [A26, go_sem, Nat.reduceBEq, Nat.reduceEqDiff, Nat.reduceAdd, Int.reduceAdd, Nat.reduceMul, Nat.reduceSub, Int.reduceToNat, Int.reduceLE, Int.reduceLT, Int.reduceEq, Int.reduceNe, reduceCtorEq, Nat.reduceLT, Nat.reduceLeDiff]
      refine call_ev (ev_Check hX hs hG0 hG1 b) ?_
      simp only [go_sem, Nat.reduceBEq, Nat.reduceEqDiff, Nat.reduceAdd, Int.reduceAdd, Nat.reduceMul, Nat.reduceSub, Int.reduceToNat, Int.reduceLE, Int.reduceLT, Int.reduceEq, Int.reduceNe, reduceCtorEq, Nat.reduceLT, Nat.reduceLeDiff, he]
      rw [hk.1, hk.2]
      exact ⟨fun c => rfl, fun c => ⟨fun c => rfl, fun c => by omega⟩⟩
    · have hk := backE_ok he ho
      refine ev_of_wpc hs (A26_ok hX) 0 ?_
      simp only [A26, go_sem, Nat.reduceBEq, Nat.reduceEqDiff, Nat.reduceAdd, Int.reduceAdd, Nat.reduceMul, Nat.reduceSub, Int.reduceToNat, Int.reduceLE, Int.reduceLT, Int.reduceEq, Int.reduceNe, reduceCtorEq, Nat.reduceLT, Nat.reduceLeDiff]
      refine call_ev (ev_Check hX hs hG0 hG1 b) ?_
      simp only [go_sem, Nat.reduceBEq, Nat.reduceEqDiff, Nat.reduceAdd, Int.reduceAdd, Nat.reduceMul, Nat.reduceSub, Int.reduceToNat, Int.reduceLE, Int.reduceLT, Int.reduceEq, Int.reduceNe, reduceCtorEq, Nat.reduceLT, Nat.reduceLeDiff, he]
      rw [hk.1, hk.2]
      refine ⟨fun c => by omega, fun c => ⟨fun c => by omega, fun c => ?_⟩⟩
      refine w_loop' hs.hm (ι := Nat) (fun k => (k : Int) ≤ i ∧ ∀ p : Nat, k < p → (p : Int) ≤ i → (p : Int) ∉ startL b) (fun k => [(0, lst u8 .ro b), (1, .int .i64 k)]) (fun _ => []) (fun k => k) i.toNat ?_ fun k hk => ?_
      · simp only [go_sem, Nat.reduceBEq, Nat.reduceEqDiff, Nat.reduceAdd, Int.reduceAdd, Nat.reduceMul, Nat.reduceSub, Int.reduceToNat, Int.reduceLE, Int.reduceLT, Int.reduceEq, Int.reduceNe, reduceCtorEq, Nat.reduceLT, Nat.reduceLeDiff]
        refine ⟨⟨by omega, fun p p1 p2 => by omega⟩, by rw [Int.toNat_of_nonneg (by omega)]⟩
      · obtain ⟨k1, k2⟩ := hk
        have hend : (k : Int) ∈ startL b → (k : Int) = backV b i := fun hm => by
          refine (backV_is hst.2 (by omega) hm k1 fun s hs hsi => ?_).symm
          rcases Int.lt_or_le (k : Int) s with h' | h'
          · have := k2 s.toNat (by omega) (by omega)
            rw [Int.toNat_of_nonneg (by omega)] at this
            exact absurd hs this
          · exact h'
        have hiff := startL_iff hst.2 k (by omega)
        simp only [A26L0, go_sem, Nat.reduceBEq, Nat.reduceEqDiff, Nat.reduceAdd, Int.reduceAdd, Nat.reduceMul, Nat.reduceSub, Int.reduceToNat, Int.reduceLE, Int.reduceLT, Int.reduceEq, Int.reduceNe, reduceCtorEq, Nat.reduceLT, Nat.reduceLeDiff, bt_def]
        have hrs : Ev X 46 [.int .u8 (bt b k)] (.bool (!conB (bt b k))) := ev_runeStart hX hs (b.getD k 0)
        have h0 : k = 0 → (k : Int) ∈ startL b := fun h => by subst h; exact startL_zero b hst.2
        refine ⟨fun c1 => ⟨fun c2 => ⟨by omega, ?_⟩, fun c2 => ?_⟩, fun c1 => ?_⟩
        · refine call_ev hrs ?_
          cases hcb : conB (bt b k) with
          | false =>
            simp only [go_sem, Nat.reduceBEq, Nat.reduceEqDiff, Nat.reduceAdd, Int.reduceAdd, Nat.reduceMul, Nat.reduceSub, Int.reduceToNat, Int.reduceLE, Int.reduceLT, Int.reduceEq, Int.reduceNe, reduceCtorEq, Nat.reduceLT, Nat.reduceLeDiff]
            rw [hend (hiff.2 (.inr hcb))]
          | true =>
            simp only [go_sem, Nat.reduceBEq, Nat.reduceEqDiff, Nat.reduceAdd, Int.reduceAdd, Nat.reduceMul, Nat.reduceSub, Int.reduceToNat, Int.reduceLE, Int.reduceLT, Int.reduceEq, Int.reduceNe, reduceCtorEq, Nat.reduceLT, Nat.reduceLeDiff]
            refine ⟨k - 1, by omega, ⟨by omega, fun p p1 p2 => ?_⟩, by rw [wi64 (by omega), Int.natCast_sub (by omega)]; rfl⟩
            rcases (by omega : p = k ∨ k < p) with rfl | h'
            · rw [hiff, hcb]; simp; omega
            · exact k2 p h' p2
        · rw [hend (h0 (by omega))]
        · rw [hend (hiff.2 (.inl (by omega)))]
  · have hk := backE_bad i he
    refine ev_of_wpc hs (A26_ok hX) 0 ?_
    simp only [A26, go_sem, Nat.reduceBEq, Nat.reduceEqDiff, Nat.reduceAdd, Int.reduceAdd, Nat.reduceMul, Nat.reduceSub, Int.reduceToNat, Int.reduceLE, Int.reduceLT, Int.reduceEq, Int.reduceNe, reduceCtorEq, Nat.reduceLT, Nat.reduceLeDiff]
    refine call_ev (ev_Check hX hs hG0 hG1 b) ?_
    simp only [go_sem, Nat.reduceBEq, Nat.reduceEqDiff, Nat.reduceAdd, Int.reduceAdd, Nat.reduceMul, Nat.reduceSub, Int.reduceToNat, Int.reduceLE, Int.reduceLT, Int.reduceEq, Int.reduceNe, reduceCtorEq, Nat.reduceLT, Nat.reduceLeDiff, he]
    rw [hk.1, hk.2]
theorem ev_On (b : List UInt8) (i : Int) : Ev X 24 [lst u8 .ro b, .int .i64 i] (.tuple [.bool (decide (backE b i = 0 ∧ backR b i = i)), .int .i64 (backE b i)]) := by
  refine ev_of_wpc hs (A24_ok hX) 0 ?_
  simp only [A24, go_sem, Nat.reduceBEq, Nat.reduceEqDiff, Nat.reduceAdd, Int.reduceAdd, Nat.reduceMul, Nat.reduceSub, Int.reduceToNat, Int.reduceLE, Int.reduceLT, Int.reduceEq, Int.reduceNe, reduceCtorEq, Nat.reduceLT, Nat.reduceLeDiff]
  refine call_ev (ev_Back hX hs hG0 hG1 b i) ?_
  simp only [go_sem, Nat.reduceBEq, Nat.reduceEqDiff, Nat.reduceAdd, Int.reduceAdd, Nat.reduceMul, Nat.reduceSub, Int.reduceToNat, Int.reduceLE, Int.reduceLT, Int.reduceEq, Int.reduceNe, reduceCtorEq, Nat.reduceLT, Nat.reduceLeDiff]
  refine ⟨fun c => ?_, fun c => ?_⟩
  · simp [c]
  · simp [c]
end
end Go.Avm
