/- Contracts of the functions that the statements reach. -/
import Derived.Test.YtpdhdilhlkpiaaaDoorT4
import Derived.Test.YtpdhdilhlkpiaaaDoorS1
import Derived.Test.YtpdhdilhlkpiaaaDoorM9
set_option linter.unusedSectionVars false
set_option linter.unusedSimpArgs false
set_option linter.unusedVariables false

namespace Go.Avm
open Go
set_option maxRecDepth 4000
section
variable {X : Cx} (hX : X.P = Go.Proofs.Tryd.prog) (hs : Std X) (hG0 : X.G 0 = some tab0) (hG1 : X.G 1 = some tab1)
include hX hs
theorem ev_same (a b : List Int) (hl : a.length < 9223372036854775807) : Ev X 21 [lst (AV.int .i64) .ro a, lst (AV.int .i64) .ro b] (.bool (decide (a = b))) := by
  refine ev_of_wpc hs (A21_ok hX) 0 ?_
  simp only [A21, go_sem, Nat.reduceBEq, Nat.reduceEqDiff, Nat.reduceAdd, Int.reduceAdd, Nat.reduceMul, Nat.reduceSub, Int.reduceToNat, Int.reduceLE, Int.reduceLT, Int.reduceEq, Int.reduceNe, reduceCtorEq, Nat.reduceLT, Nat.reduceLeDiff]
  refine ⟨fun h => ?_, fun h => ?_⟩
  · have : a ≠ b := fun e => h (by rw [e])
    simp [this]
  · refine w_loop' hs.hm (ι := Nat) (fun i => i ≤ a.length ∧ a.take i = b.take i) (fun i => [(0, lst (AV.int .i64) .ro a), (1, lst (AV.int .i64) .ro b), (5, .int .i64 i)]) (fun _ => []) (fun i => a.length - i) 0 ?_ fun i hi => ?_
    · simp only [go_sem, Nat.reduceBEq, Nat.reduceEqDiff, Nat.reduceAdd, Int.reduceAdd, Nat.reduceMul, Nat.reduceSub, Int.reduceToNat, Int.reduceLE, Int.reduceLT, Int.reduceEq, Int.reduceNe, reduceCtorEq, Nat.reduceLT, Nat.reduceLeDiff]
      omega
    · simp only [A21L0, go_sem, Nat.reduceBEq, Nat.reduceEqDiff, Nat.reduceAdd, Int.reduceAdd, Nat.reduceMul, Nat.reduceSub, Int.reduceToNat, Int.reduceLE, Int.reduceLT, Int.reduceEq, Int.reduceNe, reduceCtorEq, Nat.reduceLT, Nat.reduceLeDiff]
      obtain ⟨h1, h2⟩ := hi
      refine ⟨fun c => ⟨by omega, by omega, fun d => ?_, fun d => ⟨i + 1, by omega, ⟨by omega, ?_⟩, ?_⟩⟩, fun c => ?_⟩
      · have : a ≠ b := fun e => d (by rw [e])
        simp [this]
      · have ha : i < a.length := by omega
        have hb : i < b.length := by omega
        simp only [List.getD, List.getElem?_eq_getElem ha, List.getElem?_eq_getElem hb, Option.getD_some] at d
        rw [List.take_succ_eq_append_getElem ha, List.take_succ_eq_append_getElem hb, h2, d]
      · rw [wi64 (by omega)]; rfl
      · have : i = a.length := by omega
        subst this
        rw [List.take_length, List.take_of_length_le (by omega)] at h2
        simp [h2]
theorem ev_sameInts (a b : List Int) (hl : a.length < 9223372036854775807) : Ev X 22 [lst (AV.int .i64) .ro a, lst (AV.int .i64) .ro b] (.bool (decide (a = b))) := by
  refine ev_of_wpc hs (A22_ok hX) 0 ?_
  simp only [A22, go_sem, Nat.reduceBEq, Nat.reduceEqDiff, Nat.reduceAdd, Int.reduceAdd, Nat.reduceMul, Nat.reduceSub, Int.reduceToNat, Int.reduceLE, Int.reduceLT, Int.reduceEq, Int.reduceNe, reduceCtorEq, Nat.reduceLT, Nat.reduceLeDiff]
  refine ⟨fun h => ?_, fun h => ?_⟩
  · have : a ≠ b := fun e => h (by rw [e])
    simp [this]
  · refine w_loop' hs.hm (ι := Nat) (fun i => i ≤ a.length ∧ a.take i = b.take i) (fun i => [(0, lst (AV.int .i64) .ro a), (1, lst (AV.int .i64) .ro b), (5, .int .i64 i)]) (fun _ => []) (fun i => a.length - i) 0 ?_ fun i hi => ?_
    · simp only [go_sem, Nat.reduceBEq, Nat.reduceEqDiff, Nat.reduceAdd, Int.reduceAdd, Nat.reduceMul, Nat.reduceSub, Int.reduceToNat, Int.reduceLE, Int.reduceLT, Int.reduceEq, Int.reduceNe, reduceCtorEq, Nat.reduceLT, Nat.reduceLeDiff]
      omega
    · simp only [A22L0, go_sem, Nat.reduceBEq, Nat.reduceEqDiff, Nat.reduceAdd, Int.reduceAdd, Nat.reduceMul, Nat.reduceSub, Int.reduceToNat, Int.reduceLE, Int.reduceLT, Int.reduceEq, Int.reduceNe, reduceCtorEq, Nat.reduceLT, Nat.reduceLeDiff]
      obtain ⟨h1, h2⟩ := hi
      refine ⟨fun c => ⟨by omega, by omega, fun d => ?_, fun d => ⟨i + 1, by omega, ⟨by omega, ?_⟩, ?_⟩⟩, fun c => ?_⟩
      · have : a ≠ b := fun e => d (by rw [e])
        simp [this]
      · have ha : i < a.length := by omega
        have hb : i < b.length := by omega
        simp only [List.getD, List.getElem?_eq_getElem ha, List.getElem?_eq_getElem hb, Option.getD_some] at d
        rw [List.take_succ_eq_append_getElem ha, List.take_succ_eq_append_getElem hb, h2, d]
      · rw [wi64 (by omega)]; rfl
      · have : i = a.length := by omega
        subst this
        rw [List.take_length, List.take_of_length_le (by omega)] at h2
        simp [h2]
include hG0 hG1
theorem ev_all (b : List UInt8) : Ev X 45 [lst u8 .ro b] (.clo 54 [] [.vp [lst u8 .ro b]]) := by
  refine ev_of_wpc hs (A45_ok hX) 2 ?_
  simp only [A45, go_sem, Nat.reduceBEq, Nat.reduceEqDiff, Nat.reduceAdd, Int.reduceAdd, Nat.reduceMul, Nat.reduceSub, Int.reduceToNat, Int.reduceLE, Int.reduceLT, Int.reduceEq, Int.reduceNe, reduceCtorEq, Nat.reduceLT, Nat.reduceLeDiff]
  rfl
end
end Go.Avm

namespace Go.Avm
open Go
/-- what Check answers -/
def ckN (b : List UInt8) : Int := if 8000 < b.length then 0 else stop b
def ckE (b : List UInt8) : Int := if 8000 < b.length then 3 else stopE b
theorem rlen_enc {r : Int} (h : valid r = true) : rlen r = (enc r).length := by
  have := (valid_iff r).1 h
  rw [enc_len h]
  simp only [rlen]; grind
theorem ck_ok {b : List UInt8} {p : Nat} (h : ¬ 8000 < (b.length : Int)) (h2 : stop b = p + stop (b.drop p)) (h3 : dec (b.drop p) = none) : (p : Int) = ckN b ∧ ((p : Int) < b.length → (if more (b.drop p) = true then 370 else 6) = ckE b) ∧ (¬ (p : Int) < b.length → 0 = ckE b) := by
  rw [stop_none h3, Nat.add_zero] at h2
  have h4 : ¬ 8000 < b.length := by omega
  subst h2
  simp only [ckN, ckE, if_neg h4, stopE]
  refine ⟨trivial, fun h => ?_, fun h => ?_⟩
  · have h5 : stop b < b.length := by omega
    simp [h5]
  · have h5 : ¬ stop b < b.length := by omega
    simp [h5]
set_option maxRecDepth 4000
section
variable {X : Cx} (hX : X.P = Go.Proofs.Tryd.prog) (hs : Std X) (hG0 : X.G 0 = some tab0) (hG1 : X.G 1 = some tab1)
include hX hs hG0 hG1
theorem ev_Check (b : List UInt8) : Ev X 28 [lst u8 .ro b] (.tuple [.int .i64 (ckN b), .int .i64 (ckE b)]) := by
  refine ev_of_wpc hs (A28_ok hX) 2 ?_
  simp only [A28, go_sem, Nat.reduceBEq, Nat.reduceEqDiff, Nat.reduceAdd, Int.reduceAdd, Nat.reduceMul, Nat.reduceSub, Int.reduceToNat, Int.reduceLE, Int.reduceLT, Int.reduceEq, Int.reduceNe, reduceCtorEq, Nat.reduceLT, Nat.reduceLeDiff]
  refine ⟨fun h => ?_, fun h => ?_⟩
  · have : 8000 < b.length := by omega
    simp only [ckN, ckE, this, if_true]
  · refine call_ev (ev_all hX hs hG0 hG1 b) ?_
    simp only [go_sem, Nat.reduceBEq, Nat.reduceEqDiff, Nat.reduceAdd, Int.reduceAdd, Nat.reduceMul, Nat.reduceSub, Int.reduceToNat, Int.reduceLE, Int.reduceLT, Int.reduceEq, Int.reduceNe, reduceCtorEq, Nat.reduceLT, Nat.reduceLeDiff]
    refine w_rangeF' hs rfl (A54_ok hX) fun L frc hf hL hps => ?_
    simp only [A54, go_sem, Nat.reduceBEq, Nat.reduceEqDiff, Nat.reduceAdd, Int.reduceAdd, Nat.reduceMul, Nat.reduceSub, Int.reduceToNat, Int.reduceLE, Int.reduceLT, Int.reduceEq, Int.reduceNe, reduceCtorEq, Nat.reduceLT, Nat.reduceLeDiff]
    refine w_loop' hs.hm (ι := Nat) (fun p => p ≤ b.length ∧ stop b = p + stop (b.drop p)) (fun p => [(0, .yv 1), (1, .vp [lst u8 .ro b]), (3, .int .i64 p)]) (fun p => [.box [.int .i64 p], .lp L frc]) (fun p => b.length - p) 0 ?_ fun p hp => ?_
    · simp only [go_sem, Nat.reduceBEq, Nat.reduceEqDiff, Nat.reduceAdd, Int.reduceAdd, Nat.reduceMul, Nat.reduceSub, Int.reduceToNat, Int.reduceLE, Int.reduceLT, Int.reduceEq, Int.reduceNe, reduceCtorEq, Nat.reduceLT, Nat.reduceLeDiff]
      exact Nat.zero_le _
    · obtain ⟨p1, p2⟩ := hp
      simp only [A54L0, go_sem, Nat.reduceBEq, Nat.reduceEqDiff, Nat.reduceAdd, Int.reduceAdd, Nat.reduceMul, Nat.reduceSub, Int.reduceToNat, Int.reduceLE, Int.reduceLT, Int.reduceEq, Int.reduceNe, reduceCtorEq, Nat.reduceLT, Nat.reduceLeDiff]
      refine ⟨fun c => ?_, fun c => ?_⟩
      · refine call_ev (ev_Decode hX hs hG0 hG1 b p (by omega)) ?_
        cases hd : dec (b.drop p) with
        | none =>
          have hne : ¬ (if more (b.drop p) = true then (370 : Int) else 6) = 0 := by split <;> omega
          simp only [go_sem, Nat.reduceBEq, Nat.reduceEqDiff, Nat.reduceAdd, Int.reduceAdd, Nat.reduceMul, Nat.reduceSub, Int.reduceToNat, Int.reduceLE, Int.reduceLT, Int.reduceEq, Int.reduceNe, reduceCtorEq, Nat.reduceLT, Nat.reduceLeDiff, dcv, hd, hne]
          refine lq_n rfl ?_
          rw [hf]
          simp only [go_sem, Nat.reduceBEq, Nat.reduceEqDiff, Nat.reduceAdd, Int.reduceAdd, Nat.reduceMul, Nat.reduceSub, Int.reduceToNat, Int.reduceLE, Int.reduceLT, Int.reduceEq, Int.reduceNe, reduceCtorEq, Nat.reduceLT, Nat.reduceLeDiff]
          refine ⟨fun c => ?_, fun c => ?_⟩
          · refine call_ev (ev_Decode hX hs hG0 hG1 b p (by omega)) ?_
            simp only [go_sem, Nat.reduceBEq, Nat.reduceEqDiff, Nat.reduceAdd, Int.reduceAdd, Nat.reduceMul, Nat.reduceSub, Int.reduceToNat, Int.reduceLE, Int.reduceLT, Int.reduceEq, Int.reduceNe, reduceCtorEq, Nat.reduceLT, Nat.reduceLeDiff, dcv, hd]
            have hk := ck_ok h p2 hd
            rw [← hk.1, ← hk.2.1 c]
          · have hk := ck_ok h p2 hd
            rw [← hk.1, ← hk.2.2 c]
        | some x =>
          obtain ⟨r, n⟩ := x
          have hr := dec_rng' hd
          rw [List.length_drop] at hr
          simp only [go_sem, Nat.reduceBEq, Nat.reduceEqDiff, Nat.reduceAdd, Int.reduceAdd, Nat.reduceMul, Nat.reduceSub, Int.reduceToNat, Int.reduceLE, Int.reduceLT, Int.reduceEq, Int.reduceNe, reduceCtorEq, Nat.reduceLT, Nat.reduceLeDiff, dcv, hd]
          refine w_round' hs.hm hL hps rfl rfl fun l => ?_
          rw [hf]
          simp only [A28R0a, A28R0b, go_sem, Nat.reduceBEq, Nat.reduceEqDiff, Nat.reduceAdd, Int.reduceAdd, Nat.reduceMul, Nat.reduceSub, Int.reduceToNat, Int.reduceLE, Int.reduceLT, Int.reduceEq, Int.reduceNe, reduceCtorEq, Nat.reduceLT, Nat.reduceLeDiff]
          have hv := dec_some hd
          have hrv := valid_rng hv.1
          rw [wi32 (by omega)]
          refine call_ev (ev_in (ev_runeLen hX hs r)) ?_
          simp only [go_sem, Nat.reduceBEq, Nat.reduceEqDiff, Nat.reduceAdd, Int.reduceAdd, Nat.reduceMul, Nat.reduceSub, Int.reduceToNat, Int.reduceLE, Int.reduceLT, Int.reduceEq, Int.reduceNe, reduceCtorEq, Nat.reduceLT, Nat.reduceLeDiff]
          have e : IntKind.i64.wrap ((p : Int) + rlen r) = ((p + n : Nat) : Int) := by
            rw [rlen_enc hv.1, ← hv.2.2.2, wi64 (by omega)]; omega
          have e2 : IntKind.i64.wrap ((p : Int) + n) = ((p + n : Nat) : Int) := by
            rw [wi64 (by omega)]; omega
          rw [e, e2]
          exact ⟨p + n, by omega, ⟨by omega, by rw [p2, stop_some hd, List.drop_drop]; omega⟩, rfl, rfl⟩
      · have hd : dec (b.drop p) = none := by rw [List.drop_of_length_le (by omega)]; rfl
        refine lq_n rfl ?_
        rw [hf]
        simp only [go_sem, Nat.reduceBEq, Nat.reduceEqDiff, Nat.reduceAdd, Int.reduceAdd, Nat.reduceMul, Nat.reduceSub, Int.reduceToNat, Int.reduceLE, Int.reduceLT, Int.reduceEq, Int.reduceNe, reduceCtorEq, Nat.reduceLT, Nat.reduceLeDiff]
        refine ⟨fun c' => absurd c' c, fun c => ?_⟩
        have hk := ck_ok h p2 hd
        rw [← hk.1, ← hk.2.2 c]
end
end Go.Avm

namespace Go.Avm
open Go
theorem ev_ro2 {X : Cx} {f : Nat} {args : List AV} {p : Perm} {es : List AV} {x : AV} (h : Ev X f args (.tuple [.sl p es, x])) : Ev X f args (.tuple [.sl .ro es, x]) := by
  refine ev_weak h fun g w v hr => ?_
  simp only [Rel, RelL] at hr ⊢
  obtain ⟨vs, h1, h2⟩ := hr
  obtain ⟨v1, t1, h3, h4, h5⟩ := h2
  obtain ⟨a, cap, us, sz, k1, k2, k3, k4, _⟩ := h4
  exact ⟨vs, h1, v1, t1, h3, ⟨a, cap, us, sz, k1, k2, k3, k4, trivial⟩, h5⟩
theorem ckE_0 {b : List UInt8} (h : ckE b = 0) : b.length ≤ 8000 ∧ stop b = b.length := by
  have h2 := stop_le b
  simp only [ckE, stopE] at h
  split at h
  · omega
  · split at h
    · split at h <;> omega
    · omega
set_option maxRecDepth 4000
section
variable {X : Cx} (hX : X.P = Go.Proofs.Tryd.prog) (hs : Std X) (hG0 : X.G 0 = some tab0) (hG1 : X.G 1 = some tab1)
include hX hs hG0 hG1
theorem ev_Runes (b : List UInt8) : Ev X 18 [lst u8 .ro b] (.tuple [lst (AV.int .i64) .ro (if ckE b = 0 then runeL b else []), .int .i64 (ckE b)]) := by
  by_cases he : ckE b = 0
  · rw [if_pos he]
    obtain ⟨hl, hst⟩ := ckE_0 he
    refine ev_of_wpc hs (A18_ok hX) 2 ?_
    simp only [A18, go_sem, Nat.reduceBEq, Nat.reduceEqDiff, Nat.reduceAdd, Int.reduceAdd, Nat.reduceMul, Nat.reduceSub, Int.reduceToNat, Int.reduceLE, Int.reduceLT, Int.reduceEq, Int.reduceNe, reduceCtorEq, Nat.reduceLT, Nat.reduceLeDiff]
    refine call_ev (ev_Check hX hs hG0 hG1 b) ?_
    simp only [go_sem, Nat.reduceBEq, Nat.reduceEqDiff, Nat.reduceAdd, Int.reduceAdd, Nat.reduceMul, Nat.reduceSub, Int.reduceToNat, Int.reduceLE, Int.reduceLT, Int.reduceEq, Int.reduceNe, reduceCtorEq, Nat.reduceLT, Nat.reduceLeDiff, he]
    refine call_ev (ev_all hX hs hG0 hG1 b) ?_
    simp only [go_sem, Nat.reduceBEq, Nat.reduceEqDiff, Nat.reduceAdd, Int.reduceAdd, Nat.reduceMul, Nat.reduceSub, Int.reduceToNat, Int.reduceLE, Int.reduceLT, Int.reduceEq, Int.reduceNe, reduceCtorEq, Nat.reduceLT, Nat.reduceLeDiff]
    refine w_rangeT (wk_tokb 0 0 1 rfl rfl) ?_
    refine w_rangeF' hs rfl (A54_ok hX) fun L frc hf hL hps => ?_
    simp only [A54, go_sem, Nat.reduceBEq, Nat.reduceEqDiff, Nat.reduceAdd, Int.reduceAdd, Nat.reduceMul, Nat.reduceSub, Int.reduceToNat, Int.reduceLE, Int.reduceLT, Int.reduceEq, Int.reduceNe, reduceCtorEq, Nat.reduceLT, Nat.reduceLeDiff]
    refine w_loop' hs.hm (ι := Nat × List Int) (fun s => s.1 ≤ b.length ∧ s.2.length ≤ s.1 ∧ runeL b = s.2 ++ runeL (b.drop s.1) ∧ stop b = s.1 + stop (b.drop s.1)) (fun s => [(0, .yv 2), (1, .vp [lst u8 .ro b]), (3, .int .i64 s.1)]) (fun s => [.box [lst (AV.int .i64) (.tok 1 1) s.2], .tok s.2.length, .lp L frc]) (fun s => b.length - s.1) (0, []) ?_ fun s hp => ?_
    · simp only [go_sem, Nat.reduceBEq, Nat.reduceEqDiff, Nat.reduceAdd, Int.reduceAdd, Nat.reduceMul, Nat.reduceSub, Int.reduceToNat, Int.reduceLE, Int.reduceLT, Int.reduceEq, Int.reduceNe, reduceCtorEq, Nat.reduceLT, Nat.reduceLeDiff]
      exact ⟨by simp, rfl⟩
    · obtain ⟨p, acc⟩ := s
      obtain ⟨p1, p2, p3, p4⟩ := hp
      simp only at p1 p2 p3 p4
      simp only [A54L0, go_sem, Nat.reduceBEq, Nat.reduceEqDiff, Nat.reduceAdd, Int.reduceAdd, Nat.reduceMul, Nat.reduceSub, Int.reduceToNat, Int.reduceLE, Int.reduceLT, Int.reduceEq, Int.reduceNe, reduceCtorEq, Nat.reduceLT, Nat.reduceLeDiff]
      refine ⟨fun c => ?_, fun c => ?_⟩
      · refine call_ev (ev_Decode hX hs hG0 hG1 b p (by omega)) ?_
        cases hd : dec (b.drop p) with
        | none =>
          exfalso
          rw [stop_none hd] at p4; omega
        | some x =>
          obtain ⟨r, n⟩ := x
          have hr := dec_rng' hd
          rw [List.length_drop] at hr
          simp only [go_sem, Nat.reduceBEq, Nat.reduceEqDiff, Nat.reduceAdd, Int.reduceAdd, Nat.reduceMul, Nat.reduceSub, Int.reduceToNat, Int.reduceLE, Int.reduceLT, Int.reduceEq, Int.reduceNe, reduceCtorEq, Nat.reduceLT, Nat.reduceLeDiff, dcv, hd]
          refine w_round' hs.hm hL hps rfl rfl fun l => ?_
          rw [hf]
          simp only [A18R0a, A18R0b, go_sem, Nat.reduceBEq, Nat.reduceEqDiff, Nat.reduceAdd, Int.reduceAdd, Nat.reduceMul, Nat.reduceSub, Int.reduceToNat, Int.reduceLE, Int.reduceLT, Int.reduceEq, Int.reduceNe, reduceCtorEq, Nat.reduceLT, Nat.reduceLeDiff]
          refine ⟨⟨by omega, by omega⟩, (p + n, acc ++ [r]), by simp only; omega, ⟨by simp only; omega, by simp only [List.length_append, List.length_cons, List.length_nil]; omega, ?_, ?_⟩, ?_, by simp only [List.length_append, List.length_cons, List.length_nil, Nat.zero_add]⟩
          · simp only [p3, runeL_some hd, List.drop_drop, List.append_assoc, List.cons_append, List.nil_append]
          · simp only [p4, stop_some hd, List.drop_drop]; omega
          · rw [wi64 (by omega)]; rfl
      · have hd : dec (b.drop p) = none := by rw [List.drop_of_length_le (by omega)]; rfl
        refine lq_n rfl ?_
        rw [hf]
        simp only [go_sem, Nat.reduceBEq, Nat.reduceEqDiff, Nat.reduceAdd, Int.reduceAdd, Nat.reduceMul, Nat.reduceSub, Int.reduceToNat, Int.reduceLE, Int.reduceLT, Int.reduceEq, Int.reduceNe, reduceCtorEq, Nat.reduceLT, Nat.reduceLeDiff]
        rw [p3, runeL_none hd, List.append_nil]
  · rw [if_neg he]
    refine ev_ro2 (p := .ex) (es := []) ?_
    refine ev_of_wpc hs (A18_ok hX) 2 ?_
    simp only [A18, go_sem, Nat.reduceBEq, Nat.reduceEqDiff, Nat.reduceAdd, Int.reduceAdd, Nat.reduceMul, Nat.reduceSub, Int.reduceToNat, Int.reduceLE, Int.reduceLT, Int.reduceEq, Int.reduceNe, reduceCtorEq, Nat.reduceLT, Nat.reduceLeDiff]
    refine call_ev (ev_Check hX hs hG0 hG1 b) ?_
    simp only [go_sem, Nat.reduceBEq, Nat.reduceEqDiff, Nat.reduceAdd, Int.reduceAdd, Nat.reduceMul, Nat.reduceSub, Int.reduceToNat, Int.reduceLE, Int.reduceLT, Int.reduceEq, Int.reduceNe, reduceCtorEq, Nat.reduceLT, Nat.reduceLeDiff, he]
theorem ev_Starts (b : List UInt8) : Ev X 20 [lst u8 .ro b] (.tuple [lst (AV.int .i64) .ro (if ckE b = 0 then startL b else []), .int .i64 (ckE b)]) := by
  by_cases he : ckE b = 0
  · rw [if_pos he]
    obtain ⟨hl, hst⟩ := ckE_0 he
    refine ev_of_wpc hs (A20_ok hX) 2 ?_
    simp only [A20, go_sem, Nat.reduceBEq, Nat.reduceEqDiff, Nat.reduceAdd, Int.reduceAdd, Nat.reduceMul, Nat.reduceSub, Int.reduceToNat, Int.reduceLE, Int.reduceLT, Int.reduceEq, Int.reduceNe, reduceCtorEq, Nat.reduceLT, Nat.reduceLeDiff]
    refine call_ev (ev_Check hX hs hG0 hG1 b) ?_
    simp only [go_sem, Nat.reduceBEq, Nat.reduceEqDiff, Nat.reduceAdd, Int.reduceAdd, Nat.reduceMul, Nat.reduceSub, Int.reduceToNat, Int.reduceLE, Int.reduceLT, Int.reduceEq, Int.reduceNe, reduceCtorEq, Nat.reduceLT, Nat.reduceLeDiff, he]
    refine call_ev (ev_all hX hs hG0 hG1 b) ?_
    simp only [go_sem, Nat.reduceBEq, Nat.reduceEqDiff, Nat.reduceAdd, Int.reduceAdd, Nat.reduceMul, Nat.reduceSub, Int.reduceToNat, Int.reduceLE, Int.reduceLT, Int.reduceEq, Int.reduceNe, reduceCtorEq, Nat.reduceLT, Nat.reduceLeDiff]
    refine w_rangeT (wk_tokb 0 0 1 rfl rfl) ?_
    refine w_rangeF' hs rfl (A54_ok hX) fun L frc hf hL hps => ?_
    simp only [A54, go_sem, Nat.reduceBEq, Nat.reduceEqDiff, Nat.reduceAdd, Int.reduceAdd, Nat.reduceMul, Nat.reduceSub, Int.reduceToNat, Int.reduceLE, Int.reduceLT, Int.reduceEq, Int.reduceNe, reduceCtorEq, Nat.reduceLT, Nat.reduceLeDiff]
    refine w_loop' hs.hm (ι := Nat × List Int) (fun s => s.1 ≤ b.length ∧ s.2.length ≤ s.1 ∧ startsF 0 (runs b) = s.2 ++ startsF s.1 (runs (b.drop s.1)) ∧ stop b = s.1 + stop (b.drop s.1)) (fun s => [(0, .yv 2), (1, .vp [lst u8 .ro b]), (3, .int .i64 s.1)]) (fun s => [.box [lst (AV.int .i64) (.tok 1 1) s.2], .tok s.2.length, .lp L frc]) (fun s => b.length - s.1) (0, []) ?_ fun s hp => ?_
    · simp only [go_sem, Nat.reduceBEq, Nat.reduceEqDiff, Nat.reduceAdd, Int.reduceAdd, Nat.reduceMul, Nat.reduceSub, Int.reduceToNat, Int.reduceLE, Int.reduceLT, Int.reduceEq, Int.reduceNe, reduceCtorEq, Nat.reduceLT, Nat.reduceLeDiff]
      exact ⟨by simp, rfl⟩
    · obtain ⟨p, acc⟩ := s
      obtain ⟨p1, p2, p3, p4⟩ := hp
      simp only at p1 p2 p3 p4
      simp only [A54L0, go_sem, Nat.reduceBEq, Nat.reduceEqDiff, Nat.reduceAdd, Int.reduceAdd, Nat.reduceMul, Nat.reduceSub, Int.reduceToNat, Int.reduceLE, Int.reduceLT, Int.reduceEq, Int.reduceNe, reduceCtorEq, Nat.reduceLT, Nat.reduceLeDiff]
      refine ⟨fun c => ?_, fun c => ?_⟩
      · refine call_ev (ev_Decode hX hs hG0 hG1 b p (by omega)) ?_
        cases hd : dec (b.drop p) with
        | none =>
          exfalso
          rw [stop_none hd] at p4; omega
        | some x =>
          obtain ⟨r, n⟩ := x
          have hr := dec_rng' hd
          rw [List.length_drop] at hr
          simp only [go_sem, Nat.reduceBEq, Nat.reduceEqDiff, Nat.reduceAdd, Int.reduceAdd, Nat.reduceMul, Nat.reduceSub, Int.reduceToNat, Int.reduceLE, Int.reduceLT, Int.reduceEq, Int.reduceNe, reduceCtorEq, Nat.reduceLT, Nat.reduceLeDiff, dcv, hd]
          refine w_round' hs.hm hL hps rfl rfl fun l => ?_
          rw [hf]
          simp only [A20R0a, A20R0b, go_sem, Nat.reduceBEq, Nat.reduceEqDiff, Nat.reduceAdd, Int.reduceAdd, Nat.reduceMul, Nat.reduceSub, Int.reduceToNat, Int.reduceLE, Int.reduceLT, Int.reduceEq, Int.reduceNe, reduceCtorEq, Nat.reduceLT, Nat.reduceLeDiff]
          refine ⟨⟨by omega, by omega⟩, (p + n, acc ++ [(p : Int)]), by simp only; omega, ⟨by simp only; omega, by simp only [List.length_append, List.length_cons, List.length_nil]; omega, ?_, ?_⟩, ?_, by simp only [List.length_append, List.length_cons, List.length_nil, Nat.zero_add]⟩
          · simp only [p3, runs_some hd, startsF, List.drop_drop, List.append_assoc, List.cons_append, List.nil_append]
          · simp only [p4, stop_some hd, List.drop_drop]; omega
          · rw [wi64 (by omega)]; rfl
      · have hd : dec (b.drop p) = none := by rw [List.drop_of_length_le (by omega)]; rfl
        refine lq_n rfl ?_
        rw [hf]
        simp only [go_sem, Nat.reduceBEq, Nat.reduceEqDiff, Nat.reduceAdd, Int.reduceAdd, Nat.reduceMul, Nat.reduceSub, Int.reduceToNat, Int.reduceLE, Int.reduceLT, Int.reduceEq, Int.reduceNe, reduceCtorEq, Nat.reduceLT, Nat.reduceLeDiff]
        refine ⟨⟨by omega, by omega⟩, ?_⟩
        rw [startL, p3, runs_none hd, startsF, List.append_nil]
  · rw [if_neg he]
    refine ev_ro2 (p := .ex) (es := []) ?_
    refine ev_of_wpc hs (A20_ok hX) 2 ?_
    simp only [A20, go_sem, Nat.reduceBEq, Nat.reduceEqDiff, Nat.reduceAdd, Int.reduceAdd, Nat.reduceMul, Nat.reduceSub, Int.reduceToNat, Int.reduceLE, Int.reduceLT, Int.reduceEq, Int.reduceNe, reduceCtorEq, Nat.reduceLT, Nat.reduceLeDiff]
    refine call_ev (ev_Check hX hs hG0 hG1 b) ?_
    simp only [go_sem, Nat.reduceBEq, Nat.reduceEqDiff, Nat.reduceAdd, Int.reduceAdd, Nat.reduceMul, Nat.reduceSub, Int.reduceToNat, Int.reduceLE, Int.reduceLT, Int.reduceEq, Int.reduceNe, reduceCtorEq, Nat.reduceLT, Nat.reduceLeDiff, he]
theorem ev_Count (b : List UInt8) : Ev X 19 [lst u8 .ro b] (.tuple [.int .i64 (if ckE b = 0 then (runeL b).length else 0), .int .i64 (ckE b)]) := by
  refine ev_of_wpc hs (A19_ok hX) 2 ?_
  simp only [A19, go_sem, Nat.reduceBEq, Nat.reduceEqDiff, Nat.reduceAdd, Int.reduceAdd, Nat.reduceMul, Nat.reduceSub, Int.reduceToNat, Int.reduceLE, Int.reduceLT, Int.reduceEq, Int.reduceNe, reduceCtorEq, Nat.reduceLT, Nat.reduceLeDiff]
  refine call_ev (ev_Runes hX hs hG0 hG1 b) ?_
  simp only [go_sem, Nat.reduceBEq, Nat.reduceEqDiff, Nat.reduceAdd, Int.reduceAdd, Nat.reduceMul, Nat.reduceSub, Int.reduceToNat, Int.reduceLE, Int.reduceLT, Int.reduceEq, Int.reduceNe, reduceCtorEq, Nat.reduceLT, Nat.reduceLeDiff]
  split <;> rfl
end
end Go.Avm
