/- The statement RunesBack of the seat: the law returns true for every input. -/
import Derived.Test.YtpdhdilhlkpiaaaDoorU2
import Derived.Test.YtpdhdilhlkpiaaaDoorU4
import Derived.Test.YtpdhdilhlkpiaaaDoorL0
import Derived.Test.YtpdhdilhlkpiaaaDoorCards
import Derived.Test.YtpdhdilhlkpiaaaDoorTie
import Derived.SevenTiedAt
set_option linter.unusedSectionVars false
set_option linter.unusedSimpArgs false
set_option linter.unusedVariables false

namespace Go.Avm
open Go
set_option maxRecDepth 8000
set_option maxHeartbeats 4000000
section
variable {X : Cx} (hX : X.P = Go.Proofs.Tryd.prog) (hs : Std X) (hG0 : X.G 0 = some tab0) (hG1 : X.G 1 = some tab1)
include hX hs hG0 hG1
theorem bk_bytes (b : List UInt8) (hb : b.length ≤ 200) (eb : ckE b = 0) : Ev X 29 [lst (AV.int .i64) .ro (runeL b)] (.tuple [lst u8 .ro b, .int .i64 0, .int .i64 0]) := by
  have hst := ckE_0 eb
  have hv := runeL_valid b
  have hbad : badI (runeL b) = -1 := badI_none _ fun j hj => hv _ (by simp [List.getD, hj])
  have hfl : flatE (runeL b) = b := by
    have := take_stop b
    rw [hst.2, List.take_length] at this
    exact this.symm
  have hk := by_ok (l := runeL b) (by omega) (by rw [hfl]; omega)
  have h := ev_Bytes hX hs (runeL b) (fun r hr => by have := valid_rng (hv r hr); omega) (by have := runeL_len hX hs hG0 hG1 b eb; omega)
  rw [hk.1, hk.2.1, hk.2.2, hfl] at h
  exact h
theorem bk_runes (l : List Int) (el : byE l = 0) : Ev X 18 [lst u8 .ro (byB l)] (.tuple [lst (AV.int .i64) .ro l, .int .i64 0]) := by
  have hb : badI l < 0 := by
    simp only [byE] at el
    split at el
    · assumption
    · omega
  have h8 : (flatE l).length ≤ 8000 := by
    simp only [byE] at el
    rw [if_pos hb] at el
    split at el
    · assumption
    · omega
  have hk := by_ok hb h8
  have hv := badI_valid l hb
  have hck : ckE (flatE l) = 0 := by
    simp only [ckE, stopE]
    rw [if_neg (by omega)]
    have h1 := stop_encs l hv
    rw [if_neg (by simp only [flatE] at *; omega)]
  have h := ev_Runes hX hs hG0 hG1 (flatE l)
  rw [hck] at h
  rw [hk.1]
  have h2 := runeL_encs l hv
  simp only [flatE] at h ⊢
  rw [h2] at h
  simpa using h
theorem law9_000 (r : Int) (b : List UInt8) (l : List Int) (hr : -9223372036854775808 ≤ r ∧ r < 9223372036854775808) (hl : ∀ r ∈ l, -9223372036854775808 ≤ r ∧ r < 9223372036854775808) (c1 : ¬ 200 < (b.length : Int)) (c2 : ¬ 100 < (l.length : Int))
    (hv : valid r = false) (eb : ¬ ckE b = 0) (el : ¬ byE l = 0) : Ev X 9 [.int .i64 r, lst u8 .ro b, lst (AV.int .i64) .ro l] (.bool true) := by
  have aw := ev_awake hX hs hG0 hG1
  refine ev_of_wpc hs (A9_ok hX) 0 ?_
  simp only [A9, go_sem, Nat.reduceBEq, Nat.reduceEqDiff, Nat.reduceAdd, Int.reduceAdd, Nat.reduceMul, Nat.reduceSub, Int.reduceToNat, Int.reduceLE, Int.reduceLT, Int.reduceEq, Int.reduceNe, reduceCtorEq, Nat.reduceLT, Nat.reduceLeDiff, c1, c2]
  refine call_ev (ev_EncodeR hX hs hG0 hG1 r hr) ?_
  simp only [go_sem, Nat.reduceBEq, Nat.reduceEqDiff, Nat.reduceAdd, Int.reduceAdd, Nat.reduceMul, Nat.reduceSub, Int.reduceToNat, Int.reduceLE, Int.reduceLT, Int.reduceEq, Int.reduceNe, reduceCtorEq, Nat.reduceLT, Nat.reduceLeDiff, hv, fault]
  refine w_loop' hs.hm (ι := Nat) (fun i => i ≤ b.length) (fun i => [(1, lst u8 .ro b), (2, lst (AV.int .i64) .ro l), (16, .int .i64 i)]) (fun _ => []) (fun i => b.length - i) 0 ?_ fun i hi => ?_
  · simp only [go_sem, Nat.reduceBEq, Nat.reduceEqDiff, Nat.reduceAdd, Int.reduceAdd, Nat.reduceMul, Nat.reduceSub, Int.reduceToNat, Int.reduceLE, Int.reduceLT, Int.reduceEq, Int.reduceNe, reduceCtorEq, Nat.reduceLT, Nat.reduceLeDiff]
    exact Nat.zero_le _
  · simp only [A9L1, go_sem, Nat.reduceBEq, Nat.reduceEqDiff, Nat.reduceAdd, Int.reduceAdd, Nat.reduceMul, Nat.reduceSub, Int.reduceToNat, Int.reduceLE, Int.reduceLT, Int.reduceEq, Int.reduceNe, reduceCtorEq, Nat.reduceLT, Nat.reduceLeDiff]
    refine ⟨fun c => ?_, fun c => ?_⟩
    · refine call_ev (ev_Decode hX hs hG0 hG1 b i (by omega)) ?_
      cases hd : dec (b.drop i) with
      | none =>
        have hne : ¬ (if more (b.drop i) = true then (370 : Int) else 6) = 0 := by split <;> omega
        simp only [go_sem, Nat.reduceBEq, Nat.reduceEqDiff, Nat.reduceAdd, Int.reduceAdd, Nat.reduceMul, Nat.reduceSub, Int.reduceToNat, Int.reduceLE, Int.reduceLT, Int.reduceEq, Int.reduceNe, reduceCtorEq, Nat.reduceLT, Nat.reduceLeDiff, dcv, hd, hne]
        exact ⟨i + 1, by omega, by omega, by rw [wi64 (by omega)]; rfl⟩
      | some x =>
        obtain ⟨x, n⟩ := x
        have hr := dec_rng' hd
        rw [List.length_drop] at hr
        have hx := dec_some hd
        have hxr := valid_rng hx.1
        have w1 : IntKind.i64.wrap ((i : Int) + n) = ((i + n : Nat) : Int) := by rw [wi64 (by omega)]; omega
        have e1 : (b.take (i + n)).drop i = enc x := by
          rw [List.drop_take, show i + n - i = n by omega]; exact hx.2.2.1
        simp only [go_sem, Nat.reduceBEq, Nat.reduceEqDiff, Nat.reduceAdd, Int.reduceAdd, Nat.reduceMul, Nat.reduceSub, Int.reduceToNat, Int.reduceLE, Int.reduceLT, Int.reduceEq, Int.reduceNe, reduceCtorEq, Nat.reduceLT, Nat.reduceLeDiff, dcv, hd]
        refine call_ev (ev_EncodeR hX hs hG0 hG1 x (by omega)) ?_
        simp only [go_sem, Nat.reduceBEq, Nat.reduceEqDiff, Nat.reduceAdd, Int.reduceAdd, Nat.reduceMul, Nat.reduceSub, Int.reduceToNat, Int.reduceLE, Int.reduceLT, Int.reduceEq, Int.reduceNe, reduceCtorEq, Nat.reduceLT, Nat.reduceLeDiff, hx.1, fault, ← hx.2.2.2, w1, e1]
        refine ⟨fun d => by omega, fun d => ⟨⟨⟨by omega, by omega⟩, by omega⟩, i + 1, by omega, by omega, by rw [wi64 (by omega)]; rfl⟩⟩
    · refine call_ev (ev_Runes hX hs hG0 hG1 b) ?_
      simp only [go_sem, Nat.reduceBEq, Nat.reduceEqDiff, Nat.reduceAdd, Int.reduceAdd, Nat.reduceMul, Nat.reduceSub, Int.reduceToNat, Int.reduceLE, Int.reduceLT, Int.reduceEq, Int.reduceNe, reduceCtorEq, Nat.reduceLT, Nat.reduceLeDiff, eb]
      refine call_ev (ev_Bytes hX hs l hl (by omega)) ?_
      simp only [go_sem, Nat.reduceBEq, Nat.reduceEqDiff, Nat.reduceAdd, Int.reduceAdd, Nat.reduceMul, Nat.reduceSub, Int.reduceToNat, Int.reduceLE, Int.reduceLT, Int.reduceEq, Int.reduceNe, reduceCtorEq, Nat.reduceLT, Nat.reduceLeDiff, el]
      refine call_ev aw ?_
      simp only [go_sem, Nat.reduceBEq, Nat.reduceEqDiff, Nat.reduceAdd, Int.reduceAdd, Nat.reduceMul, Nat.reduceSub, Int.reduceToNat, Int.reduceLE, Int.reduceLT, Int.reduceEq, Int.reduceNe, reduceCtorEq, Nat.reduceLT, Nat.reduceLeDiff]
theorem law9_001 (r : Int) (b : List UInt8) (l : List Int) (hr : -9223372036854775808 ≤ r ∧ r < 9223372036854775808) (hl : ∀ r ∈ l, -9223372036854775808 ≤ r ∧ r < 9223372036854775808) (c1 : ¬ 200 < (b.length : Int)) (c2 : ¬ 100 < (l.length : Int))
    (hv : valid r = false) (eb : ¬ ckE b = 0) (el : byE l = 0) : Ev X 9 [.int .i64 r, lst u8 .ro b, lst (AV.int .i64) .ro l] (.bool true) := by
  have aw := ev_awake hX hs hG0 hG1
  have rr := bk_runes hX hs hG0 hG1 l el
  have ss : Ev X 21 [lst (AV.int .i64) .ro l, lst (AV.int .i64) .ro l] (.bool true) := by have := ev_same hX hs l l (by omega); simpa using this
  refine ev_of_wpc hs (A9_ok hX) 0 ?_
  simp only [A9, go_sem, Nat.reduceBEq, Nat.reduceEqDiff, Nat.reduceAdd, Int.reduceAdd, Nat.reduceMul, Nat.reduceSub, Int.reduceToNat, Int.reduceLE, Int.reduceLT, Int.reduceEq, Int.reduceNe, reduceCtorEq, Nat.reduceLT, Nat.reduceLeDiff, c1, c2]
  refine call_ev (ev_EncodeR hX hs hG0 hG1 r hr) ?_
  simp only [go_sem, Nat.reduceBEq, Nat.reduceEqDiff, Nat.reduceAdd, Int.reduceAdd, Nat.reduceMul, Nat.reduceSub, Int.reduceToNat, Int.reduceLE, Int.reduceLT, Int.reduceEq, Int.reduceNe, reduceCtorEq, Nat.reduceLT, Nat.reduceLeDiff, hv, fault]
  refine w_loop' hs.hm (ι := Nat) (fun i => i ≤ b.length) (fun i => [(1, lst u8 .ro b), (2, lst (AV.int .i64) .ro l), (16, .int .i64 i)]) (fun _ => []) (fun i => b.length - i) 0 ?_ fun i hi => ?_
  · simp only [go_sem, Nat.reduceBEq, Nat.reduceEqDiff, Nat.reduceAdd, Int.reduceAdd, Nat.reduceMul, Nat.reduceSub, Int.reduceToNat, Int.reduceLE, Int.reduceLT, Int.reduceEq, Int.reduceNe, reduceCtorEq, Nat.reduceLT, Nat.reduceLeDiff]
    exact Nat.zero_le _
  · simp only [A9L1, go_sem, Nat.reduceBEq, Nat.reduceEqDiff, Nat.reduceAdd, Int.reduceAdd, Nat.reduceMul, Nat.reduceSub, Int.reduceToNat, Int.reduceLE, Int.reduceLT, Int.reduceEq, Int.reduceNe, reduceCtorEq, Nat.reduceLT, Nat.reduceLeDiff]
    refine ⟨fun c => ?_, fun c => ?_⟩
    · refine call_ev (ev_Decode hX hs hG0 hG1 b i (by omega)) ?_
      cases hd : dec (b.drop i) with
      | none =>
        have hne : ¬ (if more (b.drop i) = true then (370 : Int) else 6) = 0 := by split <;> omega
        simp only [go_sem, Nat.reduceBEq, Nat.reduceEqDiff, Nat.reduceAdd, Int.reduceAdd, Nat.reduceMul, Nat.reduceSub, Int.reduceToNat, Int.reduceLE, Int.reduceLT, Int.reduceEq, Int.reduceNe, reduceCtorEq, Nat.reduceLT, Nat.reduceLeDiff, dcv, hd, hne]
        exact ⟨i + 1, by omega, by omega, by rw [wi64 (by omega)]; rfl⟩
      | some x =>
        obtain ⟨x, n⟩ := x
        have hr := dec_rng' hd
        rw [List.length_drop] at hr
        have hx := dec_some hd
        have hxr := valid_rng hx.1
        have w1 : IntKind.i64.wrap ((i : Int) + n) = ((i + n : Nat) : Int) := by rw [wi64 (by omega)]; omega
        have e1 : (b.take (i + n)).drop i = enc x := by
          rw [List.drop_take, show i + n - i = n by omega]; exact hx.2.2.1
        simp only [go_sem, Nat.reduceBEq, Nat.reduceEqDiff, Nat.reduceAdd, Int.reduceAdd, Nat.reduceMul, Nat.reduceSub, Int.reduceToNat, Int.reduceLE, Int.reduceLT, Int.reduceEq, Int.reduceNe, reduceCtorEq, Nat.reduceLT, Nat.reduceLeDiff, dcv, hd]
        refine call_ev (ev_EncodeR hX hs hG0 hG1 x (by omega)) ?_
        simp only [go_sem, Nat.reduceBEq, Nat.reduceEqDiff, Nat.reduceAdd, Int.reduceAdd, Nat.reduceMul, Nat.reduceSub, Int.reduceToNat, Int.reduceLE, Int.reduceLT, Int.reduceEq, Int.reduceNe, reduceCtorEq, Nat.reduceLT, Nat.reduceLeDiff, hx.1, fault, ← hx.2.2.2, w1, e1]
        refine ⟨fun d => by omega, fun d => ⟨⟨⟨by omega, by omega⟩, by omega⟩, i + 1, by omega, by omega, by rw [wi64 (by omega)]; rfl⟩⟩
    · refine call_ev (ev_Runes hX hs hG0 hG1 b) ?_
      simp only [go_sem, Nat.reduceBEq, Nat.reduceEqDiff, Nat.reduceAdd, Int.reduceAdd, Nat.reduceMul, Nat.reduceSub, Int.reduceToNat, Int.reduceLE, Int.reduceLT, Int.reduceEq, Int.reduceNe, reduceCtorEq, Nat.reduceLT, Nat.reduceLeDiff, eb]
      refine call_ev (ev_Bytes hX hs l hl (by omega)) ?_
      simp only [go_sem, Nat.reduceBEq, Nat.reduceEqDiff, Nat.reduceAdd, Int.reduceAdd, Nat.reduceMul, Nat.reduceSub, Int.reduceToNat, Int.reduceLE, Int.reduceLT, Int.reduceEq, Int.reduceNe, reduceCtorEq, Nat.reduceLT, Nat.reduceLeDiff, el]
      refine call_ev rr ?_
      simp only [go_sem, Nat.reduceBEq, Nat.reduceEqDiff, Nat.reduceAdd, Int.reduceAdd, Nat.reduceMul, Nat.reduceSub, Int.reduceToNat, Int.reduceLE, Int.reduceLT, Int.reduceEq, Int.reduceNe, reduceCtorEq, Nat.reduceLT, Nat.reduceLeDiff]
      refine call_ev ss ?_
      simp only [go_sem, Nat.reduceBEq, Nat.reduceEqDiff, Nat.reduceAdd, Int.reduceAdd, Nat.reduceMul, Nat.reduceSub, Int.reduceToNat, Int.reduceLE, Int.reduceLT, Int.reduceEq, Int.reduceNe, reduceCtorEq, Nat.reduceLT, Nat.reduceLeDiff]
      refine call_ev aw ?_
      simp only [go_sem, Nat.reduceBEq, Nat.reduceEqDiff, Nat.reduceAdd, Int.reduceAdd, Nat.reduceMul, Nat.reduceSub, Int.reduceToNat, Int.reduceLE, Int.reduceLT, Int.reduceEq, Int.reduceNe, reduceCtorEq, Nat.reduceLT, Nat.reduceLeDiff]
theorem law9_010 (r : Int) (b : List UInt8) (l : List Int) (hr : -9223372036854775808 ≤ r ∧ r < 9223372036854775808) (hl : ∀ r ∈ l, -9223372036854775808 ≤ r ∧ r < 9223372036854775808) (c1 : ¬ 200 < (b.length : Int)) (c2 : ¬ 100 < (l.length : Int))
    (hv : valid r = false) (eb : ckE b = 0) (el : ¬ byE l = 0) : Ev X 9 [.int .i64 r, lst u8 .ro b, lst (AV.int .i64) .ro l] (.bool true) := by
  have aw := ev_awake hX hs hG0 hG1
  have bb := bk_bytes hX hs hG0 hG1 b (by omega) eb
  refine ev_of_wpc hs (A9_ok hX) 0 ?_
  simp only [A9, go_sem, Nat.reduceBEq, Nat.reduceEqDiff, Nat.reduceAdd, Int.reduceAdd, Nat.reduceMul, Nat.reduceSub, Int.reduceToNat, Int.reduceLE, Int.reduceLT, Int.reduceEq, Int.reduceNe, reduceCtorEq, Nat.reduceLT, Nat.reduceLeDiff, c1, c2]
  refine call_ev (ev_EncodeR hX hs hG0 hG1 r hr) ?_
  simp only [go_sem, Nat.reduceBEq, Nat.reduceEqDiff, Nat.reduceAdd, Int.reduceAdd, Nat.reduceMul, Nat.reduceSub, Int.reduceToNat, Int.reduceLE, Int.reduceLT, Int.reduceEq, Int.reduceNe, reduceCtorEq, Nat.reduceLT, Nat.reduceLeDiff, hv, fault]
  refine w_loop' hs.hm (ι := Nat) (fun i => i ≤ b.length) (fun i => [(1, lst u8 .ro b), (2, lst (AV.int .i64) .ro l), (16, .int .i64 i)]) (fun _ => []) (fun i => b.length - i) 0 ?_ fun i hi => ?_
  · simp only [go_sem, Nat.reduceBEq, Nat.reduceEqDiff, Nat.reduceAdd, Int.reduceAdd, Nat.reduceMul, Nat.reduceSub, Int.reduceToNat, Int.reduceLE, Int.reduceLT, Int.reduceEq, Int.reduceNe, reduceCtorEq, Nat.reduceLT, Nat.reduceLeDiff]
    exact Nat.zero_le _
  · simp only [A9L1, go_sem, Nat.reduceBEq, Nat.reduceEqDiff, Nat.reduceAdd, Int.reduceAdd, Nat.reduceMul, Nat.reduceSub, Int.reduceToNat, Int.reduceLE, Int.reduceLT, Int.reduceEq, Int.reduceNe, reduceCtorEq, Nat.reduceLT, Nat.reduceLeDiff]
    refine ⟨fun c => ?_, fun c => ?_⟩
    · refine call_ev (ev_Decode hX hs hG0 hG1 b i (by omega)) ?_
      cases hd : dec (b.drop i) with
      | none =>
        have hne : ¬ (if more (b.drop i) = true then (370 : Int) else 6) = 0 := by split <;> omega
        simp only [go_sem, Nat.reduceBEq, Nat.reduceEqDiff, Nat.reduceAdd, Int.reduceAdd, Nat.reduceMul, Nat.reduceSub, Int.reduceToNat, Int.reduceLE, Int.reduceLT, Int.reduceEq, Int.reduceNe, reduceCtorEq, Nat.reduceLT, Nat.reduceLeDiff, dcv, hd, hne]
        exact ⟨i + 1, by omega, by omega, by rw [wi64 (by omega)]; rfl⟩
      | some x =>
        obtain ⟨x, n⟩ := x
        have hr := dec_rng' hd
        rw [List.length_drop] at hr
        have hx := dec_some hd
        have hxr := valid_rng hx.1
        have w1 : IntKind.i64.wrap ((i : Int) + n) = ((i + n : Nat) : Int) := by rw [wi64 (by omega)]; omega
        have e1 : (b.take (i + n)).drop i = enc x := by
          rw [List.drop_take, show i + n - i = n by omega]; exact hx.2.2.1
        simp only [go_sem, Nat.reduceBEq, Nat.reduceEqDiff, Nat.reduceAdd, Int.reduceAdd, Nat.reduceMul, Nat.reduceSub, Int.reduceToNat, Int.reduceLE, Int.reduceLT, Int.reduceEq, Int.reduceNe, reduceCtorEq, Nat.reduceLT, Nat.reduceLeDiff, dcv, hd]
        refine call_ev (ev_EncodeR hX hs hG0 hG1 x (by omega)) ?_
        simp only [go_sem, Nat.reduceBEq, Nat.reduceEqDiff, Nat.reduceAdd, Int.reduceAdd, Nat.reduceMul, Nat.reduceSub, Int.reduceToNat, Int.reduceLE, Int.reduceLT, Int.reduceEq, Int.reduceNe, reduceCtorEq, Nat.reduceLT, Nat.reduceLeDiff, hx.1, fault, ← hx.2.2.2, w1, e1]
        refine ⟨fun d => by omega, fun d => ⟨⟨⟨by omega, by omega⟩, by omega⟩, i + 1, by omega, by omega, by rw [wi64 (by omega)]; rfl⟩⟩
    · refine call_ev (ev_Runes hX hs hG0 hG1 b) ?_
      simp only [go_sem, Nat.reduceBEq, Nat.reduceEqDiff, Nat.reduceAdd, Int.reduceAdd, Nat.reduceMul, Nat.reduceSub, Int.reduceToNat, Int.reduceLE, Int.reduceLT, Int.reduceEq, Int.reduceNe, reduceCtorEq, Nat.reduceLT, Nat.reduceLeDiff, eb]
      refine call_ev bb ?_
      simp only [go_sem, Nat.reduceBEq, Nat.reduceEqDiff, Nat.reduceAdd, Int.reduceAdd, Nat.reduceMul, Nat.reduceSub, Int.reduceToNat, Int.reduceLE, Int.reduceLT, Int.reduceEq, Int.reduceNe, reduceCtorEq, Nat.reduceLT, Nat.reduceLeDiff]
      refine call_ev (ev_Bytes hX hs l hl (by omega)) ?_
      simp only [go_sem, Nat.reduceBEq, Nat.reduceEqDiff, Nat.reduceAdd, Int.reduceAdd, Nat.reduceMul, Nat.reduceSub, Int.reduceToNat, Int.reduceLE, Int.reduceLT, Int.reduceEq, Int.reduceNe, reduceCtorEq, Nat.reduceLT, Nat.reduceLeDiff, el]
      refine call_ev aw ?_
      simp only [go_sem, Nat.reduceBEq, Nat.reduceEqDiff, Nat.reduceAdd, Int.reduceAdd, Nat.reduceMul, Nat.reduceSub, Int.reduceToNat, Int.reduceLE, Int.reduceLT, Int.reduceEq, Int.reduceNe, reduceCtorEq, Nat.reduceLT, Nat.reduceLeDiff]
theorem law9_011 (r : Int) (b : List UInt8) (l : List Int) (hr : -9223372036854775808 ≤ r ∧ r < 9223372036854775808) (hl : ∀ r ∈ l, -9223372036854775808 ≤ r ∧ r < 9223372036854775808) (c1 : ¬ 200 < (b.length : Int)) (c2 : ¬ 100 < (l.length : Int))
    (hv : valid r = false) (eb : ckE b = 0) (el : byE l = 0) : Ev X 9 [.int .i64 r, lst u8 .ro b, lst (AV.int .i64) .ro l] (.bool true) := by
  have aw := ev_awake hX hs hG0 hG1
  have bb := bk_bytes hX hs hG0 hG1 b (by omega) eb
  have rr := bk_runes hX hs hG0 hG1 l el
  have ss : Ev X 21 [lst (AV.int .i64) .ro l, lst (AV.int .i64) .ro l] (.bool true) := by have := ev_same hX hs l l (by omega); simpa using this
  refine ev_of_wpc hs (A9_ok hX) 0 ?_
  simp only [A9, go_sem, Nat.reduceBEq, Nat.reduceEqDiff, Nat.reduceAdd, Int.reduceAdd, Nat.reduceMul, Nat.reduceSub, Int.reduceToNat, Int.reduceLE, Int.reduceLT, Int.reduceEq, Int.reduceNe, reduceCtorEq, Nat.reduceLT, Nat.reduceLeDiff, c1, c2]
  refine call_ev (ev_EncodeR hX hs hG0 hG1 r hr) ?_
  simp only [go_sem, Nat.reduceBEq, Nat.reduceEqDiff, Nat.reduceAdd, Int.reduceAdd, Nat.reduceMul, Nat.reduceSub, Int.reduceToNat, Int.reduceLE, Int.reduceLT, Int.reduceEq, Int.reduceNe, reduceCtorEq, Nat.reduceLT, Nat.reduceLeDiff, hv, fault]
  refine w_loop' hs.hm (ι := Nat) (fun i => i ≤ b.length) (fun i => [(1, lst u8 .ro b), (2, lst (AV.int .i64) .ro l), (16, .int .i64 i)]) (fun _ => []) (fun i => b.length - i) 0 ?_ fun i hi => ?_
  · simp only [go_sem, Nat.reduceBEq, Nat.reduceEqDiff, Nat.reduceAdd, Int.reduceAdd, Nat.reduceMul, Nat.reduceSub, Int.reduceToNat, Int.reduceLE, Int.reduceLT, Int.reduceEq, Int.reduceNe, reduceCtorEq, Nat.reduceLT, Nat.reduceLeDiff]
    exact Nat.zero_le _
  · simp only [A9L1, go_sem, Nat.reduceBEq, Nat.reduceEqDiff, Nat.reduceAdd, Int.reduceAdd, Nat.reduceMul, Nat.reduceSub, Int.reduceToNat, Int.reduceLE, Int.reduceLT, Int.reduceEq, Int.reduceNe, reduceCtorEq, Nat.reduceLT, Nat.reduceLeDiff]
    refine ⟨fun c => ?_, fun c => ?_⟩
    · refine call_ev (ev_Decode hX hs hG0 hG1 b i (by omega)) ?_
      cases hd : dec (b.drop i) with
      | none =>
        have hne : ¬ (if more (b.drop i) = true then (370 : Int) else 6) = 0 := by split <;> omega
        simp only [go_sem, Nat.reduceBEq, Nat.reduceEqDiff, Nat.reduceAdd, Int.reduceAdd, Nat.reduceMul, Nat.reduceSub, Int.reduceToNat, Int.reduceLE, Int.reduceLT, Int.reduceEq, Int.reduceNe, reduceCtorEq, Nat.reduceLT, Nat.reduceLeDiff, dcv, hd, hne]
        exact ⟨i + 1, by omega, by omega, by rw [wi64 (by omega)]; rfl⟩
      | some x =>
        obtain ⟨x, n⟩ := x
        have hr := dec_rng' hd
        rw [List.length_drop] at hr
        have hx := dec_some hd
        have hxr := valid_rng hx.1
        have w1 : IntKind.i64.wrap ((i : Int) + n) = ((i + n : Nat) : Int) := by rw [wi64 (by omega)]; omega
        have e1 : (b.take (i + n)).drop i = enc x := by
          rw [List.drop_take, show i + n - i = n by omega]; exact hx.2.2.1
        simp only [go_sem, Nat.reduceBEq, Nat.reduceEqDiff, Nat.reduceAdd, Int.reduceAdd, Nat.reduceMul, Nat.reduceSub, Int.reduceToNat, Int.reduceLE, Int.reduceLT, Int.reduceEq, Int.reduceNe, reduceCtorEq, Nat.reduceLT, Nat.reduceLeDiff, dcv, hd]
        refine call_ev (ev_EncodeR hX hs hG0 hG1 x (by omega)) ?_
        simp only [go_sem, Nat.reduceBEq, Nat.reduceEqDiff, Nat.reduceAdd, Int.reduceAdd, Nat.reduceMul, Nat.reduceSub, Int.reduceToNat, Int.reduceLE, Int.reduceLT, Int.reduceEq, Int.reduceNe, reduceCtorEq, Nat.reduceLT, Nat.reduceLeDiff, hx.1, fault, ← hx.2.2.2, w1, e1]
        refine ⟨fun d => by omega, fun d => ⟨⟨⟨by omega, by omega⟩, by omega⟩, i + 1, by omega, by omega, by rw [wi64 (by omega)]; rfl⟩⟩
    · refine call_ev (ev_Runes hX hs hG0 hG1 b) ?_
      simp only [go_sem, Nat.reduceBEq, Nat.reduceEqDiff, Nat.reduceAdd, Int.reduceAdd, Nat.reduceMul, Nat.reduceSub, Int.reduceToNat, Int.reduceLE, Int.reduceLT, Int.reduceEq, Int.reduceNe, reduceCtorEq, Nat.reduceLT, Nat.reduceLeDiff, eb]
      refine call_ev bb ?_
      simp only [go_sem, Nat.reduceBEq, Nat.reduceEqDiff, Nat.reduceAdd, Int.reduceAdd, Nat.reduceMul, Nat.reduceSub, Int.reduceToNat, Int.reduceLE, Int.reduceLT, Int.reduceEq, Int.reduceNe, reduceCtorEq, Nat.reduceLT, Nat.reduceLeDiff]
      refine call_ev (ev_Bytes hX hs l hl (by omega)) ?_
      simp only [go_sem, Nat.reduceBEq, Nat.reduceEqDiff, Nat.reduceAdd, Int.reduceAdd, Nat.reduceMul, Nat.reduceSub, Int.reduceToNat, Int.reduceLE, Int.reduceLT, Int.reduceEq, Int.reduceNe, reduceCtorEq, Nat.reduceLT, Nat.reduceLeDiff, el]
      refine call_ev rr ?_
      simp only [go_sem, Nat.reduceBEq, Nat.reduceEqDiff, Nat.reduceAdd, Int.reduceAdd, Nat.reduceMul, Nat.reduceSub, Int.reduceToNat, Int.reduceLE, Int.reduceLT, Int.reduceEq, Int.reduceNe, reduceCtorEq, Nat.reduceLT, Nat.reduceLeDiff]
      refine call_ev ss ?_
      simp only [go_sem, Nat.reduceBEq, Nat.reduceEqDiff, Nat.reduceAdd, Int.reduceAdd, Nat.reduceMul, Nat.reduceSub, Int.reduceToNat, Int.reduceLE, Int.reduceLT, Int.reduceEq, Int.reduceNe, reduceCtorEq, Nat.reduceLT, Nat.reduceLeDiff]
      refine call_ev aw ?_
      simp only [go_sem, Nat.reduceBEq, Nat.reduceEqDiff, Nat.reduceAdd, Int.reduceAdd, Nat.reduceMul, Nat.reduceSub, Int.reduceToNat, Int.reduceLE, Int.reduceLT, Int.reduceEq, Int.reduceNe, reduceCtorEq, Nat.reduceLT, Nat.reduceLeDiff]
theorem law9_100 (r : Int) (b : List UInt8) (l : List Int) (hr : -9223372036854775808 ≤ r ∧ r < 9223372036854775808) (hl : ∀ r ∈ l, -9223372036854775808 ≤ r ∧ r < 9223372036854775808) (c1 : ¬ 200 < (b.length : Int)) (c2 : ¬ 100 < (l.length : Int))
    (hv : valid r = true) (eb : ¬ ckE b = 0) (el : ¬ byE l = 0) : Ev X 9 [.int .i64 r, lst u8 .ro b, lst (AV.int .i64) .ro l] (.bool true) := by
  have aw := ev_awake hX hs hG0 hG1
  refine ev_of_wpc hs (A9_ok hX) 0 ?_
  simp only [A9, go_sem, Nat.reduceBEq, Nat.reduceEqDiff, Nat.reduceAdd, Int.reduceAdd, Nat.reduceMul, Nat.reduceSub, Int.reduceToNat, Int.reduceLE, Int.reduceLT, Int.reduceEq, Int.reduceNe, reduceCtorEq, Nat.reduceLT, Nat.reduceLeDiff, c1, c2]
  refine call_ev (ev_EncodeR hX hs hG0 hG1 r hr) ?_
  have hl4 := enc_len_pos hv
  have hal : (enc r ++ b).length = (enc r).length + b.length := List.length_append
  have d1 : Ev X 12 [lst u8 .ro (enc r ++ b), .int .i64 0] (.tuple [.int .i64 r, .int .i64 (enc r).length, .int .i64 0]) := by
    have := ev_Decode hX hs hG0 hG1 (enc r ++ b) 0 (by omega)
    simpa [dcv, dec_enc hv b] using this
  simp only [go_sem, Nat.reduceBEq, Nat.reduceEqDiff, Nat.reduceAdd, Int.reduceAdd, Nat.reduceMul, Nat.reduceSub, Int.reduceToNat, Int.reduceLE, Int.reduceLT, Int.reduceEq, Int.reduceNe, reduceCtorEq, Nat.reduceLT, Nat.reduceLeDiff, hv, fault]
  refine ⟨⟨by omega, by omega⟩, ⟨by omega, by omega⟩, ?_⟩
  refine call_ev d1 ?_
  simp only [go_sem, Nat.reduceBEq, Nat.reduceEqDiff, Nat.reduceAdd, Int.reduceAdd, Nat.reduceMul, Nat.reduceSub, Int.reduceToNat, Int.reduceLE, Int.reduceLT, Int.reduceEq, Int.reduceNe, reduceCtorEq, Nat.reduceLT, Nat.reduceLeDiff]
  refine w_loop' hs.hm (ι := Nat) (fun i => i ≤ (enc r).length) (fun i => [(0, .int .i64 r), (1, lst u8 .ro b), (2, lst (AV.int .i64) .ro l), (7, lst u8 .ro (enc r)), (12, .int .i64 i)]) (fun _ => [.tok ((enc r).length + b.length)]) (fun i => (enc r).length - i) 0 ?_ fun i hi => ?_
  · simp only [go_sem, Nat.reduceBEq, Nat.reduceEqDiff, Nat.reduceAdd, Int.reduceAdd, Nat.reduceMul, Nat.reduceSub, Int.reduceToNat, Int.reduceLE, Int.reduceLT, Int.reduceEq, Int.reduceNe, reduceCtorEq, Nat.reduceLT, Nat.reduceLeDiff]
    exact Nat.zero_le _
  simp only [A9L0, go_sem, Nat.reduceBEq, Nat.reduceEqDiff, Nat.reduceAdd, Int.reduceAdd, Nat.reduceMul, Nat.reduceSub, Int.reduceToNat, Int.reduceLE, Int.reduceLT, Int.reduceEq, Int.reduceNe, reduceCtorEq, Nat.reduceLT, Nat.reduceLeDiff]
  refine ⟨fun c => ⟨⟨by omega, by omega⟩, ?_⟩, fun c => ?_⟩
  · by_cases hi0 : i = 0
    · subst hi0
      refine call_ev (ev_DecodeOut hX hs hG0 hG1 _ 0 (by simp)) ?_
      simp only [go_sem, Nat.reduceBEq, Nat.reduceEqDiff, Nat.reduceAdd, Int.reduceAdd, Nat.reduceMul, Nat.reduceSub, Int.reduceToNat, Int.reduceLE, Int.reduceLT, Int.reduceEq, Int.reduceNe, reduceCtorEq, Nat.reduceLT, Nat.reduceLeDiff]
      exact ⟨1, by omega, by omega, by rw [wi64 (by omega)]; rfl⟩
    · have hp := enc_prefix hv i (by omega) (by omega)
      have d2 : Ev X 12 [lst u8 .ro ((enc r).take i), .int .i64 0] (.tuple [.int .i64 0, .int .i64 0, .int .i64 370]) := by
        have := ev_Decode hX hs hG0 hG1 ((enc r).take i) 0 (by rw [List.length_take]; omega)
        simpa [dcv, hp.1, hp.2] using this
      refine call_ev d2 ?_
      have hi1 : 0 < (i : Int) := by omega
      have hi2 : ¬ (i : Int) = 0 := by omega
      simp only [go_sem, Nat.reduceBEq, Nat.reduceEqDiff, Nat.reduceAdd, Int.reduceAdd, Nat.reduceMul, Nat.reduceSub, Int.reduceToNat, Int.reduceLE, Int.reduceLT, Int.reduceEq, Int.reduceNe, reduceCtorEq, Nat.reduceLT, Nat.reduceLeDiff, hi1, hi2]
      exact ⟨i + 1, by omega, by omega, by rw [wi64 (by omega)]; rfl⟩
  · refine w_loop' hs.hm (ι := Nat) (fun i => i ≤ b.length) (fun i => [(1, lst u8 .ro b), (2, lst (AV.int .i64) .ro l), (16, .int .i64 i)]) (fun _ => [.tok ((enc r).length + b.length)]) (fun i => b.length - i) 0 ?_ fun i hi => ?_
    · simp only [go_sem, Nat.reduceBEq, Nat.reduceEqDiff, Nat.reduceAdd, Int.reduceAdd, Nat.reduceMul, Nat.reduceSub, Int.reduceToNat, Int.reduceLE, Int.reduceLT, Int.reduceEq, Int.reduceNe, reduceCtorEq, Nat.reduceLT, Nat.reduceLeDiff]
      exact Nat.zero_le _
    · simp only [A9L1, go_sem, Nat.reduceBEq, Nat.reduceEqDiff, Nat.reduceAdd, Int.reduceAdd, Nat.reduceMul, Nat.reduceSub, Int.reduceToNat, Int.reduceLE, Int.reduceLT, Int.reduceEq, Int.reduceNe, reduceCtorEq, Nat.reduceLT, Nat.reduceLeDiff]
      refine ⟨fun c => ?_, fun c => ?_⟩
      · refine call_ev (ev_Decode hX hs hG0 hG1 b i (by omega)) ?_
        cases hd : dec (b.drop i) with
        | none =>
          have hne : ¬ (if more (b.drop i) = true then (370 : Int) else 6) = 0 := by split <;> omega
          simp only [go_sem, Nat.reduceBEq, Nat.reduceEqDiff, Nat.reduceAdd, Int.reduceAdd, Nat.reduceMul, Nat.reduceSub, Int.reduceToNat, Int.reduceLE, Int.reduceLT, Int.reduceEq, Int.reduceNe, reduceCtorEq, Nat.reduceLT, Nat.reduceLeDiff, dcv, hd, hne]
          exact ⟨i + 1, by omega, by omega, by rw [wi64 (by omega)]; rfl⟩
        | some x =>
          obtain ⟨x, n⟩ := x
          have hr := dec_rng' hd
          rw [List.length_drop] at hr
          have hx := dec_some hd
          have hxr := valid_rng hx.1
          have w1 : IntKind.i64.wrap ((i : Int) + n) = ((i + n : Nat) : Int) := by rw [wi64 (by omega)]; omega
          have e1 : (b.take (i + n)).drop i = enc x := by
            rw [List.drop_take, show i + n - i = n by omega]; exact hx.2.2.1
          simp only [go_sem, Nat.reduceBEq, Nat.reduceEqDiff, Nat.reduceAdd, Int.reduceAdd, Nat.reduceMul, Nat.reduceSub, Int.reduceToNat, Int.reduceLE, Int.reduceLT, Int.reduceEq, Int.reduceNe, reduceCtorEq, Nat.reduceLT, Nat.reduceLeDiff, dcv, hd]
          refine call_ev (ev_EncodeR hX hs hG0 hG1 x (by omega)) ?_
          simp only [go_sem, Nat.reduceBEq, Nat.reduceEqDiff, Nat.reduceAdd, Int.reduceAdd, Nat.reduceMul, Nat.reduceSub, Int.reduceToNat, Int.reduceLE, Int.reduceLT, Int.reduceEq, Int.reduceNe, reduceCtorEq, Nat.reduceLT, Nat.reduceLeDiff, hx.1, fault, ← hx.2.2.2, w1, e1]
          refine ⟨fun d => by omega, fun d => ⟨⟨⟨by omega, by omega⟩, by omega⟩, i + 1, by omega, by omega, by rw [wi64 (by omega)]; rfl⟩⟩
      · refine call_ev (ev_Runes hX hs hG0 hG1 b) ?_
        simp only [go_sem, Nat.reduceBEq, Nat.reduceEqDiff, Nat.reduceAdd, Int.reduceAdd, Nat.reduceMul, Nat.reduceSub, Int.reduceToNat, Int.reduceLE, Int.reduceLT, Int.reduceEq, Int.reduceNe, reduceCtorEq, Nat.reduceLT, Nat.reduceLeDiff, eb]
        refine call_ev (ev_Bytes hX hs l hl (by omega)) ?_
        simp only [go_sem, Nat.reduceBEq, Nat.reduceEqDiff, Nat.reduceAdd, Int.reduceAdd, Nat.reduceMul, Nat.reduceSub, Int.reduceToNat, Int.reduceLE, Int.reduceLT, Int.reduceEq, Int.reduceNe, reduceCtorEq, Nat.reduceLT, Nat.reduceLeDiff, el]
        refine call_ev aw ?_
        simp only [go_sem, Nat.reduceBEq, Nat.reduceEqDiff, Nat.reduceAdd, Int.reduceAdd, Nat.reduceMul, Nat.reduceSub, Int.reduceToNat, Int.reduceLE, Int.reduceLT, Int.reduceEq, Int.reduceNe, reduceCtorEq, Nat.reduceLT, Nat.reduceLeDiff]
theorem law9_101 (r : Int) (b : List UInt8) (l : List Int) (hr : -9223372036854775808 ≤ r ∧ r < 9223372036854775808) (hl : ∀ r ∈ l, -9223372036854775808 ≤ r ∧ r < 9223372036854775808) (c1 : ¬ 200 < (b.length : Int)) (c2 : ¬ 100 < (l.length : Int))
    (hv : valid r = true) (eb : ¬ ckE b = 0) (el : byE l = 0) : Ev X 9 [.int .i64 r, lst u8 .ro b, lst (AV.int .i64) .ro l] (.bool true) := by
  have aw := ev_awake hX hs hG0 hG1
  have rr := bk_runes hX hs hG0 hG1 l el
  have ss : Ev X 21 [lst (AV.int .i64) .ro l, lst (AV.int .i64) .ro l] (.bool true) := by have := ev_same hX hs l l (by omega); simpa using this
  refine ev_of_wpc hs (A9_ok hX) 0 ?_
  simp only [A9, go_sem, Nat.reduceBEq, Nat.reduceEqDiff, Nat.reduceAdd, Int.reduceAdd, Nat.reduceMul, Nat.reduceSub, Int.reduceToNat, Int.reduceLE, Int.reduceLT, Int.reduceEq, Int.reduceNe, reduceCtorEq, Nat.reduceLT, Nat.reduceLeDiff, c1, c2]
  refine call_ev (ev_EncodeR hX hs hG0 hG1 r hr) ?_
  have hl4 := enc_len_pos hv
  have hal : (enc r ++ b).length = (enc r).length + b.length := List.length_append
  have d1 : Ev X 12 [lst u8 .ro (enc r ++ b), .int .i64 0] (.tuple [.int .i64 r, .int .i64 (enc r).length, .int .i64 0]) := by
    have := ev_Decode hX hs hG0 hG1 (enc r ++ b) 0 (by omega)
    simpa [dcv, dec_enc hv b] using this
  simp only [go_sem, Nat.reduceBEq, Nat.reduceEqDiff, Nat.reduceAdd, Int.reduceAdd, Nat.reduceMul, Nat.reduceSub, Int.reduceToNat, Int.reduceLE, Int.reduceLT, Int.reduceEq, Int.reduceNe, reduceCtorEq, Nat.reduceLT, Nat.reduceLeDiff, hv, fault]
  refine ⟨⟨by omega, by omega⟩, ⟨by omega, by omega⟩, ?_⟩
  refine call_ev d1 ?_
  simp only [go_sem, Nat.reduceBEq, Nat.reduceEqDiff, Nat.reduceAdd, Int.reduceAdd, Nat.reduceMul, Nat.reduceSub, Int.reduceToNat, Int.reduceLE, Int.reduceLT, Int.reduceEq, Int.reduceNe, reduceCtorEq, Nat.reduceLT, Nat.reduceLeDiff]
  refine w_loop' hs.hm (ι := Nat) (fun i => i ≤ (enc r).length) (fun i => [(0, .int .i64 r), (1, lst u8 .ro b), (2, lst (AV.int .i64) .ro l), (7, lst u8 .ro (enc r)), (12, .int .i64 i)]) (fun _ => [.tok ((enc r).length + b.length)]) (fun i => (enc r).length - i) 0 ?_ fun i hi => ?_
  · simp only [go_sem, Nat.reduceBEq, Nat.reduceEqDiff, Nat.reduceAdd, Int.reduceAdd, Nat.reduceMul, Nat.reduceSub, Int.reduceToNat, Int.reduceLE, Int.reduceLT, Int.reduceEq, Int.reduceNe, reduceCtorEq, Nat.reduceLT, Nat.reduceLeDiff]
    exact Nat.zero_le _
  simp only [A9L0, go_sem, Nat.reduceBEq, Nat.reduceEqDiff, Nat.reduceAdd, Int.reduceAdd, Nat.reduceMul, Nat.reduceSub, Int.reduceToNat, Int.reduceLE, Int.reduceLT, Int.reduceEq, Int.reduceNe, reduceCtorEq, Nat.reduceLT, Nat.reduceLeDiff]
  refine ⟨fun c => ⟨⟨by omega, by omega⟩, ?_⟩, fun c => ?_⟩
  · by_cases hi0 : i = 0
    · subst hi0
      refine call_ev (ev_DecodeOut hX hs hG0 hG1 _ 0 (by simp)) ?_
      simp only [go_sem, Nat.reduceBEq, Nat.reduceEqDiff, Nat.reduceAdd, Int.reduceAdd, Nat.reduceMul, Nat.reduceSub, Int.reduceToNat, Int.reduceLE, Int.reduceLT, Int.reduceEq, Int.reduceNe, reduceCtorEq, Nat.reduceLT, Nat.reduceLeDiff]
      exact ⟨1, by omega, by omega, by rw [wi64 (by omega)]; rfl⟩
    · have hp := enc_prefix hv i (by omega) (by omega)
      have d2 : Ev X 12 [lst u8 .ro ((enc r).take i), .int .i64 0] (.tuple [.int .i64 0, .int .i64 0, .int .i64 370]) := by
        have := ev_Decode hX hs hG0 hG1 ((enc r).take i) 0 (by rw [List.length_take]; omega)
        simpa [dcv, hp.1, hp.2] using this
      refine call_ev d2 ?_
      have hi1 : 0 < (i : Int) := by omega
      have hi2 : ¬ (i : Int) = 0 := by omega
      simp only [go_sem, Nat.reduceBEq, Nat.reduceEqDiff, Nat.reduceAdd, Int.reduceAdd, Nat.reduceMul, Nat.reduceSub, Int.reduceToNat, Int.reduceLE, Int.reduceLT, Int.reduceEq, Int.reduceNe, reduceCtorEq, Nat.reduceLT, Nat.reduceLeDiff, hi1, hi2]
      exact ⟨i + 1, by omega, by omega, by rw [wi64 (by omega)]; rfl⟩
  · refine w_loop' hs.hm (ι := Nat) (fun i => i ≤ b.length) (fun i => [(1, lst u8 .ro b), (2, lst (AV.int .i64) .ro l), (16, .int .i64 i)]) (fun _ => [.tok ((enc r).length + b.length)]) (fun i => b.length - i) 0 ?_ fun i hi => ?_
    · simp only [go_sem, Nat.reduceBEq, Nat.reduceEqDiff, Nat.reduceAdd, Int.reduceAdd, Nat.reduceMul, Nat.reduceSub, Int.reduceToNat, Int.reduceLE, Int.reduceLT, Int.reduceEq, Int.reduceNe, reduceCtorEq, Nat.reduceLT, Nat.reduceLeDiff]
      exact Nat.zero_le _
    · simp only [A9L1, go_sem, Nat.reduceBEq, Nat.reduceEqDiff, Nat.reduceAdd, Int.reduceAdd, Nat.reduceMul, Nat.reduceSub, Int.reduceToNat, Int.reduceLE, Int.reduceLT, Int.reduceEq, Int.reduceNe, reduceCtorEq, Nat.reduceLT, Nat.reduceLeDiff]
      refine ⟨fun c => ?_, fun c => ?_⟩
      · refine call_ev (ev_Decode hX hs hG0 hG1 b i (by omega)) ?_
        cases hd : dec (b.drop i) with
        | none =>
          have hne : ¬ (if more (b.drop i) = true then (370 : Int) else 6) = 0 := by split <;> omega
          simp only [go_sem, Nat.reduceBEq, Nat.reduceEqDiff, Nat.reduceAdd, Int.reduceAdd, Nat.reduceMul, Nat.reduceSub, Int.reduceToNat, Int.reduceLE, Int.reduceLT, Int.reduceEq, Int.reduceNe, reduceCtorEq, Nat.reduceLT, Nat.reduceLeDiff, dcv, hd, hne]
          exact ⟨i + 1, by omega, by omega, by rw [wi64 (by omega)]; rfl⟩
        | some x =>
          obtain ⟨x, n⟩ := x
          have hr := dec_rng' hd
          rw [List.length_drop] at hr
          have hx := dec_some hd
          have hxr := valid_rng hx.1
          have w1 : IntKind.i64.wrap ((i : Int) + n) = ((i + n : Nat) : Int) := by rw [wi64 (by omega)]; omega
          have e1 : (b.take (i + n)).drop i = enc x := by
            rw [List.drop_take, show i + n - i = n by omega]; exact hx.2.2.1
          simp only [go_sem, Nat.reduceBEq, Nat.reduceEqDiff, Nat.reduceAdd, Int.reduceAdd, Nat.reduceMul, Nat.reduceSub, Int.reduceToNat, Int.reduceLE, Int.reduceLT, Int.reduceEq, Int.reduceNe, reduceCtorEq, Nat.reduceLT, Nat.reduceLeDiff, dcv, hd]
          refine call_ev (ev_EncodeR hX hs hG0 hG1 x (by omega)) ?_
          simp only [go_sem, Nat.reduceBEq, Nat.reduceEqDiff, Nat.reduceAdd, Int.reduceAdd, Nat.reduceMul, Nat.reduceSub, Int.reduceToNat, Int.reduceLE, Int.reduceLT, Int.reduceEq, Int.reduceNe, reduceCtorEq, Nat.reduceLT, Nat.reduceLeDiff, hx.1, fault, ← hx.2.2.2, w1, e1]
          refine ⟨fun d => by omega, fun d => ⟨⟨⟨by omega, by omega⟩, by omega⟩, i + 1, by omega, by omega, by rw [wi64 (by omega)]; rfl⟩⟩
      · refine call_ev (ev_Runes hX hs hG0 hG1 b) ?_
        simp only [go_sem, Nat.reduceBEq, Nat.reduceEqDiff, Nat.reduceAdd, Int.reduceAdd, Nat.reduceMul, Nat.reduceSub, Int.reduceToNat, Int.reduceLE, Int.reduceLT, Int.reduceEq, Int.reduceNe, reduceCtorEq, Nat.reduceLT, Nat.reduceLeDiff, eb]
        refine call_ev (ev_Bytes hX hs l hl (by omega)) ?_
        simp only [go_sem, Nat.reduceBEq, Nat.reduceEqDiff, Nat.reduceAdd, Int.reduceAdd, Nat.reduceMul, Nat.reduceSub, Int.reduceToNat, Int.reduceLE, Int.reduceLT, Int.reduceEq, Int.reduceNe, reduceCtorEq, Nat.reduceLT, Nat.reduceLeDiff, el]
        refine call_ev rr ?_
        simp only [go_sem, Nat.reduceBEq, Nat.reduceEqDiff, Nat.reduceAdd, Int.reduceAdd, Nat.reduceMul, Nat.reduceSub, Int.reduceToNat, Int.reduceLE, Int.reduceLT, Int.reduceEq, Int.reduceNe, reduceCtorEq, Nat.reduceLT, Nat.reduceLeDiff]
        refine call_ev ss ?_
        simp only [go_sem, Nat.reduceBEq, Nat.reduceEqDiff, Nat.reduceAdd, Int.reduceAdd, Nat.reduceMul, Nat.reduceSub, Int.reduceToNat, Int.reduceLE, Int.reduceLT, Int.reduceEq, Int.reduceNe, reduceCtorEq, Nat.reduceLT, Nat.reduceLeDiff]
        refine call_ev aw ?_
        simp only [go_sem, Nat.reduceBEq, Nat.reduceEqDiff, Nat.reduceAdd, Int.reduceAdd, Nat.reduceMul, Nat.reduceSub, Int.reduceToNat, Int.reduceLE, Int.reduceLT, Int.reduceEq, Int.reduceNe, reduceCtorEq, Nat.reduceLT, Nat.reduceLeDiff]
theorem law9_110 (r : Int) (b : List UInt8) (l : List Int) (hr : -9223372036854775808 ≤ r ∧ r < 9223372036854775808) (hl : ∀ r ∈ l, -9223372036854775808 ≤ r ∧ r < 9223372036854775808) (c1 : ¬ 200 < (b.length : Int)) (c2 : ¬ 100 < (l.length : Int))
    (hv : valid r = true) (eb : ckE b = 0) (el : ¬ byE l = 0) : Ev X 9 [.int .i64 r, lst u8 .ro b, lst (AV.int .i64) .ro l] (.bool true) := by
  have aw := ev_awake hX hs hG0 hG1
  have bb := bk_bytes hX hs hG0 hG1 b (by omega) eb
  refine ev_of_wpc hs (A9_ok hX) 0 ?_
  simp only [A9, go_sem, Nat.reduceBEq, Nat.reduceEqDiff, Nat.reduceAdd, Int.reduceAdd, Nat.reduceMul, Nat.reduceSub, Int.reduceToNat, Int.reduceLE, Int.reduceLT, Int.reduceEq, Int.reduceNe, reduceCtorEq, Nat.reduceLT, Nat.reduceLeDiff, c1, c2]
  refine call_ev (ev_EncodeR hX hs hG0 hG1 r hr) ?_
  have hl4 := enc_len_pos hv
  have hal : (enc r ++ b).length = (enc r).length + b.length := List.length_append
  have d1 : Ev X 12 [lst u8 .ro (enc r ++ b), .int .i64 0] (.tuple [.int .i64 r, .int .i64 (enc r).length, .int .i64 0]) := by
    have := ev_Decode hX hs hG0 hG1 (enc r ++ b) 0 (by omega)
    simpa [dcv, dec_enc hv b] using this
  simp only [go_sem, Nat.reduceBEq, Nat.reduceEqDiff, Nat.reduceAdd, Int.reduceAdd, Nat.reduceMul, Nat.reduceSub, Int.reduceToNat, Int.reduceLE, Int.reduceLT, Int.reduceEq, Int.reduceNe, reduceCtorEq, Nat.reduceLT, Nat.reduceLeDiff, hv, fault]
  refine ⟨⟨by omega, by omega⟩, ⟨by omega, by omega⟩, ?_⟩
  refine call_ev d1 ?_
  simp only [go_sem, Nat.reduceBEq, Nat.reduceEqDiff, Nat.reduceAdd, Int.reduceAdd, Nat.reduceMul, Nat.reduceSub, Int.reduceToNat, Int.reduceLE, Int.reduceLT, Int.reduceEq, Int.reduceNe, reduceCtorEq, Nat.reduceLT, Nat.reduceLeDiff]
  refine w_loop' hs.hm (ι := Nat) (fun i => i ≤ (enc r).length) (fun i => [(0, .int .i64 r), (1, lst u8 .ro b), (2, lst (AV.int .i64) .ro l), (7, lst u8 .ro (enc r)), (12, .int .i64 i)]) (fun _ => [.tok ((enc r).length + b.length)]) (fun i => (enc r).length - i) 0 ?_ fun i hi => ?_
  · simp only [go_sem, Nat.reduceBEq, Nat.reduceEqDiff, Nat.reduceAdd, Int.reduceAdd, Nat.reduceMul, Nat.reduceSub, Int.reduceToNat, Int.reduceLE, Int.reduceLT, Int.reduceEq, Int.reduceNe, reduceCtorEq, Nat.reduceLT, Nat.reduceLeDiff]
    exact Nat.zero_le _
  simp only [A9L0, go_sem, Nat.reduceBEq, Nat.reduceEqDiff, Nat.reduceAdd, Int.reduceAdd, Nat.reduceMul, Nat.reduceSub, Int.reduceToNat, Int.reduceLE, Int.reduceLT, Int.reduceEq, Int.reduceNe, reduceCtorEq, Nat.reduceLT, Nat.reduceLeDiff]
  refine ⟨fun c => ⟨⟨by omega, by omega⟩, ?_⟩, fun c => ?_⟩
  · by_cases hi0 : i = 0
    · subst hi0
      refine call_ev (ev_DecodeOut hX hs hG0 hG1 _ 0 (by simp)) ?_
      simp only [go_sem, Nat.reduceBEq, Nat.reduceEqDiff, Nat.reduceAdd, Int.reduceAdd, Nat.reduceMul, Nat.reduceSub, Int.reduceToNat, Int.reduceLE, Int.reduceLT, Int.reduceEq, Int.reduceNe, reduceCtorEq, Nat.reduceLT, Nat.reduceLeDiff]
      exact ⟨1, by omega, by omega, by rw [wi64 (by omega)]; rfl⟩
    · have hp := enc_prefix hv i (by omega) (by omega)
      have d2 : Ev X 12 [lst u8 .ro ((enc r).take i), .int .i64 0] (.tuple [.int .i64 0, .int .i64 0, .int .i64 370]) := by
        have := ev_Decode hX hs hG0 hG1 ((enc r).take i) 0 (by rw [List.length_take]; omega)
        simpa [dcv, hp.1, hp.2] using this
      refine call_ev d2 ?_
      have hi1 : 0 < (i : Int) := by omega
      have hi2 : ¬ (i : Int) = 0 := by omega
      simp only [go_sem, Nat.reduceBEq, Nat.reduceEqDiff, Nat.reduceAdd, Int.reduceAdd, Nat.reduceMul, Nat.reduceSub, Int.reduceToNat, Int.reduceLE, Int.reduceLT, Int.reduceEq, Int.reduceNe, reduceCtorEq, Nat.reduceLT, Nat.reduceLeDiff, hi1, hi2]
      exact ⟨i + 1, by omega, by omega, by rw [wi64 (by omega)]; rfl⟩
  · refine w_loop' hs.hm (ι := Nat) (fun i => i ≤ b.length) (fun i => [(1, lst u8 .ro b), (2, lst (AV.int .i64) .ro l), (16, .int .i64 i)]) (fun _ => [.tok ((enc r).length + b.length)]) (fun i => b.length - i) 0 ?_ fun i hi => ?_
    · simp only [go_sem, Nat.reduceBEq, Nat.reduceEqDiff, Nat.reduceAdd, Int.reduceAdd, Nat.reduceMul, Nat.reduceSub, Int.reduceToNat, Int.reduceLE, Int.reduceLT, Int.reduceEq, Int.reduceNe, reduceCtorEq, Nat.reduceLT, Nat.reduceLeDiff]
      exact Nat.zero_le _
    · simp only [A9L1, go_sem, Nat.reduceBEq, Nat.reduceEqDiff, Nat.reduceAdd, Int.reduceAdd, Nat.reduceMul, Nat.reduceSub, Int.reduceToNat, Int.reduceLE, Int.reduceLT, Int.reduceEq, Int.reduceNe, reduceCtorEq, Nat.reduceLT, Nat.reduceLeDiff]
      refine ⟨fun c => ?_, fun c => ?_⟩
      · refine call_ev (ev_Decode hX hs hG0 hG1 b i (by omega)) ?_
        cases hd : dec (b.drop i) with
        | none =>
          have hne : ¬ (if more (b.drop i) = true then (370 : Int) else 6) = 0 := by split <;> omega
          simp only [go_sem, Nat.reduceBEq, Nat.reduceEqDiff, Nat.reduceAdd, Int.reduceAdd, Nat.reduceMul, Nat.reduceSub, Int.reduceToNat, Int.reduceLE, Int.reduceLT, Int.reduceEq, Int.reduceNe, reduceCtorEq, Nat.reduceLT, Nat.reduceLeDiff, dcv, hd, hne]
          exact ⟨i + 1, by omega, by omega, by rw [wi64 (by omega)]; rfl⟩
        | some x =>
          obtain ⟨x, n⟩ := x
          have hr := dec_rng' hd
          rw [List.length_drop] at hr
          have hx := dec_some hd
          have hxr := valid_rng hx.1
          have w1 : IntKind.i64.wrap ((i : Int) + n) = ((i + n : Nat) : Int) := by rw [wi64 (by omega)]; omega
          have e1 : (b.take (i + n)).drop i = enc x := by
            rw [List.drop_take, show i + n - i = n by omega]; exact hx.2.2.1
          simp only [go_sem, Nat.reduceBEq, Nat.reduceEqDiff, Nat.reduceAdd, Int.reduceAdd, Nat.reduceMul, Nat.reduceSub, Int.reduceToNat, Int.reduceLE, Int.reduceLT, Int.reduceEq, Int.reduceNe, reduceCtorEq, Nat.reduceLT, Nat.reduceLeDiff, dcv, hd]
          refine call_ev (ev_EncodeR hX hs hG0 hG1 x (by omega)) ?_
          simp only [go_sem, Nat.reduceBEq, Nat.reduceEqDiff, Nat.reduceAdd, Int.reduceAdd, Nat.reduceMul, Nat.reduceSub, Int.reduceToNat, Int.reduceLE, Int.reduceLT, Int.reduceEq, Int.reduceNe, reduceCtorEq, Nat.reduceLT, Nat.reduceLeDiff, hx.1, fault, ← hx.2.2.2, w1, e1]
          refine ⟨fun d => by omega, fun d => ⟨⟨⟨by omega, by omega⟩, by omega⟩, i + 1, by omega, by omega, by rw [wi64 (by omega)]; rfl⟩⟩
      · refine call_ev (ev_Runes hX hs hG0 hG1 b) ?_
        simp only [go_sem, Nat.reduceBEq, Nat.reduceEqDiff, Nat.reduceAdd, Int.reduceAdd, Nat.reduceMul, Nat.reduceSub, Int.reduceToNat, Int.reduceLE, Int.reduceLT, Int.reduceEq, Int.reduceNe, reduceCtorEq, Nat.reduceLT, Nat.reduceLeDiff, eb]
        refine call_ev bb ?_
        simp only [go_sem, Nat.reduceBEq, Nat.reduceEqDiff, Nat.reduceAdd, Int.reduceAdd, Nat.reduceMul, Nat.reduceSub, Int.reduceToNat, Int.reduceLE, Int.reduceLT, Int.reduceEq, Int.reduceNe, reduceCtorEq, Nat.reduceLT, Nat.reduceLeDiff]
        refine call_ev (ev_Bytes hX hs l hl (by omega)) ?_
        simp only [go_sem, Nat.reduceBEq, Nat.reduceEqDiff, Nat.reduceAdd, Int.reduceAdd, Nat.reduceMul, Nat.reduceSub, Int.reduceToNat, Int.reduceLE, Int.reduceLT, Int.reduceEq, Int.reduceNe, reduceCtorEq, Nat.reduceLT, Nat.reduceLeDiff, el]
        refine call_ev aw ?_
        simp only [go_sem, Nat.reduceBEq, Nat.reduceEqDiff, Nat.reduceAdd, Int.reduceAdd, Nat.reduceMul, Nat.reduceSub, Int.reduceToNat, Int.reduceLE, Int.reduceLT, Int.reduceEq, Int.reduceNe, reduceCtorEq, Nat.reduceLT, Nat.reduceLeDiff]
theorem law9_111 (r : Int) (b : List UInt8) (l : List Int) (hr : -9223372036854775808 ≤ r ∧ r < 9223372036854775808) (hl : ∀ r ∈ l, -9223372036854775808 ≤ r ∧ r < 9223372036854775808) (c1 : ¬ 200 < (b.length : Int)) (c2 : ¬ 100 < (l.length : Int))
    (hv : valid r = true) (eb : ckE b = 0) (el : byE l = 0) : Ev X 9 [.int .i64 r, lst u8 .ro b, lst (AV.int .i64) .ro l] (.bool true) := by
  have aw := ev_awake hX hs hG0 hG1
  have bb := bk_bytes hX hs hG0 hG1 b (by omega) eb
  have rr := bk_runes hX hs hG0 hG1 l el
  have ss : Ev X 21 [lst (AV.int .i64) .ro l, lst (AV.int .i64) .ro l] (.bool true) := by have := ev_same hX hs l l (by omega); simpa using this
  refine ev_of_wpc hs (A9_ok hX) 0 ?_
  simp only [A9, go_sem, Nat.reduceBEq, Nat.reduceEqDiff, Nat.reduceAdd, Int.reduceAdd, Nat.reduceMul, Nat.reduceSub, Int.reduceToNat, Int.reduceLE, Int.reduceLT, Int.reduceEq, Int.reduceNe, reduceCtorEq, Nat.reduceLT, Nat.reduceLeDiff, c1, c2]
  refine call_ev (ev_EncodeR hX hs hG0 hG1 r hr) ?_
  have hl4 := enc_len_pos hv
  have hal : (enc r ++ b).length = (enc r).length + b.length := List.length_append
  have d1 : Ev X 12 [lst u8 .ro (enc r ++ b), .int .i64 0] (.tuple [.int .i64 r, .int .i64 (enc r).length, .int .i64 0]) := by
    have := ev_Decode hX hs hG0 hG1 (enc r ++ b) 0 (by omega)
    simpa [dcv, dec_enc hv b] using this
  simp only [go_sem, Nat.reduceBEq, Nat.reduceEqDiff, Nat.reduceAdd, Int.reduceAdd, Nat.reduceMul, Nat.reduceSub, Int.reduceToNat, Int.reduceLE, Int.reduceLT, Int.reduceEq, Int.reduceNe, reduceCtorEq, Nat.reduceLT, Nat.reduceLeDiff, hv, fault]
  refine ⟨⟨by omega, by omega⟩, ⟨by omega, by omega⟩, ?_⟩
  refine call_ev d1 ?_
  simp only [go_sem, Nat.reduceBEq, Nat.reduceEqDiff, Nat.reduceAdd, Int.reduceAdd, Nat.reduceMul, Nat.reduceSub, Int.reduceToNat, Int.reduceLE, Int.reduceLT, Int.reduceEq, Int.reduceNe, reduceCtorEq, Nat.reduceLT, Nat.reduceLeDiff]
  refine w_loop' hs.hm (ι := Nat) (fun i => i ≤ (enc r).length) (fun i => [(0, .int .i64 r), (1, lst u8 .ro b), (2, lst (AV.int .i64) .ro l), (7, lst u8 .ro (enc r)), (12, .int .i64 i)]) (fun _ => [.tok ((enc r).length + b.length)]) (fun i => (enc r).length - i) 0 ?_ fun i hi => ?_
  · simp only [go_sem, Nat.reduceBEq, Nat.reduceEqDiff, Nat.reduceAdd, Int.reduceAdd, Nat.reduceMul, Nat.reduceSub, Int.reduceToNat, Int.reduceLE, Int.reduceLT, Int.reduceEq, Int.reduceNe, reduceCtorEq, Nat.reduceLT, Nat.reduceLeDiff]
    exact Nat.zero_le _
  simp only [A9L0, go_sem, Nat.reduceBEq, Nat.reduceEqDiff, Nat.reduceAdd, Int.reduceAdd, Nat.reduceMul, Nat.reduceSub, Int.reduceToNat, Int.reduceLE, Int.reduceLT, Int.reduceEq, Int.reduceNe, reduceCtorEq, Nat.reduceLT, Nat.reduceLeDiff]
  refine ⟨fun c => ⟨⟨by omega, by omega⟩, ?_⟩, fun c => ?_⟩
  · by_cases hi0 : i = 0
    · subst hi0
      refine call_ev (ev_DecodeOut hX hs hG0 hG1 _ 0 (by simp)) ?_
      simp only [go_sem, Nat.reduceBEq, Nat.reduceEqDiff, Nat.reduceAdd, Int.reduceAdd, Nat.reduceMul, Nat.reduceSub, Int.reduceToNat, Int.reduceLE, Int.reduceLT, Int.reduceEq, Int.reduceNe, reduceCtorEq, Nat.reduceLT, Nat.reduceLeDiff]
      exact ⟨1, by omega, by omega, by rw [wi64 (by omega)]; rfl⟩
    · have hp := enc_prefix hv i (by omega) (by omega)
      have d2 : Ev X 12 [lst u8 .ro ((enc r).take i), .int .i64 0] (.tuple [.int .i64 0, .int .i64 0, .int .i64 370]) := by
        have := ev_Decode hX hs hG0 hG1 ((enc r).take i) 0 (by rw [List.length_take]; omega)
        simpa [dcv, hp.1, hp.2] using this
      refine call_ev d2 ?_
      have hi1 : 0 < (i : Int) := by omega
      have hi2 : ¬ (i : Int) = 0 := by omega
      simp only [go_sem, Nat.reduceBEq, Nat.reduceEqDiff, Nat.reduceAdd, Int.reduceAdd, Nat.reduceMul, Nat.reduceSub, Int.reduceToNat, Int.reduceLE, Int.reduceLT, Int.reduceEq, Int.reduceNe, reduceCtorEq, Nat.reduceLT, Nat.reduceLeDiff, hi1, hi2]
      exact ⟨i + 1, by omega, by omega, by rw [wi64 (by omega)]; rfl⟩
  · refine w_loop' hs.hm (ι := Nat) (fun i => i ≤ b.length) (fun i => [(1, lst u8 .ro b), (2, lst (AV.int .i64) .ro l), (16, .int .i64 i)]) (fun _ => [.tok ((enc r).length + b.length)]) (fun i => b.length - i) 0 ?_ fun i hi => ?_
    · simp only [go_sem, Nat.reduceBEq, Nat.reduceEqDiff, Nat.reduceAdd, Int.reduceAdd, Nat.reduceMul, Nat.reduceSub, Int.reduceToNat, Int.reduceLE, Int.reduceLT, Int.reduceEq, Int.reduceNe, reduceCtorEq, Nat.reduceLT, Nat.reduceLeDiff]
      exact Nat.zero_le _
    · simp only [A9L1, go_sem, Nat.reduceBEq, Nat.reduceEqDiff, Nat.reduceAdd, Int.reduceAdd, Nat.reduceMul, Nat.reduceSub, Int.reduceToNat, Int.reduceLE, Int.reduceLT, Int.reduceEq, Int.reduceNe, reduceCtorEq, Nat.reduceLT, Nat.reduceLeDiff]
      refine ⟨fun c => ?_, fun c => ?_⟩
      · refine call_ev (ev_Decode hX hs hG0 hG1 b i (by omega)) ?_
        cases hd : dec (b.drop i) with
        | none =>
          have hne : ¬ (if more (b.drop i) = true then (370 : Int) else 6) = 0 := by split <;> omega
          simp only [go_sem, Nat.reduceBEq, Nat.reduceEqDiff, Nat.reduceAdd, Int.reduceAdd, Nat.reduceMul, Nat.reduceSub, Int.reduceToNat, Int.reduceLE, Int.reduceLT, Int.reduceEq, Int.reduceNe, reduceCtorEq, Nat.reduceLT, Nat.reduceLeDiff, dcv, hd, hne]
          exact ⟨i + 1, by omega, by omega, by rw [wi64 (by omega)]; rfl⟩
        | some x =>
          obtain ⟨x, n⟩ := x
          have hr := dec_rng' hd
          rw [List.length_drop] at hr
          have hx := dec_some hd
          have hxr := valid_rng hx.1
          have w1 : IntKind.i64.wrap ((i : Int) + n) = ((i + n : Nat) : Int) := by rw [wi64 (by omega)]; omega
          have e1 : (b.take (i + n)).drop i = enc x := by
            rw [List.drop_take, show i + n - i = n by omega]; exact hx.2.2.1
          simp only [go_sem, Nat.reduceBEq, Nat.reduceEqDiff, Nat.reduceAdd, Int.reduceAdd, Nat.reduceMul, Nat.reduceSub, Int.reduceToNat, Int.reduceLE, Int.reduceLT, Int.reduceEq, Int.reduceNe, reduceCtorEq, Nat.reduceLT, Nat.reduceLeDiff, dcv, hd]
          refine call_ev (ev_EncodeR hX hs hG0 hG1 x (by omega)) ?_
          simp only [go_sem, Nat.reduceBEq, Nat.reduceEqDiff, Nat.reduceAdd, Int.reduceAdd, Nat.reduceMul, Nat.reduceSub, Int.reduceToNat, Int.reduceLE, Int.reduceLT, Int.reduceEq, Int.reduceNe, reduceCtorEq, Nat.reduceLT, Nat.reduceLeDiff, hx.1, fault, ← hx.2.2.2, w1, e1]
          refine ⟨fun d => by omega, fun d => ⟨⟨⟨by omega, by omega⟩, by omega⟩, i + 1, by omega, by omega, by rw [wi64 (by omega)]; rfl⟩⟩
      · refine call_ev (ev_Runes hX hs hG0 hG1 b) ?_
        simp only [go_sem, Nat.reduceBEq, Nat.reduceEqDiff, Nat.reduceAdd, Int.reduceAdd, Nat.reduceMul, Nat.reduceSub, Int.reduceToNat, Int.reduceLE, Int.reduceLT, Int.reduceEq, Int.reduceNe, reduceCtorEq, Nat.reduceLT, Nat.reduceLeDiff, eb]
        refine call_ev bb ?_
        simp only [go_sem, Nat.reduceBEq, Nat.reduceEqDiff, Nat.reduceAdd, Int.reduceAdd, Nat.reduceMul, Nat.reduceSub, Int.reduceToNat, Int.reduceLE, Int.reduceLT, Int.reduceEq, Int.reduceNe, reduceCtorEq, Nat.reduceLT, Nat.reduceLeDiff]
        refine call_ev (ev_Bytes hX hs l hl (by omega)) ?_
        simp only [go_sem, Nat.reduceBEq, Nat.reduceEqDiff, Nat.reduceAdd, Int.reduceAdd, Nat.reduceMul, Nat.reduceSub, Int.reduceToNat, Int.reduceLE, Int.reduceLT, Int.reduceEq, Int.reduceNe, reduceCtorEq, Nat.reduceLT, Nat.reduceLeDiff, el]
        refine call_ev rr ?_
        simp only [go_sem, Nat.reduceBEq, Nat.reduceEqDiff, Nat.reduceAdd, Int.reduceAdd, Nat.reduceMul, Nat.reduceSub, Int.reduceToNat, Int.reduceLE, Int.reduceLT, Int.reduceEq, Int.reduceNe, reduceCtorEq, Nat.reduceLT, Nat.reduceLeDiff]
        refine call_ev ss ?_
        simp only [go_sem, Nat.reduceBEq, Nat.reduceEqDiff, Nat.reduceAdd, Int.reduceAdd, Nat.reduceMul, Nat.reduceSub, Int.reduceToNat, Int.reduceLE, Int.reduceLT, Int.reduceEq, Int.reduceNe, reduceCtorEq, Nat.reduceLT, Nat.reduceLeDiff]
        refine call_ev aw ?_
        simp only [go_sem, Nat.reduceBEq, Nat.reduceEqDiff, Nat.reduceAdd, Int.reduceAdd, Nat.reduceMul, Nat.reduceSub, Int.reduceToNat, Int.reduceLE, Int.reduceLT, Int.reduceEq, Int.reduceNe, reduceCtorEq, Nat.reduceLT, Nat.reduceLeDiff]
theorem ev_law9 (r : Int) (b : List UInt8) (l : List Int) (hr : -9223372036854775808 ≤ r ∧ r < 9223372036854775808) (hl : ∀ r ∈ l, -9223372036854775808 ≤ r ∧ r < 9223372036854775808) : Ev X 9 [.int .i64 r, lst u8 .ro b, lst (AV.int .i64) .ro l] (.bool true) := by
  have aw := ev_awake hX hs hG0 hG1
  by_cases c1 : 200 < (b.length : Int)
  · refine ev_of_wpc hs (A9_ok hX) 0 ?_
    simp only [A9, go_sem, Nat.reduceBEq, Nat.reduceEqDiff, Nat.reduceAdd, Int.reduceAdd, Nat.reduceMul, Nat.reduceSub, Int.reduceToNat, Int.reduceLE, Int.reduceLT, Int.reduceEq, Int.reduceNe, reduceCtorEq, Nat.reduceLT, Nat.reduceLeDiff, c1]
    refine call_ev aw ?_
    simp only [go_sem, Nat.reduceBEq, Nat.reduceEqDiff, Nat.reduceAdd, Int.reduceAdd, Nat.reduceMul, Nat.reduceSub, Int.reduceToNat, Int.reduceLE, Int.reduceLT, Int.reduceEq, Int.reduceNe, reduceCtorEq, Nat.reduceLT, Nat.reduceLeDiff]
  by_cases c2 : 100 < (l.length : Int)
  · refine ev_of_wpc hs (A9_ok hX) 0 ?_
    simp only [A9, go_sem, Nat.reduceBEq, Nat.reduceEqDiff, Nat.reduceAdd, Int.reduceAdd, Nat.reduceMul, Nat.reduceSub, Int.reduceToNat, Int.reduceLE, Int.reduceLT, Int.reduceEq, Int.reduceNe, reduceCtorEq, Nat.reduceLT, Nat.reduceLeDiff, c1, c2]
    refine call_ev aw ?_
    simp only [go_sem, Nat.reduceBEq, Nat.reduceEqDiff, Nat.reduceAdd, Int.reduceAdd, Nat.reduceMul, Nat.reduceSub, Int.reduceToNat, Int.reduceLE, Int.reduceLT, Int.reduceEq, Int.reduceNe, reduceCtorEq, Nat.reduceLT, Nat.reduceLeDiff]
  cases hv : valid r <;> by_cases eb : ckE b = 0 <;> by_cases el : byE l = 0
  · exact law9_011 hX hs hG0 hG1 r b l hr hl c1 c2 hv eb el
  · exact law9_010 hX hs hG0 hG1 r b l hr hl c1 c2 hv eb el
  · exact law9_001 hX hs hG0 hG1 r b l hr hl c1 c2 hv eb el
  · exact law9_000 hX hs hG0 hG1 r b l hr hl c1 c2 hv eb el
  · exact law9_111 hX hs hG0 hG1 r b l hr hl c1 c2 hv eb el
  · exact law9_110 hX hs hG0 hG1 r b l hr hl c1 c2 hv eb el
  · exact law9_101 hX hs hG0 hG1 r b l hr hl c1 c2 hv eb el
  · exact law9_100 hX hs hG0 hG1 r b l hr hl c1 c2 hv eb el
end
end Go.Avm

/- The statement RunesBack of the seat: the law returns true for every input. -/
namespace Go.Proofs.YtpdhdilhlkpiaaaDoor
open Go Go.Avm Go.ChangeShapes Go.WideShapes Go.ChangeAt Go.WideMaps Go.WideElems Go.RowKit Go.Lib
set_option maxRecDepth 100000 in
theorem law9_lifted (os : Os) (started : os.Started) (H : Type) (enc : TypeId × Value → H) :
    ReturnsInHanded {} Tryd.checked os 9 .any (fun w args => (Rows.runesBackSpec.pre enc Tryd.prog Tryd.f9 [] false w args ∧ laidMetH Tryd.prog laidL w) ∧ sizedMet enc Tryd.prog Tryd.f9 (OpenSpec.ofChange Rows.runesBackSpec) false w args)
      (Rows.runesBackSpec.post enc Tryd.prog Tryd.f9 false true false false) := by
  refine returnsInHanded_of_change_and (C := Tryd.checked) (X := fun w _ => laidMetH Tryd.prog laidL w) (fun _ _ _ hh h => h.of_heap hh) own started (by kernel_rfl) Tryd.func9
    (ChangeSpec.witness_shaped (enc := enc) (C := Tryd.checked) (os := os) (X := fun w _ => laidMetH Tryd.prog laidL w) false (World.laidAll Tryd.prog os laidL) #[.int .i64 0, .slice Option.none 0 0, .slice Option.none 0 0] 8 (World.laidAll_os _ _ _)
      (World.shaped_of_ZipB (by kernel_rfl) (by kernel_rfl)) (by kernel_rfl) (by kernel_rfl) (by kernel_rfl)
      (by rw [MakeChecks.laidMetH_plain _ _ _ (by kernel_rfl)]; exact laidMet_laidAll _ (by kernel_rfl) (by kernel_rfl))) ?_
  intro W base args ds gs before hval0 hW _ _ hL _
  have hval : ∀ (j : Nat) t v, Tryd.f9.params[j]? = some t → args[j]? = some v → Value.okWide Tryd.prog W .any base t v := hval0
  have hW' := hW
  obtain ⟨p, q, hA0, hV, rfl, _, _⟩ := hW
  have hA : DataW.TrodAll enc Tryd.prog W 0 (fun _ => true) true Tryd.f9.params.toList args.toList ds p := hA0
  rw [Tryd.params9] at hA hval
  obtain ⟨v0, v1, v2, d0, d1, d2, p0, p1, p2, hargs, rfl, rfl, h0, h1, h2⟩ := trodAll_three hA
  have ha : args = #[v0, v1, v2] := by cases args; simp_all
  subst ha
  obtain ⟨rfl, rfl⟩ := trodVars_none hV
  obtain ⟨x0, rfl, rfl, rfl, w0⟩ := open_int Tryd.underlying2 (hval 0 2 v0 rfl rfl) h0
  obtain ⟨z1, hz1, hm1, hr1⟩ := open_intsR Tryd.underlying22 Tryd.underlying5 c5 (hval 1 22 v1 rfl rfl) h1
  obtain ⟨z2, hz2, hm2, hr2⟩ := open_intsR Tryd.underlying34 Tryd.underlying2 c2 (hval 2 34 v2 rfl rfl) h2
  rw [MakeChecks.laidMetH_plain _ _ _ (by kernel_rfl)] at hL
  obtain ⟨X, hX, hs, hG0, hG1, hlaid⟩ := cx_ex
  have hev := ev_law9 hX hs hG0 hG1 x0 (z1.map byteI) z2 (wf_i64 w0) (fun r hr => wf_i64 (hz2 r hr))
  have hc := calls_of_ev (vs := [.int .i64 x0, v1, v2]) hev (hlaid W hL) (by simp only [RelL, Rel]; exact ⟨_, _, rfl, rfl, ⟨_, _, rfl, rel_bytes hz1 hr1, ⟨_, _, rfl, hr2, rfl⟩⟩⟩)
  rw [hX] at hc
  refine hc.mono fun e W' ⟨v, g', he, hv, hold, hos, hout⟩ => ?_
  subst he
  simp only [Rel] at hv
  subst hv
  exact ⟨_, rfl, post_kept laidOut (by rw [Tryd.params9]; decide +kernel) Tryd.underlying4 (by kernel_rfl) rfl rfl hW' hold ⟨hos, hout⟩⟩
theorem law9_holds : Rows.RunesBackSaid :=
  OpenClaim.holds_of_wide 9 Tryd.f9 rfl rfl rfl rfl rfl rfl rfl ⟨rfl, rfl, rfl, rfl, rfl⟩ rfl rfl rfl rfl rfl (by kernel_rfl) Tryd.func9 (by kernel_rfl)
    (of_decide_eq_true (by kernel_rfl)) (by unfold Func.isWrapper; first | (rw [if_pos (by decide +kernel)]; kernel_rfl) | (rw [if_neg (by decide +kernel)]; exact ⟨rfl, rfl⟩))
    (fun os started H enc _ => law9_lifted os started H enc)
theorem runesBack_card : Rows.RunesBackCardSaid :=
  Claim7.holds_tied_plain_at .later [] [.data, .pinned] true (true, "b997fd4f0a95dcff55ba39b6b0491c73e9972c78d2af94630bc3f6db96fd2af7") false law9_holds (fun _ h => by cases h) (by kernel_rfl) (fun _ h => by cases h) runesBack_row_tie rfl ⟨rfl, rfl⟩ (by kernel_rfl) rfl
    (fun f fn hf hfn => by
      obtain rfl : f = 9 := Option.some.inj ((show Tryd.prog.funcNamed "invigilator/invigilatorlaw02.RunesBack" = some 9 by kernel_rfl).symm.trans hf) |>.symm
      obtain rfl : fn = Tryd.f9 := (Option.some.inj (Tryd.func9.symm.trans hfn)).symm
      exact ⟨by kernel_rfl, fun j t ht => by
        rw [Tryd.params9] at ht
        have hm : t ∈ [2, 22, 34] := by simpa using Array.mem_of_getElem? ht
        have hall : ([2, 22, 34].all fun u => !Tryd.prog.wantsStandIn u) = true := by kernel_rfl
        exact (show Tryd.prog.wantsStandIn t = false by simpa using List.all_eq_true.1 hall t hm)⟩)
    (by kernel_rfl)
end Go.Proofs.YtpdhdilhlkpiaaaDoor
