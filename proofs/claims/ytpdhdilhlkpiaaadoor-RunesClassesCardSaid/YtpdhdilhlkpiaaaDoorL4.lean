/- The statement RunesClasses of the seat: the law returns true for every input. -/
import Derived.Test.YtpdhdilhlkpiaaaDoorU1
import Derived.Test.YtpdhdilhlkpiaaaDoorL0
import Derived.Test.YtpdhdilhlkpiaaaDoorCards
import Derived.Test.YtpdhdilhlkpiaaaDoorTie
import Derived.SevenTiedAt
set_option linter.unusedSectionVars false
set_option linter.unusedSimpArgs false
set_option linter.unusedVariables false

namespace Go.Avm
open Go
theorem cls_rng (r : Int) (h : valid r = true) : 1 ≤ classI r ∧ classI r ≤ 10 := by
  simp only [classI, h, if_true]
  grind
theorem cls_high (r : Int) (h : valid r = true) (h8 : 128 ≤ r) : classI r = 10 := by
  simp only [classI, h, if_true]
  grind
def setsX : List (List UInt8) := [[], [32], [10], [40, 91], [93, 41], [34], [48, 49, 50, 51, 52, 53, 54, 55, 56, 57], [45], [97, 98, 99, 100, 101, 102, 103, 104, 105, 106, 107, 108, 109, 110, 111, 112, 113, 114, 115, 116, 117, 118, 119, 120, 121, 122], [61, 60]]
theorem hasR_take (S : List UInt8) (r : Int) (i : Nat) (h : i < S.length) : hasR (S.take (i + 1)) r = (hasR (S.take i) r || decide (((S.getD i 0).toNat : Int) = r)) := by
  rw [List.take_succ_eq_append_getElem h]
  simp only [hasR, List.any_append, List.any_cons, List.any_nil, Bool.or_false]
  simp [List.getD, h]
theorem setsX_ok (r : Int) (h : 0 ≤ r ∧ r < 128) (k : Nat) (hk : 1 ≤ k ∧ k < 10) : hasR (setsX.getD k []) r = decide (classI r = k) := by
  have : ∀ r : Fin 128, ∀ k : Fin 10, 1 ≤ k.val → hasR (setsX.getD k.val []) ((r.val : Nat) : Int) = decide (classI ((r.val : Nat) : Int) = ((k.val : Nat) : Int)) := by decide +kernel
  have := this ⟨r.toNat, by omega⟩ ⟨k, hk.2⟩ hk.1
  simpa [Int.toNat_of_nonneg h.1] using this
set_option maxRecDepth 8000
set_option maxHeartbeats 2000000
section
variable {X : Cx} (hX : X.P = Go.Proofs.Tryd.prog) (hs : Std X) (hG0 : X.G 0 = some tab0) (hG1 : X.G 1 = some tab1)
include hX hs hG0 hG1
theorem ev_law4 (r : Int) (hr : -9223372036854775808 ≤ r ∧ r < 9223372036854775808) : Ev X 4 [.int .i64 r] (.bool true) := by
  have aw := ev_awake hX hs hG0 hG1
  refine ev_of_wpc hs (A4_ok hX) 0 ?_
  simp only [A4, go_sem, Nat.reduceBEq, Nat.reduceEqDiff, Nat.reduceAdd, Int.reduceAdd, Nat.reduceMul, Nat.reduceSub, Int.reduceToNat, Int.reduceLE, Int.reduceLT, Int.reduceEq, Int.reduceNe, reduceCtorEq, Nat.reduceLT, Nat.reduceLeDiff]
  refine call_ev (ev_Class hX hs r hr) ?_
  simp only [go_sem, Nat.reduceBEq, Nat.reduceEqDiff, Nat.reduceAdd, Int.reduceAdd, Nat.reduceMul, Nat.reduceSub, Int.reduceToNat, Int.reduceLE, Int.reduceLT, Int.reduceEq, Int.reduceNe, reduceCtorEq, Nat.reduceLT, Nat.reduceLeDiff]
  refine call_ev (ev_EncodeR hX hs hG0 hG1 r hr) ?_
  cases hv : valid r with
  | false =>
    have hc : classI r = 0 := by simp [classI, hv]
    simp only [go_sem, Nat.reduceBEq, Nat.reduceEqDiff, Nat.reduceAdd, Int.reduceAdd, Nat.reduceMul, Nat.reduceSub, Int.reduceToNat, Int.reduceLE, Int.reduceLT, Int.reduceEq, Int.reduceNe, reduceCtorEq, Nat.reduceLT, Nat.reduceLeDiff, fault, hc]
    refine call_ev aw ?_
    simp only [go_sem, Nat.reduceBEq, Nat.reduceEqDiff, Nat.reduceAdd, Int.reduceAdd, Nat.reduceMul, Nat.reduceSub, Int.reduceToNat, Int.reduceLE, Int.reduceLT, Int.reduceEq, Int.reduceNe, reduceCtorEq, Nat.reduceLT, Nat.reduceLeDiff]
  | true =>
    have hc1 := cls_rng r hv
    by_cases h8 : 128 ≤ r
    · have hc : classI r = 10 := cls_high r hv h8
      simp only [go_sem, Nat.reduceBEq, Nat.reduceEqDiff, Nat.reduceAdd, Int.reduceAdd, Nat.reduceMul, Nat.reduceSub, Int.reduceToNat, Int.reduceLE, Int.reduceLT, Int.reduceEq, Int.reduceNe, reduceCtorEq, Nat.reduceLT, Nat.reduceLeDiff, fault, hc, h8]
      refine call_ev aw ?_
      simp only [go_sem, Nat.reduceBEq, Nat.reduceEqDiff, Nat.reduceAdd, Int.reduceAdd, Nat.reduceMul, Nat.reduceSub, Int.reduceToNat, Int.reduceLE, Int.reduceLT, Int.reduceEq, Int.reduceNe, reduceCtorEq, Nat.reduceLT, Nat.reduceLeDiff]
    simp only [go_sem, Nat.reduceBEq, Nat.reduceEqDiff, Nat.reduceAdd, Int.reduceAdd, Nat.reduceMul, Nat.reduceSub, Int.reduceToNat, Int.reduceLE, Int.reduceLT, Int.reduceEq, Int.reduceNe, reduceCtorEq, Nat.reduceLT, Nat.reduceLeDiff, fault, hc1.1, hc1.2, h8]
    have hrr := valid_rng hv
    refine w_loop' hs.hm (ι := Nat) (fun k => 1 ≤ k ∧ k ≤ 10) (fun k => [(0, .int .i64 r), (3, .int .i64 (classI r)), (7, .ptr 0 0), (8, .int .i64 k)]) (fun _ => [.box (setsX.map AV.str)]) (fun k => 10 - k) 1 ?_ fun k hk => ?_
    · simp only [go_sem, Nat.reduceBEq, Nat.reduceEqDiff, Nat.reduceAdd, Int.reduceAdd, Nat.reduceMul, Nat.reduceSub, Int.reduceToNat, Int.reduceLE, Int.reduceLT, Int.reduceEq, Int.reduceNe, reduceCtorEq, Nat.reduceLT, Nat.reduceLeDiff, setsX]
    · simp only [A4L0, go_sem, Nat.reduceBEq, Nat.reduceEqDiff, Nat.reduceAdd, Int.reduceAdd, Nat.reduceMul, Nat.reduceSub, Int.reduceToNat, Int.reduceLE, Int.reduceLT, Int.reduceEq, Int.reduceNe, reduceCtorEq, Nat.reduceLT, Nat.reduceLeDiff]
      refine ⟨fun c => ?_, fun c => ?_⟩
      · refine w_loop' hs.hm (ι := Nat) (fun i => i ≤ (setsX.getD k []).length) (fun i => [(0, .int .i64 r), (3, .int .i64 (classI r)), (7, .ptr 0 0), (8, .int .i64 k), (9, .bool (hasR ((setsX.getD k []).take i) r)), (10, .int .i64 i)]) (fun _ => [.box (setsX.map AV.str)]) (fun i => (setsX.getD k []).length - i) 0 ?_ fun i hi => ?_
        · simp only [go_sem, Nat.reduceBEq, Nat.reduceEqDiff, Nat.reduceAdd, Int.reduceAdd, Nat.reduceMul, Nat.reduceSub, Int.reduceToNat, Int.reduceLE, Int.reduceLT, Int.reduceEq, Int.reduceNe, reduceCtorEq, Nat.reduceLT, Nat.reduceLeDiff]
          exact ⟨Nat.zero_le _, rfl⟩
        · have hk10 : k < 10 := by omega
          have hset : (setsX.map AV.str).getD (k * 1) .undef = .str (setsX.getD k []) := by
            rcases (by omega : k = 1 ∨ k = 2 ∨ k = 3 ∨ k = 4 ∨ k = 5 ∨ k = 6 ∨ k = 7 ∨ k = 8 ∨ k = 9) with rfl | rfl | rfl | rfl | rfl | rfl | rfl | rfl | rfl <;> rfl
          have hlen : (setsX.map AV.str).length = 10 := rfl
          have hl26 : (setsX.getD k []).length ≤ 26 := by
            rcases (by omega : k = 1 ∨ k = 2 ∨ k = 3 ∨ k = 4 ∨ k = 5 ∨ k = 6 ∨ k = 7 ∨ k = 8 ∨ k = 9) with rfl | rfl | rfl | rfl | rfl | rfl | rfl | rfl | rfl <;> decide
          have hstep := fun h => hasR_take (setsX.getD k []) r i h
          have hfin := setsX_ok r (by omega) k (by omega)
          generalize setsX.getD k [] = S at *
          simp only [A4L1, go_sem, Nat.reduceBEq, Nat.reduceEqDiff, Nat.reduceAdd, Int.reduceAdd, Nat.reduceMul, Nat.reduceSub, Int.reduceToNat, Int.reduceLE, Int.reduceLT, Int.reduceEq, Int.reduceNe, reduceCtorEq, Nat.reduceLT, Nat.reduceLeDiff, hset, hlen]
          refine ⟨by omega, by omega, fun d => ⟨fun e => ⟨i + 1, by omega, by omega, ?_, ?_⟩, fun e => ⟨by omega, by omega, by omega, i + 1, by omega, by omega, ?_, ?_⟩⟩, fun d => ⟨fun e => ?_, fun e => ⟨k + 1, by omega, ⟨by omega, by omega⟩, ?_⟩⟩⟩
          · rw [hstep (by omega), e, Bool.true_or]
          · rw [wi64 (by omega)]; rfl
          · have hb := (S.getD i 0).toNat_lt
            rw [hstep (by omega), e, Bool.false_or, wi64 (by omega)]
          · rw [wi64 (by omega)]; rfl
          · rw [List.take_of_length_le (by omega), hfin] at e; simp at e
          · rw [wi64 (by omega)]; rfl
      · refine call_ev aw ?_
        simp only [go_sem, Nat.reduceBEq, Nat.reduceEqDiff, Nat.reduceAdd, Int.reduceAdd, Nat.reduceMul, Nat.reduceSub, Int.reduceToNat, Int.reduceLE, Int.reduceLT, Int.reduceEq, Int.reduceNe, reduceCtorEq, Nat.reduceLT, Nat.reduceLeDiff]
end
end Go.Avm

/- The statement RunesClasses of the seat: the law returns true for every input. -/
namespace Go.Proofs.YtpdhdilhlkpiaaaDoor
open Go Go.Avm Go.ChangeShapes Go.WideShapes Go.ChangeAt Go.WideMaps Go.WideElems Go.RowKit Go.Lib
set_option maxRecDepth 100000 in
theorem law4_lifted (os : Os) (started : os.Started) (H : Type) (enc : TypeId × Value → H) :
    ReturnsInHanded {} Tryd.checked os 4 .any (fun w args => (Rows.runesClassesSpec.pre enc Tryd.prog Tryd.f4 [] false w args ∧ laidMetH Tryd.prog laidL w) ∧ sizedMet enc Tryd.prog Tryd.f4 (OpenSpec.ofChange Rows.runesClassesSpec) false w args)
      (Rows.runesClassesSpec.post enc Tryd.prog Tryd.f4 false true false false) := by
  refine returnsInHanded_of_change_and (C := Tryd.checked) (X := fun w _ => laidMetH Tryd.prog laidL w) (fun _ _ _ hh h => h.of_heap hh) own started (by kernel_rfl) Tryd.func4
    (ChangeSpec.witness_shaped (enc := enc) (C := Tryd.checked) (os := os) (X := fun w _ => laidMetH Tryd.prog laidL w) false (World.laidAll Tryd.prog os laidL) #[.int .i64 0] 8 (World.laidAll_os _ _ _)
      (World.shaped_of_ZipB (by kernel_rfl) (by kernel_rfl)) (by kernel_rfl) (by kernel_rfl) (by kernel_rfl)
      (by rw [MakeChecks.laidMetH_plain _ _ _ (by kernel_rfl)]; exact laidMet_laidAll _ (by kernel_rfl) (by kernel_rfl))) ?_
  intro W base args ds gs before hval0 hW _ _ hL _
  have hval : ∀ (j : Nat) t v, Tryd.f4.params[j]? = some t → args[j]? = some v → Value.okWide Tryd.prog W .any base t v := hval0
  have hW' := hW
  obtain ⟨p, q, hA0, hV, rfl, _, _⟩ := hW
  have hA : DataW.TrodAll enc Tryd.prog W 0 (fun _ => true) true Tryd.f4.params.toList args.toList ds p := hA0
  rw [Tryd.params4] at hA hval
  obtain ⟨v0, d0, hargs, rfl, h0⟩ := trodAll_one hA
  have ha : args = #[v0] := by cases args; simp_all
  subst ha
  obtain ⟨rfl, rfl⟩ := trodVars_none hV
  obtain ⟨x0, rfl, rfl, rfl, w0⟩ := open_int Tryd.underlying2 (hval 0 2 v0 rfl rfl) h0
  rw [MakeChecks.laidMetH_plain _ _ _ (by kernel_rfl)] at hL
  obtain ⟨X, hX, hs, hG0, hG1, hlaid⟩ := cx_ex
  have hev := ev_law4 hX hs hG0 hG1 x0 (wf_i64 w0)
  have hc := calls_of_ev (vs := [.int .i64 x0]) hev (hlaid W hL) (by simp only [RelL, Rel]; exact ⟨_, _, rfl, rfl, rfl⟩)
  rw [hX] at hc
  refine hc.mono fun e W' ⟨v, g', he, hv, hold, hos, hout⟩ => ?_
  subst he
  simp only [Rel] at hv
  subst hv
  exact ⟨_, rfl, post_kept laidOut (by rw [Tryd.params4]; decide +kernel) Tryd.underlying4 (by kernel_rfl) rfl rfl hW' hold ⟨hos, hout⟩⟩
theorem law4_holds : Rows.RunesClassesSaid :=
  OpenClaim.holds_of_wide 4 Tryd.f4 rfl rfl rfl rfl rfl rfl rfl ⟨rfl, rfl, rfl, rfl, rfl⟩ rfl rfl rfl rfl rfl (by kernel_rfl) Tryd.func4 (by kernel_rfl)
    (of_decide_eq_true (by kernel_rfl)) (by unfold Func.isWrapper; first | (rw [if_pos (by decide +kernel)]; kernel_rfl) | (rw [if_neg (by decide +kernel)]; exact ⟨rfl, rfl⟩))
    (fun os started H enc _ => law4_lifted os started H enc)
theorem runesClasses_card : Rows.RunesClassesCardSaid :=
  Claim7.holds_tied_plain_at .later [] [.data, .pinned] true (true, "b997fd4f0a95dcff55ba39b6b0491c73e9972c78d2af94630bc3f6db96fd2af7") false law4_holds (fun _ h => by cases h) (by kernel_rfl) (fun _ h => by cases h) runesClasses_row_tie rfl ⟨rfl, rfl⟩ (by kernel_rfl) rfl
    (fun f fn hf hfn => by
      obtain rfl : f = 4 := Option.some.inj ((show Tryd.prog.funcNamed "invigilator/invigilatorlaw02.RunesClasses" = some 4 by kernel_rfl).symm.trans hf) |>.symm
      obtain rfl : fn = Tryd.f4 := (Option.some.inj (Tryd.func4.symm.trans hfn)).symm
      exact ⟨by kernel_rfl, fun j t ht => by
        rw [Tryd.params4] at ht
        have hm : t ∈ [2] := by simpa using Array.mem_of_getElem? ht
        have hall : ([2].all fun u => !Tryd.prog.wantsStandIn u) = true := by kernel_rfl
        exact (show Tryd.prog.wantsStandIn t = false by simpa using List.all_eq_true.1 hall t hm)⟩)
    (by kernel_rfl)
end Go.Proofs.YtpdhdilhlkpiaaaDoor
