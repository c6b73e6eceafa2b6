/- The statement RunesKnown of the seat: the law returns true for every input. -/
import Derived.Test.YtpdhdilhlkpiaaaDoorT9
import Derived.Test.YtpdhdilhlkpiaaaDoorL0
import Derived.Test.YtpdhdilhlkpiaaaDoorCards
import Derived.Test.YtpdhdilhlkpiaaaDoorTie
import Derived.SevenTiedAt
set_option linter.unusedSectionVars false
set_option linter.unusedSimpArgs false
set_option linter.unusedVariables false

namespace Go.Avm
open Go
set_option maxRecDepth 8000
section
variable {X : Cx} (hX : X.P = Go.Proofs.Tryd.prog) (hs : Std X) (hG0 : X.G 0 = some tab0) (hG1 : X.G 1 = some tab1)
include hX hs hG0 hG1
theorem kn1 : Ev X 14 [.int .i64 65] (.tuple [lst u8 .ro [65], .int .i64 0]) := ev_EncodeR hX hs hG0 hG1 65 (by decide)
theorem kn2 : Ev X 14 [.int .i64 233] (.tuple [lst u8 .ro [195, 169], .int .i64 0]) := ev_EncodeR hX hs hG0 hG1 233 (by decide)
theorem kn3 : Ev X 14 [.int .i64 128512] (.tuple [lst u8 .ro [240, 159, 152, 128], .int .i64 0]) := ev_EncodeR hX hs hG0 hG1 128512 (by decide)
theorem kn4 : Ev X 14 [.int .i64 55296] (.tuple [lst u8 .ro [], .int .i64 7]) := ev_EncodeR hX hs hG0 hG1 55296 (by decide)
theorem kn5 : Ev X 14 [.int .i64 1114112] (.tuple [lst u8 .ro [], .int .i64 7]) := ev_EncodeR hX hs hG0 hG1 1114112 (by decide)
theorem kn6 : Ev X 14 [.int .i64 (-1)] (.tuple [lst u8 .ro [], .int .i64 7]) := ev_EncodeR hX hs hG0 hG1 (-1) (by decide)
theorem kn7 : Ev X 12 [.sl .ro [.int .u8 169], .int .i64 0] (.tuple [.int .i64 0, .int .i64 0, .int .i64 6]) := ev_Decode hX hs hG0 hG1 [169] 0 (by decide)
theorem kn8 : Ev X 12 [.sl .ro [.int .u8 192, .int .u8 128], .int .i64 0] (.tuple [.int .i64 0, .int .i64 0, .int .i64 6]) := ev_Decode hX hs hG0 hG1 [192, 128] 0 (by decide)
theorem kn9 : Ev X 28 [.sl .ro [.int .u8 97, .int .u8 195, .int .u8 169, .int .u8 255]] (.tuple [.int .i64 3, .int .i64 6]) := ev_Check hX hs hG0 hG1 [97, 195, 169, 255]
theorem kn10 : Ev X 19 [.sl .ro [.int .u8 97, .int .u8 195, .int .u8 169]] (.tuple [.int .i64 2, .int .i64 0]) := ev_Count hX hs hG0 hG1 [97, 195, 169]
theorem kn11 : Ev X 24 [.sl .ro [.int .u8 97, .int .u8 195, .int .u8 169], .int .i64 2] (.tuple [.bool false, .int .i64 0]) := ev_On hX hs hG0 hG1 [97, 195, 169] 2
theorem kn12 : Ev X 26 [.sl .ro [.int .u8 97, .int .u8 195, .int .u8 169], .int .i64 2] (.tuple [.int .i64 1, .int .i64 0]) := ev_Back hX hs hG0 hG1 [97, 195, 169] 2
theorem ev_law8 : Ev X 8 [] (.bool true) := by
  have aw := ev_awake hX hs hG0 hG1
  refine ev_of_wpc hs (A8_ok hX) 0 ?_
  simp only [A8, go_sem, Nat.reduceBEq, Nat.reduceEqDiff, Nat.reduceAdd, Int.reduceAdd, Nat.reduceMul, Nat.reduceSub, Int.reduceToNat, Int.reduceLE, Int.reduceLT, Int.reduceEq, Int.reduceNe, reduceCtorEq, Nat.reduceLT, Nat.reduceLeDiff]
  refine call_ev (kn1 hX hs hG0 hG1) ?_
  simp only [go_sem, Nat.reduceBEq, Nat.reduceEqDiff, Nat.reduceAdd, Int.reduceAdd, Nat.reduceMul, Nat.reduceSub, Int.reduceToNat, Int.reduceLE, Int.reduceLT, Int.reduceEq, Int.reduceNe, reduceCtorEq, Nat.reduceLT, Nat.reduceLeDiff]
  refine call_ev (kn2 hX hs hG0 hG1) ?_
  simp only [go_sem, Nat.reduceBEq, Nat.reduceEqDiff, Nat.reduceAdd, Int.reduceAdd, Nat.reduceMul, Nat.reduceSub, Int.reduceToNat, Int.reduceLE, Int.reduceLT, Int.reduceEq, Int.reduceNe, reduceCtorEq, Nat.reduceLT, Nat.reduceLeDiff]
  refine call_ev (kn3 hX hs hG0 hG1) ?_
  simp only [go_sem, Nat.reduceBEq, Nat.reduceEqDiff, Nat.reduceAdd, Int.reduceAdd, Nat.reduceMul, Nat.reduceSub, Int.reduceToNat, Int.reduceLE, Int.reduceLT, Int.reduceEq, Int.reduceNe, reduceCtorEq, Nat.reduceLT, Nat.reduceLeDiff]
  refine call_ev (kn4 hX hs hG0 hG1) ?_
  simp only [go_sem, Nat.reduceBEq, Nat.reduceEqDiff, Nat.reduceAdd, Int.reduceAdd, Nat.reduceMul, Nat.reduceSub, Int.reduceToNat, Int.reduceLE, Int.reduceLT, Int.reduceEq, Int.reduceNe, reduceCtorEq, Nat.reduceLT, Nat.reduceLeDiff]
  refine call_ev (kn5 hX hs hG0 hG1) ?_
  simp only [go_sem, Nat.reduceBEq, Nat.reduceEqDiff, Nat.reduceAdd, Int.reduceAdd, Nat.reduceMul, Nat.reduceSub, Int.reduceToNat, Int.reduceLE, Int.reduceLT, Int.reduceEq, Int.reduceNe, reduceCtorEq, Nat.reduceLT, Nat.reduceLeDiff]
  refine call_ev (kn6 hX hs hG0 hG1) ?_
  simp only [go_sem, Nat.reduceBEq, Nat.reduceEqDiff, Nat.reduceAdd, Int.reduceAdd, Nat.reduceMul, Nat.reduceSub, Int.reduceToNat, Int.reduceLE, Int.reduceLT, Int.reduceEq, Int.reduceNe, reduceCtorEq, Nat.reduceLT, Nat.reduceLeDiff]
  refine call_ev (kn7 hX hs hG0 hG1) ?_
  simp only [go_sem, Nat.reduceBEq, Nat.reduceEqDiff, Nat.reduceAdd, Int.reduceAdd, Nat.reduceMul, Nat.reduceSub, Int.reduceToNat, Int.reduceLE, Int.reduceLT, Int.reduceEq, Int.reduceNe, reduceCtorEq, Nat.reduceLT, Nat.reduceLeDiff]
  refine call_ev (kn8 hX hs hG0 hG1) ?_
  simp only [go_sem, Nat.reduceBEq, Nat.reduceEqDiff, Nat.reduceAdd, Int.reduceAdd, Nat.reduceMul, Nat.reduceSub, Int.reduceToNat, Int.reduceLE, Int.reduceLT, Int.reduceEq, Int.reduceNe, reduceCtorEq, Nat.reduceLT, Nat.reduceLeDiff]
  refine call_ev (kn9 hX hs hG0 hG1) ?_
  simp only [go_sem, Nat.reduceBEq, Nat.reduceEqDiff, Nat.reduceAdd, Int.reduceAdd, Nat.reduceMul, Nat.reduceSub, Int.reduceToNat, Int.reduceLE, Int.reduceLT, Int.reduceEq, Int.reduceNe, reduceCtorEq, Nat.reduceLT, Nat.reduceLeDiff]
  refine call_ev (kn10 hX hs hG0 hG1) ?_
  simp only [go_sem, Nat.reduceBEq, Nat.reduceEqDiff, Nat.reduceAdd, Int.reduceAdd, Nat.reduceMul, Nat.reduceSub, Int.reduceToNat, Int.reduceLE, Int.reduceLT, Int.reduceEq, Int.reduceNe, reduceCtorEq, Nat.reduceLT, Nat.reduceLeDiff]
  refine call_ev (kn11 hX hs hG0 hG1) ?_
  simp only [go_sem, Nat.reduceBEq, Nat.reduceEqDiff, Nat.reduceAdd, Int.reduceAdd, Nat.reduceMul, Nat.reduceSub, Int.reduceToNat, Int.reduceLE, Int.reduceLT, Int.reduceEq, Int.reduceNe, reduceCtorEq, Nat.reduceLT, Nat.reduceLeDiff]
  refine call_ev (kn12 hX hs hG0 hG1) ?_
  simp only [go_sem, Nat.reduceBEq, Nat.reduceEqDiff, Nat.reduceAdd, Int.reduceAdd, Nat.reduceMul, Nat.reduceSub, Int.reduceToNat, Int.reduceLE, Int.reduceLT, Int.reduceEq, Int.reduceNe, reduceCtorEq, Nat.reduceLT, Nat.reduceLeDiff]
  refine call_ev aw ?_
  simp only [go_sem, Nat.reduceBEq, Nat.reduceEqDiff, Nat.reduceAdd, Int.reduceAdd, Nat.reduceMul, Nat.reduceSub, Int.reduceToNat, Int.reduceLE, Int.reduceLT, Int.reduceEq, Int.reduceNe, reduceCtorEq, Nat.reduceLT, Nat.reduceLeDiff]
end
end Go.Avm

/- The statement RunesKnown of the seat: the law returns true for every input. -/
namespace Go.Proofs.YtpdhdilhlkpiaaaDoor
open Go Go.Avm Go.ChangeShapes Go.WideShapes Go.ChangeAt Go.WideMaps Go.WideElems Go.RowKit Go.Lib
set_option maxRecDepth 100000 in
theorem law8_lifted (os : Os) (started : os.Started) (H : Type) (enc : TypeId × Value → H) :
    ReturnsInHanded {} Tryd.checked os 8 .any (fun w args => (Rows.runesKnownSpec.pre enc Tryd.prog Tryd.f8 [] false w args ∧ laidMetH Tryd.prog laidL w) ∧ sizedMet enc Tryd.prog Tryd.f8 (OpenSpec.ofChange Rows.runesKnownSpec) false w args)
      (Rows.runesKnownSpec.post enc Tryd.prog Tryd.f8 false true false false) := by
  refine returnsInHanded_of_change_and (C := Tryd.checked) (X := fun w _ => laidMetH Tryd.prog laidL w) (fun _ _ _ hh h => h.of_heap hh) own started (by kernel_rfl) Tryd.func8
    (ChangeSpec.witness_shaped (enc := enc) (C := Tryd.checked) (os := os) (X := fun w _ => laidMetH Tryd.prog laidL w) false (World.laidAll Tryd.prog os laidL) #[] 8 (World.laidAll_os _ _ _)
      (World.shaped_of_ZipB (by kernel_rfl) (by kernel_rfl)) (by kernel_rfl) (by kernel_rfl) (by kernel_rfl)
      (by rw [MakeChecks.laidMetH_plain _ _ _ (by kernel_rfl)]; exact laidMet_laidAll _ (by kernel_rfl) (by kernel_rfl))) ?_
  intro W base args ds gs before hval0 hW _ _ hL _
  have hval : ∀ (j : Nat) t v, Tryd.f8.params[j]? = some t → args[j]? = some v → Value.okWide Tryd.prog W .any base t v := hval0
  have hW' := hW
  obtain ⟨p, q, hA0, hV, rfl, _, _⟩ := hW
  have hA : DataW.TrodAll enc Tryd.prog W 0 (fun _ => true) true Tryd.f8.params.toList args.toList ds p := hA0
  rw [Tryd.params8] at hA hval
  obtain ⟨ha, rfl, rfl⟩ := trodAll_nil hA
  have ha : args = #[] := by cases args; simp_all
  subst ha
  obtain ⟨rfl, rfl⟩ := trodVars_none hV
  rw [MakeChecks.laidMetH_plain _ _ _ (by kernel_rfl)] at hL
  obtain ⟨X, hX, hs, hG0, hG1, hlaid⟩ := cx_ex
  have hev := ev_law8 hX hs hG0 hG1 
  have hc := calls_of_ev (vs := []) hev (hlaid W hL) (by simp only [RelL, Rel])
  rw [hX] at hc
  refine hc.mono fun e W' ⟨v, g', he, hv, hold, hos, hout⟩ => ?_
  subst he
  simp only [Rel] at hv
  subst hv
  exact ⟨_, rfl, post_kept laidOut (by rw [Tryd.params8]; decide +kernel) Tryd.underlying4 (by kernel_rfl) rfl rfl hW' hold ⟨hos, hout⟩⟩
theorem law8_holds : Rows.RunesKnownSaid :=
  OpenClaim.holds_of_wide 8 Tryd.f8 rfl rfl rfl rfl rfl rfl rfl ⟨rfl, rfl, rfl, rfl, rfl⟩ rfl rfl rfl rfl rfl (by kernel_rfl) Tryd.func8 (by kernel_rfl)
    (of_decide_eq_true (by kernel_rfl)) (by unfold Func.isWrapper; first | (rw [if_pos (by decide +kernel)]; kernel_rfl) | (rw [if_neg (by decide +kernel)]; exact ⟨rfl, rfl⟩))
    (fun os started H enc _ => law8_lifted os started H enc)
theorem runesKnown_card : Rows.RunesKnownCardSaid :=
  Claim7.holds_tied_plain_at .later [] [.data, .pinned] true (true, "b997fd4f0a95dcff55ba39b6b0491c73e9972c78d2af94630bc3f6db96fd2af7") false law8_holds (fun _ h => by cases h) (by kernel_rfl) (fun _ h => by cases h) runesKnown_row_tie rfl ⟨rfl, rfl⟩ (by kernel_rfl) rfl
    (fun f fn hf hfn => by
      obtain rfl : f = 8 := Option.some.inj ((show Tryd.prog.funcNamed "invigilator/invigilatorlaw02.RunesKnown" = some 8 by kernel_rfl).symm.trans hf) |>.symm
      obtain rfl : fn = Tryd.f8 := (Option.some.inj (Tryd.func8.symm.trans hfn)).symm
      exact ⟨by kernel_rfl, fun j t ht => by
        rw [Tryd.params8] at ht
        have hm : t ∈ ([] : List TypeId) := by simpa using Array.mem_of_getElem? ht
        have hall : (([] : List TypeId).all fun u => !Tryd.prog.wantsStandIn u) = true := by kernel_rfl
        exact (show Tryd.prog.wantsStandIn t = false by simpa using List.all_eq_true.1 hall t hm)⟩)
    (by kernel_rfl)
end Go.Proofs.YtpdhdilhlkpiaaaDoor
