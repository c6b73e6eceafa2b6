/- The statement RunesDecodes of the seat: the law returns true for every input. -/
import Derived.Test.YtpdhdilhlkpiaaaDoorT9
import Derived.Test.YtpdhdilhlkpiaaaDoorL0
import Derived.Test.YtpdhdilhlkpiaaaDoorCards
import Derived.Test.YtpdhdilhlkpiaaaDoorTie
import Derived.SevenTiedAt
set_option linter.unusedSectionVars false
set_option linter.unusedSimpArgs false
set_option linter.unusedVariables false

namespace Go.Avm
open Go
set_option maxRecDepth 8000
section
variable {X : Cx} (hX : X.P = Go.Proofs.Tryd.prog) (hs : Std X) (hG0 : X.G 0 = some tab0) (hG1 : X.G 1 = some tab1)
include hX hs hG0 hG1
theorem ev_law3 (b : List UInt8) (i r : Int) (_hi : -9223372036854775808 ≤ i ∧ i < 9223372036854775808) (hr : -9223372036854775808 ≤ r ∧ r < 9223372036854775808) : Ev X 3 [lst u8 .ro b, .int .i64 i, .int .i64 r] (.bool true) := by
  have aw := ev_awake hX hs hG0 hG1
  refine ev_of_wpc hs (A3_ok hX) 0 ?_
  simp only [A3, go_sem, Nat.reduceBEq, Nat.reduceEqDiff, Nat.reduceAdd, Int.reduceAdd, Nat.reduceMul, Nat.reduceSub, Int.reduceToNat, Int.reduceLE, Int.reduceLT, Int.reduceEq, Int.reduceNe, reduceCtorEq, Nat.reduceLT, Nat.reduceLeDiff]
  refine ⟨fun c => ?_, fun c => ?_⟩
  · refine call_ev aw ?_
    simp only [go_sem, Nat.reduceBEq, Nat.reduceEqDiff, Nat.reduceAdd, Int.reduceAdd, Nat.reduceMul, Nat.reduceSub, Int.reduceToNat, Int.reduceLE, Int.reduceLT, Int.reduceEq, Int.reduceNe, reduceCtorEq, Nat.reduceLT, Nat.reduceLeDiff]
  · obtain ⟨x, n, e, d1, d2⟩ := ev_dec2 hX hs hG0 hG1 b i (by omega)
    refine call_ev d1 ?_
    simp only [go_sem, Nat.reduceBEq, Nat.reduceEqDiff, Nat.reduceAdd, Int.reduceAdd, Nat.reduceMul, Nat.reduceSub, Int.reduceToNat, Int.reduceLE, Int.reduceLT, Int.reduceEq, Int.reduceNe, reduceCtorEq, Nat.reduceLT, Nat.reduceLeDiff]
    refine call_ev d2 ?_
    simp only [go_sem, Nat.reduceBEq, Nat.reduceEqDiff, Nat.reduceAdd, Int.reduceAdd, Nat.reduceMul, Nat.reduceSub, Int.reduceToNat, Int.reduceLE, Int.reduceLT, Int.reduceEq, Int.reduceNe, reduceCtorEq, Nat.reduceLT, Nat.reduceLeDiff]
    refine call_ev (ev_EncodeR hX hs hG0 hG1 r hr) ?_
    simp only [go_sem, Nat.reduceBEq, Nat.reduceEqDiff, Nat.reduceAdd, Int.reduceAdd, Nat.reduceMul, Nat.reduceSub, Int.reduceToNat, Int.reduceLE, Int.reduceLT, Int.reduceEq, Int.reduceNe, reduceCtorEq, Nat.reduceLT, Nat.reduceLeDiff]
    refine call_ev (ev_refEncode hX hs r) ?_
    simp only [go_sem, Nat.reduceBEq, Nat.reduceEqDiff, Nat.reduceAdd, Int.reduceAdd, Nat.reduceMul, Nat.reduceSub, Int.reduceToNat, Int.reduceLE, Int.reduceLT, Int.reduceEq, Int.reduceNe, reduceCtorEq, Nat.reduceLT, Nat.reduceLeDiff]
    refine call_ev (ev_Class hX hs r hr) ?_
    simp only [go_sem, Nat.reduceBEq, Nat.reduceEqDiff, Nat.reduceAdd, Int.reduceAdd, Nat.reduceMul, Nat.reduceSub, Int.reduceToNat, Int.reduceLE, Int.reduceLT, Int.reduceEq, Int.reduceNe, reduceCtorEq, Nat.reduceLT, Nat.reduceLeDiff]
    refine call_ev (ev_refClass hX hs r) ?_
    simp only [go_sem, Nat.reduceBEq, Nat.reduceEqDiff, Nat.reduceAdd, Int.reduceAdd, Nat.reduceMul, Nat.reduceSub, Int.reduceToNat, Int.reduceLE, Int.reduceLT, Int.reduceEq, Int.reduceNe, reduceCtorEq, Nat.reduceLT, Nat.reduceLeDiff]
    refine call_ev aw ?_
    simp only [go_sem, Nat.reduceBEq, Nat.reduceEqDiff, Nat.reduceAdd, Int.reduceAdd, Nat.reduceMul, Nat.reduceSub, Int.reduceToNat, Int.reduceLE, Int.reduceLT, Int.reduceEq, Int.reduceNe, reduceCtorEq, Nat.reduceLT, Nat.reduceLeDiff]
end
end Go.Avm

/- The statement RunesDecodes of the seat: the law returns true for every input. -/
namespace Go.Proofs.YtpdhdilhlkpiaaaDoor
open Go Go.Avm Go.ChangeShapes Go.WideShapes Go.ChangeAt Go.WideMaps Go.WideElems Go.RowKit Go.Lib
set_option maxRecDepth 100000 in
theorem law3_lifted (os : Os) (started : os.Started) (H : Type) (enc : TypeId × Value → H) :
    ReturnsInHanded {} Tryd.checked os 3 .any (fun w args => (Rows.runesDecodesSpec.pre enc Tryd.prog Tryd.f3 [] false w args ∧ laidMetH Tryd.prog laidL w) ∧ sizedMet enc Tryd.prog Tryd.f3 (OpenSpec.ofChange Rows.runesDecodesSpec) false w args)
      (Rows.runesDecodesSpec.post enc Tryd.prog Tryd.f3 false true false false) := by
  refine returnsInHanded_of_change_and (C := Tryd.checked) (X := fun w _ => laidMetH Tryd.prog laidL w) (fun _ _ _ hh h => h.of_heap hh) own started (by kernel_rfl) Tryd.func3
    (ChangeSpec.witness_shaped (enc := enc) (C := Tryd.checked) (os := os) (X := fun w _ => laidMetH Tryd.prog laidL w) false (World.laidAll Tryd.prog os laidL) #[.slice Option.none 0 0, .int .i64 0, .int .i64 0] 8 (World.laidAll_os _ _ _)
      (World.shaped_of_ZipB (by kernel_rfl) (by kernel_rfl)) (by kernel_rfl) (by kernel_rfl) (by kernel_rfl)
      (by rw [MakeChecks.laidMetH_plain _ _ _ (by kernel_rfl)]; exact laidMet_laidAll _ (by kernel_rfl) (by kernel_rfl))) ?_
  intro W base args ds gs before hval0 hW _ _ hL _
  have hval : ∀ (j : Nat) t v, Tryd.f3.params[j]? = some t → args[j]? = some v → Value.okWide Tryd.prog W .any base t v := hval0
  have hW' := hW
  obtain ⟨p, q, hA0, hV, rfl, _, _⟩ := hW
  have hA : DataW.TrodAll enc Tryd.prog W 0 (fun _ => true) true Tryd.f3.params.toList args.toList ds p := hA0
  rw [Tryd.params3] at hA hval
  obtain ⟨v0, v1, v2, d0, d1, d2, p0, p1, p2, hargs, rfl, rfl, h0, h1, h2⟩ := trodAll_three hA
  have ha : args = #[v0, v1, v2] := by cases args; simp_all
  subst ha
  obtain ⟨rfl, rfl⟩ := trodVars_none hV
  obtain ⟨z0, hz0, hm0, hr0⟩ := open_intsR Tryd.underlying22 Tryd.underlying5 c5 (hval 0 22 v0 rfl rfl) h0
  obtain ⟨x1, rfl, rfl, rfl, w1⟩ := open_int Tryd.underlying3 (hval 1 3 v1 rfl rfl) h1
  obtain ⟨x2, rfl, rfl, rfl, w2⟩ := open_int Tryd.underlying2 (hval 2 2 v2 rfl rfl) h2
  rw [MakeChecks.laidMetH_plain _ _ _ (by kernel_rfl)] at hL
  obtain ⟨X, hX, hs, hG0, hG1, hlaid⟩ := cx_ex
  have hev := ev_law3 hX hs hG0 hG1 (z0.map byteI) x1 x2 (wf_i64 w1) (wf_i64 w2)
  have hc := calls_of_ev (vs := [v0, .int .i64 x1, .int .i64 x2]) hev (hlaid W hL) (by simp only [RelL, Rel]; exact ⟨_, _, rfl, rel_bytes hz0 hr0, ⟨_, _, rfl, rfl, ⟨_, _, rfl, rfl, rfl⟩⟩⟩)
  rw [hX] at hc
  refine hc.mono fun e W' ⟨v, g', he, hv, hold, hos, hout⟩ => ?_
  subst he
  simp only [Rel] at hv
  subst hv
  exact ⟨_, rfl, post_kept laidOut (by rw [Tryd.params3]; decide +kernel) Tryd.underlying4 (by kernel_rfl) rfl rfl hW' hold ⟨hos, hout⟩⟩
theorem law3_holds : Rows.RunesDecodesSaid :=
  OpenClaim.holds_of_wide 3 Tryd.f3 rfl rfl rfl rfl rfl rfl rfl ⟨rfl, rfl, rfl, rfl, rfl⟩ rfl rfl rfl rfl rfl (by kernel_rfl) Tryd.func3 (by kernel_rfl)
    (of_decide_eq_true (by kernel_rfl)) (by unfold Func.isWrapper; first | (rw [if_pos (by decide +kernel)]; kernel_rfl) | (rw [if_neg (by decide +kernel)]; exact ⟨rfl, rfl⟩))
    (fun os started H enc _ => law3_lifted os started H enc)
theorem runesDecodes_card : Rows.RunesDecodesCardSaid :=
  Claim7.holds_tied_plain_at .later [] [.data, .pinned] true (true, "b997fd4f0a95dcff55ba39b6b0491c73e9972c78d2af94630bc3f6db96fd2af7") false law3_holds (fun _ h => by cases h) (by kernel_rfl) (fun _ h => by cases h) runesDecodes_row_tie rfl ⟨rfl, rfl⟩ (by kernel_rfl) rfl
    (fun f fn hf hfn => by
      obtain rfl : f = 3 := Option.some.inj ((show Tryd.prog.funcNamed "invigilator/invigilatorlaw02.RunesDecodes" = some 3 by kernel_rfl).symm.trans hf) |>.symm
      obtain rfl : fn = Tryd.f3 := (Option.some.inj (Tryd.func3.symm.trans hfn)).symm
      exact ⟨by kernel_rfl, fun j t ht => by
        rw [Tryd.params3] at ht
        have hm : t ∈ [22, 3, 2] := by simpa using Array.mem_of_getElem? ht
        have hall : ([22, 3, 2].all fun u => !Tryd.prog.wantsStandIn u) = true := by kernel_rfl
        exact (show Tryd.prog.wantsStandIn t = false by simpa using List.all_eq_true.1 hall t hm)⟩)
    (by kernel_rfl)
end Go.Proofs.YtpdhdilhlkpiaaaDoor
