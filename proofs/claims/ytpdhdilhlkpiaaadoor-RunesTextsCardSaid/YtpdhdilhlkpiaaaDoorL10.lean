/- The statement RunesTexts of the seat: the law returns true for every input. -/
import Derived.Test.YtpdhdilhlkpiaaaDoorL0
import Derived.Test.YtpdhdilhlkpiaaaDoorU2
import Derived.Test.YtpdhdilhlkpiaaaDoorCards
import Derived.Test.YtpdhdilhlkpiaaaDoorTie
import Derived.SevenTiedAt
set_option linter.unusedSectionVars false
set_option linter.unusedSimpArgs false
set_option linter.unusedVariables false

/- The statement RunesTexts of the seat: the law returns true for every input. -/
namespace Go.Proofs.YtpdhdilhlkpiaaaDoor
open Go Go.Avm Go.ChangeShapes Go.WideShapes Go.ChangeAt Go.WideMaps Go.WideElems Go.RowKit Go.Lib
set_option maxRecDepth 100000 in
theorem law10_lifted (os : Os) (started : os.Started) (H : Type) (enc : TypeId × Value → H) :
    ReturnsInHanded {} Tryd.checked os 10 .any (fun w args => (Rows.runesTextsSpec.pre enc Tryd.prog Tryd.f10 [] false w args ∧ laidMetH Tryd.prog laidL w) ∧ sizedMet enc Tryd.prog Tryd.f10 (OpenSpec.ofChange Rows.runesTextsSpec) false w args)
      (Rows.runesTextsSpec.post enc Tryd.prog Tryd.f10 false true false false) := by
  refine returnsInHanded_of_change_and (C := Tryd.checked) (X := fun w _ => laidMetH Tryd.prog laidL w) (fun _ _ _ hh h => h.of_heap hh) own started (by kernel_rfl) Tryd.func10
    (ChangeSpec.witness_shaped (enc := enc) (C := Tryd.checked) (os := os) (X := fun w _ => laidMetH Tryd.prog laidL w) false (World.laidAll Tryd.prog os laidL) #[.slice Option.none 0 0, .slice Option.none 0 0] 8 (World.laidAll_os _ _ _)
      (World.shaped_of_ZipB (by kernel_rfl) (by kernel_rfl)) (by kernel_rfl) (by kernel_rfl) (by kernel_rfl)
      (by rw [MakeChecks.laidMetH_plain _ _ _ (by kernel_rfl)]; exact laidMet_laidAll _ (by kernel_rfl) (by kernel_rfl))) ?_
  intro W base args ds gs before hval0 hW _ _ hL _
  have hval : ∀ (j : Nat) t v, Tryd.f10.params[j]? = some t → args[j]? = some v → Value.okWide Tryd.prog W .any base t v := hval0
  have hW' := hW
  obtain ⟨p, q, hA0, hV, rfl, _, _⟩ := hW
  have hA : DataW.TrodAll enc Tryd.prog W 0 (fun _ => true) true Tryd.f10.params.toList args.toList ds p := hA0
  rw [Tryd.params10] at hA hval
  obtain ⟨v0, v1, d0, d1, p0, p1, hargs, rfl, rfl, h0, h1⟩ := trodAll_two hA
  have ha : args = #[v0, v1] := by cases args; simp_all
  subst ha
  obtain ⟨rfl, rfl⟩ := trodVars_none hV
  obtain ⟨z0, hz0, hm0, hr0⟩ := open_intsR Tryd.underlying22 Tryd.underlying5 c5 (hval 0 22 v0 rfl rfl) h0
  obtain ⟨z1, hz1, hm1, hr1⟩ := open_intsR Tryd.underlying34 Tryd.underlying2 c2 (hval 1 34 v1 rfl rfl) h1
  rw [MakeChecks.laidMetH_plain _ _ _ (by kernel_rfl)] at hL
  obtain ⟨X, hX, hs, hG0, hG1, hlaid⟩ := cx_ex
  have hev := ev_law10 hX hs hG0 hG1 (z0.map byteI) z1 (fun r hr => wf_i64 (hz1 r hr))
  have hc := calls_of_ev (vs := [v0, v1]) hev (hlaid W hL) (by simp only [RelL, Rel]; exact ⟨_, _, rfl, rel_bytes hz0 hr0, ⟨_, _, rfl, hr1, rfl⟩⟩)
  rw [hX] at hc
  refine hc.mono fun e W' ⟨v, g', he, hv, hold, hos, hout⟩ => ?_
  subst he
  simp only [Rel] at hv
  subst hv
  exact ⟨_, rfl, post_kept laidOut (by rw [Tryd.params10]; decide +kernel) Tryd.underlying4 (by kernel_rfl) rfl rfl hW' hold ⟨hos, hout⟩⟩
theorem law10_holds : Rows.RunesTextsSaid :=
  OpenClaim.holds_of_wide 10 Tryd.f10 rfl rfl rfl rfl rfl rfl rfl ⟨rfl, rfl, rfl, rfl, rfl⟩ rfl rfl rfl rfl rfl (by kernel_rfl) Tryd.func10 (by kernel_rfl)
    (of_decide_eq_true (by kernel_rfl)) (by unfold Func.isWrapper; first | (rw [if_pos (by decide +kernel)]; kernel_rfl) | (rw [if_neg (by decide +kernel)]; exact ⟨rfl, rfl⟩))
    (fun os started H enc _ => law10_lifted os started H enc)
theorem runesTexts_card : Rows.RunesTextsCardSaid :=
  Claim7.holds_tied_plain_at .later [] [.data, .pinned] true (true, "b997fd4f0a95dcff55ba39b6b0491c73e9972c78d2af94630bc3f6db96fd2af7") false law10_holds (fun _ h => by cases h) (by kernel_rfl) (fun _ h => by cases h) runesTexts_row_tie rfl ⟨rfl, rfl⟩ (by kernel_rfl) rfl
    (fun f fn hf hfn => by
      obtain rfl : f = 10 := Option.some.inj ((show Tryd.prog.funcNamed "invigilator/invigilatorlaw02.RunesTexts" = some 10 by kernel_rfl).symm.trans hf) |>.symm
      obtain rfl : fn = Tryd.f10 := (Option.some.inj (Tryd.func10.symm.trans hfn)).symm
      exact ⟨by kernel_rfl, fun j t ht => by
        rw [Tryd.params10] at ht
        have hm : t ∈ [22, 34] := by simpa using Array.mem_of_getElem? ht
        have hall : ([22, 34].all fun u => !Tryd.prog.wantsStandIn u) = true := by kernel_rfl
        exact (show Tryd.prog.wantsStandIn t = false by simpa using List.all_eq_true.1 hall t hm)⟩)
    (by kernel_rfl)
end Go.Proofs.YtpdhdilhlkpiaaaDoor
