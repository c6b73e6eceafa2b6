/- The statement LexerQuotes of the seat: the law returns true for every input. -/
import Derived.Test.YtpkgglpiboeogaaDoorAP
import Derived.Test.YtpkgglpiboeogaaDoorAQb
import Derived.Test.YtpkgglpiboeogaaDoorCards
import Derived.Test.YtpkgglpiboeogaaDoorTie
import Derived.SevenTiedAt
set_option linter.unusedSectionVars false
set_option linter.unusedSimpArgs false
set_option linter.unusedVariables false

/- The statement LexerQuotes of the seat: the law returns true for every input. -/
namespace Go.Proofs.YtpkgglpiboeogaaDoor
open Go Go.Avm Go.ChangeShapes Go.WideShapes Go.ChangeAt Go.WideMaps Go.WideElems Go.RowKit Go.Lib
set_option maxRecDepth 100000 in
theorem law8_lifted (os : Os) (started : os.Started) (H : Type) (enc : TypeId × Value → H) :
    ReturnsInHanded {} Tryd.checked os 8 .any (fun w args => (Rows.lexerQuotesSpec.pre enc Tryd.prog Tryd.f8 [] false w args ∧ laidMetH Tryd.prog laidL w) ∧ sizedMet enc Tryd.prog Tryd.f8 (OpenSpec.ofChange Rows.lexerQuotesSpec) false w args)
      (Rows.lexerQuotesSpec.post enc Tryd.prog Tryd.f8 false true false false) := by
  refine returnsInHanded_of_change_and (C := Tryd.checked) (X := fun w _ => laidMetH Tryd.prog laidL w) (fun _ _ _ hh h => h.of_heap hh) own started (by kernel_rfl) Tryd.func8
    (ChangeSpec.witness_shaped (enc := enc) (C := Tryd.checked) (os := os) (X := fun w _ => laidMetH Tryd.prog laidL w) false (World.laidAll Tryd.prog os laidL) #[.string .empty] 8 (World.laidAll_os _ _ _)
      (World.shaped_of_ZipB (by kernel_rfl) (by kernel_rfl)) (by kernel_rfl) (by kernel_rfl) (by kernel_rfl)
      (by rw [MakeChecks.laidMetH_plain _ _ _ (by kernel_rfl)]; exact laidMet_laidAll _ (by kernel_rfl) (by kernel_rfl))) ?_
  intro W base args ds gs before hval0 hW _ _ hL _
  rw [MakeChecks.laidMetH_plain _ _ _ (by kernel_rfl)] at hL
  have hval : ∀ (j : Nat) t v, Tryd.f8.params[j]? = some t → args[j]? = some v → Value.okWide Tryd.prog W .any base t v := hval0
  have hW' := hW
  obtain ⟨p, q, hA0, hV, rfl, _, _⟩ := hW
  have hA : DataW.TrodAll enc Tryd.prog W 0 (fun _ => true) true Tryd.f8.params.toList args.toList ds p := hA0
  rw [Tryd.params8] at hA hval
  obtain ⟨v0, d0, hargs, rfl, h0⟩ := trodAll_one hA
  have ha : args = #[v0] := by cases args; simp_all
  subst ha
  obtain ⟨rfl, rfl⟩ := trodVars_none hV
  obtain ⟨s0, r0⟩ := open_strW Tryd.underlying9 (hval 0 9 v0 rfl rfl) h0
  obtain ⟨X, hX, hs, he, hlaid⟩ := cx_ex hL
  have hev := ev_LQuotes hX hs he s0
  have hc := calls_of_ev (vs := [v0]) hev hlaid (by simp only [RelL]; exact ⟨_, _, rfl, r0, rfl⟩)
  rw [hX] at hc
  refine hc.mono fun e W' ⟨v, g', he, hv, hold, hos, hout⟩ => ?_
  subst he
  simp only [Rel] at hv
  subst hv
  exact ⟨_, rfl, post_kept laidOut (by rw [Tryd.params8]; decide +kernel) Tryd.underlying4 (by kernel_rfl) rfl rfl hW' hold ⟨hos, hout⟩⟩
theorem law8_holds : Rows.LexerQuotesSaid :=
  OpenClaim.holds_of_wide 8 Tryd.f8 rfl rfl rfl rfl rfl rfl rfl ⟨rfl, rfl, rfl, rfl, rfl⟩ rfl rfl rfl rfl rfl (by kernel_rfl) Tryd.func8 (by kernel_rfl)
    (of_decide_eq_true (by kernel_rfl)) (by unfold Func.isWrapper; first | (rw [if_pos (by decide +kernel)]; kernel_rfl) | (rw [if_neg (by decide +kernel)]; exact ⟨rfl, rfl⟩))
    (fun os started H enc _ => law8_lifted os started H enc)
theorem lexerQuotes_card : Rows.LexerQuotesCardSaid :=
  Claim7.holds_tied_plain_at .later [] [.data, .data, .data, .data, .sentinel, .sentinel, .data, .pinned] true (true, "3612999430e9ff37d873045a13c15253a817fdb1ae38c0ce11c17548fc92402c") true law8_holds (fun _ h => by cases h) (by kernel_rfl) (fun _ h => by cases h) lexerQuotes_row_tie rfl ⟨rfl, rfl⟩ (by kernel_rfl) rfl
    (fun f fn hf hfn => by
      obtain rfl : f = 8 := Option.some.inj ((show Tryd.prog.funcNamed "invigilator/invigilatorlaw14.LexerQuotes" = some 8 by kernel_rfl).symm.trans hf) |>.symm
      obtain rfl : fn = Tryd.f8 := (Option.some.inj (Tryd.func8.symm.trans hfn)).symm
      exact ⟨by kernel_rfl, fun j t ht => by
        rw [Tryd.params8] at ht
        have hm : t ∈ [9] := by simpa using Array.mem_of_getElem? ht
        have hall : ([9].all fun u => !Tryd.prog.wantsStandIn u) = true := by kernel_rfl
        exact (show Tryd.prog.wantsStandIn t = false by simpa using List.all_eq_true.1 hall t hm)⟩)
    (by kernel_rfl)
end Go.Proofs.YtpkgglpiboeogaaDoor
