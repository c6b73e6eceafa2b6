/- The statement FormatParses of the seat: the law returns true for every input. -/
import Derived.Test.YtcldomkahgaplaaGreatDoorAP2
import Derived.Test.YtcldomkahgaplaaGreatDoorAJ8
import Derived.Test.YtcldomkahgaplaaGreatDoorCards
import Derived.Test.YtcldomkahgaplaaGreatDoorTie
import Derived.SevenTiedAt
set_option linter.all false
namespace Go.Proofs.YtcldomkahgaplaaGreatDoor
open Go Go.Avm Go.ChangeShapes Go.WideShapes Go.ChangeAt Go.WideMaps Go.WideElems Go.RowKit Go.Lib
set_option maxRecDepth 100000 in
theorem zrP (os:Os)(started:os.Started)(H:Type)(enc:TypeId×Value->H) :
    ReturnsInHanded {} Tryz.checked os 6 .any (fun w args=>(Rows.formatParsesSpec.pre enc Tryz.prog Tryz.f6 [] false w args/\laidMetH Tryz.prog zvs w)/\sizedMet enc Tryz.prog Tryz.f6 (OpenSpec.ofChange Rows.formatParsesSpec) false w args)
      (Rows.formatParsesSpec.post enc Tryz.prog Tryz.f6 false true false false):=by
  refine returnsInHanded_of_change_and (C:=Tryz.checked) (X:=fun w _=>laidMetH Tryz.prog zvs w) (fun _ _ _ hh h=>h.of_heap hh) own started (by kernel_rfl) Tryz.func6
    (ChangeSpec.witness_shaped (enc:=enc) (C:=Tryz.checked) (os:=os) (X:=fun w _=>laidMetH Tryz.prog zvs w) false (World.laidAll Tryz.prog os zvs) #[.string .empty] 8 (World.laidAll_os _ _ _)
      (World.shaped_of_ZipB (by kernel_rfl) (by kernel_rfl)) (by kernel_rfl) (by kernel_rfl) (by kernel_rfl)
      (by rw[MakeChecks.laidMetH_plain _ _ _ (by kernel_rfl)];exact laidMet_laidAll _ (by kernel_rfl) (by kernel_rfl))) ?_
  intro W base args ds gs before hval0 hW _ hwt hL _
  rw[MakeChecks.laidMetH_plain _ _ _ (by kernel_rfl)]at hL
  have hval:∀(j:Nat) t v,Tryz.f6.params[j]?=some t->args[j]?=some v->Value.okWide Tryz.prog W .any base t v:=hval0
  have hW':=hW
  obtain ⟨p,q,hA0,hV,rfl,_,_⟩:=hW
  have hA:DataW.TrodAll enc Tryz.prog W 0 (fun _=>true) true Tryz.f6.params.toList args.toList ds p:=hA0
  rw[Tryz.params6]at hA hval
  obtain ⟨v0,d0,hargs,rfl,h0⟩:=trodAll_one hA
  have ha:args = #[v0]:=by cases args;simp_all
  subst ha
  obtain ⟨rfl,rfl⟩:=trodVars_none hV
  obtain ⟨s0,r0⟩:=zwO Tryz.underlying9 (hval 0 9 v0 rfl rfl) h0
  obtain ⟨X,hX,hs,he,hlaid⟩:=zF7 hL
  have hev:=zuG hX hs he s0
  have hc:=zsa (vs:=[v0]) hev hlaid (by simp only[RelL];exact ⟨_,_,rfl,r0,rfl⟩)
  rw[hX]at hc
  refine hc.mono fun e W' ⟨v,g',he,hv,hold,hos,hout⟩=>?_
  subst he
  simp only[Rel]at hv
  subst hv
  exact ⟨_,rfl,zv1 laidOut (by rw[Tryz.params6];decide +kernel) Tryz.underlying4 (by kernel_rfl) rfl rfl hW' hold ⟨hos,hout⟩⟩
theorem zuQ:Rows.FormatParsesSaid:=
  OpenClaim.holds_of_wide 6 Tryz.f6 rfl rfl rfl rfl rfl rfl rfl ⟨rfl,rfl,rfl,rfl,rfl⟩ rfl rfl rfl rfl rfl (by kernel_rfl) Tryz.func6 (by kernel_rfl)
    (of_decide_eq_true (by kernel_rfl)) (by unfold Func.isWrapper;first|(rw[if_pos (by decide +kernel)];kernel_rfl)|(rw[if_neg (by decide +kernel)];exact ⟨rfl,rfl⟩))
    (fun os started H enc _=>zrP os started H enc)
theorem formatParses_card:Rows.FormatParsesCardSaid:=
  Claim7.holds_tied_plain_at .later [] [.data,.data,.data,.data,.sentinel,.sentinel,.data,.pinned] true (true, "45251353651961ac73824fb4aec5639f12664c0850ac6fa01256312712b945d7") true zuQ (fun _ h=>by cases h) (by kernel_rfl) (fun _ h=>by cases h) formatParses_row_tie rfl ⟨rfl,rfl⟩ (by kernel_rfl) rfl
    (fun f fn hf hfn=>by
      obtain rfl:f=6:=Option.some.inj ((show Tryz.prog.funcNamed "invigilator/invigilatorlaw33.FormatParses" = some 6 by kernel_rfl).symm.trans hf) |>.symm
      obtain rfl:fn=Tryz.f6:=(Option.some.inj (Tryz.func6.symm.trans hfn)).symm
      exact ⟨by kernel_rfl,fun j t ht=>by
        rw[Tryz.params6]at ht
        have hm:t∈[9]:=by simpa using Array.mem_of_getElem? ht
        have hall:([9].all fun u=>!Tryz.prog.wantsStandIn u)=true:=by kernel_rfl
        exact (show Tryz.prog.wantsStandIn t=false by simpa using List.all_eq_true.1 hall t hm)⟩)
    (by kernel_rfl)
end Go.Proofs.YtcldomkahgaplaaGreatDoor
