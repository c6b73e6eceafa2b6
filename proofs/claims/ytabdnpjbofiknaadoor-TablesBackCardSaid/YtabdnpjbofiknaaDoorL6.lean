/- The statement TablesBack of the seat: the law returns true for every input. -/
import Derived.Test.YtabdnpjbofiknaaDoorAP
import Derived.Test.YtabdnpjbofiknaaDoorAK5
import Derived.Test.YtabdnpjbofiknaaDoorCards
import Derived.Test.YtabdnpjbofiknaaDoorTie
import Derived.SevenTiedAt
set_option linter.all false
/- The statement TablesBack of the seat: the law returns true for every input. -/
namespace Go.Proofs.YtabdnpjbofiknaaDoor
open Go Go.Avm Go.ChangeShapes Go.WideShapes Go.ChangeAt Go.WideMaps Go.WideElems Go.RowKit Go.Lib
set_option maxRecDepth 100000 in
theorem law6_lifted (os : Os) (started : os.Started) (H : Type) (enc : TypeId × Value → H) :
    ReturnsInHanded {} Tryd.checked os 6 .any (fun w args => (Rows.tablesBackSpec.pre enc Tryd.prog Tryd.f6 [] false w args ∧ laidMetH Tryd.prog laidL w) ∧ sizedMet enc Tryd.prog Tryd.f6 (OpenSpec.ofChange Rows.tablesBackSpec) false w args)
      (Rows.tablesBackSpec.post enc Tryd.prog Tryd.f6 false true false false) := by
  refine returnsInHanded_of_change_and (C := Tryd.checked) (X := fun w _ => laidMetH Tryd.prog laidL w) (fun _ _ _ hh h => h.of_heap hh) own started (by kernel_rfl) Tryd.func6
    (ChangeSpec.witness_shaped (enc := enc) (C := Tryd.checked) (os := os) (X := fun w _ => laidMetH Tryd.prog laidL w) false (World.laidAll Tryd.prog os laidL) #[.agg #[.slice Option.none 0 0, .slice Option.none 0 0], .string .empty, .agg #[.int .i64 0, .int .i64 0, .int .i64 0, .int .i64 0, .slice Option.none 0 0]] 8 (World.laidAll_os _ _ _)
      (World.shaped_of_ZipB (by kernel_rfl) (by kernel_rfl)) (by kernel_rfl) (by kernel_rfl) (by kernel_rfl)
      (by rw [MakeChecks.laidMetH_plain _ _ _ (by kernel_rfl)]; exact laidMet_laidAll _ (by kernel_rfl) (by kernel_rfl))) ?_
  intro W base args ds gs before hval0 hW _ hwt hL _
  rw [MakeChecks.laidMetH_plain _ _ _ (by kernel_rfl)] at hL
  have hval : ∀ (j : Nat) t v, Tryd.f6.params[j]? = some t → args[j]? = some v → Value.okWide Tryd.prog W .any base t v := hval0
  have hW' := hW
  obtain ⟨p, q, hA0, hV, rfl, _, _⟩ := hW
  have hA : DataW.TrodAll enc Tryd.prog W 0 (fun _ => true) true Tryd.f6.params.toList args.toList ds p := hA0
  rw [Tryd.params6] at hA hval
  obtain ⟨v0, v1, v2, d0, d1, d2, p0, p1, p2, hargs, rfl, rfl, h0, h1, h2⟩ := trodAll_three hA
  have ha : args = #[v0, v1, v2] := by cases args; simp_all
  subst ha
  obtain ⟨rfl, rfl⟩ := trodVars_none hV
  obtain ⟨n0, c0, r0, m0⟩ := open_tab (n := 6) (N := reachBytes) (ei := 2) Tryd.underlying25 (by kernel_rfl) (by kernel_rfl) rfl rfl Tryd.underlying22 Tryd.underlying9 (by kernel_rfl) Tryd.underlying23 Tryd.underlying38 (by kernel_rfl) rfl rfl Tryd.underlying36 (by kernel_rfl) (by decide +kernel) (by kernel_rfl) (hval 0 25 v0 rfl rfl) h0 (fun n hn => by
    have := List.all_eq_true.1 hwt n (DataW.weights_mem_each (j := 0) (t := 25) (by rw [Tryd.params6]; rfl) (d := d0) rfl n hn)
    simpa using this)
  obtain ⟨s1, r1⟩ := open_strW Tryd.underlying9 (hval 1 9 v1 rfl rfl) h1
  obtain ⟨a2, r2, m2⟩ := open_arr (n := 6) (N := reachBytes) (ei := 2) Tryd.underlying38 (by kernel_rfl) rfl rfl Tryd.underlying36 (by kernel_rfl) (by decide +kernel) (hval 2 38 v2 rfl rfl) h2 (fun n hn => by
    have := List.all_eq_true.1 hwt n (DataW.weights_mem_each (j := 2) (t := 38) (by rw [Tryd.params6]; rfl) (d := d2) rfl n hn)
    simpa using this)
  obtain ⟨X, hX, hs, he, hlaid⟩ := cx_ex hL
  have hev := ev_LBack hX hs he ⟨n0, c0⟩ s1 a2 (szT m0) (Nat.le_trans m2.len (by decide +kernel))
  have hc := calls_of_ev (vs := [v0, v1, v2]) hev hlaid (by simp only [RelL]; exact ⟨_, _, rfl, r0, ⟨_, _, rfl, r1, ⟨_, _, rfl, r2, rfl⟩⟩⟩)
  rw [hX] at hc
  refine hc.mono fun e W' ⟨v, g', he, hv, hold, hos, hout⟩ => ?_
  subst he
  simp only [Rel] at hv
  subst hv
  exact ⟨_, rfl, post_kept laidOut (by rw [Tryd.params6]; decide +kernel) Tryd.underlying4 (by kernel_rfl) rfl rfl hW' hold ⟨hos, hout⟩⟩
theorem law6_holds : Rows.TablesBackSaid :=
  OpenClaim.holds_of_wide 6 Tryd.f6 rfl rfl rfl rfl rfl rfl rfl ⟨rfl, rfl, rfl, rfl, rfl⟩ rfl rfl rfl rfl rfl (by kernel_rfl) Tryd.func6 (by kernel_rfl)
    (of_decide_eq_true (by kernel_rfl)) (by unfold Func.isWrapper; first | (rw [if_pos (by decide +kernel)]; kernel_rfl) | (rw [if_neg (by decide +kernel)]; exact ⟨rfl, rfl⟩))
    (fun os started H enc _ => law6_lifted os started H enc)
theorem tablesBack_card : Rows.TablesBackCardSaid :=
  Claim7.holds_tied_plain_at .later [] [.data, .data, .data, .data, .pinned] true (true, "ef02033aa29f4bc5846360ce374f8350f2dc565e47185852ae5251298b929c95") false law6_holds (fun _ h => by cases h) (by kernel_rfl) (fun _ h => by cases h) tablesBack_row_tie rfl ⟨rfl, rfl⟩ (by kernel_rfl) rfl
    (fun f fn hf hfn => by
      obtain rfl : f = 6 := Option.some.inj ((show Tryd.prog.funcNamed "invigilator/invigilatorlaw13.TablesBack" = some 6 by kernel_rfl).symm.trans hf) |>.symm
      obtain rfl : fn = Tryd.f6 := (Option.some.inj (Tryd.func6.symm.trans hfn)).symm
      exact ⟨by kernel_rfl, fun j t ht => by
        rw [Tryd.params6] at ht
        have hm : t ∈ [25, 9, 38] := by simpa using Array.mem_of_getElem? ht
        have hall : ([25, 9, 38].all fun u => !Tryd.prog.wantsStandIn u) = true := by kernel_rfl
        exact (show Tryd.prog.wantsStandIn t = false by simpa using List.all_eq_true.1 hall t hm)⟩)
    (by kernel_rfl)
end Go.Proofs.YtabdnpjbofiknaaDoor
