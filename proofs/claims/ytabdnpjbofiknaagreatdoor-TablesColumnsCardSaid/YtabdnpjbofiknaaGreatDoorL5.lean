/- The statement TablesColumns of the seat: the law returns true for every input. -/
import Derived.Test.YtabdnpjbofiknaaGreatDoorAP
import Derived.Test.YtabdnpjbofiknaaGreatDoorAK6
import Derived.Test.YtabdnpjbofiknaaGreatDoorCards
import Derived.Test.YtabdnpjbofiknaaGreatDoorTie
import Derived.SevenTiedAt
set_option linter.all false
/- The statement TablesColumns of the seat: the law returns true for every input. -/
namespace Go.Proofs.YtabdnpjbofiknaaGreatDoor
open Go Go.Avm Go.ChangeShapes Go.WideShapes Go.ChangeAt Go.WideMaps Go.WideElems Go.RowKit Go.Lib
set_option maxRecDepth 100000 in
theorem law5_lifted (os : Os) (started : os.Started) (H : Type) (enc : TypeId × Value → H) :
    ReturnsInHanded {} Tryz.checked os 5 .any (fun w args => (Rows.tablesColumnsSpec.pre enc Tryz.prog Tryz.f5 [] false w args ∧ laidMetH Tryz.prog laidL w) ∧ sizedMet enc Tryz.prog Tryz.f5 (OpenSpec.ofChange Rows.tablesColumnsSpec) false w args)
      (Rows.tablesColumnsSpec.post enc Tryz.prog Tryz.f5 false true false false) := by
  refine returnsInHanded_of_change_and (C := Tryz.checked) (X := fun w _ => laidMetH Tryz.prog laidL w) (fun _ _ _ hh h => h.of_heap hh) own started (by kernel_rfl) Tryz.func5
    (ChangeSpec.witness_shaped (enc := enc) (C := Tryz.checked) (os := os) (X := fun w _ => laidMetH Tryz.prog laidL w) false (World.laidAll Tryz.prog os laidL) #[.agg #[.slice Option.none 0 0, .slice Option.none 0 0], .string .empty, .agg #[.int .i64 0, .int .i64 0, .int .i64 0, .int .i64 0, .slice Option.none 0 0]] 8 (World.laidAll_os _ _ _)
      (World.shaped_of_ZipB (by kernel_rfl) (by kernel_rfl)) (by kernel_rfl) (by kernel_rfl) (by kernel_rfl)
      (by rw [MakeChecks.laidMetH_plain _ _ _ (by kernel_rfl)]; exact laidMet_laidAll _ (by kernel_rfl) (by kernel_rfl))) ?_
  intro W base args ds gs before hval0 hW _ hwt hL _
  rw [MakeChecks.laidMetH_plain _ _ _ (by kernel_rfl)] at hL
  have hval : ∀ (j : Nat) t v, Tryz.f5.params[j]? = some t → args[j]? = some v → Value.okWide Tryz.prog W .any base t v := hval0
  have hW' := hW
  obtain ⟨p, q, hA0, hV, rfl, _, _⟩ := hW
  have hA : DataW.TrodAll enc Tryz.prog W 0 (fun _ => true) true Tryz.f5.params.toList args.toList ds p := hA0
  rw [Tryz.params5] at hA hval
  obtain ⟨v0, v1, v2, d0, d1, d2, p0, p1, p2, hargs, rfl, rfl, h0, h1, h2⟩ := trodAll_three hA
  have ha : args = #[v0, v1, v2] := by cases args; simp_all
  subst ha
  obtain ⟨rfl, rfl⟩ := trodVars_none hV
  obtain ⟨n0, c0, r0, m0⟩ := open_tab (n := 6) (N := reachBytes) (ei := 2) Tryz.underlying25 (by kernel_rfl) (by kernel_rfl) rfl rfl Tryz.underlying22 Tryz.underlying9 (by kernel_rfl) Tryz.underlying23 Tryz.underlying44 (by kernel_rfl) rfl rfl Tryz.underlying42 (by kernel_rfl) (by decide +kernel) (by kernel_rfl) (hval 0 25 v0 rfl rfl) h0 (fun n hn => by
    have := List.all_eq_true.1 hwt n (DataW.weights_mem_each (j := 0) (t := 25) (by rw [Tryz.params5]; rfl) (d := d0) rfl n hn)
    simpa using this)
  obtain ⟨s1, r1⟩ := open_strW Tryz.underlying9 (hval 1 9 v1 rfl rfl) h1
  obtain ⟨a2, r2, m2⟩ := open_arr (n := 6) (N := reachBytes) (ei := 2) Tryz.underlying44 (by kernel_rfl) rfl rfl Tryz.underlying42 (by kernel_rfl) (by decide +kernel) (hval 2 44 v2 rfl rfl) h2 (fun n hn => by
    have := List.all_eq_true.1 hwt n (DataW.weights_mem_each (j := 2) (t := 44) (by rw [Tryz.params5]; rfl) (d := d2) rfl n hn)
    simpa using this)
  obtain ⟨X, hX, hs, he, hlaid⟩ := cx_ex hL
  have hev := ev_LColumns hX hs he ⟨n0, c0⟩ s1 a2 (szT m0) (Nat.le_trans m2.len (by decide +kernel))
  have hc := calls_of_ev (vs := [v0, v1, v2]) hev hlaid (by simp only [RelL]; exact ⟨_, _, rfl, r0, ⟨_, _, rfl, r1, ⟨_, _, rfl, r2, rfl⟩⟩⟩)
  rw [hX] at hc
  refine hc.mono fun e W' ⟨v, g', he, hv, hold, hos, hout⟩ => ?_
  subst he
  simp only [Rel] at hv
  subst hv
  exact ⟨_, rfl, post_kept laidOut (by rw [Tryz.params5]; decide +kernel) Tryz.underlying4 (by kernel_rfl) rfl rfl hW' hold ⟨hos, hout⟩⟩
theorem law5_holds : Rows.TablesColumnsSaid :=
  OpenClaim.holds_of_wide 5 Tryz.f5 rfl rfl rfl rfl rfl rfl rfl ⟨rfl, rfl, rfl, rfl, rfl⟩ rfl rfl rfl rfl rfl (by kernel_rfl) Tryz.func5 (by kernel_rfl)
    (of_decide_eq_true (by kernel_rfl)) (by unfold Func.isWrapper; first | (rw [if_pos (by decide +kernel)]; kernel_rfl) | (rw [if_neg (by decide +kernel)]; exact ⟨rfl, rfl⟩))
    (fun os started H enc _ => law5_lifted os started H enc)
theorem tablesColumns_card : Rows.TablesColumnsCardSaid :=
  Claim7.holds_tied_plain_at .later [] [.data, .data, .data, .data, .pinned] true (true, "2115d126abfa9e057ed353e10db4050741e23d272bea3589e843563ee7abf2b3") false law5_holds (fun _ h => by cases h) (by kernel_rfl) (fun _ h => by cases h) tablesColumns_row_tie rfl ⟨rfl, rfl⟩ (by kernel_rfl) rfl
    (fun f fn hf hfn => by
      obtain rfl : f = 5 := Option.some.inj ((show Tryz.prog.funcNamed "invigilator/invigilatorlaw13.TablesColumns" = some 5 by kernel_rfl).symm.trans hf) |>.symm
      obtain rfl : fn = Tryz.f5 := (Option.some.inj (Tryz.func5.symm.trans hfn)).symm
      exact ⟨by kernel_rfl, fun j t ht => by
        rw [Tryz.params5] at ht
        have hm : t ∈ [25, 9, 44] := by simpa using Array.mem_of_getElem? ht
        have hall : ([25, 9, 44].all fun u => !Tryz.prog.wantsStandIn u) = true := by kernel_rfl
        exact (show Tryz.prog.wantsStandIn t = false by simpa using List.all_eq_true.1 hall t hm)⟩)
    (by kernel_rfl)
end Go.Proofs.YtabdnpjbofiknaaGreatDoor
