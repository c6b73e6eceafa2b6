/- Types: Print. -/
import Derived.Test.YtbhdhlkjchgddaaGreatDoorAQ9
set_option linter.unusedSectionVars false
set_option linter.unusedSimpArgs false
set_option linter.unusedVariables false

/- Types: Print. -/
namespace Go.Avm
open Go
set_option maxRecDepth 10000
section
variable {X : Cx} (hX : X.P = Go.Proofs.Tryz.prog) (hs : Std X)
include hX hs
theorem ev_Print20 (hT : X.G (sRen.g 17) = some tabP) (ns : List (List UInt8)) (up : List UInt8) (t : Lat.Ty) : Ev X F_types_Print [latV ns up, tyV t] (prV ns up t) := by
  refine ev_of_wpc hs (A_types_Print_ok hX) 1 ?_
  by_cases h : Lat.tyS ns up t = 0
  · obtain ⟨hc, hv, g⟩ := Lat.tyS_0 h
    have hnl : ∀ x ∈ ns, x.length ≤ 100 := fun x hx => by
      obtain ⟨i, hi, e⟩ := List.getElem_of_mem hx
      have := (Lat.nm_bare (Lat.names_nm (Lat.checkS_val hc).1 i hi)).2
      rw [List.getD_eq_getElem?_getD, List.getElem?_eq_getElem hi] at this
      simp only [Option.getD_some, e] at this
      omega
    have hch := ev_t_Check hX hs ns up t
    rw [h] at hch
    have hpe := fun (T : List AV) s hsl => ev_each_prt hX hs ns up T t g s hsl hnl
    rw [prV, Lat.tyPS, if_neg (by rw [h]; decide)]
    obtain ⟨k, r, a0, a1, d⟩ := t
    have hr := g.r
    have hk := g.k
    simp only at hk hr
    have hr : r = 0 ∨ r = 1 ∨ r = 2 := by omega
    have i0 : Lib.itoa 0 = [48] := by decide +kernel
    have i1 : Lib.itoa 1 = [49] := by decide +kernel
    have i2 : Lib.itoa 2 = [50] := by decide +kernel
    have hit0 := ev_Itoa hX hT 0 (by decide)
    have hit1 := ev_Itoa hX hT 1 (by decide)
    have hit2 := ev_Itoa hX hT 2 (by decide)
    rw [i0] at hit0
    rw [i1] at hit1
    rw [i2] at hit2
    rcases hk with rfl | rfl <;> rcases hr with rfl | rfl | rfl
    · simp only [A_types_Print, latV, tyV, go_sem, Nat.reduceMod, Nat.reduceBNe, Nat.reduceBEq, Nat.reduceEqDiff, Nat.reduceAdd, Int.reduceAdd, Nat.reduceMul, Nat.reduceSub, Int.reduceToNat, Int.reduceLE, Int.reduceLT, Int.reduceEq, Int.reduceNe, reduceCtorEq, Nat.reduceLT, Nat.reduceLeDiff, h]
      refine call_ev hch ?_
      simp only [go_sem, Nat.reduceMod, Nat.reduceBNe, Nat.reduceBEq, Nat.reduceEqDiff, Nat.reduceAdd, Int.reduceAdd, Nat.reduceMul, Nat.reduceSub, Int.reduceToNat, Int.reduceLE, Int.reduceLT, Int.reduceEq, Int.reduceNe, reduceCtorEq, Nat.reduceLT, Nat.reduceLeDiff]
      refine callq_ev (ev_names hX hs) ?_
      simp only [go_sem, Nat.reduceMod, Nat.reduceBNe, Nat.reduceBEq, Nat.reduceEqDiff, Nat.reduceAdd, Int.reduceAdd, Nat.reduceMul, Nat.reduceSub, Int.reduceToNat, Int.reduceLE, Int.reduceLT, Int.reduceEq, Int.reduceNe, reduceCtorEq, Nat.reduceLT, Nat.reduceLeDiff]
      refine callq_ev hit0 ?_
      simp only [go_sem, Nat.reduceMod, Nat.reduceBNe, Nat.reduceBEq, Nat.reduceEqDiff, Nat.reduceAdd, Int.reduceAdd, Nat.reduceMul, Nat.reduceSub, Int.reduceToNat, Int.reduceLE, Int.reduceLT, Int.reduceEq, Int.reduceNe, reduceCtorEq, Nat.reduceLT, Nat.reduceLeDiff]
      refine call_evm (hpe _ [105, 110, 116, 32, 48] (by decide)) ?_
      rintro r H' ⟨j1, j2, s', hs', rfl⟩
      simp only [go_sem, Nat.reduceMod, Nat.reduceBNe, Nat.reduceBEq, Nat.reduceEqDiff, Nat.reduceAdd, Int.reduceAdd, Nat.reduceMul, Nat.reduceSub, Int.reduceToNat, Int.reduceLE, Int.reduceLT, Int.reduceEq, Int.reduceNe, reduceCtorEq, Nat.reduceLT, Nat.reduceLeDiff]
      rw [hs']
      simp [Lat.tyTx, Lat.tyFl, Lat.tyK, Lat.tInt, Lat.tChar, Lib.join_cons, Lib.joinTail, Lat.nmI, i0]
    · simp only [A_types_Print, latV, tyV, go_sem, Nat.reduceMod, Nat.reduceBNe, Nat.reduceBEq, Nat.reduceEqDiff, Nat.reduceAdd, Int.reduceAdd, Nat.reduceMul, Nat.reduceSub, Int.reduceToNat, Int.reduceLE, Int.reduceLT, Int.reduceEq, Int.reduceNe, reduceCtorEq, Nat.reduceLT, Nat.reduceLeDiff, h]
      refine call_ev hch ?_
      simp only [go_sem, Nat.reduceMod, Nat.reduceBNe, Nat.reduceBEq, Nat.reduceEqDiff, Nat.reduceAdd, Int.reduceAdd, Nat.reduceMul, Nat.reduceSub, Int.reduceToNat, Int.reduceLE, Int.reduceLT, Int.reduceEq, Int.reduceNe, reduceCtorEq, Nat.reduceLT, Nat.reduceLeDiff]
      refine callq_ev (ev_names hX hs) ?_
      simp only [go_sem, Nat.reduceMod, Nat.reduceBNe, Nat.reduceBEq, Nat.reduceEqDiff, Nat.reduceAdd, Int.reduceAdd, Nat.reduceMul, Nat.reduceSub, Int.reduceToNat, Int.reduceLE, Int.reduceLT, Int.reduceEq, Int.reduceNe, reduceCtorEq, Nat.reduceLT, Nat.reduceLeDiff]
      refine callq_ev hit1 ?_
      simp only [go_sem, Nat.reduceMod, Nat.reduceBNe, Nat.reduceBEq, Nat.reduceEqDiff, Nat.reduceAdd, Int.reduceAdd, Nat.reduceMul, Nat.reduceSub, Int.reduceToNat, Int.reduceLE, Int.reduceLT, Int.reduceEq, Int.reduceNe, reduceCtorEq, Nat.reduceLT, Nat.reduceLeDiff]
      refine call_evm (hpe _ [105, 110, 116, 32, 49] (by decide)) ?_
      rintro r H' ⟨j1, j2, s', hs', rfl⟩
      simp only [go_sem, Nat.reduceMod, Nat.reduceBNe, Nat.reduceBEq, Nat.reduceEqDiff, Nat.reduceAdd, Int.reduceAdd, Nat.reduceMul, Nat.reduceSub, Int.reduceToNat, Int.reduceLE, Int.reduceLT, Int.reduceEq, Int.reduceNe, reduceCtorEq, Nat.reduceLT, Nat.reduceLeDiff]
      rw [hs']
      simp [Lat.tyTx, Lat.tyFl, Lat.tyK, Lat.tInt, Lat.tChar, Lib.join_cons, Lib.joinTail, Lat.nmI, i1]
    · simp only [A_types_Print, latV, tyV, go_sem, Nat.reduceMod, Nat.reduceBNe, Nat.reduceBEq, Nat.reduceEqDiff, Nat.reduceAdd, Int.reduceAdd, Nat.reduceMul, Nat.reduceSub, Int.reduceToNat, Int.reduceLE, Int.reduceLT, Int.reduceEq, Int.reduceNe, reduceCtorEq, Nat.reduceLT, Nat.reduceLeDiff, h]
      refine call_ev hch ?_
      simp only [go_sem, Nat.reduceMod, Nat.reduceBNe, Nat.reduceBEq, Nat.reduceEqDiff, Nat.reduceAdd, Int.reduceAdd, Nat.reduceMul, Nat.reduceSub, Int.reduceToNat, Int.reduceLE, Int.reduceLT, Int.reduceEq, Int.reduceNe, reduceCtorEq, Nat.reduceLT, Nat.reduceLeDiff]
      refine callq_ev (ev_names hX hs) ?_
      simp only [go_sem, Nat.reduceMod, Nat.reduceBNe, Nat.reduceBEq, Nat.reduceEqDiff, Nat.reduceAdd, Int.reduceAdd, Nat.reduceMul, Nat.reduceSub, Int.reduceToNat, Int.reduceLE, Int.reduceLT, Int.reduceEq, Int.reduceNe, reduceCtorEq, Nat.reduceLT, Nat.reduceLeDiff]
      refine callq_ev hit2 ?_
      simp only [go_sem, Nat.reduceMod, Nat.reduceBNe, Nat.reduceBEq, Nat.reduceEqDiff, Nat.reduceAdd, Int.reduceAdd, Nat.reduceMul, Nat.reduceSub, Int.reduceToNat, Int.reduceLE, Int.reduceLT, Int.reduceEq, Int.reduceNe, reduceCtorEq, Nat.reduceLT, Nat.reduceLeDiff]
      refine call_evm (hpe _ [105, 110, 116, 32, 50] (by decide)) ?_
      rintro r H' ⟨j1, j2, s', hs', rfl⟩
      simp only [go_sem, Nat.reduceMod, Nat.reduceBNe, Nat.reduceBEq, Nat.reduceEqDiff, Nat.reduceAdd, Int.reduceAdd, Nat.reduceMul, Nat.reduceSub, Int.reduceToNat, Int.reduceLE, Int.reduceLT, Int.reduceEq, Int.reduceNe, reduceCtorEq, Nat.reduceLT, Nat.reduceLeDiff]
      rw [hs']
      simp [Lat.tyTx, Lat.tyFl, Lat.tyK, Lat.tInt, Lat.tChar, Lib.join_cons, Lib.joinTail, Lat.nmI, i2]
    · simp only [A_types_Print, latV, tyV, go_sem, Nat.reduceMod, Nat.reduceBNe, Nat.reduceBEq, Nat.reduceEqDiff, Nat.reduceAdd, Int.reduceAdd, Nat.reduceMul, Nat.reduceSub, Int.reduceToNat, Int.reduceLE, Int.reduceLT, Int.reduceEq, Int.reduceNe, reduceCtorEq, Nat.reduceLT, Nat.reduceLeDiff, h]
      refine call_ev hch ?_
      simp only [go_sem, Nat.reduceMod, Nat.reduceBNe, Nat.reduceBEq, Nat.reduceEqDiff, Nat.reduceAdd, Int.reduceAdd, Nat.reduceMul, Nat.reduceSub, Int.reduceToNat, Int.reduceLE, Int.reduceLT, Int.reduceEq, Int.reduceNe, reduceCtorEq, Nat.reduceLT, Nat.reduceLeDiff]
      refine callq_ev (ev_names hX hs) ?_
      simp only [go_sem, Nat.reduceMod, Nat.reduceBNe, Nat.reduceBEq, Nat.reduceEqDiff, Nat.reduceAdd, Int.reduceAdd, Nat.reduceMul, Nat.reduceSub, Int.reduceToNat, Int.reduceLE, Int.reduceLT, Int.reduceEq, Int.reduceNe, reduceCtorEq, Nat.reduceLT, Nat.reduceLeDiff]
      refine callq_ev hit0 ?_
      simp only [go_sem, Nat.reduceMod, Nat.reduceBNe, Nat.reduceBEq, Nat.reduceEqDiff, Nat.reduceAdd, Int.reduceAdd, Nat.reduceMul, Nat.reduceSub, Int.reduceToNat, Int.reduceLE, Int.reduceLT, Int.reduceEq, Int.reduceNe, reduceCtorEq, Nat.reduceLT, Nat.reduceLeDiff]
      refine call_evm (hpe _ [99, 104, 97, 114, 32, 48] (by decide)) ?_
      rintro r H' ⟨j1, j2, s', hs', rfl⟩
      simp only [go_sem, Nat.reduceMod, Nat.reduceBNe, Nat.reduceBEq, Nat.reduceEqDiff, Nat.reduceAdd, Int.reduceAdd, Nat.reduceMul, Nat.reduceSub, Int.reduceToNat, Int.reduceLE, Int.reduceLT, Int.reduceEq, Int.reduceNe, reduceCtorEq, Nat.reduceLT, Nat.reduceLeDiff]
      rw [hs']
      simp [Lat.tyTx, Lat.tyFl, Lat.tyK, Lat.tInt, Lat.tChar, Lib.join_cons, Lib.joinTail, Lat.nmI, i0]
    · simp only [A_types_Print, latV, tyV, go_sem, Nat.reduceMod, Nat.reduceBNe, Nat.reduceBEq, Nat.reduceEqDiff, Nat.reduceAdd, Int.reduceAdd, Nat.reduceMul, Nat.reduceSub, Int.reduceToNat, Int.reduceLE, Int.reduceLT, Int.reduceEq, Int.reduceNe, reduceCtorEq, Nat.reduceLT, Nat.reduceLeDiff, h]
      refine call_ev hch ?_
      simp only [go_sem, Nat.reduceMod, Nat.reduceBNe, Nat.reduceBEq, Nat.reduceEqDiff, Nat.reduceAdd, Int.reduceAdd, Nat.reduceMul, Nat.reduceSub, Int.reduceToNat, Int.reduceLE, Int.reduceLT, Int.reduceEq, Int.reduceNe, reduceCtorEq, Nat.reduceLT, Nat.reduceLeDiff]
      refine callq_ev (ev_names hX hs) ?_
      simp only [go_sem, Nat.reduceMod, Nat.reduceBNe, Nat.reduceBEq, Nat.reduceEqDiff, Nat.reduceAdd, Int.reduceAdd, Nat.reduceMul, Nat.reduceSub, Int.reduceToNat, Int.reduceLE, Int.reduceLT, Int.reduceEq, Int.reduceNe, reduceCtorEq, Nat.reduceLT, Nat.reduceLeDiff]
      refine callq_ev hit1 ?_
      simp only [go_sem, Nat.reduceMod, Nat.reduceBNe, Nat.reduceBEq, Nat.reduceEqDiff, Nat.reduceAdd, Int.reduceAdd, Nat.reduceMul, Nat.reduceSub, Int.reduceToNat, Int.reduceLE, Int.reduceLT, Int.reduceEq, Int.reduceNe, reduceCtorEq, Nat.reduceLT, Nat.reduceLeDiff]
      refine call_evm (hpe _ [99, 104, 97, 114, 32, 49] (by decide)) ?_
      rintro r H' ⟨j1, j2, s', hs', rfl⟩
      simp only [go_sem, Nat.reduceMod, Nat.reduceBNe, Nat.reduceBEq, Nat.reduceEqDiff, Nat.reduceAdd, Int.reduceAdd, Nat.reduceMul, Nat.reduceSub, Int.reduceToNat, Int.reduceLE, Int.reduceLT, Int.reduceEq, Int.reduceNe, reduceCtorEq, Nat.reduceLT, Nat.reduceLeDiff]
      rw [hs']
      simp [Lat.tyTx, Lat.tyFl, Lat.tyK, Lat.tInt, Lat.tChar, Lib.join_cons, Lib.joinTail, Lat.nmI, i1]
    · simp only [A_types_Print, latV, tyV, go_sem, Nat.reduceMod, Nat.reduceBNe, Nat.reduceBEq, Nat.reduceEqDiff, Nat.reduceAdd, Int.reduceAdd, Nat.reduceMul, Nat.reduceSub, Int.reduceToNat, Int.reduceLE, Int.reduceLT, Int.reduceEq, Int.reduceNe, reduceCtorEq, Nat.reduceLT, Nat.reduceLeDiff, h]
      refine call_ev hch ?_
      simp only [go_sem, Nat.reduceMod, Nat.reduceBNe, Nat.reduceBEq, Nat.reduceEqDiff, Nat.reduceAdd, Int.reduceAdd, Nat.reduceMul, Nat.reduceSub, Int.reduceToNat, Int.reduceLE, Int.reduceLT, Int.reduceEq, Int.reduceNe, reduceCtorEq, Nat.reduceLT, Nat.reduceLeDiff]
      refine callq_ev (ev_names hX hs) ?_
      simp only [go_sem, Nat.reduceMod, Nat.reduceBNe, Nat.reduceBEq, Nat.reduceEqDiff, Nat.reduceAdd, Int.reduceAdd, Nat.reduceMul, Nat.reduceSub, Int.reduceToNat, Int.reduceLE, Int.reduceLT, Int.reduceEq, Int.reduceNe, reduceCtorEq, Nat.reduceLT, Nat.reduceLeDiff]
      refine callq_ev hit2 ?_
      simp only [go_sem, Nat.reduceMod, Nat.reduceBNe, Nat.reduceBEq, Nat.reduceEqDiff, Nat.reduceAdd, Int.reduceAdd, Nat.reduceMul, Nat.reduceSub, Int.reduceToNat, Int.reduceLE, Int.reduceLT, Int.reduceEq, Int.reduceNe, reduceCtorEq, Nat.reduceLT, Nat.reduceLeDiff]
      refine call_evm (hpe _ [99, 104, 97, 114, 32, 50] (by decide)) ?_
      rintro r H' ⟨j1, j2, s', hs', rfl⟩
      simp only [go_sem, Nat.reduceMod, Nat.reduceBNe, Nat.reduceBEq, Nat.reduceEqDiff, Nat.reduceAdd, Int.reduceAdd, Nat.reduceMul, Nat.reduceSub, Int.reduceToNat, Int.reduceLE, Int.reduceLT, Int.reduceEq, Int.reduceNe, reduceCtorEq, Nat.reduceLT, Nat.reduceLeDiff]
      rw [hs']
      simp [Lat.tyTx, Lat.tyFl, Lat.tyK, Lat.tInt, Lat.tChar, Lib.join_cons, Lib.joinTail, Lat.nmI, i2]
  · simp only [A_types_Print, latV, tyV, go_sem, Nat.reduceMod, Nat.reduceBNe, Nat.reduceBEq, Nat.reduceEqDiff, Nat.reduceAdd, Int.reduceAdd, Nat.reduceMul, Nat.reduceSub, Int.reduceToNat, Int.reduceLE, Int.reduceLT, Int.reduceEq, Int.reduceNe, reduceCtorEq, Nat.reduceLT, Nat.reduceLeDiff]
    refine call_ev (ev_t_Check hX hs ns up t) ?_
    simp only [h, go_sem, Nat.reduceMod, Nat.reduceBNe, Nat.reduceBEq, Nat.reduceEqDiff, Nat.reduceAdd, Int.reduceAdd, Nat.reduceMul, Nat.reduceSub, Int.reduceToNat, Int.reduceLE, Int.reduceLT, Int.reduceEq, Int.reduceNe, reduceCtorEq, Nat.reduceLT, Nat.reduceLeDiff]
    exact prV_bad h
end
end Go.Avm

/- Types: what Parse does with fields and labels. -/
namespace Go.Avm
open Go
set_option maxRecDepth 10000
section
variable {X : Cx} (hX : X.P = Go.Proofs.Tryz.prog) (hs : Std X)
include hX hs
theorem ev_pa1 (f : Wo.Fd) : Ev X F_types_Parse_1 [fdV f] (.bool f.2) := by
  refine ev_of_wpc hs (A_types_Parse_1_ok hX) 0 ?_
  simp only [A_types_Parse_1, fdV, go_sem, Nat.reduceMod, Nat.reduceBNe, Nat.reduceBEq, Nat.reduceEqDiff, Nat.reduceAdd, Int.reduceAdd, Nat.reduceMul, Nat.reduceSub, Int.reduceToNat, Int.reduceLE, Int.reduceLT, Int.reduceEq, Int.reduceNe, reduceCtorEq, Nat.reduceLT, Nat.reduceLeDiff]
theorem ev_IndexFuncF (l : List Wo.Fd) (hl : l.length < 1000000) : Ev X F_slices_IndexFunc_api_Field_api_Field [lst fdV .ro l, .clo F_types_Parse_1 [] []] (.int .i64 (Lat.oi (Lat.ff l.length fun i => (l.getD i ([], false)).2))) := by
  refine ev_of_wpc hs (A_slices_IndexFunc_api_Field_api_Field_ok hX) 0 ?_
  simp only [A_slices_IndexFunc_api_Field_api_Field, go_sem, Nat.reduceMod, Nat.reduceBNe, Nat.reduceBEq, Nat.reduceEqDiff, Nat.reduceAdd, Int.reduceAdd, Nat.reduceMul, Nat.reduceSub, Int.reduceToNat, Int.reduceLE, Int.reduceLT, Int.reduceEq, Int.reduceNe, reduceCtorEq, Nat.reduceLT, Nat.reduceLeDiff]
  refine w_loop' hs.hm (ι := Nat) (fun i => i ≤ l.length ∧ ∀ j, j < i → (l.getD j ([], false)).2 = false) (fun i => [(8, .int .i64 i), (7, .int .i64 l.length), (1, .clo F_types_Parse_1 [] []), (0, lst fdV .ro l)]) (fun _ => []) (fun i => l.length - i) 0 ?_ fun i hi => ?_
  · simp only [go_sem, Nat.reduceMod, Nat.reduceBNe, Nat.reduceBEq, Nat.reduceEqDiff, Nat.reduceAdd, Int.reduceAdd, Nat.reduceMul, Nat.reduceSub, Int.reduceToNat, Int.reduceLE, Int.reduceLT, Int.reduceEq, Int.reduceNe, reduceCtorEq, Nat.reduceLT, Nat.reduceLeDiff]
    exact ⟨Nat.zero_le _, no_lt0⟩
  · obtain ⟨i1, i2⟩ := hi
    have ed : l.getD i default = l.getD i ([], false) := rfl
    simp only [A_slices_IndexFunc_api_Field_api_FieldL0, fdV, ed, go_sem, Nat.reduceMod, Nat.reduceBNe, Nat.reduceBEq, Nat.reduceEqDiff, Nat.reduceAdd, Int.reduceAdd, Nat.reduceMul, Nat.reduceSub, Int.reduceToNat, Int.reduceLE, Int.reduceLT, Int.reduceEq, Int.reduceNe, reduceCtorEq, Nat.reduceLT, Nat.reduceLeDiff]
    refine ⟨fun c => ⟨⟨by omega, c⟩, call_ev (r := .bool (l.getD i ([], false)).2) ?_ ?_⟩, fun c => ?_⟩
    · exact ev_pa1 hX hs _
    · cases e : (l.getD i ([], false)).2 with
      | true =>
        simp only [go_sem, Nat.reduceMod, Nat.reduceBNe, Nat.reduceBEq, Nat.reduceEqDiff, Nat.reduceAdd, Int.reduceAdd, Nat.reduceMul, Nat.reduceSub, Int.reduceToNat, Int.reduceLE, Int.reduceLT, Int.reduceEq, Int.reduceNe, reduceCtorEq, Nat.reduceLT, Nat.reduceLeDiff]
        rw [Lat.ff_some (p := fun a => (l.getD a ([], false)).2) (show i < l.length by omega) e i2]
        rfl
      | false =>
        simp only [go_sem, Nat.reduceMod, Nat.reduceBNe, Nat.reduceBEq, Nat.reduceEqDiff, Nat.reduceAdd, Int.reduceAdd, Nat.reduceMul, Nat.reduceSub, Int.reduceToNat, Int.reduceLE, Int.reduceLT, Int.reduceEq, Int.reduceNe, reduceCtorEq, Nat.reduceLT, Nat.reduceLeDiff]
        exact nxt1 (by omega) i2 e (by omega)
    · rw [Lat.ff_none (p := fun a => (l.getD a ([], false)).2) (n := l.length) fun j hj => i2 j (by omega)]
      rfl
theorem ev_ContainsFuncF (l : List Wo.Fd) (hl : l.length < 1000000) : Ev X F_slices_ContainsFunc_api_Field_api_Field [lst fdV .ro l, .clo F_types_Parse_1 [] []] (.bool (l.any (·.2))) := by
  refine ev_of_wpc hs (A_slices_ContainsFunc_api_Field_api_Field_ok hX) 0 ?_
  simp only [A_slices_ContainsFunc_api_Field_api_Field, go_sem, Nat.reduceMod, Nat.reduceBNe, Nat.reduceBEq, Nat.reduceEqDiff, Nat.reduceAdd, Int.reduceAdd, Nat.reduceMul, Nat.reduceSub, Int.reduceToNat, Int.reduceLE, Int.reduceLT, Int.reduceEq, Int.reduceNe, reduceCtorEq, Nat.reduceLT, Nat.reduceLeDiff]
  refine call_ev (ev_IndexFuncF hX hs l hl) ?_
  simp only [go_sem, Nat.reduceMod, Nat.reduceBNe, Nat.reduceBEq, Nat.reduceEqDiff, Nat.reduceAdd, Int.reduceAdd, Nat.reduceMul, Nat.reduceSub, Int.reduceToNat, Int.reduceLE, Int.reduceLT, Int.reduceEq, Int.reduceNe, reduceCtorEq, Nat.reduceLT, Nat.reduceLeDiff]
  have e : l.any (·.2) = (Lat.ff l.length fun i => (l.getD i ([], false)).2).isSome := by
    cases h : Lat.ff l.length fun i => (l.getD i ([], false)).2 with
    | none =>
      have h' := Lat.ff_eq_none.1 h
      rw [Option.isSome_none, List.any_eq_false]
      intro x hx
      obtain ⟨i, hi, rfl⟩ := List.getElem_of_mem hx
      have := h' i hi
      rw [List.getD_eq_getElem?_getD, List.getElem?_eq_getElem hi] at this
      simpa using this
    | some i =>
      obtain ⟨h1, h2, _⟩ := Lat.ff_eq_some.1 h
      rw [Option.isSome_some, List.any_eq_true]
      rw [List.getD_eq_getElem?_getD, List.getElem?_eq_getElem h1] at h2
      exact ⟨l[i], List.getElem_mem _, h2⟩
  rw [e]
  cases Lat.ff l.length fun i => (l.getD i ([], false)).2 with
  | none => rfl
  | some i => simp [Lat.oi]
/-- a label out of a field -/
def paE (ns : List (List UInt8)) (e : Int) (s : List UInt8) : Int := if e = 0 then (if (Lat.findO ns s).isNone then 4 else 0) else e
theorem ev_pa2 (ns : List (List UInt8)) (up : List UInt8) (hc : (Lat.checkS ns up).2 = 0) (F : List Wo.Fd) (hF : F.length ≤ 100) (B0 B1 B2 B3 B6 J1 J2 : Blk) (e : Int) (at' : Nat) (hat : at' < F.length) (x : Int) :
    EvM X F_types_Parse_2 [.int .i64 x, .ptr 1 0, .ptr 6 0, .ptr 8 0, .ptr 5 0]
      [B0, .box [lst AV.str .ro ns, lst u8 .ro up], B1, B2, B3, .box [.int .i64 e], .box [lst fdV .ro F], B6, .box [.int .i64 at'], J1, J2]
      fun r H' => r = .int .i64 (Lat.idO ns (F.getD at' ([], false)).1) ∧ H' = [B0, .box [lst AV.str .ro ns, lst u8 .ro up], B1, B2, B3, .box [.int .i64 (paE ns e (F.getD at' ([], false)).1)], .box [lst fdV .ro F], B6, .box [.int .i64 (at' + 1 : Nat)], J1, J2] := by
  refine evM_of_wpc hs (A_types_Parse_2_ok hX) ?_
  have ed : F.getD at' default = F.getD at' ([], false) := rfl
  simp only [A_types_Parse_2, fdV, ed, go_sem, Nat.reduceMod, Nat.reduceBNe, Nat.reduceBEq, Nat.reduceEqDiff, Nat.reduceAdd, Int.reduceAdd, Nat.reduceMul, Nat.reduceSub, Int.reduceToNat, Int.reduceLE, Int.reduceLT, Int.reduceEq, Int.reduceNe, reduceCtorEq, Nat.reduceLT, Nat.reduceLeDiff]
  refine ⟨⟨by omega, by omega⟩, ?_⟩
  refine callq_ev (ev_Find hX hs ns up (F.getD at' ([], false)).1) ?_
  have hf : Lat.findS ns up (F.getD at' ([], false)).1 = (Lat.idO ns (F.getD at' ([], false)).1, if (Lat.findO ns (F.getD at' ([], false)).1).isNone then 4 else 0) := by
    simp only [Lat.findS, if_pos hc, Lat.idO]
    cases Lat.findO ns (F.getD at' ([], false)).1 <;> rfl
  rw [hf]
  simp only [go_sem, Nat.reduceMod, Nat.reduceBNe, Nat.reduceBEq, Nat.reduceEqDiff, Nat.reduceAdd, Int.reduceAdd, Nat.reduceMul, Nat.reduceSub, Int.reduceToNat, Int.reduceLE, Int.reduceLT, Int.reduceEq, Int.reduceNe, reduceCtorEq, Nat.reduceLT, Nat.reduceLeDiff]
  have ew : IntKind.i64.wrap ((at' : Int) + 1) = ((at' + 1 : Nat) : Int) := by rw [wi64 (by omega)]; rfl
  rw [ew]
  unfold paE
  refine ⟨fun h => ?_, fun h => ?_⟩
  · rw [if_pos h]
  · rw [if_neg h]
/-- what has gone wrong after i labels -/
def paR (ns : List (List UInt8)) (F : List Wo.Fd) : Nat → Int
  | 0 => 0
  | i + 1 => paE ns (paR ns F i) (F.getD (2 + i) ([], false)).1
def paY (ns : List (List UInt8)) (F : List Wo.Fd) (i : Nat) : Int := Lat.idO ns (F.getD (2 + i) ([], false)).1
theorem ev_each_pa (ns : List (List UInt8)) (up : List UInt8) (hc : (Lat.checkS ns up).2 = 0) (F : List Wo.Fd) (hF : F.length ≤ 100) (B0 B1 B2 B3 B6 : Blk) (k b : Int) (n : Nat) (hn : n ≤ 2) (hl : F.length = 3 + n) :
    EvM X F_types_each [tyV ⟨k, n, b, b, 0⟩, .clo F_types_Parse_2 [] [.ptr 1 0, .ptr 6 0, .ptr 8 0, .ptr 5 0]]
      [B0, .box [lst AV.str .ro ns, lst u8 .ro up], B1, B2, B3, .box [.int .i64 0], .box [lst fdV .ro F], B6, .box [.int .i64 2]]
      fun r H' => r = tyV ⟨k, n, if 1 ≤ n then paY ns F 0 else b, if 2 ≤ n then paY ns F 1 else b, paY ns F n⟩ ∧ ∃ J1 J2 J3, H' = [B0, .box [lst AV.str .ro ns, lst u8 .ro up], B1, B2, B3, .box [.int .i64 (paR ns F (n + 1))], .box [lst fdV .ro F], B6, J1, J2, J3] := by
  refine evM_of_wpc hs (A_types_each_ok hX) ?_
  simp only [A_types_each, tyV, go_sem, Nat.reduceMod, Nat.reduceBNe, Nat.reduceBEq, Nat.reduceEqDiff, Nat.reduceAdd, Int.reduceAdd, Nat.reduceMul, Nat.reduceSub, Int.reduceToNat, Int.reduceLE, Int.reduceLT, Int.reduceEq, Int.reduceNe, reduceCtorEq, Nat.reduceLT, Nat.reduceLeDiff]
  have step := fun (i : Nat) (h : i ≤ n) (x : Int) (J1 J2 : Blk) => ev_pa2 hX hs ns up hc F hF B0 B1 B2 B3 B6 J1 J2 (paR ns F i) (2 + i) (by omega) x
  refine w_loop' hs.hm (ι := Nat) (fun i => i ≤ n) (fun i => [(8, .int .i64 i), (7, .int .i64 n), (1, .clo F_types_Parse_2 [] [.ptr 1 0, .ptr 6 0, .ptr 8 0, .ptr 5 0]), (2, .ptr 9 0), (4, .ptr 10 0)])
    (fun i => [B0, .box [lst AV.str .ro ns, lst u8 .ro up], B1, B2, B3, .box [.int .i64 (paR ns F i)], .box [lst fdV .ro F], B6, .box [.int .i64 (2 + i : Nat)],
      .box [.int .i64 k, .int .i64 n, .int .i64 (if 1 ≤ i then paY ns F 0 else b), .int .i64 (if 2 ≤ i then paY ns F 1 else b), .int .i64 0], .box [.int .i64 0, .int .i64 0, .int .i64 0, .int .i64 0, .int .i64 0]]) (fun i => n - i) 0 ?_ fun i hi => ?_
  · simp only [go_sem, Nat.reduceMod, Nat.reduceBNe, Nat.reduceBEq, Nat.reduceEqDiff, Nat.reduceAdd, Int.reduceAdd, Nat.reduceMul, Nat.reduceSub, Int.reduceToNat, Int.reduceLE, Int.reduceLT, Int.reduceEq, Int.reduceNe, reduceCtorEq, Nat.reduceLT, Nat.reduceLeDiff, Nat.not_succ_le_zero, if_false, List.append_nil]
    exact ⟨Nat.zero_le _, rfl⟩
  · simp only [A_types_eachL0, go_sem, Nat.reduceMod, Nat.reduceBNe, Nat.reduceBEq, Nat.reduceEqDiff, Nat.reduceAdd, Int.reduceAdd, Nat.reduceMul, Nat.reduceSub, Int.reduceToNat, Int.reduceLE, Int.reduceLT, Int.reduceEq, Int.reduceNe, reduceCtorEq, Nat.reduceLT, Nat.reduceLeDiff]
    refine ⟨fun c => ?_, fun c => ?_⟩
    · have : i = 0 ∨ i = 1 := by omega
      rcases this with rfl | rfl
      · simp only [go_sem, Nat.reduceMod, Nat.reduceBNe, Nat.reduceBEq, Nat.reduceEqDiff, Nat.reduceAdd, Int.reduceAdd, Nat.reduceMul, Nat.reduceSub, Int.reduceToNat, Int.reduceLE, Int.reduceLT, Int.reduceEq, Int.reduceNe, reduceCtorEq, Nat.reduceLT, Nat.reduceLeDiff, Nat.not_succ_le_zero, if_false, List.append_nil, Nat.le_refl, if_true]
        refine call_evm (step 0 (by omega) _ _ _) ?_
        rintro r H' ⟨rfl, rfl⟩
        simp only [go_sem, Nat.reduceMod, Nat.reduceBNe, Nat.reduceBEq, Nat.reduceEqDiff, Nat.reduceAdd, Int.reduceAdd, Nat.reduceMul, Nat.reduceSub, Int.reduceToNat, Int.reduceLE, Int.reduceLT, Int.reduceEq, Int.reduceNe, reduceCtorEq, Nat.reduceLT, Nat.reduceLeDiff]
        exact ⟨1, by omega, by omega, rfl, by simp [paR, paY]⟩
      · simp only [go_sem, Nat.reduceMod, Nat.reduceBNe, Nat.reduceBEq, Nat.reduceEqDiff, Nat.reduceAdd, Int.reduceAdd, Nat.reduceMul, Nat.reduceSub, Int.reduceToNat, Int.reduceLE, Int.reduceLT, Int.reduceEq, Int.reduceNe, reduceCtorEq, Nat.reduceLT, Nat.reduceLeDiff, Nat.not_succ_le_zero, if_false, List.append_nil, Nat.le_refl, if_true]
        refine call_evm (step 1 (by omega) _ _ _) ?_
        rintro r H' ⟨rfl, rfl⟩
        simp only [go_sem, Nat.reduceMod, Nat.reduceBNe, Nat.reduceBEq, Nat.reduceEqDiff, Nat.reduceAdd, Int.reduceAdd, Nat.reduceMul, Nat.reduceSub, Int.reduceToNat, Int.reduceLE, Int.reduceLT, Int.reduceEq, Int.reduceNe, reduceCtorEq, Nat.reduceLT, Nat.reduceLeDiff]
        exact ⟨2, by omega, by omega, rfl, by simp [paR, paY]⟩
    · obtain rfl : i = n := by omega
      refine call_evm (step i (by omega) _ _ _) ?_
      rintro r H' ⟨rfl, rfl⟩
      simp only [go_sem, Nat.reduceMod, Nat.reduceBNe, Nat.reduceBEq, Nat.reduceEqDiff, Nat.reduceAdd, Int.reduceAdd, Nat.reduceMul, Nat.reduceSub, Int.reduceToNat, Int.reduceLE, Int.reduceLT, Int.reduceEq, Int.reduceNe, reduceCtorEq, Nat.reduceLT, Nat.reduceLeDiff]
      exact ⟨rfl, _, _, _, rfl⟩
end
end Go.Avm
