/- The lengths of lines. -/
import Derived.Test.YtcldomkahgaplaaGreatDoorAF7
import Derived.Test.YtcldomkahgaplaaGreatDoorM2
import Derived.Test.YtcldomkahgaplaaGreatDoorA8
set_option linter.unusedSectionVars false
set_option linter.unusedSimpArgs false
set_option linter.unusedVariables false

/- The lengths of lines. -/
namespace Go.Avm
open Go Go.Fm
set_option maxRecDepth 10000
structure LenS where
  i : Nat
  f : Nat
  o : List (List UInt8)
def lenI (o : List (List UInt8)) : List Int := o.map fun l => (l.length : Int)
theorem lenI_snoc (o : List (List UInt8)) (l : List UInt8) : lenI (o ++ [l]) = lenI o ++ [(l.length : Int)] := List.map_append
theorem lens_end {s : List UInt8} {o : List (List UInt8)} {f : Nat} (h : Wo.Pc 10 s o f s.length) : lensL s = lenI o ++ (if f < s.length then [-1] else []) := by
  have h1 := h.1
  unfold lensL
  rw [Wo.pc_end h, List.dropLast_concat, List.getLast?_concat]
  unfold lenI
  congr 1
  by_cases h2 : f < s.length
  · rw [if_pos h2, if_neg]
    intro e
    have := congrArg List.length (Option.some.inj e)
    rw [List.length_drop, List.length_nil] at this
    omega
  · rw [if_neg h2, if_pos]
    rw [List.drop_of_length_le (by omega)]
section
variable {X : Cx} (hX : X.P = Go.Proofs.Tryz.prog) (hs : Std X)
include hX hs
theorem ev_lengths (s : List UInt8) (hl : s.length < 1000000000) : Ev X F_law33_lengths [.str s] (lst (AV.int .i64) .ro (lensL s)) := by
  refine ev_of_k (evK_of_wpc hs (A_law33_lengths_ok hX) ?_)
  simp only [A_law33_lengths, go_sem, Nat.reduceMod, Nat.reduceBNe, Nat.reduceBEq, Nat.reduceEqDiff, Nat.reduceAdd, Int.reduceAdd, Nat.reduceMul, Nat.reduceSub, Int.reduceToNat, Int.reduceLE, Int.reduceLT, Int.reduceEq, Int.reduceNe, reduceCtorEq, Nat.reduceLT, Nat.reduceLeDiff]
  refine w_loop hs.hm (ι := LenS) (fun x => Wo.Pc 10 s x.o x.f x.i) (fun x => [(5, .int .i64 x.i), (0, .str s), (4, .int .i64 x.f), (3, lst (AV.int .i64) (.tok 0 1) (lenI x.o))]) (fun x => [.tok x.o.length]) (fun x => s.length - x.i) ⟨0, 0, []⟩ ⟨Wo.pc_0 10 s, _, _, wk_tok 3 1 rfl, ?_⟩ fun x hx => ?_
  · exact ⟨⟨rfl, rfl, rfl, rfl, trivial⟩, rfl⟩
  obtain ⟨i, f, o⟩ := x
  dsimp only at hx ⊢
  have hlo : (lenI o).length = o.length := List.length_map _
  obtain ⟨h1, h2, h3, _⟩ := id hx
  by_cases hi : i < s.length
  · have c1 : (i : Int) < s.length := by omega
    have hw : IntKind.i64.wrap ((i : Int) + 1) = ((i + 1 : Nat) : Int) := by rw [wi64 (by omega)]; omega
    have hw2 : IntKind.i64.wrap ((i : Int) - f) = ((((s.take i).drop f).length : Nat) : Int) := by
      rw [wi64 (by omega), List.length_drop, List.length_take]; omega
    simp only [A_law33_lengthsL0, go_sem, Nat.reduceMod, Nat.reduceBNe, Nat.reduceBEq, Nat.reduceEqDiff, Nat.reduceAdd, Int.reduceAdd, Nat.reduceMul, Nat.reduceSub, Int.reduceToNat, Int.reduceLE, Int.reduceLT, Int.reduceEq, Int.reduceNe, reduceCtorEq, Nat.reduceLT, Nat.reduceLeDiff, c1]
    refine ⟨by omega, fun h6 => ?_, fun h6 => ?_⟩
    · have hb : s.getD i 0 = 10 := by
        apply UInt8.toNat_inj.1
        have : (s.getD i 0).toNat = 10 := by omega
        rw [this]; rfl
      have hp := Wo.pc_yes hx hi hb
      have es := lenI_snoc o ((s.take i).drop f)
      simp only [go_sem, Nat.reduceMod, Nat.reduceBNe, Nat.reduceBEq, Nat.reduceEqDiff, Nat.reduceAdd, Int.reduceAdd, Nat.reduceMul, Nat.reduceSub, Int.reduceToNat, Int.reduceLE, Int.reduceLT, Int.reduceEq, Int.reduceNe, reduceCtorEq, Nat.reduceLT, Nat.reduceLeDiff, app1, hlo, hw, hw2]
      exact ⟨⟨by omega, by omega⟩, ⟨i + 1, i + 1, o ++ [(s.take i).drop f]⟩, by dsimp only; omega, hp, ⟨rfl, rfl, by rw [es]⟩, by rw [List.length_append]; rfl⟩
    · have hb : ¬ s.getD i 0 = 10 := fun e => h6 (by rw [e]; rfl)
      simp only [go_sem, Nat.reduceMod, Nat.reduceBNe, Nat.reduceBEq, Nat.reduceEqDiff, Nat.reduceAdd, Int.reduceAdd, Nat.reduceMul, Nat.reduceSub, Int.reduceToNat, Int.reduceLE, Int.reduceLT, Int.reduceEq, Int.reduceNe, reduceCtorEq, Nat.reduceLT, Nat.reduceLeDiff, hw]
      exact ⟨⟨i + 1, f, o⟩, by dsimp only; omega, Wo.pc_no hx hi hb, ⟨rfl, rfl, rfl⟩, rfl⟩
  · have c1 : ¬ (i : Int) < s.length := by omega
    have ei : i = s.length := by omega
    subst ei
    have he := lens_end hx
    simp only [A_law33_lengthsL0, go_sem, Nat.reduceMod, Nat.reduceBNe, Nat.reduceBEq, Nat.reduceEqDiff, Nat.reduceAdd, Int.reduceAdd, Nat.reduceMul, Nat.reduceSub, Int.reduceToNat, Int.reduceLE, Int.reduceLT, Int.reduceEq, Int.reduceNe, reduceCtorEq, Nat.reduceLT, Nat.reduceLeDiff, c1]
    refine ⟨fun h6 => ?_, fun h6 => ?_⟩
    · rw [he, if_pos (by omega)]
      simp only [go_sem, Nat.reduceMod, Nat.reduceBNe, Nat.reduceBEq, Nat.reduceEqDiff, Nat.reduceAdd, Int.reduceAdd, Nat.reduceMul, Nat.reduceSub, Int.reduceToNat, Int.reduceLE, Int.reduceLT, Int.reduceEq, Int.reduceNe, reduceCtorEq, Nat.reduceLT, Nat.reduceLeDiff, app1, hlo]
      exact ⟨⟨by omega, by omega⟩, ⟨_, rfl⟩, rfl⟩
    · rw [he, if_neg (by omega), List.append_nil]
      exact ⟨⟨_, rfl⟩, rfl⟩
end
end Go.Avm

/- The law of lines that are aligned. -/
namespace Go.Avm
open Go Go.Fm
set_option maxRecDepth 10000
theorem sum_take {w : List Int} {i : Nat} (h : i < w.length) : (w.take (i + 1)).sum = (w.take i).sum + w.getD i 0 := by
  rw [List.take_succ_eq_append_getElem h, List.sum_append, List.getD_eq_getElem?_getD, List.getElem?_eq_getElem h]
  simp
theorem sum_rng {w : List Int} (h : ∀ x ∈ w, 0 ≤ x ∧ x ≤ 1000) (i : Nat) (hi : i ≤ w.length) : 0 ≤ (w.take i).sum ∧ (w.take i).sum ≤ 1000 * i := by
  induction i with
  | zero => simp
  | succ i ih =>
    have h1 := ih (by omega)
    have h2 := h (w.getD i 0) (by rw [List.getD_eq_getElem?_getD, List.getElem?_eq_getElem (by omega)]; exact List.getElem_mem _)
    rw [sum_take (by omega)]
    omega
theorem tab_cases (t : Go.Tb.Tab) (hv : ∀ a ∈ t.c, ∀ v ∈ a.c, -9223372036854775808 ≤ v ∧ v ≤ 9223372036854775807) : (∃ e, tableR t = ([], e) ∧ widthsR t = ([], e)) ∨
    (∃ w s, tableR t = (s, 0) ∧ widthsR t = (w, 0) ∧ w.length = t.c.length ∧ 0 < t.c.length ∧ t.c.length ≤ 16 ∧ (t.col 0).c.length ≤ 400 ∧ lensL s = List.replicate (2 + (t.col 0).c.length) (2 * ((w.length : Int) - 1) + w.sum) ∧ (∀ x ∈ w, 0 ≤ x ∧ x ≤ 1000) ∧ s.length < 1000000000) := by
  by_cases hc : (Go.Tb.chk t).2 = 0
  · have hg := Go.Tb.chk_good.1 hc
    have h1 := hg.len
    have h2 := hg.eq
    have e0 : drawnR t = (drawnL t t.c.length, 0) := by unfold drawnR; rw [if_neg (by omega)]
    have ew : widthsR t = (widL (drawnL t t.c.length), 0) := by unfold widthsR; rw [e0, if_neg (by simp)]
    have hdl := drawnL_len t t.c.length
    by_cases h0 : t.c.length = 0
    · left
      have hd0 : drawnL t t.c.length = [] := List.eq_nil_of_length_eq_zero (by omega)
      refine ⟨0, ?_, by rw [ew, hd0]; rfl⟩
      unfold tableR
      rw [e0, if_pos (.inr hd0)]
    · right
      have hok := tab_ok hg hv
      have hcol : (colAt (drawnL t t.c.length) 0).c.length = (t.col 0).c.length := by
        rw [colAt_in t (by omega)]
        exact List.length_map _
      have hc4 : (t.col 0).c.length ≤ 400 := by
        have h3 := (hok.col 0 (by omega)).len
        have h4 := hok.mm
        omega
      have et : tableR t = (tabP2 t.n (drawnL t t.c.length) (t.col 0).c.length, 0) := by
        unfold tableR
        rw [e0, if_neg (fun h => h.elim (fun h => h rfl) fun h => by dsimp only at h; rw [h] at hdl; simp at hdl; omega)]
        rw [hcol]
      have hwl : (widL (drawnL t t.c.length)).length = t.c.length := by rw [widL, List.length_map, hdl]
      refine ⟨_, _, et, ew, hwl, by omega, by omega, hc4, ?_, fun x hx => ?_, ?_⟩
      · rw [lens_tab hg, hwl, widL_sum]
        congr 1
        omega
      · obtain ⟨c, hc2, rfl⟩ := List.mem_map.1 hx
        obtain ⟨i, hi, rfl⟩ := List.getElem_of_mem hc2
        have h3 := (hok.col i hi).w
        unfold colAt at h3
        rw [List.getD_eq_getElem?_getD, List.getElem?_eq_getElem hi, Option.getD_some] at h3
        omega
      · have := hok.len (t.col 0).c.length
        omega
  · left
    have e0 : drawnR t = ([], (Go.Tb.chk t).2) := if_pos hc
    refine ⟨(Go.Tb.chk t).2, ?_, ?_⟩
    · unfold tableR
      rw [e0, if_pos (.inr rfl)]
    · unfold widthsR
      rw [e0, if_pos hc]
section
variable {X : Cx} (hX : X.P = Go.Proofs.Tryz.prog) (hs : Std X) (hP : X.G (sRen.g 17) = some tabQ) {te : Nat} (hR : X.G (sRen.g 16) = some [.ifc te .undef])
include hX hs hP hR
set_option maxHeartbeats 4000000 in
theorem ev_FormatAligned (a : Lat.Arr) (t : Go.Tb.Tab) (hv : ∀ v ∈ a.c, -9223372036854775808 ≤ v ∧ v ≤ 9223372036854775807) (hvt : ∀ a ∈ t.c, ∀ v ∈ a.c, -9223372036854775808 ≤ v ∧ v ≤ 9223372036854775807) : Ev X F_law33_FormatAligned [arrV a, tabV t] (.bool true) := by
  refine ev_of_k (evK_of_xa hs (A_law33_FormatAligned_ok hX) ?_)
  have hf := ev_Far33 hX hs a
  have hft := ev_FarTable hX hs t
  obtain ⟨k, r, l0, l1, c⟩ := a
  simp only [A_law33_FormatAligned, arrV, tabV] at hf hft ⊢
  refine xa_cut hs.hm ?_
  simp only [go_sem, Nat.reduceMod, Nat.reduceBNe, Nat.reduceBEq, Nat.reduceEqDiff, Nat.reduceAdd, Int.reduceAdd, Nat.reduceMul, Nat.reduceSub, Int.reduceToNat, Int.reduceLE, Int.reduceLT, Int.reduceEq, Int.reduceNe, reduceCtorEq, Nat.reduceLT, Nat.reduceLeDiff]
  cases hfar : farA ⟨k, r, l0, l1, c⟩ with
  | true =>
    rw [hfar] at hf
    refine xa_last hs.hm ?_
    simp only [go_sem, Nat.reduceMod, Nat.reduceBNe, Nat.reduceBEq, Nat.reduceEqDiff, Nat.reduceAdd, Int.reduceAdd, Nat.reduceMul, Nat.reduceSub, Int.reduceToNat, Int.reduceLE, Int.reduceLT, Int.reduceEq, Int.reduceNe, reduceCtorEq, Nat.reduceLT, Nat.reduceLeDiff]
    refine call_ev hf ?_
    simp only [go_sem, Nat.reduceMod, Nat.reduceBNe, Nat.reduceBEq, Nat.reduceEqDiff, Nat.reduceAdd, Int.reduceAdd, Nat.reduceMul, Nat.reduceSub, Int.reduceToNat, Int.reduceLE, Int.reduceLT, Int.reduceEq, Int.reduceNe, reduceCtorEq, Nat.reduceLT, Nat.reduceLeDiff]
    refine call_ev (ev_shown hX hs hP hR) ?_
    simp only [go_sem, Nat.reduceMod, Nat.reduceBNe, Nat.reduceBEq, Nat.reduceEqDiff, Nat.reduceAdd, Int.reduceAdd, Nat.reduceMul, Nat.reduceSub, Int.reduceToNat, Int.reduceLE, Int.reduceLT, Int.reduceEq, Int.reduceNe, reduceCtorEq, Nat.reduceLT, Nat.reduceLeDiff]
    exact ⟨⟨_, rfl⟩, rfl⟩
  | false =>
  rw [hfar] at hf
  cases hfart : farT3 t with
  | true =>
    rw [hfart] at hft
    refine xa_last hs.hm ?_
    simp only [go_sem, Nat.reduceMod, Nat.reduceBNe, Nat.reduceBEq, Nat.reduceEqDiff, Nat.reduceAdd, Int.reduceAdd, Nat.reduceMul, Nat.reduceSub, Int.reduceToNat, Int.reduceLE, Int.reduceLT, Int.reduceEq, Int.reduceNe, reduceCtorEq, Nat.reduceLT, Nat.reduceLeDiff]
    refine call_ev hf ?_
    simp only [go_sem, Nat.reduceMod, Nat.reduceBNe, Nat.reduceBEq, Nat.reduceEqDiff, Nat.reduceAdd, Int.reduceAdd, Nat.reduceMul, Nat.reduceSub, Int.reduceToNat, Int.reduceLE, Int.reduceLT, Int.reduceEq, Int.reduceNe, reduceCtorEq, Nat.reduceLT, Nat.reduceLeDiff]
    refine call_ev hft ?_
    simp only [go_sem, Nat.reduceMod, Nat.reduceBNe, Nat.reduceBEq, Nat.reduceEqDiff, Nat.reduceAdd, Int.reduceAdd, Nat.reduceMul, Nat.reduceSub, Int.reduceToNat, Int.reduceLE, Int.reduceLT, Int.reduceEq, Int.reduceNe, reduceCtorEq, Nat.reduceLT, Nat.reduceLeDiff]
    refine call_ev (ev_shown hX hs hP hR) ?_
    simp only [go_sem, Nat.reduceMod, Nat.reduceBNe, Nat.reduceBEq, Nat.reduceEqDiff, Nat.reduceAdd, Int.reduceAdd, Nat.reduceMul, Nat.reduceSub, Int.reduceToNat, Int.reduceLE, Int.reduceLT, Int.reduceEq, Int.reduceNe, reduceCtorEq, Nat.reduceLT, Nat.reduceLeDiff]
    exact ⟨⟨_, rfl⟩, rfl⟩
  | false =>
  rw [hfart] at hft
  refine xa_cut hs.hm ?_
  simp only [go_sem, Nat.reduceMod, Nat.reduceBNe, Nat.reduceBEq, Nat.reduceEqDiff, Nat.reduceAdd, Int.reduceAdd, Nat.reduceMul, Nat.reduceSub, Int.reduceToNat, Int.reduceLE, Int.reduceLT, Int.reduceEq, Int.reduceNe, reduceCtorEq, Nat.reduceLT, Nat.reduceLeDiff]
  refine call_ev hf ?_
  simp only [go_sem, Nat.reduceMod, Nat.reduceBNe, Nat.reduceBEq, Nat.reduceEqDiff, Nat.reduceAdd, Int.reduceAdd, Nat.reduceMul, Nat.reduceSub, Int.reduceToNat, Int.reduceLE, Int.reduceLT, Int.reduceEq, Int.reduceNe, reduceCtorEq, Nat.reduceLT, Nat.reduceLeDiff]
  refine call_ev hft ?_
  simp only [go_sem, Nat.reduceMod, Nat.reduceBNe, Nat.reduceBEq, Nat.reduceEqDiff, Nat.reduceAdd, Int.reduceAdd, Nat.reduceMul, Nat.reduceSub, Int.reduceToNat, Int.reduceLE, Int.reduceLT, Int.reduceEq, Int.reduceNe, reduceCtorEq, Nat.reduceLT, Nat.reduceLeDiff]
  have hl : c.length < 1000000 := by
    unfold farA at hfar
    simp only [Bool.or_eq_false_iff, decide_eq_false_iff_not] at hfar
    omega
  have hlt : ∀ a ∈ t.c, a.c.length < 1000000 := fun a ha => by
    unfold farT3 at hfart
    simp only [Bool.or_eq_false_iff] at hfart
    have h1 := hfart.1.2
    have h2 : farA a = false := by
      cases h : farA a with
      | false => rfl
      | true => rw [List.any_eq_true.2 ⟨a, ha, h⟩] at h1; cases h1
    unfold farA at h2
    simp only [Bool.or_eq_false_iff, decide_eq_false_iff_not] at h2
    omega
  have h1 := ev_Picture hX hs hP ⟨k, r, l0, l1, c⟩ hv hl
  simp only [arrV] at h1
  refine xa_cut hs.hm ?_
  simp only [go_sem, Nat.reduceMod, Nat.reduceBNe, Nat.reduceBEq, Nat.reduceEqDiff, Nat.reduceAdd, Int.reduceAdd, Nat.reduceMul, Nat.reduceSub, Int.reduceToNat, Int.reduceLE, Int.reduceLT, Int.reduceEq, Int.reduceNe, reduceCtorEq, Nat.reduceLT, Nat.reduceLeDiff]
  refine call_ev h1 ?_
  simp only [go_sem, Nat.reduceMod, Nat.reduceBNe, Nat.reduceBEq, Nat.reduceEqDiff, Nat.reduceAdd, Int.reduceAdd, Nat.reduceMul, Nat.reduceSub, Int.reduceToNat, Int.reduceLE, Int.reduceLT, Int.reduceEq, Int.reduceNe, reduceCtorEq, Nat.reduceLT, Nat.reduceLeDiff]
  refine xa_joinR [.box [.int .i64 k, .int .i64 r, .int .i64 l0, .int .i64 l1, lst (AV.int .i64) .ro c], .box [lst AV.str .ro t.n, lst arrV .ro t.c]] hs.hm [(3, .ptr 1 0)] ?_ fun R => ?_
  · by_cases he : Lat.arrE ⟨k, r, l0, l1, c⟩ = 0
    · have ep : picR ⟨k, r, l0, l1, c⟩ = (pic1 ⟨k, r, l0, l1, c⟩, 0) := if_neg (by omega)
      rw [ep]
      by_cases hr : r = 2
      · subst hr
        obtain ⟨n0, n1, e0, e1, hc, h4, h5, _⟩ := arr2 he (by dsimp only; omega)
        dsimp only at e0 e1 hc
        subst e0 e1
        have hg := (arrG he).2.2.2.1
        dsimp only at hg
        have h60 : c.length ≤ 60 := by
          unfold farA at hfar
          simp only [Bool.or_eq_false_iff, Bool.and_eq_false_iff, decide_eq_false_iff_not] at hfar
          omega
        have ep1 : pic1 ⟨k, 2, n0, n1, c⟩ = picP (colsP k c n0 n1 n1) (gapS k) n0 := by
          unfold pic1
          rw [if_neg (by dsimp only; omega)]
          rfl
        have hlen : (pic1 ⟨k, 2, n0, n1, c⟩).length ≤ n0 * (n1 * 1002 + 1) := by
          rw [ep1]
          have := picP_len (cs := colsP k c n0 n1 n1) (gap := gapS k) (colsP_ok hv n0 n1 n1) (by unfold gapS; split <;> decide) n0
          rwa [colsP_len] at this
        have hm1 : n0 * (n1 * 1002 + 1) = n0 * n1 * 1002 + n0 := by rw [Nat.mul_add, Nat.mul_one, Nat.mul_assoc]
        obtain ⟨m, hm⟩ := lens_pic k c n0 n1
        rw [← ep1] at hm
        have hgr : k = 1 → 0 < c.length → gridR (pic1 ⟨k, 2, n0, n1, c⟩) = (⟨k, 2, n0, n1, c⟩, 0, 0) := fun hk h0 => grid_pic hv hk rfl he h0 h60
        generalize pic1 ⟨k, 2, n0, n1, c⟩ = s at *
        have hG := ev_Grid hX hs hR s (by omega)
        have hsm := ev_same6 hX hs ⟨k, 2, n0, n1, c⟩ ⟨k, 2, n0, n1, c⟩ (by dsimp only; omega)
        rw [Go.Tb.sameA_refl] at hsm
        unfold grV at hG
        generalize gridR s = g at hG hgr
        obtain ⟨⟨gk, gr, g0, g1, gc⟩, gi, ge⟩ := g
        simp only [arrV] at hG hsm
        simp only [go_sem, Nat.reduceMod, Nat.reduceBNe, Nat.reduceBEq, Nat.reduceEqDiff, Nat.reduceAdd, Int.reduceAdd, Nat.reduceMul, Nat.reduceSub, Int.reduceToNat, Int.reduceLE, Int.reduceLT, Int.reduceEq, Int.reduceNe, reduceCtorEq, Nat.reduceLT, Nat.reduceLeDiff]
        refine call_ev (ev_lengths hX hs s (by omega)) ?_
        rw [hm]
        simp only [go_sem, Nat.reduceMod, Nat.reduceBNe, Nat.reduceBEq, Nat.reduceEqDiff, Nat.reduceAdd, Int.reduceAdd, Nat.reduceMul, Nat.reduceSub, Int.reduceToNat, Int.reduceLE, Int.reduceLT, Int.reduceEq, Int.reduceNe, reduceCtorEq, Nat.reduceLT, Nat.reduceLeDiff, List.length_replicate]
        have hrl : ∀ i, i < n0 → (List.replicate n0 m).getD i default = m := fun i hi => by
          rw [List.getD_eq_getElem?_getD, List.getElem?_eq_getElem (by rw [List.length_replicate]; exact hi)]
          simp
        have hll : (List.replicate n0 m).length = n0 := List.length_replicate
        refine w_loop' hs.hm (ι := Nat) (fun i => 1 ≤ i ∧ (i ≤ n0 ∨ i = 1)) (fun i => [(8, .int .i64 i), (7, lst (AV.int .i64) .ro (List.replicate n0 m)), (5, .str s), (2, .ptr 0 0), (3, .ptr 1 0)]) (fun _ => [.box [.int .i64 k, .int .i64 2, .int .i64 n0, .int .i64 n1, lst (AV.int .i64) .ro c], .box [lst AV.str .ro t.n, lst arrV .ro t.c]]) (fun i => n0 - i) 1 ⟨⟨Nat.le_refl _, .inr rfl⟩, ⟨rfl, rfl, rfl, rfl, rfl, trivial⟩, rfl⟩ fun i hi => ?_
        by_cases hi' : i < n0
        · have c1 : (i : Int) < n0 := by omega
          have hw : IntKind.i64.wrap ((i : Int) + 1) = ((i + 1 : Nat) : Int) := by rw [wi64 (by omega)]; omega
          simp only [A_law33_FormatAlignedL0, go_sem, Nat.reduceMod, Nat.reduceBNe, Nat.reduceBEq, Nat.reduceEqDiff, Nat.reduceAdd, Int.reduceAdd, Nat.reduceMul, Nat.reduceSub, Int.reduceToNat, Int.reduceLE, Int.reduceLT, Int.reduceEq, Int.reduceNe, reduceCtorEq, Nat.reduceLT, Nat.reduceLeDiff, c1, List.length_replicate, hrl i hi', hrl 0 (by omega), hw]
          exact ⟨by omega, by omega, i + 1, by omega, ⟨by omega, .inl hi'⟩, rfl⟩
        · have c1 : ¬ (i : Int) < n0 := by omega
          simp only [A_law33_FormatAlignedL0, go_sem, Nat.reduceMod, Nat.reduceBNe, Nat.reduceBEq, Nat.reduceEqDiff, Nat.reduceAdd, Int.reduceAdd, Nat.reduceMul, Nat.reduceSub, Int.reduceToNat, Int.reduceLE, Int.reduceLT, Int.reduceEq, Int.reduceNe, reduceCtorEq, Nat.reduceLT, Nat.reduceLeDiff, c1, List.length_replicate]
          refine call_ev hG ?_
          simp only [go_sem, Nat.reduceMod, Nat.reduceBNe, Nat.reduceBEq, Nat.reduceEqDiff, Nat.reduceAdd, Int.reduceAdd, Nat.reduceMul, Nat.reduceSub, Int.reduceToNat, Int.reduceLE, Int.reduceLT, Int.reduceEq, Int.reduceNe, reduceCtorEq, Nat.reduceLT, Nat.reduceLeDiff]
          by_cases hk : k = 1
          · by_cases h0 : 0 < c.length
            · have eg := hgr hk h0
              injection eg with eg1 eg2
              injection eg1 with x1 x2 x3 x4 x5
              injection eg2 with x6 x7
              subst hk
              have x8 := x5.symm
              subst x1 x2 x3 x4 x8 x6 x7
              have h0' : (0 : Int) < c.length := by omega
              simp only [go_sem, Nat.reduceMod, Nat.reduceBNe, Nat.reduceBEq, Nat.reduceEqDiff, Nat.reduceAdd, Int.reduceAdd, Nat.reduceMul, Nat.reduceSub, Int.reduceToNat, Int.reduceLE, Int.reduceLT, Int.reduceEq, Int.reduceNe, reduceCtorEq, Nat.reduceLT, Nat.reduceLeDiff, h0']
              refine call_ev hsm ?_
              simp only [go_sem, Nat.reduceMod, Nat.reduceBNe, Nat.reduceBEq, Nat.reduceEqDiff, Nat.reduceAdd, Int.reduceAdd, Nat.reduceMul, Nat.reduceSub, Int.reduceToNat, Int.reduceLE, Int.reduceLT, Int.reduceEq, Int.reduceNe, reduceCtorEq, Nat.reduceLT, Nat.reduceLeDiff]
              exact ⟨_, rfl⟩
            · have h0' : ¬ (0 : Int) < c.length := by omega
              simp only [go_sem, Nat.reduceMod, Nat.reduceBNe, Nat.reduceBEq, Nat.reduceEqDiff, Nat.reduceAdd, Int.reduceAdd, Nat.reduceMul, Nat.reduceSub, Int.reduceToNat, Int.reduceLE, Int.reduceLT, Int.reduceEq, Int.reduceNe, reduceCtorEq, Nat.reduceLT, Nat.reduceLeDiff, hk, h0']
              exact ⟨_, rfl⟩
          · simp only [go_sem, Nat.reduceMod, Nat.reduceBNe, Nat.reduceBEq, Nat.reduceEqDiff, Nat.reduceAdd, Int.reduceAdd, Nat.reduceMul, Nat.reduceSub, Int.reduceToNat, Int.reduceLE, Int.reduceLT, Int.reduceEq, Int.reduceNe, reduceCtorEq, Nat.reduceLT, Nat.reduceLeDiff, hk]
            exact ⟨_, rfl⟩
      · simp only [go_sem, Nat.reduceMod, Nat.reduceBNe, Nat.reduceBEq, Nat.reduceEqDiff, Nat.reduceAdd, Int.reduceAdd, Nat.reduceMul, Nat.reduceSub, Int.reduceToNat, Int.reduceLE, Int.reduceLT, Int.reduceEq, Int.reduceNe, reduceCtorEq, Nat.reduceLT, Nat.reduceLeDiff, hr]
        exact ⟨_, rfl⟩
    · have ep : picR ⟨k, r, l0, l1, c⟩ = ([], Lat.arrE ⟨k, r, l0, l1, c⟩) := if_pos he
      rw [ep]
      simp only [go_sem, Nat.reduceMod, Nat.reduceBNe, Nat.reduceBEq, Nat.reduceEqDiff, Nat.reduceAdd, Int.reduceAdd, Nat.reduceMul, Nat.reduceSub, Int.reduceToNat, Int.reduceLE, Int.reduceLT, Int.reduceEq, Int.reduceNe, reduceCtorEq, Nat.reduceLT, Nat.reduceLeDiff, he]
      exact ⟨_, rfl⟩
  · refine xa_last hs.hm ?_
    have h2 := ev_Table hX hs hP t hvt hlt
    have h3 := ev_Widths hX hs hP t hvt hlt
    simp only [tabV] at h2 h3
    rcases tab_cases t hvt with ⟨e, e1, e2⟩ | ⟨w, s, e1, e2, w1, w2, w3, w4, w5, w6, w7⟩
    · rw [e1] at h2
      rw [e2] at h3
      simp only [go_sem, Nat.reduceMod, Nat.reduceBNe, Nat.reduceBEq, Nat.reduceEqDiff, Nat.reduceAdd, Int.reduceAdd, Nat.reduceMul, Nat.reduceSub, Int.reduceToNat, Int.reduceLE, Int.reduceLT, Int.reduceEq, Int.reduceNe, reduceCtorEq, Nat.reduceLT, Nat.reduceLeDiff]
      refine call_ev h2 ?_
      simp only [go_sem, Nat.reduceMod, Nat.reduceBNe, Nat.reduceBEq, Nat.reduceEqDiff, Nat.reduceAdd, Int.reduceAdd, Nat.reduceMul, Nat.reduceSub, Int.reduceToNat, Int.reduceLE, Int.reduceLT, Int.reduceEq, Int.reduceNe, reduceCtorEq, Nat.reduceLT, Nat.reduceLeDiff]
      refine call_ev h3 ?_
      simp only [go_sem, Nat.reduceMod, Nat.reduceBNe, Nat.reduceBEq, Nat.reduceEqDiff, Nat.reduceAdd, Int.reduceAdd, Nat.reduceMul, Nat.reduceSub, Int.reduceToNat, Int.reduceLE, Int.reduceLT, Int.reduceEq, Int.reduceNe, reduceCtorEq, Nat.reduceLT, Nat.reduceLeDiff]
      by_cases h0 : e = 0
      · subst h0
        simp only [go_sem, Nat.reduceMod, Nat.reduceBNe, Nat.reduceBEq, Nat.reduceEqDiff, Nat.reduceAdd, Int.reduceAdd, Nat.reduceMul, Nat.reduceSub, Int.reduceToNat, Int.reduceLE, Int.reduceLT, Int.reduceEq, Int.reduceNe, reduceCtorEq, Nat.reduceLT, Nat.reduceLeDiff, List.length_nil]
        refine call_ev (ev_shown hX hs hP hR) ?_
        simp only [go_sem, Nat.reduceMod, Nat.reduceBNe, Nat.reduceBEq, Nat.reduceEqDiff, Nat.reduceAdd, Int.reduceAdd, Nat.reduceMul, Nat.reduceSub, Int.reduceToNat, Int.reduceLE, Int.reduceLT, Int.reduceEq, Int.reduceNe, reduceCtorEq, Nat.reduceLT, Nat.reduceLeDiff]
        exact ⟨⟨_, rfl⟩, rfl⟩
      · simp only [go_sem, Nat.reduceMod, Nat.reduceBNe, Nat.reduceBEq, Nat.reduceEqDiff, Nat.reduceAdd, Int.reduceAdd, Nat.reduceMul, Nat.reduceSub, Int.reduceToNat, Int.reduceLE, Int.reduceLT, Int.reduceEq, Int.reduceNe, reduceCtorEq, Nat.reduceLT, Nat.reduceLeDiff, h0]
        refine call_ev (ev_shown hX hs hP hR) ?_
        simp only [go_sem, Nat.reduceMod, Nat.reduceBNe, Nat.reduceBEq, Nat.reduceEqDiff, Nat.reduceAdd, Int.reduceAdd, Nat.reduceMul, Nat.reduceSub, Int.reduceToNat, Int.reduceLE, Int.reduceLT, Int.reduceEq, Int.reduceNe, reduceCtorEq, Nat.reduceLT, Nat.reduceLeDiff]
        exact ⟨⟨_, rfl⟩, rfl⟩
    · rw [e1] at h2
      rw [e2] at h3
      simp only [go_sem, Nat.reduceMod, Nat.reduceBNe, Nat.reduceBEq, Nat.reduceEqDiff, Nat.reduceAdd, Int.reduceAdd, Nat.reduceMul, Nat.reduceSub, Int.reduceToNat, Int.reduceLE, Int.reduceLT, Int.reduceEq, Int.reduceNe, reduceCtorEq, Nat.reduceLT, Nat.reduceLeDiff]
      refine call_ev h2 ?_
      simp only [go_sem, Nat.reduceMod, Nat.reduceBNe, Nat.reduceBEq, Nat.reduceEqDiff, Nat.reduceAdd, Int.reduceAdd, Nat.reduceMul, Nat.reduceSub, Int.reduceToNat, Int.reduceLE, Int.reduceLT, Int.reduceEq, Int.reduceNe, reduceCtorEq, Nat.reduceLT, Nat.reduceLeDiff]
      refine call_ev h3 ?_
      have z0 : ¬ ((w.length : Nat) : Int) = 0 := by omega
      have z1 : ((w.length : Nat) : Int) = ((t.c.length : Nat) : Int) := by omega
      have hw0 : IntKind.i64.wrap (2 * IntKind.i64.wrap ((w.length : Int) - 1)) = 2 * ((w.length : Int) - 1) := by rw [wi64 (n := (w.length : Int) - 1) (by omega), wi64 (by omega)]
      simp only [go_sem, Nat.reduceMod, Nat.reduceBNe, Nat.reduceBEq, Nat.reduceEqDiff, Nat.reduceAdd, Int.reduceAdd, Nat.reduceMul, Nat.reduceSub, Int.reduceToNat, Int.reduceLE, Int.reduceLT, Int.reduceEq, Int.reduceNe, reduceCtorEq, Nat.reduceLT, Nat.reduceLeDiff, z0, hw0]
      refine ⟨fun h => absurd z1 h, fun _ => ?_⟩
      refine w_loop' hs.hm (ι := Nat) (fun i => i ≤ w.length) (fun i => [(16, .int .i64 i), (13, lst (AV.int .i64) .ro w), (15, .int .i64 (2 * ((w.length : Int) - 1) + (w.take i).sum)), (12, .str s), (3, .ptr 1 0)]) (fun _ => .box [.int .i64 k, .int .i64 r, .int .i64 l0, .int .i64 l1, lst (AV.int .i64) .ro c] :: .box [lst AV.str .ro t.n, lst arrV .ro t.c] :: R) (fun i => w.length - i) 0 ⟨Nat.zero_le _, ⟨rfl, rfl, by simp only [List.take_zero, List.sum_nil, Int.add_zero]; rfl, rfl, rfl, trivial⟩, rfl⟩ fun i hi => ?_
      by_cases hi' : i < w.length
      · have c1 : (i : Int) < w.length := by omega
        have hw : IntKind.i64.wrap ((i : Int) + 1) = ((i + 1 : Nat) : Int) := by rw [wi64 (by omega)]; omega
        have hsr := sum_rng w6 (i + 1) (by omega)
        have hst := sum_take hi'
        have ed : w.getD i default = w.getD i 0 := rfl
        have hw2 : IntKind.i64.wrap (2 * ((w.length : Int) - 1) + (w.take i).sum + w.getD i 0) = 2 * ((w.length : Int) - 1) + (w.take (i + 1)).sum := by rw [hst] at hsr ⊢; rw [wi64 (by omega)]; omega
        simp only [A_law33_FormatAlignedL1, go_sem, Nat.reduceMod, Nat.reduceBNe, Nat.reduceBEq, Nat.reduceEqDiff, Nat.reduceAdd, Int.reduceAdd, Nat.reduceMul, Nat.reduceSub, Int.reduceToNat, Int.reduceLE, Int.reduceLT, Int.reduceEq, Int.reduceNe, reduceCtorEq, Nat.reduceLT, Nat.reduceLeDiff, c1, ed, hw, hw2]
        exact ⟨by omega, i + 1, by omega, hi', rfl, rfl⟩
      · have c1 : ¬ (i : Int) < w.length := by omega
        have ei : i = w.length := by omega
        subst ei
        rw [List.take_length]
        simp only [A_law33_FormatAlignedL1, go_sem, Nat.reduceMod, Nat.reduceBNe, Nat.reduceBEq, Nat.reduceEqDiff, Nat.reduceAdd, Int.reduceAdd, Nat.reduceMul, Nat.reduceSub, Int.reduceToNat, Int.reduceLE, Int.reduceLT, Int.reduceEq, Int.reduceNe, reduceCtorEq, Nat.reduceLT, Nat.reduceLeDiff, c1]
        refine call_ev (ev_lengths hX hs s w7) ?_
        rw [w5]
        generalize hm : 2 * ((w.length : Int) - 1) + w.sum = m
        have hll : (List.replicate (2 + (t.col 0).c.length) m).length = 2 + (t.col 0).c.length := List.length_replicate
        have hrl : ∀ i, i < 2 + (t.col 0).c.length → (List.replicate (2 + (t.col 0).c.length) m).getD i default = m := fun i hi => by
          rw [List.getD_eq_getElem?_getD, List.getElem?_eq_getElem (by rw [List.length_replicate]; exact hi)]
          simp
        generalize List.replicate (2 + (t.col 0).c.length) m = L at hll hrl
        simp only [go_sem, Nat.reduceMod, Nat.reduceBNe, Nat.reduceBEq, Nat.reduceEqDiff, Nat.reduceAdd, Int.reduceAdd, Nat.reduceMul, Nat.reduceSub, Int.reduceToNat, Int.reduceLE, Int.reduceLT, Int.reduceEq, Int.reduceNe, reduceCtorEq, Nat.reduceLT, Nat.reduceLeDiff]
        refine w_loop' hs.hm (ι := Nat) (fun i => i ≤ L.length) (fun i => [(18, .int .i64 i), (17, lst (AV.int .i64) .ro L), (15, .int .i64 m), (3, .ptr 1 0)]) (fun _ => .box [.int .i64 k, .int .i64 r, .int .i64 l0, .int .i64 l1, lst (AV.int .i64) .ro c] :: .box [lst AV.str .ro t.n, lst arrV .ro t.c] :: R) (fun i => L.length - i) 0 ⟨Nat.zero_le _, ⟨rfl, rfl, rfl, rfl, trivial⟩, rfl⟩ fun i hi => ?_
        by_cases hi2 : i < L.length
        · have c1 : (i : Int) < L.length := by omega
          have hw : IntKind.i64.wrap ((i : Int) + 1) = ((i + 1 : Nat) : Int) := by rw [wi64 (by omega)]; omega
          simp only [A_law33_FormatAlignedL2, go_sem, Nat.reduceMod, Nat.reduceBNe, Nat.reduceBEq, Nat.reduceEqDiff, Nat.reduceAdd, Int.reduceAdd, Nat.reduceMul, Nat.reduceSub, Int.reduceToNat, Int.reduceLE, Int.reduceLT, Int.reduceEq, Int.reduceNe, reduceCtorEq, Nat.reduceLT, Nat.reduceLeDiff, c1, hrl i (by omega), hw]
          exact ⟨by omega, i + 1, by omega, hi2, rfl⟩
        · have c1 : ¬ (i : Int) < L.length := by omega
          simp only [A_law33_FormatAlignedL2, go_sem, Nat.reduceMod, Nat.reduceBNe, Nat.reduceBEq, Nat.reduceEqDiff, Nat.reduceAdd, Int.reduceAdd, Nat.reduceMul, Nat.reduceSub, Int.reduceToNat, Int.reduceLE, Int.reduceLT, Int.reduceEq, Int.reduceNe, reduceCtorEq, Nat.reduceLT, Nat.reduceLeDiff, c1]
          have hw : IntKind.i64.wrap (2 + ((t.col 0).c.length : Int)) = (L.length : Int) := by rw [wi64 (by omega), hll]; omega
          have ec : t.c.getD 0 default = t.col 0 := col_eq t 0 w2 _
          rw [ec]
          refine ⟨by omega, ?_⟩
          simp only [arr_cells, go_sem, Nat.reduceMod, Nat.reduceBNe, Nat.reduceBEq, Nat.reduceEqDiff, Nat.reduceAdd, Int.reduceAdd, Nat.reduceMul, Nat.reduceSub, Int.reduceToNat, Int.reduceLE, Int.reduceLT, Int.reduceEq, Int.reduceNe, reduceCtorEq, Nat.reduceLT, Nat.reduceLeDiff, hw]
          refine call_ev (ev_shown hX hs hP hR) ?_
          simp only [go_sem, Nat.reduceMod, Nat.reduceBNe, Nat.reduceBEq, Nat.reduceEqDiff, Nat.reduceAdd, Int.reduceAdd, Nat.reduceMul, Nat.reduceSub, Int.reduceToNat, Int.reduceLE, Int.reduceLT, Int.reduceEq, Int.reduceNe, reduceCtorEq, Nat.reduceLT, Nat.reduceLeDiff]
          exact ⟨⟨_, rfl⟩, rfl⟩
end
theorem ev_LAligned {X : Cx} (hX : X.P = Go.Proofs.Tryz.prog) (hs : Std X) (he : GEnv X) (a : Lat.Arr) (t : Go.Tb.Tab) (hv : ∀ v ∈ a.c, -9223372036854775808 ≤ v ∧ v ≤ 9223372036854775807) (hvt : ∀ a ∈ t.c, ∀ v ∈ a.c, -9223372036854775808 ≤ v ∧ v ≤ 9223372036854775807) : Ev X F_law33_FormatAligned [arrV a, tabV t] (.bool true) := by
  obtain ⟨hP, te, hR⟩ := he
  exact ev_FormatAligned hX hs hP hR a t hv hvt
end Go.Avm
