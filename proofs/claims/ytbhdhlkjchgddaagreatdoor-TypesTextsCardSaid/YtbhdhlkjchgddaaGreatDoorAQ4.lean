/- The program: types. -/
import Derived.Test.YtbhdhlkjchgddaaGreatDoorAQ3
set_option linter.unusedSectionVars false
set_option linter.unusedSimpArgs false
set_option linter.unusedVariables false

/- The program: types. -/
namespace Go.Avm
open Go
def ordC' (ns : List (List UInt8)) (up : List UInt8) : AV := ordT (if (Lat.checkS ns up).2 = 0 then ns else []) (if (Lat.checkS ns up).2 = 0 then up else []) (if (Lat.checkS ns up).2 = 0 then (Lat.bot ns.length up : Nat) else 0)
theorem tyS_1 {ns : List (List UInt8)} {up : List UInt8} {t : Lat.Ty} (h : ¬ (Lat.checkS ns up).2 = 0) : Lat.tyS ns up t = (Lat.checkS ns up).2 := if_pos h
theorem tyS_2 {ns : List (List UInt8)} {up : List UInt8} {t : Lat.Ty} (h : (Lat.checkS ns up).2 = 0) : Lat.tyS ns up t = Lat.goodS ns.length up t := if_neg (fun x => x h)
theorem ty_beq (x y : Lat.Ty) : (x.k == y.k && (x.r == y.r && (x.a0 == y.a0 && (x.a1 == y.a1 && x.d == y.d)))) = decide (x = y) := by
  rw [Bool.eq_iff_iff]
  cases x
  cases y
  simp
section
variable {X : Cx} (hX : X.P = Go.Proofs.Tryz.prog) (hs : Std X)
include hX hs
theorem ev_t_Check (ns : List (List UInt8)) (up : List UInt8) (t : Lat.Ty) : Ev X F_types_Check [latV ns up, tyV t] (.int .i64 (Lat.tyS ns up t)) := by
  refine ev_of_wpc hs (A_types_Check_ok hX) 1 ?_
  simp only [A_types_Check, latV, tyV, go_sem, Nat.reduceMod, Nat.reduceBNe, Nat.reduceBEq, Nat.reduceEqDiff, Nat.reduceAdd, Int.reduceAdd, Nat.reduceMul, Nat.reduceSub, Int.reduceToNat, Int.reduceLE, Int.reduceLT, Int.reduceEq, Int.reduceNe, reduceCtorEq, Nat.reduceLT, Nat.reduceLeDiff]
  refine call_ev (ev_t_of hX hs ns up) ?_
  by_cases h : (Lat.checkS ns up).2 = 0
  · simp only [h, ordT, go_sem, Nat.reduceMod, Nat.reduceBNe, Nat.reduceBEq, Nat.reduceEqDiff, Nat.reduceAdd, Int.reduceAdd, Nat.reduceMul, Nat.reduceSub, Int.reduceToNat, Int.reduceLE, Int.reduceLT, Int.reduceEq, Int.reduceNe, reduceCtorEq, Nat.reduceLT, Nat.reduceLeDiff, tyS_2 h]
    refine call_ev (ev_t_check hX hs ns up (Lat.checkS_val h).2 t) ?_
    simp only [go_sem, Nat.reduceMod, Nat.reduceBNe, Nat.reduceBEq, Nat.reduceEqDiff, Nat.reduceAdd, Int.reduceAdd, Nat.reduceMul, Nat.reduceSub, Int.reduceToNat, Int.reduceLE, Int.reduceLT, Int.reduceEq, Int.reduceNe, reduceCtorEq, Nat.reduceLT, Nat.reduceLeDiff]
  · simp only [h, ordT, go_sem, Nat.reduceMod, Nat.reduceBNe, Nat.reduceBEq, Nat.reduceEqDiff, Nat.reduceAdd, Int.reduceAdd, Nat.reduceMul, Nat.reduceSub, Int.reduceToNat, Int.reduceLE, Int.reduceLT, Int.reduceEq, Int.reduceNe, reduceCtorEq, Nat.reduceLT, Nat.reduceLeDiff, tyS_1 h]
theorem ev_t_both (ns : List (List UInt8)) (up : List UInt8) (a b : Lat.Ty) : Ev X F_types_both [latV ns up, tyV a, tyV b] (.tuple [ordC' ns up, .int .i64 (Lat.bothS ns up a b)]) := by
  refine ev_of_wpcd hs (A_types_both_ok hX) 1 ?_
  simp only [A_types_both, latV, tyV, go_sem, Nat.reduceMod, Nat.reduceBNe, Nat.reduceBEq, Nat.reduceEqDiff, Nat.reduceAdd, Int.reduceAdd, Nat.reduceMul, Nat.reduceSub, Int.reduceToNat, Int.reduceLE, Int.reduceLT, Int.reduceEq, Int.reduceNe, reduceCtorEq, Nat.reduceLT, Nat.reduceLeDiff]
  refine call_ev (ev_t_of hX hs ns up) ?_
  by_cases h : (Lat.checkS ns up).2 = 0
  · have hv := (Lat.checkS_val h).2
    simp only [h, ordC', ordT, Lat.bothS, go_sem, Nat.reduceMod, Nat.reduceBNe, Nat.reduceBEq, Nat.reduceEqDiff, Nat.reduceAdd, Int.reduceAdd, Nat.reduceMul, Nat.reduceSub, Int.reduceToNat, Int.reduceLE, Int.reduceLT, Int.reduceEq, Int.reduceNe, reduceCtorEq, Nat.reduceLT, Nat.reduceLeDiff, tyS_2 h]
    refine call_ev (ev_t_check hX hs ns up hv a) ?_
    by_cases ga : Lat.goodS ns.length up a = 0
    · simp only [ga, go_sem, Nat.reduceMod, Nat.reduceBNe, Nat.reduceBEq, Nat.reduceEqDiff, Nat.reduceAdd, Int.reduceAdd, Nat.reduceMul, Nat.reduceSub, Int.reduceToNat, Int.reduceLE, Int.reduceLT, Int.reduceEq, Int.reduceNe, reduceCtorEq, Nat.reduceLT, Nat.reduceLeDiff]
      refine call_ev (ev_t_check hX hs ns up hv b) ?_
      by_cases gb : Lat.goodS ns.length up b = 0
      · simp only [gb, go_sem, Nat.reduceMod, Nat.reduceBNe, Nat.reduceBEq, Nat.reduceEqDiff, Nat.reduceAdd, Int.reduceAdd, Nat.reduceMul, Nat.reduceSub, Int.reduceToNat, Int.reduceLE, Int.reduceLT, Int.reduceEq, Int.reduceNe, reduceCtorEq, Nat.reduceLT, Nat.reduceLeDiff, ne_eq]
        refine ⟨fun e => ?_, fun e => ⟨fun e2 => ?_, fun e2 => ?_⟩⟩
        · simp only [e, go_sem, Nat.reduceMod, Nat.reduceBNe, Nat.reduceBEq, Nat.reduceEqDiff, Nat.reduceAdd, Int.reduceAdd, Nat.reduceMul, Nat.reduceSub, Int.reduceToNat, Int.reduceLE, Int.reduceLT, Int.reduceEq, Int.reduceNe, reduceCtorEq, Nat.reduceLT, Nat.reduceLeDiff]; rfl
        · simp only [e, e2, go_sem, Nat.reduceMod, Nat.reduceBNe, Nat.reduceBEq, Nat.reduceEqDiff, Nat.reduceAdd, Int.reduceAdd, Nat.reduceMul, Nat.reduceSub, Int.reduceToNat, Int.reduceLE, Int.reduceLT, Int.reduceEq, Int.reduceNe, reduceCtorEq, Nat.reduceLT, Nat.reduceLeDiff]; rfl
        · simp only [e, e2, go_sem, Nat.reduceMod, Nat.reduceBNe, Nat.reduceBEq, Nat.reduceEqDiff, Nat.reduceAdd, Int.reduceAdd, Nat.reduceMul, Nat.reduceSub, Int.reduceToNat, Int.reduceLE, Int.reduceLT, Int.reduceEq, Int.reduceNe, reduceCtorEq, Nat.reduceLT, Nat.reduceLeDiff]; rfl
      · simp only [gb, go_sem, Nat.reduceMod, Nat.reduceBNe, Nat.reduceBEq, Nat.reduceEqDiff, Nat.reduceAdd, Int.reduceAdd, Nat.reduceMul, Nat.reduceSub, Int.reduceToNat, Int.reduceLE, Int.reduceLT, Int.reduceEq, Int.reduceNe, reduceCtorEq, Nat.reduceLT, Nat.reduceLeDiff, ne_eq]; rfl
    · simp only [ga, go_sem, Nat.reduceMod, Nat.reduceBNe, Nat.reduceBEq, Nat.reduceEqDiff, Nat.reduceAdd, Int.reduceAdd, Nat.reduceMul, Nat.reduceSub, Int.reduceToNat, Int.reduceLE, Int.reduceLT, Int.reduceEq, Int.reduceNe, reduceCtorEq, Nat.reduceLT, Nat.reduceLeDiff, ne_eq]; rfl
  · simp only [h, ordC', ordT, Lat.bothS, go_sem, Nat.reduceMod, Nat.reduceBNe, Nat.reduceBEq, Nat.reduceEqDiff, Nat.reduceAdd, Int.reduceAdd, Nat.reduceMul, Nat.reduceSub, Int.reduceToNat, Int.reduceLE, Int.reduceLT, Int.reduceEq, Int.reduceNe, reduceCtorEq, Nat.reduceLT, Nat.reduceLeDiff, tyS_1 h, ne_eq]
    rfl
theorem ev_t_Join (ns : List (List UInt8)) (up : List UInt8) (a b : Lat.Ty) : Ev X F_types_Join [latV ns up, tyV a, tyV b] (.tuple [tyV (Lat.joinS ns up a b), .int .i64 (Lat.bothS ns up a b)]) := by
  refine ev_of_wpc hs (A_types_Join_ok hX) 1 ?_
  simp only [A_types_Join, latV, tyV, go_sem, Nat.reduceMod, Nat.reduceBNe, Nat.reduceBEq, Nat.reduceEqDiff, Nat.reduceAdd, Int.reduceAdd, Nat.reduceMul, Nat.reduceSub, Int.reduceToNat, Int.reduceLE, Int.reduceLT, Int.reduceEq, Int.reduceNe, reduceCtorEq, Nat.reduceLT, Nat.reduceLeDiff]
  refine call_ev (ev_t_both hX hs ns up a b) ?_
  by_cases h : Lat.bothS ns up a b = 0
  · obtain ⟨h1, h2, h3, h4⟩ := Lat.bothS_0.1 h
    obtain ⟨hc, hv, ga⟩ := Lat.tyS_0 h1
    obtain ⟨_, _, gb⟩ := Lat.tyS_0 h2
    simp only [h, ordC', hc, ordT, go_sem, Nat.reduceMod, Nat.reduceBNe, Nat.reduceBEq, Nat.reduceEqDiff, Nat.reduceAdd, Int.reduceAdd, Nat.reduceMul, Nat.reduceSub, Int.reduceToNat, Int.reduceLE, Int.reduceLT, Int.reduceEq, Int.reduceNe, reduceCtorEq, Nat.reduceLT, Nat.reduceLeDiff]
    refine callq_ev (ev_t_join hX hs ns up _ hv ga.l0 gb.l0) ?_
    simp only [go_sem, Nat.reduceMod, Nat.reduceBNe, Nat.reduceBEq, Nat.reduceEqDiff, Nat.reduceAdd, Int.reduceAdd, Nat.reduceMul, Nat.reduceSub, Int.reduceToNat, Int.reduceLE, Int.reduceLT, Int.reduceEq, Int.reduceNe, reduceCtorEq, Nat.reduceLT, Nat.reduceLeDiff]
    refine callq_ev (ev_t_join hX hs ns up _ hv ga.l1 gb.l1) ?_
    simp only [go_sem, Nat.reduceMod, Nat.reduceBNe, Nat.reduceBEq, Nat.reduceEqDiff, Nat.reduceAdd, Int.reduceAdd, Nat.reduceMul, Nat.reduceSub, Int.reduceToNat, Int.reduceLE, Int.reduceLT, Int.reduceEq, Int.reduceNe, reduceCtorEq, Nat.reduceLT, Nat.reduceLeDiff]
    refine call_ev (ev_t_join hX hs ns up _ hv ga.ld gb.ld) ?_
    simp only [go_sem, Nat.reduceMod, Nat.reduceBNe, Nat.reduceBEq, Nat.reduceEqDiff, Nat.reduceAdd, Int.reduceAdd, Nat.reduceMul, Nat.reduceSub, Int.reduceToNat, Int.reduceLE, Int.reduceLT, Int.reduceEq, Int.reduceNe, reduceCtorEq, Nat.reduceLT, Nat.reduceLeDiff, Lat.joinS, h, Lat.joinT]
  · simp only [h, ordC', ordT, go_sem, Nat.reduceMod, Nat.reduceBNe, Nat.reduceBEq, Nat.reduceEqDiff, Nat.reduceAdd, Int.reduceAdd, Nat.reduceMul, Nat.reduceSub, Int.reduceToNat, Int.reduceLE, Int.reduceLT, Int.reduceEq, Int.reduceNe, reduceCtorEq, Nat.reduceLT, Nat.reduceLeDiff, Lat.joinS, Lat.zeroT]
theorem ev_t_Within (ns : List (List UInt8)) (up : List UInt8) (a b : Lat.Ty) : Ev X F_types_Within [latV ns up, tyV a, tyV b] (.tuple [.bool (Lat.withinS ns up a b), .int .i64 (Lat.bothS ns up a b)]) := by
  refine ev_of_wpc hs (A_types_Within_ok hX) 1 ?_
  simp only [A_types_Within, latV, tyV, go_sem, Nat.reduceMod, Nat.reduceBNe, Nat.reduceBEq, Nat.reduceEqDiff, Nat.reduceAdd, Int.reduceAdd, Nat.reduceMul, Nat.reduceSub, Int.reduceToNat, Int.reduceLE, Int.reduceLT, Int.reduceEq, Int.reduceNe, reduceCtorEq, Nat.reduceLT, Nat.reduceLeDiff]
  refine call_ev (ev_t_Join hX hs ns up a b) ?_
  by_cases h : Lat.bothS ns up a b = 0
  · obtain ⟨h1, h2, h3, h4⟩ := Lat.bothS_0.1 h
    obtain ⟨hc, hv, ga⟩ := Lat.tyS_0 h1
    obtain ⟨_, _, gb⟩ := Lat.tyS_0 h2
    have e := Lat.join_within hv ga gb h3 h4
    simp only [h, tyV, Lat.joinS, Lat.withinS, go_sem, Nat.reduceMod, Nat.reduceBNe, Nat.reduceBEq, Nat.reduceEqDiff, Nat.reduceAdd, Int.reduceAdd, Nat.reduceMul, Nat.reduceSub, Int.reduceToNat, Int.reduceLE, Int.reduceLT, Int.reduceEq, Int.reduceNe, reduceCtorEq, Nat.reduceLT, Nat.reduceLeDiff]
    rw [← e, ty_beq]
  · simp only [h, tyV, go_sem, Nat.reduceMod, Nat.reduceBNe, Nat.reduceBEq, Nat.reduceEqDiff, Nat.reduceAdd, Int.reduceAdd, Nat.reduceMul, Nat.reduceSub, Int.reduceToNat, Int.reduceLE, Int.reduceLT, Int.reduceEq, Int.reduceNe, reduceCtorEq, Nat.reduceLT, Nat.reduceLeDiff, Lat.withinS]
theorem ev_t_up (ns : List (List UInt8)) (up : List UInt8) (b : Int) (hv : Lat.Val ns.length up) {x y : Int} (hx : Lat.lab ns.length x = true) (hy : Lat.lab ns.length y = true) : Ev X F_types_with_up [.agg [lst AV.str .ro ns, lst u8 .ro up, .int .i64 b, .int .i64 y], .int .i64 x] (.int .i64 (Lat.jnI ns.length up x y)) := by
  refine ev_of_wpc hs (A_types_with_up_ok hX) 1 ?_
  simp only [A_types_with_up, go_sem, Nat.reduceMod, Nat.reduceBNe, Nat.reduceBEq, Nat.reduceEqDiff, Nat.reduceAdd, Int.reduceAdd, Nat.reduceMul, Nat.reduceSub, Int.reduceToNat, Int.reduceLE, Int.reduceLT, Int.reduceEq, Int.reduceNe, reduceCtorEq, Nat.reduceLT, Nat.reduceLeDiff]
  refine call_ev (ev_t_join hX hs ns up b hv hx hy) ?_
  simp only [go_sem, Nat.reduceMod, Nat.reduceBNe, Nat.reduceBEq, Nat.reduceEqDiff, Nat.reduceAdd, Int.reduceAdd, Nat.reduceMul, Nat.reduceSub, Int.reduceToNat, Int.reduceLE, Int.reduceLT, Int.reduceEq, Int.reduceNe, reduceCtorEq, Nat.reduceLT, Nat.reduceLeDiff]
theorem ev_t_each (t : Lat.Ty) (hr : 0 ≤ t.r ∧ t.r ≤ 2) (f : Nat) (fs cs : List AV) (hf : dryL fs = fs) (hc : dryL cs = cs) (p : Int → Int) (h0 : Ev X f (fs ++ [.int .i64 t.a0] ++ cs) (.int .i64 (p t.a0))) (h1 : Ev X f (fs ++ [.int .i64 t.a1] ++ cs) (.int .i64 (p t.a1))) (h2 : Ev X f (fs ++ [.int .i64 t.d] ++ cs) (.int .i64 (p t.d))) :
    Ev X F_types_each [tyV t, .clo f fs cs] (tyV { t with a0 := if 1 ≤ t.r then p t.a0 else t.a0, a1 := if 2 ≤ t.r then p t.a1 else t.a1, d := p t.d }) := by
  obtain ⟨k, r, a0, a1, d⟩ := t
  obtain ⟨n, rfl⟩ : ∃ n : Nat, r = n := ⟨r.toNat, by simp only at hr; omega⟩
  have hn : n ≤ 2 := by simp only at hr; omega
  have hd : ∀ x : AV, dry x = x → dryL (fs ++ [x] ++ cs) = fs ++ [x] ++ cs := fun x hx => by
    simp only [dryL_map, List.map_append, List.map_cons, List.map_nil, hx] at hf hc ⊢
    rw [hf, hc]
  simp only at h0 h1 h2
  refine ev_of_wpc hs (A_types_each_ok hX) 1 ?_
  simp only [A_types_each, tyV, go_sem, Nat.reduceMod, Nat.reduceBNe, Nat.reduceBEq, Nat.reduceEqDiff, Nat.reduceAdd, Int.reduceAdd, Nat.reduceMul, Nat.reduceSub, Int.reduceToNat, Int.reduceLE, Int.reduceLT, Int.reduceEq, Int.reduceNe, reduceCtorEq, Nat.reduceLT, Nat.reduceLeDiff]
  refine w_loop' hs.hm (ι := Nat) (fun i => i ≤ n) (fun i => [(8, .int .i64 i), (7, .int .i64 n), (1, .clo f fs cs), (2, .ptr 0 0), (4, .ptr 1 0)]) (fun i => [.box [.int .i64 k, .int .i64 n, .int .i64 (if 1 ≤ i then p a0 else a0), .int .i64 (if 2 ≤ i then p a1 else a1), .int .i64 d], .box [.int .i64 0, .int .i64 0, .int .i64 0, .int .i64 0, .int .i64 0]]) (fun i => n - i) 0 ?_ fun i hi => ?_
  · simp only [go_sem, Nat.reduceMod, Nat.reduceBNe, Nat.reduceBEq, Nat.reduceEqDiff, Nat.reduceAdd, Int.reduceAdd, Nat.reduceMul, Nat.reduceSub, Int.reduceToNat, Int.reduceLE, Int.reduceLT, Int.reduceEq, Int.reduceNe, reduceCtorEq, Nat.reduceLT, Nat.reduceLeDiff]
    exact Nat.zero_le _
  · simp only [A_types_eachL0, go_sem, Nat.reduceMod, Nat.reduceBNe, Nat.reduceBEq, Nat.reduceEqDiff, Nat.reduceAdd, Int.reduceAdd, Nat.reduceMul, Nat.reduceSub, Int.reduceToNat, Int.reduceLE, Int.reduceLT, Int.reduceEq, Int.reduceNe, reduceCtorEq, Nat.reduceLT, Nat.reduceLeDiff]
    refine ⟨fun c => ?_, fun c => ?_⟩
    · have : i = 0 ∨ i = 1 := by omega
      rcases this with rfl | rfl
      · simp only [go_sem, Nat.reduceMod, Nat.reduceBNe, Nat.reduceBEq, Nat.reduceEqDiff, Nat.reduceAdd, Int.reduceAdd, Nat.reduceMul, Nat.reduceSub, Int.reduceToNat, Int.reduceLE, Int.reduceLT, Int.reduceEq, Int.reduceNe, reduceCtorEq, Nat.reduceLT, Nat.reduceLeDiff]
        refine call_ev (r := .int .i64 (p a0)) (by rw [hd _ rfl]; exact h0) ?_
        simp only [go_sem, Nat.reduceMod, Nat.reduceBNe, Nat.reduceBEq, Nat.reduceEqDiff, Nat.reduceAdd, Int.reduceAdd, Nat.reduceMul, Nat.reduceSub, Int.reduceToNat, Int.reduceLE, Int.reduceLT, Int.reduceEq, Int.reduceNe, reduceCtorEq, Nat.reduceLT, Nat.reduceLeDiff]
        exact ⟨1, by omega, by omega, rfl, rfl⟩
      · simp only [go_sem, Nat.reduceMod, Nat.reduceBNe, Nat.reduceBEq, Nat.reduceEqDiff, Nat.reduceAdd, Int.reduceAdd, Nat.reduceMul, Nat.reduceSub, Int.reduceToNat, Int.reduceLE, Int.reduceLT, Int.reduceEq, Int.reduceNe, reduceCtorEq, Nat.reduceLT, Nat.reduceLeDiff]
        refine call_ev (r := .int .i64 (p a1)) (by rw [hd _ rfl]; exact h1) ?_
        simp only [go_sem, Nat.reduceMod, Nat.reduceBNe, Nat.reduceBEq, Nat.reduceEqDiff, Nat.reduceAdd, Int.reduceAdd, Nat.reduceMul, Nat.reduceSub, Int.reduceToNat, Int.reduceLE, Int.reduceLT, Int.reduceEq, Int.reduceNe, reduceCtorEq, Nat.reduceLT, Nat.reduceLeDiff]
        exact ⟨2, by omega, by omega, rfl, rfl⟩
    · obtain rfl : i = n := by omega
      refine call_ev (r := .int .i64 (p d)) (by rw [hd _ rfl]; exact h2) ?_
      simp only [go_sem, Nat.reduceMod, Nat.reduceBNe, Nat.reduceBEq, Nat.reduceEqDiff, Nat.reduceAdd, Int.reduceAdd, Nat.reduceMul, Nat.reduceSub, Int.reduceToNat, Int.reduceLE, Int.reduceLT, Int.reduceEq, Int.reduceNe, reduceCtorEq, Nat.reduceLT, Nat.reduceLeDiff]
      have e1 : (1 ≤ (i : Int)) = (1 ≤ i) := by rw [eq_iff_iff]; omega
      have e2 : (2 ≤ (i : Int)) = (2 ≤ i) := by rw [eq_iff_iff]; omega
      simp only [e1, e2]
theorem ev_t_Raise (ns : List (List UInt8)) (up : List UInt8) (t : Lat.Ty) (l : Int) : Ev X F_types_Raise [latV ns up, tyV t, .int .i64 l] (.tuple [tyV (Lat.raiseS ns up t l), .int .i64 (Lat.raiseE ns up t l)]) := by
  refine ev_of_wpc hs (A_types_Raise_ok hX) 1 ?_
  simp only [A_types_Raise, latV, tyV, go_sem, Nat.reduceMod, Nat.reduceBNe, Nat.reduceBEq, Nat.reduceEqDiff, Nat.reduceAdd, Int.reduceAdd, Nat.reduceMul, Nat.reduceSub, Int.reduceToNat, Int.reduceLE, Int.reduceLT, Int.reduceEq, Int.reduceNe, reduceCtorEq, Nat.reduceLT, Nat.reduceLeDiff]
  refine call_ev (ev_t_of hX hs ns up) ?_
  by_cases h : (Lat.checkS ns up).2 = 0
  · have hv := (Lat.checkS_val h).2
    simp only [h, ordT, go_sem, Nat.reduceMod, Nat.reduceBNe, Nat.reduceBEq, Nat.reduceEqDiff, Nat.reduceAdd, Int.reduceAdd, Nat.reduceMul, Nat.reduceSub, Int.reduceToNat, Int.reduceLE, Int.reduceLT, Int.reduceEq, Int.reduceNe, reduceCtorEq, Nat.reduceLT, Nat.reduceLeDiff, Lat.raiseS, Lat.raiseE, tyS_2 h, ne_eq]
    refine call_ev (ev_t_check hX hs ns up hv t) ?_
    by_cases g : Lat.goodS ns.length up t = 0
    · have gg := (Lat.goodS_0 hv).1 g
      simp only [g, go_sem, Nat.reduceMod, Nat.reduceBNe, Nat.reduceBEq, Nat.reduceEqDiff, Nat.reduceAdd, Int.reduceAdd, Nat.reduceMul, Nat.reduceSub, Int.reduceToNat, Int.reduceLE, Int.reduceLT, Int.reduceEq, Int.reduceNe, reduceCtorEq, Nat.reduceLT, Nat.reduceLeDiff]
      refine call_ev (ev_t_label hX hs ns up _ l) ?_
      cases e : Lat.lab ns.length l with
      | false => simp only [go_sem, Nat.reduceMod, Nat.reduceBNe, Nat.reduceBEq, Nat.reduceEqDiff, Nat.reduceAdd, Int.reduceAdd, Nat.reduceMul, Nat.reduceSub, Int.reduceToNat, Int.reduceLE, Int.reduceLT, Int.reduceEq, Int.reduceNe, reduceCtorEq, Nat.reduceLT, Nat.reduceLeDiff, Lat.zeroT]
      | true =>
        simp only [go_sem, Nat.reduceMod, Nat.reduceBNe, Nat.reduceBEq, Nat.reduceEqDiff, Nat.reduceAdd, Int.reduceAdd, Nat.reduceMul, Nat.reduceSub, Int.reduceToNat, Int.reduceLE, Int.reduceLT, Int.reduceEq, Int.reduceNe, reduceCtorEq, Nat.reduceLT, Nat.reduceLeDiff]
        refine call_ev (ev_t_each hX hs t gg.r F_types_with_up [.agg [lst AV.str .ro ns, lst u8 .ro up, .int .i64 (Lat.bot ns.length up : Nat), .int .i64 l]] [] rfl rfl (fun x => Lat.jnI ns.length up x l) (ev_t_up hX hs ns up _ hv gg.l0 e) (ev_t_up hX hs ns up _ hv gg.l1 e) (ev_t_up hX hs ns up _ hv gg.ld e)) ?_
        simp only [go_sem, Nat.reduceMod, Nat.reduceBNe, Nat.reduceBEq, Nat.reduceEqDiff, Nat.reduceAdd, Int.reduceAdd, Nat.reduceMul, Nat.reduceSub, Int.reduceToNat, Int.reduceLE, Int.reduceLT, Int.reduceEq, Int.reduceNe, reduceCtorEq, Nat.reduceLT, Nat.reduceLeDiff, tyV, Bool.true_eq_false, Lat.raiseT]
    · simp only [g, go_sem, Nat.reduceMod, Nat.reduceBNe, Nat.reduceBEq, Nat.reduceEqDiff, Nat.reduceAdd, Int.reduceAdd, Nat.reduceMul, Nat.reduceSub, Int.reduceToNat, Int.reduceLE, Int.reduceLT, Int.reduceEq, Int.reduceNe, reduceCtorEq, Nat.reduceLT, Nat.reduceLeDiff, Lat.zeroT]
  · simp only [h, ordT, go_sem, Nat.reduceMod, Nat.reduceBNe, Nat.reduceBEq, Nat.reduceEqDiff, Nat.reduceAdd, Int.reduceAdd, Nat.reduceMul, Nat.reduceSub, Int.reduceToNat, Int.reduceLE, Int.reduceLT, Int.reduceEq, Int.reduceNe, reduceCtorEq, Nat.reduceLT, Nat.reduceLeDiff, Lat.raiseS, Lat.raiseE, tyS_1 h, Lat.zeroT, ne_eq]
end
end Go.Avm

/- The program: shapes, arrays, what is seen. -/
namespace Go.Avm
open Go
def arrV (a : Lat.Arr) : AV := .agg [.int .i64 a.k, .int .i64 a.r, .int .i64 a.l0, .int .i64 a.l1, lst (AV.int .i64) .ro a.c]
section
variable {X : Cx} (hX : X.P = Go.Proofs.Tryz.prog) (hs : Std X)
include hX hs
theorem ev_t_Sees (ns : List (List UInt8)) (up : List UInt8) (t : Lat.Ty) (o : Int) : Ev X F_types_Sees [latV ns up, tyV t, .int .i64 o] (.tuple [.agg [.bool (decide (Lat.raiseE ns up t o = 0) && Lat.ax0 up t o), .bool (decide (Lat.raiseE ns up t o = 0) && Lat.ax1 up t o)], .bool (decide (Lat.raiseE ns up t o = 0) && Lat.seesC up t o), .int .i64 (Lat.raiseE ns up t o)]) := by
  refine ev_of_wpc hs (A_types_Sees_ok hX) 1 ?_
  simp only [A_types_Sees, latV, tyV, go_sem, Nat.reduceMod, Nat.reduceBNe, Nat.reduceBEq, Nat.reduceEqDiff, Nat.reduceAdd, Int.reduceAdd, Nat.reduceMul, Nat.reduceSub, Int.reduceToNat, Int.reduceLE, Int.reduceLT, Int.reduceEq, Int.reduceNe, reduceCtorEq, Nat.reduceLT, Nat.reduceLeDiff]
  refine call_ev (ev_t_of hX hs ns up) ?_
  by_cases h : (Lat.checkS ns up).2 = 0
  · have hv := (Lat.checkS_val h).2
    simp only [h, ordT, go_sem, Nat.reduceMod, Nat.reduceBNe, Nat.reduceBEq, Nat.reduceEqDiff, Nat.reduceAdd, Int.reduceAdd, Nat.reduceMul, Nat.reduceSub, Int.reduceToNat, Int.reduceLE, Int.reduceLT, Int.reduceEq, Int.reduceNe, reduceCtorEq, Nat.reduceLT, Nat.reduceLeDiff, Lat.raiseE, tyS_2 h, ne_eq]
    refine call_ev (ev_t_check hX hs ns up hv t) ?_
    by_cases g : Lat.goodS ns.length up t = 0
    · have gg := (Lat.goodS_0 hv).1 g
      simp only [g, go_sem, Nat.reduceMod, Nat.reduceBNe, Nat.reduceBEq, Nat.reduceEqDiff, Nat.reduceAdd, Int.reduceAdd, Nat.reduceMul, Nat.reduceSub, Int.reduceToNat, Int.reduceLE, Int.reduceLT, Int.reduceEq, Int.reduceNe, reduceCtorEq, Nat.reduceLT, Nat.reduceLeDiff]
      refine call_ev (ev_t_label hX hs ns up _ o) ?_
      cases e : Lat.lab ns.length o with
      | false => simp only [go_sem, Nat.reduceMod, Nat.reduceBNe, Nat.reduceBEq, Nat.reduceEqDiff, Nat.reduceAdd, Int.reduceAdd, Nat.reduceMul, Nat.reduceSub, Int.reduceToNat, Int.reduceLE, Int.reduceLT, Int.reduceEq, Int.reduceNe, reduceCtorEq, Nat.reduceLT, Nat.reduceLeDiff]
      | true =>
        simp only [go_sem, Nat.reduceMod, Nat.reduceBNe, Nat.reduceBEq, Nat.reduceEqDiff, Nat.reduceAdd, Int.reduceAdd, Nat.reduceMul, Nat.reduceSub, Int.reduceToNat, Int.reduceLE, Int.reduceLT, Int.reduceEq, Int.reduceNe, reduceCtorEq, Nat.reduceLT, Nat.reduceLeDiff, Bool.true_eq_false]
        obtain ⟨k, r, a0, a1, d⟩ := t
        obtain ⟨n, rfl⟩ : ∃ n : Nat, r = n := ⟨r.toNat, by have := gg.r; simp only at this; omega⟩
        have hn : n ≤ 2 := by have := gg.r; simp only at this; omega
        have eL := e
        rw [← hv.len] at eL
        have l0 : Lat.lab up.length a0 = true := by rw [hv.len]; exact gg.l0
        have l1 : Lat.lab up.length a1 = true := by rw [hv.len]; exact gg.l1
        have ld : Lat.lab up.length d = true := by rw [hv.len]; exact gg.ld
        refine w_loop' hs.hm (ι := Nat) (fun i => i ≤ n) (fun i => [(35, .int .i64 i), (34, .int .i64 n), (9, .ptr 3 0), (4, .ptr 1 0), (6, .ptr 2 0), (2, .int .i64 o)]) (fun i => [.box [lst AV.str .ro ns, lst u8 .ro up], .box [.int .i64 k, .int .i64 n, .int .i64 a0, .int .i64 a1, .int .i64 d], .box [.bool (decide (1 ≤ i) && Lat.leI up a0 o), .bool (decide (2 ≤ i) && Lat.leI up a1 o)], .box [lst AV.str .ro ns, lst u8 .ro up, .int .i64 (Lat.bot ns.length up : Nat)]]) (fun i => n - i) 0 ?_ fun i hi => ?_
        · simp only [go_sem, Nat.reduceMod, Nat.reduceBNe, Nat.reduceBEq, Nat.reduceEqDiff, Nat.reduceAdd, Int.reduceAdd, Nat.reduceMul, Nat.reduceSub, Int.reduceToNat, Int.reduceLE, Int.reduceLT, Int.reduceEq, Int.reduceNe, reduceCtorEq, Nat.reduceLT, Nat.reduceLeDiff]
          exact Nat.zero_le _
        · simp only [A_types_SeesL0, go_sem, Nat.reduceMod, Nat.reduceBNe, Nat.reduceBEq, Nat.reduceEqDiff, Nat.reduceAdd, Int.reduceAdd, Nat.reduceMul, Nat.reduceSub, Int.reduceToNat, Int.reduceLE, Int.reduceLT, Int.reduceEq, Int.reduceNe, reduceCtorEq, Nat.reduceLT, Nat.reduceLeDiff]
          refine ⟨fun c => ?_, fun c => ?_⟩
          · have : i = 0 ∨ i = 1 := by omega
            rcases this with rfl | rfl
            · simp only [go_sem, Nat.reduceMod, Nat.reduceBNe, Nat.reduceBEq, Nat.reduceEqDiff, Nat.reduceAdd, Int.reduceAdd, Nat.reduceMul, Nat.reduceSub, Int.reduceToNat, Int.reduceLE, Int.reduceLT, Int.reduceEq, Int.reduceNe, reduceCtorEq, Nat.reduceLT, Nat.reduceLeDiff]
              refine callq_ev (ev_t_leq hX hs ns up _ l0 eL) ?_
              simp only [go_sem, Nat.reduceMod, Nat.reduceBNe, Nat.reduceBEq, Nat.reduceEqDiff, Nat.reduceAdd, Int.reduceAdd, Nat.reduceMul, Nat.reduceSub, Int.reduceToNat, Int.reduceLE, Int.reduceLT, Int.reduceEq, Int.reduceNe, reduceCtorEq, Nat.reduceLT, Nat.reduceLeDiff]
              exact ⟨1, by omega, by omega, rfl, by simp⟩
            · simp only [go_sem, Nat.reduceMod, Nat.reduceBNe, Nat.reduceBEq, Nat.reduceEqDiff, Nat.reduceAdd, Int.reduceAdd, Nat.reduceMul, Nat.reduceSub, Int.reduceToNat, Int.reduceLE, Int.reduceLT, Int.reduceEq, Int.reduceNe, reduceCtorEq, Nat.reduceLT, Nat.reduceLeDiff]
              refine callq_ev (ev_t_leq hX hs ns up _ l1 eL) ?_
              simp only [go_sem, Nat.reduceMod, Nat.reduceBNe, Nat.reduceBEq, Nat.reduceEqDiff, Nat.reduceAdd, Int.reduceAdd, Nat.reduceMul, Nat.reduceSub, Int.reduceToNat, Int.reduceLE, Int.reduceLT, Int.reduceEq, Int.reduceNe, reduceCtorEq, Nat.reduceLT, Nat.reduceLeDiff]
              exact ⟨2, by omega, by omega, rfl, by simp⟩
          · obtain rfl : i = n := by omega
            refine callq_ev (ev_t_leq hX hs ns up _ ld eL) ?_
            have e1 : (1 ≤ (i : Int)) = (1 ≤ i) := by rw [eq_iff_iff]; omega
            have e2 : (2 ≤ (i : Int)) = (2 ≤ i) := by rw [eq_iff_iff]; omega
            simp only [go_sem, Nat.reduceMod, Nat.reduceBNe, Nat.reduceBEq, Nat.reduceEqDiff, Nat.reduceAdd, Int.reduceAdd, Nat.reduceMul, Nat.reduceSub, Int.reduceToNat, Int.reduceLE, Int.reduceLT, Int.reduceEq, Int.reduceNe, reduceCtorEq, Nat.reduceLT, Nat.reduceLeDiff, Lat.ax0, Lat.ax1, Lat.seesC, e1, e2]
    · simp only [g, go_sem, Nat.reduceMod, Nat.reduceBNe, Nat.reduceBEq, Nat.reduceEqDiff, Nat.reduceAdd, Int.reduceAdd, Nat.reduceMul, Nat.reduceSub, Int.reduceToNat, Int.reduceLE, Int.reduceLT, Int.reduceEq, Int.reduceNe, reduceCtorEq, Nat.reduceLT, Nat.reduceLeDiff]
  · simp only [h, ordT, go_sem, Nat.reduceMod, Nat.reduceBNe, Nat.reduceBEq, Nat.reduceEqDiff, Nat.reduceAdd, Int.reduceAdd, Nat.reduceMul, Nat.reduceSub, Int.reduceToNat, Int.reduceLE, Int.reduceLT, Int.reduceEq, Int.reduceNe, reduceCtorEq, Nat.reduceLT, Nat.reduceLeDiff, Lat.raiseE, tyS_1 h, ne_eq]
end
end Go.Avm

/- The program: Agree. -/
namespace Go.Avm
open Go
instance : Inhabited Lat.Arr := ⟨⟨0, 0, 0, 0, []⟩⟩
instance : Elt arrV 5 := ⟨fun _ => rfl, fun _ => rfl, fun _ => rfl, fun _ => rfl⟩
set_option maxRecDepth 10000
section
variable {X : Cx} (hX : X.P = Go.Proofs.Tryz.prog) (hs : Std X)
include hX hs
end
end Go.Avm
