/- The program: types. -/
import Derived.Test.YtbhdhlkjchgddaaGreatDoorZQ3
set_option linter.unusedSectionVars false
set_option linter.unusedSimpArgs false
set_option linter.unusedVariables false

/- The program: types. -/
namespace Go.Avm
open Go
def ordC' (ns : List (List UInt8)) (up : List UInt8) : AV := ordT (if (Lat.checkS ns up).2 = 0 then ns else []) (if (Lat.checkS ns up).2 = 0 then up else []) (if (Lat.checkS ns up).2 = 0 then (Lat.bot ns.length up : Nat) else 0)
theorem tyS_1 {ns : List (List UInt8)} {up : List UInt8} {t : Lat.Ty} (h : ¬ (Lat.checkS ns up).2 = 0) : Lat.tyS ns up t = (Lat.checkS ns up).2 := if_pos h
theorem tyS_2 {ns : List (List UInt8)} {up : List UInt8} {t : Lat.Ty} (h : (Lat.checkS ns up).2 = 0) : Lat.tyS ns up t = Lat.goodS ns.length up t := if_neg (fun x => x h)
theorem ty_beq (x y : Lat.Ty) : (x.k == y.k && (x.r == y.r && (x.a0 == y.a0 && (x.a1 == y.a1 && x.d == y.d)))) = decide (x = y) := by
  rw [Bool.eq_iff_iff]
  cases x
  cases y
  simp
section
variable {X : Cx} (hX : X.P = Go.Proofs.Tryz.prog) (hs : Std X)
include hX hs
theorem ev_t_Check (ns : List (List UInt8)) (up : List UInt8) (t : Lat.Ty) : Ev X F_types_Check [latV ns up, tyV t] (.int .i64 (Lat.tyS ns up t)) := by
  refine ev_of_wpc hs (A_types_Check_ok hX) 1 ?_
  simp only [A_types_Check, latV, tyV, go_sem, Nat.reduceMod, Nat.reduceBNe, Nat.reduceBEq, Nat.reduceEqDiff, Nat.reduceAdd, Int.reduceAdd, Nat.reduceMul, Nat.reduceSub, Int.reduceToNat, Int.reduceLE, Int.reduceLT, Int.reduceEq, Int.reduceNe, reduceCtorEq, Nat.reduceLT, Nat.reduceLeDiff]
  refine call_ev (ev_t_of hX hs ns up) ?_
  by_cases h : (Lat.checkS ns up).2 = 0
  · simp only [h, ordT, go_sem, Nat.reduceMod, Nat.reduceBNe, Nat.reduceBEq, Nat.reduceEqDiff, Nat.reduceAdd, Int.reduceAdd, Nat.reduceMul, Nat.reduceSub, Int.reduceToNat, Int.reduceLE, Int.reduceLT, Int.reduceEq, Int.reduceNe, reduceCtorEq, Nat.reduceLT, Nat.reduceLeDiff, tyS_2 h]
    refine call_ev (ev_t_check hX hs ns up (Lat.checkS_val h).2 t) ?_
    simp only [go_sem, Nat.reduceMod, Nat.reduceBNe, Nat.reduceBEq, Nat.reduceEqDiff, Nat.reduceAdd, Int.reduceAdd, Nat.reduceMul, Nat.reduceSub, Int.reduceToNat, Int.reduceLE, Int.reduceLT, Int.reduceEq, Int.reduceNe, reduceCtorEq, Nat.reduceLT, Nat.reduceLeDiff]
  · simp only [h, ordT, go_sem, Nat.reduceMod, Nat.reduceBNe, Nat.reduceBEq, Nat.reduceEqDiff, Nat.reduceAdd, Int.reduceAdd, Nat.reduceMul, Nat.reduceSub, Int.reduceToNat, Int.reduceLE, Int.reduceLT, Int.reduceEq, Int.reduceNe, reduceCtorEq, Nat.reduceLT, Nat.reduceLeDiff, tyS_1 h]
theorem ev_t_both (ns : List (List UInt8)) (up : List UInt8) (a b : Lat.Ty) : Ev X F_types_both [latV ns up, tyV a, tyV b] (.tuple [ordC' ns up, .int .i64 (Lat.bothS ns up a b)]) := by
  refine ev_of_wpcd hs (A_types_both_ok hX) 1 ?_
  simp only [A_types_both, latV, tyV, go_sem, Nat.reduceMod, Nat.reduceBNe, Nat.reduceBEq, Nat.reduceEqDiff, Nat.reduceAdd, Int.reduceAdd, Nat.reduceMul, Nat.reduceSub, Int.reduceToNat, Int.reduceLE, Int.reduceLT, Int.reduceEq, Int.reduceNe, reduceCtorEq, Nat.reduceLT, Nat.reduceLeDiff]
  refine call_ev (ev_t_of hX hs ns up) ?_
  by_cases h : (Lat.checkS ns up).2 = 0
  · have hv := (Lat.checkS_val h).2
    simp only [h, ordC', ordT, Lat.bothS, go_sem, Nat.reduceMod, Nat.reduceBNe, Nat.reduceBEq, Nat.reduceEqDiff, Nat.reduceAdd, Int.reduceAdd, Nat.reduceMul, Nat.reduceSub, Int.reduceToNat, Int.reduceLE, Int.reduceLT, Int.reduceEq, Int.reduceNe, reduceCtorEq, Nat.reduceLT, Nat.reduceLeDiff, tyS_2 h]
    refine call_ev (ev_t_check hX hs ns up hv a) ?_
    by_cases ga : Lat.goodS ns.length up a = 0
    · simp only [ga, go_sem, Nat.reduceMod, Nat.reduceBNe, Nat.reduceBEq, Nat.reduceEqDiff, Nat.reduceAdd, Int.reduceAdd, Nat.reduceMul, Nat.reduceSub, Int.reduceToNat, Int.reduceLE, Int.reduceLT, Int.reduceEq, Int.reduceNe, reduceCtorEq, Nat.reduceLT, Nat.reduceLeDiff]
      refine call_ev (ev_t_check hX hs ns up hv b) ?_
      by_cases gb : Lat.goodS ns.length up b = 0
      · simp only [gb, go_sem, Nat.reduceMod, Nat.reduceBNe, Nat.reduceBEq, Nat.reduceEqDiff, Nat.reduceAdd, Int.reduceAdd, Nat.reduceMul, Nat.reduceSub, Int.reduceToNat, Int.reduceLE, Int.reduceLT, Int.reduceEq, Int.reduceNe, reduceCtorEq, Nat.reduceLT, Nat.reduceLeDiff, ne_eq]
        refine ⟨fun e => ?_, fun e => ⟨fun e2 => ?_, fun e2 => ?_⟩⟩
        · simp only [e, go_sem, Nat.reduceMod, Nat.reduceBNe, Nat.reduceBEq, Nat.reduceEqDiff, Nat.reduceAdd, Int.reduceAdd, Nat.reduceMul, Nat.reduceSub, Int.reduceToNat, Int.reduceLE, Int.reduceLT, Int.reduceEq, Int.reduceNe, reduceCtorEq, Nat.reduceLT, Nat.reduceLeDiff]; rfl
        · simp only [e, e2, go_sem, Nat.reduceMod, Nat.reduceBNe, Nat.reduceBEq, Nat.reduceEqDiff, Nat.reduceAdd, Int.reduceAdd, Nat.reduceMul, Nat.reduceSub, Int.reduceToNat, Int.reduceLE, Int.reduceLT, Int.reduceEq, Int.reduceNe, reduceCtorEq, Nat.reduceLT, Nat.reduceLeDiff]; rfl
        · simp only [e, e2, go_sem, Nat.reduceMod, Nat.reduceBNe, Nat.reduceBEq, Nat.reduceEqDiff, Nat.reduceAdd, Int.reduceAdd, Nat.reduceMul, Nat.reduceSub, Int.reduceToNat, Int.reduceLE, Int.reduceLT, Int.reduceEq, Int.reduceNe, reduceCtorEq, Nat.reduceLT, Nat.reduceLeDiff]; rfl
      · simp only [gb, go_sem, Nat.reduceMod, Nat.reduceBNe, Nat.reduceBEq, Nat.reduceEqDiff, Nat.reduceAdd, Int.reduceAdd, Nat.reduceMul, Nat.reduceSub, Int.reduceToNat, Int.reduceLE, Int.reduceLT, Int.reduceEq, Int.reduceNe, reduceCtorEq, Nat.reduceLT, Nat.reduceLeDiff, ne_eq]; rfl
    · simp only [ga, go_sem, Nat.reduceMod, Nat.reduceBNe, Nat.reduceBEq, Nat.reduceEqDiff, Nat.reduceAdd, Int.reduceAdd, Nat.reduceMul, Nat.reduceSub, Int.reduceToNat, Int.reduceLE, Int.reduceLT, Int.reduceEq, Int.reduceNe, reduceCtorEq, Nat.reduceLT, Nat.reduceLeDiff, ne_eq]; rfl
  · simp only [h, ordC', ordT, Lat.bothS, go_sem, Nat.reduceMod, Nat.reduceBNe, Nat.reduceBEq, Nat.reduceEqDiff, Nat.reduceAdd, Int.reduceAdd, Nat.reduceMul, Nat.reduceSub, Int.reduceToNat, Int.reduceLE, Int.reduceLT, Int.reduceEq, Int.reduceNe, reduceCtorEq, Nat.reduceLT, Nat.reduceLeDiff, tyS_1 h, ne_eq]
    rfl
theorem ev_t_Join (ns : List (List UInt8)) (up : List UInt8) (a b : Lat.Ty) : Ev X F_types_Join [latV ns up, tyV a, tyV b] (.tuple [tyV (Lat.joinS ns up a b), .int .i64 (Lat.bothS ns up a b)]) := by
  refine ev_of_wpc hs (A_types_Join_ok hX) 1 ?_
  simp only [A_types_Join, latV, tyV, go_sem, Nat.reduceMod, Nat.reduceBNe, Nat.reduceBEq, Nat.reduceEqDiff, Nat.reduceAdd, Int.reduceAdd, Nat.reduceMul, Nat.reduceSub, Int.reduceToNat, Int.reduceLE, Int.reduceLT, Int.reduceEq, Int.reduceNe, reduceCtorEq, Nat.reduceLT, Nat.reduceLeDiff]
  refine call_ev (ev_t_both hX hs ns up a b) ?_
  by_cases h : Lat.bothS ns up a b = 0
  · obtain ⟨h1, h2, h3, h4⟩ := Lat.bothS_0.1 h
    obtain ⟨hc, hv, ga⟩ := Lat.tyS_0 h1
    obtain ⟨_, _, gb⟩ := Lat.tyS_0 h2
    simp only [h, ordC', hc, ordT, go_sem, Nat.reduceMod, Nat.reduceBNe, Nat.reduceBEq, Nat.reduceEqDiff, Nat.reduceAdd, Int.reduceAdd, Nat.reduceMul, Nat.reduceSub, Int.reduceToNat, Int.reduceLE, Int.reduceLT, Int.reduceEq, Int.reduceNe, reduceCtorEq, Nat.reduceLT, Nat.reduceLeDiff]
    refine callq_ev (ev_t_join hX hs ns up _ hv ga.l0 gb.l0) ?_
    simp only [go_sem, Nat.reduceMod, Nat.reduceBNe, Nat.reduceBEq, Nat.reduceEqDiff, Nat.reduceAdd, Int.reduceAdd, Nat.reduceMul, Nat.reduceSub, Int.reduceToNat, Int.reduceLE, Int.reduceLT, Int.reduceEq, Int.reduceNe, reduceCtorEq, Nat.reduceLT, Nat.reduceLeDiff]
    refine callq_ev (ev_t_join hX hs ns up _ hv ga.l1 gb.l1) ?_
    simp only [go_sem, Nat.reduceMod, Nat.reduceBNe, Nat.reduceBEq, Nat.reduceEqDiff, Nat.reduceAdd, Int.reduceAdd, Nat.reduceMul, Nat.reduceSub, Int.reduceToNat, Int.reduceLE, Int.reduceLT, Int.reduceEq, Int.reduceNe, reduceCtorEq, Nat.reduceLT, Nat.reduceLeDiff]
    refine call_ev (ev_t_join hX hs ns up _ hv ga.ld gb.ld) ?_
    simp only [go_sem, Nat.reduceMod, Nat.reduceBNe, Nat.reduceBEq, Nat.reduceEqDiff, Nat.reduceAdd, Int.reduceAdd, Nat.reduceMul, Nat.reduceSub, Int.reduceToNat, Int.reduceLE, Int.reduceLT, Int.reduceEq, Int.reduceNe, reduceCtorEq, Nat.reduceLT, Nat.reduceLeDiff, Lat.joinS, h, Lat.joinT]
  · simp only [h, ordC', ordT, go_sem, Nat.reduceMod, Nat.reduceBNe, Nat.reduceBEq, Nat.reduceEqDiff, Nat.reduceAdd, Int.reduceAdd, Nat.reduceMul, Nat.reduceSub, Int.reduceToNat, Int.reduceLE, Int.reduceLT, Int.reduceEq, Int.reduceNe, reduceCtorEq, Nat.reduceLT, Nat.reduceLeDiff, Lat.joinS, Lat.zeroT]
theorem ev_t_Within (ns : List (List UInt8)) (up : List UInt8) (a b : Lat.Ty) : Ev X F_types_Within [latV ns up, tyV a, tyV b] (.tuple [.bool (Lat.withinS ns up a b), .int .i64 (Lat.bothS ns up a b)]) := by
  refine ev_of_wpc hs (A_types_Within_ok hX) 1 ?_
  simp only [A_types_Within, latV, tyV, go_sem, Nat.reduceMod, Nat.reduceBNe, Nat.reduceBEq, Nat.reduceEqDiff, Nat.reduceAdd, Int.reduceAdd, Nat.reduceMul, Nat.reduceSub, Int.reduceToNat, Int.reduceLE, Int.reduceLT, Int.reduceEq, Int.reduceNe, reduceCtorEq, Nat.reduceLT, Nat.reduceLeDiff]
  refine call_ev (ev_t_Join hX hs ns up a b) ?_
  by_cases h : Lat.bothS ns up a b = 0
  · obtain ⟨h1, h2, h3, h4⟩ := Lat.bothS_0.1 h
    obtain ⟨hc, hv, ga⟩ := Lat.tyS_0 h1
    obtain ⟨_, _, gb⟩ := Lat.tyS_0 h2
    have e := Lat.join_within hv ga gb h3 h4
    simp only [h, tyV, Lat.joinS, Lat.withinS, go_sem, Nat.reduceMod, Nat.reduceBNe, Nat.reduceBEq, Nat.reduceEqDiff, Nat.reduceAdd, Int.reduceAdd, Nat.reduceMul, Nat.reduceSub, Int.reduceToNat, Int.reduceLE, Int.reduceLT, Int.reduceEq, Int.reduceNe, reduceCtorEq, Nat.reduceLT, Nat.reduceLeDiff]
    rw [← e, ty_beq]
  · simp only [h, tyV, go_sem, Nat.reduceMod, Nat.reduceBNe, Nat.reduceBEq, Nat.reduceEqDiff, Nat.reduceAdd, Int.reduceAdd, Nat.reduceMul, Nat.reduceSub, Int.reduceToNat, Int.reduceLE, Int.reduceLT, Int.reduceEq, Int.reduceNe, reduceCtorEq, Nat.reduceLT, Nat.reduceLeDiff, Lat.withinS]
theorem ev_t_up (ns : List (List UInt8)) (up : List UInt8) (b : Int) (hv : Lat.Val ns.length up) {x y : Int} (hx : Lat.lab ns.length x = true) (hy : Lat.lab ns.length y = true) : Ev X F_types_with_up [.agg [lst AV.str .ro ns, lst u8 .ro up, .int .i64 b, .int .i64 y], .int .i64 x] (.int .i64 (Lat.jnI ns.length up x y)) := by
  refine ev_of_wpc hs (A_types_with_up_ok hX) 1 ?_
  simp only [A_types_with_up, go_sem, Nat.reduceMod, Nat.reduceBNe, Nat.reduceBEq, Nat.reduceEqDiff, Nat.reduceAdd, Int.reduceAdd, Nat.reduceMul, Nat.reduceSub, Int.reduceToNat, Int.reduceLE, Int.reduceLT, Int.reduceEq, Int.reduceNe, reduceCtorEq, Nat.reduceLT, Nat.reduceLeDiff]
  refine call_ev (ev_t_join hX hs ns up b hv hx hy) ?_
  simp only [go_sem, Nat.reduceMod, Nat.reduceBNe, Nat.reduceBEq, Nat.reduceEqDiff, Nat.reduceAdd, Int.reduceAdd, Nat.reduceMul, Nat.reduceSub, Int.reduceToNat, Int.reduceLE, Int.reduceLT, Int.reduceEq, Int.reduceNe, reduceCtorEq, Nat.reduceLT, Nat.reduceLeDiff]
theorem ev_t_each (t : Lat.Ty) (hr : 0 ≤ t.r ∧ t.r ≤ 2) (f : Nat) (fs cs : List AV) (hf : dryL fs = fs) (hc : dryL cs = cs) (p : Int → Int) (h0 : Ev X f (fs ++ [.int .i64 t.a0] ++ cs) (.int .i64 (p t.a0))) (h1 : Ev X f (fs ++ [.int .i64 t.a1] ++ cs) (.int .i64 (p t.a1))) (h2 : Ev X f (fs ++ [.int .i64 t.d] ++ cs) (.int .i64 (p t.d))) :
    Ev X F_types_each [tyV t, .clo f fs cs] (tyV { t with a0 := if 1 ≤ t.r then p t.a0 else t.a0, a1 := if 2 ≤ t.r then p t.a1 else t.a1, d := p t.d }) := by
  obtain ⟨k, r, a0, a1, d⟩ := t
  obtain ⟨n, rfl⟩ : ∃ n : Nat, r = n := ⟨r.toNat, by simp only at hr; omega⟩
  have hn : n ≤ 2 := by simp only at hr; omega
  have hd : ∀ x : AV, dry x = x → dryL (fs ++ [x] ++ cs) = fs ++ [x] ++ cs := fun x hx => by
    simp only [dryL_map, List.map_append, List.map_cons, List.map_nil, hx] at hf hc ⊢
    rw [hf, hc]
  simp only at h0 h1 h2
  refine ev_of_wpc hs (A_types_each_ok hX) 1 ?_
  simp only [A_types_each, tyV, go_sem, Nat.reduceMod, Nat.reduceBNe, Nat.reduceBEq, Nat.reduceEqDiff, Nat.reduceAdd, Int.reduceAdd, Nat.reduceMul, Nat.reduceSub, Int.reduceToNat, Int.reduceLE, Int.reduceLT, Int.reduceEq, Int.reduceNe, reduceCtorEq, Nat.reduceLT, Nat.reduceLeDiff]
  refine w_loop' hs.hm (ι := Nat) (fun i => i ≤ n) (fun i => [(8, .int .i64 i), (7, .int .i64 n), (1, .clo f fs cs), (2, .ptr 0 0), (4, .ptr 1 0)]) (fun i => [.box [.int .i64 k, .int .i64 n, .int .i64 (if 1 ≤ i then p a0 else a0), .int .i64 (if 2 ≤ i then p a1 else a1), .int .i64 d], .box [.int .i64 0, .int .i64 0, .int .i64 0, .int .i64 0, .int .i64 0]]) (fun i => n - i) 0 ?_ fun i hi => ?_
  · simp only [go_sem, Nat.reduceMod, Nat.reduceBNe, Nat.reduceBEq, Nat.reduceEqDiff, Nat.reduceAdd, Int.reduceAdd, Nat.reduceMul, Nat.reduceSub, Int.reduceToNat, Int.reduceLE, Int.reduceLT, Int.reduceEq, Int.reduceNe, reduceCtorEq, Nat.reduceLT, Nat.reduceLeDiff]
    exact Nat.zero_le _
  · simp only [A_types_eachL0, go_sem, Nat.reduceMod, Nat.reduceBNe, Nat.reduceBEq, Nat.reduceEqDiff, Nat.reduceAdd, Int.reduceAdd, Nat.reduceMul, Nat.reduceSub, Int.reduceToNat, Int.reduceLE, Int.reduceLT, Int.reduceEq, Int.reduceNe, reduceCtorEq, Nat.reduceLT, Nat.reduceLeDiff]
    refine ⟨fun c => ?_, fun c => ?_⟩
    · have : i = 0 ∨ i = 1 := by omega
      rcases this with rfl | rfl
      · simp only [go_sem, Nat.reduceMod, Nat.reduceBNe, Nat.reduceBEq, Nat.reduceEqDiff, Nat.reduceAdd, Int.reduceAdd, Nat.reduceMul, Nat.reduceSub, Int.reduceToNat, Int.reduceLE, Int.reduceLT, Int.reduceEq, Int.reduceNe, reduceCtorEq, Nat.reduceLT, Nat.reduceLeDiff]
        refine call_ev (r := .int .i64 (p a0)) (by rw [hd _ rfl]; exact h0) ?_
        simp only [go_sem, Nat.reduceMod, Nat.reduceBNe, Nat.reduceBEq, Nat.reduceEqDiff, Nat.reduceAdd, Int.reduceAdd, Nat.reduceMul, Nat.reduceSub, Int.reduceToNat, Int.reduceLE, Int.reduceLT, Int.reduceEq, Int.reduceNe, reduceCtorEq, Nat.reduceLT, Nat.reduceLeDiff]
        exact ⟨1, by omega, by omega, rfl, rfl⟩
      · simp only [go_sem, Nat.reduceMod, Nat.reduceBNe, Nat.reduceBEq, Nat.reduceEqDiff, Nat.reduceAdd, Int.reduceAdd, Nat.reduceMul, Nat.reduceSub, Int.reduceToNat, Int.reduceLE, Int.reduceLT, Int.reduceEq, Int.reduceNe, reduceCtorEq, Nat.reduceLT, Nat.reduceLeDiff]
        refine call_ev (r := .int .i64 (p a1)) (by rw [hd _ rfl]; exact h1) ?_
        simp only [go_sem, Nat.reduceMod, Nat.reduceBNe, Nat.reduceBEq, Nat.reduceEqDiff, Nat.reduceAdd, Int.reduceAdd, Nat.reduceMul, Nat.reduceSub, Int.reduceToNat, Int.reduceLE, Int.reduceLT, Int.reduceEq, Int.reduceNe, reduceCtorEq, Nat.reduceLT, Nat.reduceLeDiff]
        exact ⟨2, by omega, by omega, rfl, rfl⟩
    · obtain rfl : i = n := by omega
      refine call_ev (r := .int .i64 (p d)) (by rw [hd _ rfl]; exact h2) ?_
      simp only [go_sem, Nat.reduceMod, Nat.reduceBNe, Nat.reduceBEq, Nat.reduceEqDiff, Nat.reduceAdd, Int.reduceAdd, Nat.reduceMul, Nat.reduceSub, Int.reduceToNat, Int.reduceLE, Int.reduceLT, Int.reduceEq, Int.reduceNe, reduceCtorEq, Nat.reduceLT, Nat.reduceLeDiff]
      have e1 : (1 ≤ (i : Int)) = (1 ≤ i) := by rw [eq_iff_iff]; omega
      have e2 : (2 ≤ (i : Int)) = (2 ≤ i) := by rw [eq_iff_iff]; omega
      simp only [e1, e2]
theorem ev_t_Raise (ns : List (List UInt8)) (up : List UInt8) (t : Lat.Ty) (l : Int) : Ev X F_types_Raise [latV ns up, tyV t, .int .i64 l] (.tuple [tyV (Lat.raiseS ns up t l), .int .i64 (Lat.raiseE ns up t l)]) := by
  refine ev_of_wpc hs (A_types_Raise_ok hX) 1 ?_
  simp only [A_types_Raise, latV, tyV, go_sem, Nat.reduceMod, Nat.reduceBNe, Nat.reduceBEq, Nat.reduceEqDiff, Nat.reduceAdd, Int.reduceAdd, Nat.reduceMul, Nat.reduceSub, Int.reduceToNat, Int.reduceLE, Int.reduceLT, Int.reduceEq, Int.reduceNe, reduceCtorEq, Nat.reduceLT, Nat.reduceLeDiff]
  refine call_ev (ev_t_of hX hs ns up) ?_
  by_cases h : (Lat.checkS ns up).2 = 0
  · have hv := (Lat.checkS_val h).2
    simp only [h, ordT, go_sem, Nat.reduceMod, Nat.reduceBNe, Nat.reduceBEq, Nat.reduceEqDiff, Nat.reduceAdd, Int.reduceAdd, Nat.reduceMul, Nat.reduceSub, Int.reduceToNat, Int.reduceLE, Int.reduceLT, Int.reduceEq, Int.reduceNe, reduceCtorEq, Nat.reduceLT, Nat.reduceLeDiff, Lat.raiseS, Lat.raiseE, tyS_2 h, ne_eq]
    refine call_ev (ev_t_check hX hs ns up hv t) ?_
    by_cases g : Lat.goodS ns.length up t = 0
    · have gg := (Lat.goodS_0 hv).1 g
      simp only [g, go_sem, Nat.reduceMod, Nat.reduceBNe, Nat.reduceBEq, Nat.reduceEqDiff, Nat.reduceAdd, Int.reduceAdd, Nat.reduceMul, Nat.reduceSub, Int.reduceToNat, Int.reduceLE, Int.reduceLT, Int.reduceEq, Int.reduceNe, reduceCtorEq, Nat.reduceLT, Nat.reduceLeDiff]
      refine call_ev (ev_t_label hX hs ns up _ l) ?_
      cases e : Lat.lab ns.length l with
      | false => simp only [go_sem, Nat.reduceMod, Nat.reduceBNe, Nat.reduceBEq, Nat.reduceEqDiff, Nat.reduceAdd, Int.reduceAdd, Nat.reduceMul, Nat.reduceSub, Int.reduceToNat, Int.reduceLE, Int.reduceLT, Int.reduceEq, Int.reduceNe, reduceCtorEq, Nat.reduceLT, Nat.reduceLeDiff, Lat.zeroT]
      | true =>
        simp only [go_sem, Nat.reduceMod, Nat.reduceBNe, Nat.reduceBEq, Nat.reduceEqDiff, Nat.reduceAdd, Int.reduceAdd, Nat.reduceMul, Nat.reduceSub, Int.reduceToNat, Int.reduceLE, Int.reduceLT, Int.reduceEq, Int.reduceNe, reduceCtorEq, Nat.reduceLT, Nat.reduceLeDiff]
        refine call_ev (ev_t_each hX hs t gg.r F_types_with_up [.agg [lst AV.str .ro ns, lst u8 .ro up, .int .i64 (Lat.bot ns.length up : Nat), .int .i64 l]] [] rfl rfl (fun x => Lat.jnI ns.length up x l) (ev_t_up hX hs ns up _ hv gg.l0 e) (ev_t_up hX hs ns up _ hv gg.l1 e) (ev_t_up hX hs ns up _ hv gg.ld e)) ?_
        simp only [go_sem, Nat.reduceMod, Nat.reduceBNe, Nat.reduceBEq, Nat.reduceEqDiff, Nat.reduceAdd, Int.reduceAdd, Nat.reduceMul, Nat.reduceSub, Int.reduceToNat, Int.reduceLE, Int.reduceLT, Int.reduceEq, Int.reduceNe, reduceCtorEq, Nat.reduceLT, Nat.reduceLeDiff, tyV, Bool.true_eq_false, Lat.raiseT]
    · simp only [g, go_sem, Nat.reduceMod, Nat.reduceBNe, Nat.reduceBEq, Nat.reduceEqDiff, Nat.reduceAdd, Int.reduceAdd, Nat.reduceMul, Nat.reduceSub, Int.reduceToNat, Int.reduceLE, Int.reduceLT, Int.reduceEq, Int.reduceNe, reduceCtorEq, Nat.reduceLT, Nat.reduceLeDiff, Lat.zeroT]
  · simp only [h, ordT, go_sem, Nat.reduceMod, Nat.reduceBNe, Nat.reduceBEq, Nat.reduceEqDiff, Nat.reduceAdd, Int.reduceAdd, Nat.reduceMul, Nat.reduceSub, Int.reduceToNat, Int.reduceLE, Int.reduceLT, Int.reduceEq, Int.reduceNe, reduceCtorEq, Nat.reduceLT, Nat.reduceLeDiff, Lat.raiseS, Lat.raiseE, tyS_1 h, Lat.zeroT, ne_eq]
end
end Go.Avm

/- The program: shapes, arrays, what is seen. -/
namespace Go.Avm
open Go
def arrV (a : Lat.Arr) : AV := .agg [.int .i64 a.k, .int .i64 a.r, .int .i64 a.l0, .int .i64 a.l1, lst (AV.int .i64) .ro a.c]
theorem shapeE_0 {r l0 l1 : Int} (h : Lat.shapeE r l0 l1 = 0) : (0 ≤ r ∧ r ≤ 2) ∧ (0 ≤ l0 ∧ l0 ≤ 400) ∧ (0 ≤ l1 ∧ l1 ≤ 400) := by
  unfold Lat.shapeE at h
  split at h
  · omega
  · split at h
    · omega
    · split at h
      · omega
      · split at h
        · omega
        · omega
section
variable {X : Cx} (hX : X.P = Go.Proofs.Tryz.prog) (hs : Std X)
include hX hs
theorem ev_sc1 (x : Int) : Ev X F_shapes_Check_1 [.int .i64 x] (.bool (decide (x < 0))) := by
  refine ev_of_wpc hs (A_shapes_Check_1_ok hX) 1 ?_
  simp only [A_shapes_Check_1, go_sem, Nat.reduceMod, Nat.reduceBNe, Nat.reduceBEq, Nat.reduceEqDiff, Nat.reduceAdd, Int.reduceAdd, Nat.reduceMul, Nat.reduceSub, Int.reduceToNat, Int.reduceLE, Int.reduceLT, Int.reduceEq, Int.reduceNe, reduceCtorEq, Nat.reduceLT, Nat.reduceLeDiff]
theorem ev_sc2 (x : Int) : Ev X F_shapes_Check_2 [.int .i64 x] (.bool (!decide (x = 0))) := by
  refine ev_of_wpc hs (A_shapes_Check_2_ok hX) 1 ?_
  simp only [A_shapes_Check_2, go_sem, Nat.reduceMod, Nat.reduceBNe, Nat.reduceBEq, Nat.reduceEqDiff, Nat.reduceAdd, Int.reduceAdd, Nat.reduceMul, Nat.reduceSub, Int.reduceToNat, Int.reduceLE, Int.reduceLT, Int.reduceEq, Int.reduceNe, reduceCtorEq, Nat.reduceLT, Nat.reduceLeDiff]
theorem ev_sc3 (x : Int) : Ev X F_shapes_Check_3 [.int .i64 x] (.bool (decide (400 < x))) := by
  refine ev_of_wpc hs (A_shapes_Check_3_ok hX) 1 ?_
  simp only [A_shapes_Check_3, go_sem, Nat.reduceMod, Nat.reduceBNe, Nat.reduceBEq, Nat.reduceEqDiff, Nat.reduceAdd, Int.reduceAdd, Nat.reduceMul, Nat.reduceSub, Int.reduceToNat, Int.reduceLE, Int.reduceLT, Int.reduceEq, Int.reduceNe, reduceCtorEq, Nat.reduceLT, Nat.reduceLeDiff, gt_iff_lt]
theorem ev_product (n : Nat) (hn : n ≤ 2) (l0 l1 : Int) (h0 : 0 ≤ l0 ∧ l0 ≤ 400) (h1 : 0 ≤ l1 ∧ l1 ≤ 400) : Ev X F_shapes_product [.int .i64 n, .agg [.int .i64 l0, .int .i64 l1]] (.int .i64 (Lat.many n l0 l1)) := by
  refine ev_of_wpc hs (A_shapes_product_ok hX) 1 ?_
  have hm : 0 ≤ l1 * l0 ∧ l1 * l0 ≤ 400 * 400 := ⟨Int.mul_nonneg h1.1 h0.1, Int.mul_le_mul h1.2 h0.2 h0.1 (by decide)⟩
  have : n = 0 ∨ n = 1 ∨ n = 2 := by omega
  rcases this with rfl | rfl | rfl
  · simp only [A_shapes_product, go_sem, Nat.reduceMod, Nat.reduceBNe, Nat.reduceBEq, Nat.reduceEqDiff, Nat.reduceAdd, Int.reduceAdd, Nat.reduceMul, Nat.reduceSub, Int.reduceToNat, Int.reduceLE, Int.reduceLT, Int.reduceEq, Int.reduceNe, reduceCtorEq, Nat.reduceLT, Nat.reduceLeDiff]
    simp [Lat.many]
  · simp only [A_shapes_product, go_sem, Nat.reduceMod, Nat.reduceBNe, Nat.reduceBEq, Nat.reduceEqDiff, Nat.reduceAdd, Int.reduceAdd, Nat.reduceMul, Nat.reduceSub, Int.reduceToNat, Int.reduceLE, Int.reduceLT, Int.reduceEq, Int.reduceNe, reduceCtorEq, Nat.reduceLT, Nat.reduceLeDiff]
    rw [wi64 (by omega)]
    simp [Lat.many]
  · simp only [A_shapes_product, go_sem, Nat.reduceMod, Nat.reduceBNe, Nat.reduceBEq, Nat.reduceEqDiff, Nat.reduceAdd, Int.reduceAdd, Nat.reduceMul, Nat.reduceSub, Int.reduceToNat, Int.reduceLE, Int.reduceLT, Int.reduceEq, Int.reduceNe, reduceCtorEq, Nat.reduceLT, Nat.reduceLeDiff, Int.one_mul]
    rw [wi64 (n := l1) (by omega), wi64 (by omega)]
    simp [Lat.many, Int.mul_comm]
theorem ev_sCheck (r l0 l1 : Int) : Ev X F_shapes_Check [.int .i64 r, .agg [.int .i64 l0, .int .i64 l1]] (.int .i64 (Lat.shapeE r l0 l1)) := by
  refine ev_of_wpc hs (A_shapes_Check_ok hX) 1 ?_
  by_cases hr : r < 0 ∨ 2 < r
  · simp only [A_shapes_Check, go_sem, Nat.reduceMod, Nat.reduceBNe, Nat.reduceBEq, Nat.reduceEqDiff, Nat.reduceAdd, Int.reduceAdd, Nat.reduceMul, Nat.reduceSub, Int.reduceToNat, Int.reduceLE, Int.reduceLT, Int.reduceEq, Int.reduceNe, reduceCtorEq, Nat.reduceLT, Nat.reduceLeDiff]
    have e : Lat.shapeE r l0 l1 = 7 := if_pos hr
    rw [e]
    refine ⟨fun _ => rfl, fun h => ⟨fun _ => rfl, fun h2 => absurd hr (by omega)⟩⟩
  · have : r = 0 ∨ r = 1 ∨ r = 2 := by omega
    rcases this with rfl | rfl | rfl
    · simp only [A_shapes_Check, go_sem, Nat.reduceMod, Nat.reduceBNe, Nat.reduceBEq, Nat.reduceEqDiff, Nat.reduceAdd, Int.reduceAdd, Nat.reduceMul, Nat.reduceSub, Int.reduceToNat, Int.reduceLE, Int.reduceLT, Int.reduceEq, Int.reduceNe, reduceCtorEq, Nat.reduceLT, Nat.reduceLeDiff]
      refine call_lend (r := .bool (([] : List Int).any fun x => decide (x < 0))) (ev_ContainsFuncI hX hs [] F_shapes_Check_1 [] rfl _ (fun x hx => ev_sc1 hX hs x) (by simp)) rfl ?_
      simp only [List.any_nil, go_sem, Nat.reduceMod, Nat.reduceBNe, Nat.reduceBEq, Nat.reduceEqDiff, Nat.reduceAdd, Int.reduceAdd, Nat.reduceMul, Nat.reduceSub, Int.reduceToNat, Int.reduceLE, Int.reduceLT, Int.reduceEq, Int.reduceNe, reduceCtorEq, Nat.reduceLT, Nat.reduceLeDiff]
      refine call_lend (r := .bool (([l0, l1] : List Int).any fun x => !decide (x = 0))) (ev_ContainsFuncI hX hs [l0, l1] F_shapes_Check_2 [] rfl _ (fun x hx => ev_sc2 hX hs x) (by simp)) rfl ?_
      cases e : ([l0, l1] : List Int).any fun x => !decide (x = 0) with
      | true =>
        simp only [go_sem, Nat.reduceMod, Nat.reduceBNe, Nat.reduceBEq, Nat.reduceEqDiff, Nat.reduceAdd, Int.reduceAdd, Nat.reduceMul, Nat.reduceSub, Int.reduceToNat, Int.reduceLE, Int.reduceLT, Int.reduceEq, Int.reduceNe, reduceCtorEq, Nat.reduceLT, Nat.reduceLeDiff]
        simp only [List.any_cons, List.any_nil, Bool.or_false, Bool.or_eq_true, Bool.not_eq_true', decide_eq_false_iff_not] at e
        simp only [Lat.shapeE, Lat.many]
        grind
      | false =>
        simp only [go_sem, Nat.reduceMod, Nat.reduceBNe, Nat.reduceBEq, Nat.reduceEqDiff, Nat.reduceAdd, Int.reduceAdd, Nat.reduceMul, Nat.reduceSub, Int.reduceToNat, Int.reduceLE, Int.reduceLT, Int.reduceEq, Int.reduceNe, reduceCtorEq, Nat.reduceLT, Nat.reduceLeDiff]
        refine call_lend (r := .bool (([] : List Int).any fun x => decide (400 < x))) (ev_ContainsFuncI hX hs [] F_shapes_Check_3 [] rfl _ (fun x hx => ev_sc3 hX hs x) (by simp)) rfl ?_
        simp only [List.any_nil, go_sem, Nat.reduceMod, Nat.reduceBNe, Nat.reduceBEq, Nat.reduceEqDiff, Nat.reduceAdd, Int.reduceAdd, Nat.reduceMul, Nat.reduceSub, Int.reduceToNat, Int.reduceLE, Int.reduceLT, Int.reduceEq, Int.reduceNe, reduceCtorEq, Nat.reduceLT, Nat.reduceLeDiff]
        simp only [List.any_cons, List.any_nil, Bool.or_false, Bool.or_eq_false_iff, Bool.not_eq_false', decide_eq_true_eq] at e
        refine call_ev (ev_product hX hs 0 (by omega) l0 l1 (by omega) (by omega)) ?_
        simp only [go_sem, Nat.reduceMod, Nat.reduceBNe, Nat.reduceBEq, Nat.reduceEqDiff, Nat.reduceAdd, Int.reduceAdd, Nat.reduceMul, Nat.reduceSub, Int.reduceToNat, Int.reduceLE, Int.reduceLT, Int.reduceEq, Int.reduceNe, reduceCtorEq, Nat.reduceLT, Nat.reduceLeDiff, Lat.shapeE, Lat.many, gt_iff_lt]
        grind
    · simp only [A_shapes_Check, go_sem, Nat.reduceMod, Nat.reduceBNe, Nat.reduceBEq, Nat.reduceEqDiff, Nat.reduceAdd, Int.reduceAdd, Nat.reduceMul, Nat.reduceSub, Int.reduceToNat, Int.reduceLE, Int.reduceLT, Int.reduceEq, Int.reduceNe, reduceCtorEq, Nat.reduceLT, Nat.reduceLeDiff]
      refine call_lend (r := .bool (([l0] : List Int).any fun x => decide (x < 0))) (ev_ContainsFuncI hX hs [l0] F_shapes_Check_1 [] rfl _ (fun x hx => ev_sc1 hX hs x) (by simp)) rfl ?_
      cases e : ([l0] : List Int).any fun x => decide (x < 0) with
      | true =>
        simp only [go_sem, Nat.reduceMod, Nat.reduceBNe, Nat.reduceBEq, Nat.reduceEqDiff, Nat.reduceAdd, Int.reduceAdd, Nat.reduceMul, Nat.reduceSub, Int.reduceToNat, Int.reduceLE, Int.reduceLT, Int.reduceEq, Int.reduceNe, reduceCtorEq, Nat.reduceLT, Nat.reduceLeDiff]
        simp only [List.any_cons, List.any_nil, Bool.or_false, decide_eq_true_eq] at e
        simp only [Lat.shapeE, Lat.many]
        grind
      | false =>
        simp only [go_sem, Nat.reduceMod, Nat.reduceBNe, Nat.reduceBEq, Nat.reduceEqDiff, Nat.reduceAdd, Int.reduceAdd, Nat.reduceMul, Nat.reduceSub, Int.reduceToNat, Int.reduceLE, Int.reduceLT, Int.reduceEq, Int.reduceNe, reduceCtorEq, Nat.reduceLT, Nat.reduceLeDiff]
        simp only [List.any_cons, List.any_nil, Bool.or_false, decide_eq_false_iff_not] at e
        refine call_lend (r := .bool (([l1] : List Int).any fun x => !decide (x = 0))) (ev_ContainsFuncI hX hs [l1] F_shapes_Check_2 [] rfl _ (fun x hx => ev_sc2 hX hs x) (by simp)) rfl ?_
        cases e2 : ([l1] : List Int).any fun x => !decide (x = 0) with
        | true =>
          simp only [go_sem, Nat.reduceMod, Nat.reduceBNe, Nat.reduceBEq, Nat.reduceEqDiff, Nat.reduceAdd, Int.reduceAdd, Nat.reduceMul, Nat.reduceSub, Int.reduceToNat, Int.reduceLE, Int.reduceLT, Int.reduceEq, Int.reduceNe, reduceCtorEq, Nat.reduceLT, Nat.reduceLeDiff]
          simp only [List.any_cons, List.any_nil, Bool.or_false, Bool.not_eq_true', decide_eq_false_iff_not] at e2
          simp only [Lat.shapeE, Lat.many]
          grind
        | false =>
          simp only [go_sem, Nat.reduceMod, Nat.reduceBNe, Nat.reduceBEq, Nat.reduceEqDiff, Nat.reduceAdd, Int.reduceAdd, Nat.reduceMul, Nat.reduceSub, Int.reduceToNat, Int.reduceLE, Int.reduceLT, Int.reduceEq, Int.reduceNe, reduceCtorEq, Nat.reduceLT, Nat.reduceLeDiff]
          simp only [List.any_cons, List.any_nil, Bool.or_false, Bool.not_eq_false', decide_eq_true_eq] at e2
          refine call_lend (r := .bool (([l0] : List Int).any fun x => decide (400 < x))) (ev_ContainsFuncI hX hs [l0] F_shapes_Check_3 [] rfl _ (fun x hx => ev_sc3 hX hs x) (by simp)) rfl ?_
          cases e3 : ([l0] : List Int).any fun x => decide (400 < x) with
          | true =>
            simp only [go_sem, Nat.reduceMod, Nat.reduceBNe, Nat.reduceBEq, Nat.reduceEqDiff, Nat.reduceAdd, Int.reduceAdd, Nat.reduceMul, Nat.reduceSub, Int.reduceToNat, Int.reduceLE, Int.reduceLT, Int.reduceEq, Int.reduceNe, reduceCtorEq, Nat.reduceLT, Nat.reduceLeDiff]
            simp only [List.any_cons, List.any_nil, Bool.or_false, decide_eq_true_eq] at e3
            simp only [Lat.shapeE, Lat.many]
            grind
          | false =>
            simp only [go_sem, Nat.reduceMod, Nat.reduceBNe, Nat.reduceBEq, Nat.reduceEqDiff, Nat.reduceAdd, Int.reduceAdd, Nat.reduceMul, Nat.reduceSub, Int.reduceToNat, Int.reduceLE, Int.reduceLT, Int.reduceEq, Int.reduceNe, reduceCtorEq, Nat.reduceLT, Nat.reduceLeDiff]
            simp only [List.any_cons, List.any_nil, Bool.or_false, decide_eq_false_iff_not] at e3
            refine call_ev (ev_product hX hs 1 (by omega) l0 l1 (by omega) (by omega)) ?_
            simp only [go_sem, Nat.reduceMod, Nat.reduceBNe, Nat.reduceBEq, Nat.reduceEqDiff, Nat.reduceAdd, Int.reduceAdd, Nat.reduceMul, Nat.reduceSub, Int.reduceToNat, Int.reduceLE, Int.reduceLT, Int.reduceEq, Int.reduceNe, reduceCtorEq, Nat.reduceLT, Nat.reduceLeDiff, Lat.shapeE, Lat.many, gt_iff_lt]
            grind
    · simp only [A_shapes_Check, go_sem, Nat.reduceMod, Nat.reduceBNe, Nat.reduceBEq, Nat.reduceEqDiff, Nat.reduceAdd, Int.reduceAdd, Nat.reduceMul, Nat.reduceSub, Int.reduceToNat, Int.reduceLE, Int.reduceLT, Int.reduceEq, Int.reduceNe, reduceCtorEq, Nat.reduceLT, Nat.reduceLeDiff]
      refine call_lend (r := .bool (([l0, l1] : List Int).any fun x => decide (x < 0))) (ev_ContainsFuncI hX hs [l0, l1] F_shapes_Check_1 [] rfl _ (fun x hx => ev_sc1 hX hs x) (by simp)) rfl ?_
      cases e : ([l0, l1] : List Int).any fun x => decide (x < 0) with
      | true =>
        simp only [go_sem, Nat.reduceMod, Nat.reduceBNe, Nat.reduceBEq, Nat.reduceEqDiff, Nat.reduceAdd, Int.reduceAdd, Nat.reduceMul, Nat.reduceSub, Int.reduceToNat, Int.reduceLE, Int.reduceLT, Int.reduceEq, Int.reduceNe, reduceCtorEq, Nat.reduceLT, Nat.reduceLeDiff]
        simp only [List.any_cons, List.any_nil, Bool.or_false, Bool.or_eq_true, decide_eq_true_eq] at e
        simp only [Lat.shapeE, Lat.many]
        grind
      | false =>
        simp only [go_sem, Nat.reduceMod, Nat.reduceBNe, Nat.reduceBEq, Nat.reduceEqDiff, Nat.reduceAdd, Int.reduceAdd, Nat.reduceMul, Nat.reduceSub, Int.reduceToNat, Int.reduceLE, Int.reduceLT, Int.reduceEq, Int.reduceNe, reduceCtorEq, Nat.reduceLT, Nat.reduceLeDiff]
        simp only [List.any_cons, List.any_nil, Bool.or_false, Bool.or_eq_false_iff, decide_eq_false_iff_not] at e
        refine call_lend (r := .bool (([] : List Int).any fun x => !decide (x = 0))) (ev_ContainsFuncI hX hs [] F_shapes_Check_2 [] rfl _ (fun x hx => ev_sc2 hX hs x) (by simp)) rfl ?_
        simp only [List.any_nil, go_sem, Nat.reduceMod, Nat.reduceBNe, Nat.reduceBEq, Nat.reduceEqDiff, Nat.reduceAdd, Int.reduceAdd, Nat.reduceMul, Nat.reduceSub, Int.reduceToNat, Int.reduceLE, Int.reduceLT, Int.reduceEq, Int.reduceNe, reduceCtorEq, Nat.reduceLT, Nat.reduceLeDiff]
        refine call_lend (r := .bool (([l0, l1] : List Int).any fun x => decide (400 < x))) (ev_ContainsFuncI hX hs [l0, l1] F_shapes_Check_3 [] rfl _ (fun x hx => ev_sc3 hX hs x) (by simp)) rfl ?_
        cases e3 : ([l0, l1] : List Int).any fun x => decide (400 < x) with
        | true =>
          simp only [go_sem, Nat.reduceMod, Nat.reduceBNe, Nat.reduceBEq, Nat.reduceEqDiff, Nat.reduceAdd, Int.reduceAdd, Nat.reduceMul, Nat.reduceSub, Int.reduceToNat, Int.reduceLE, Int.reduceLT, Int.reduceEq, Int.reduceNe, reduceCtorEq, Nat.reduceLT, Nat.reduceLeDiff]
          simp only [List.any_cons, List.any_nil, Bool.or_false, Bool.or_eq_true, decide_eq_true_eq] at e3
          simp only [Lat.shapeE, Lat.many]
          grind
        | false =>
          simp only [go_sem, Nat.reduceMod, Nat.reduceBNe, Nat.reduceBEq, Nat.reduceEqDiff, Nat.reduceAdd, Int.reduceAdd, Nat.reduceMul, Nat.reduceSub, Int.reduceToNat, Int.reduceLE, Int.reduceLT, Int.reduceEq, Int.reduceNe, reduceCtorEq, Nat.reduceLT, Nat.reduceLeDiff]
          simp only [List.any_cons, List.any_nil, Bool.or_false, Bool.or_eq_false_iff, decide_eq_false_iff_not] at e3
          refine call_ev (ev_product hX hs 2 (by omega) l0 l1 (by omega) (by omega)) ?_
          simp only [go_sem, Nat.reduceMod, Nat.reduceBNe, Nat.reduceBEq, Nat.reduceEqDiff, Nat.reduceAdd, Int.reduceAdd, Nat.reduceMul, Nat.reduceSub, Int.reduceToNat, Int.reduceLE, Int.reduceLT, Int.reduceEq, Int.reduceNe, reduceCtorEq, Nat.reduceLT, Nat.reduceLeDiff, Lat.shapeE, Lat.many, gt_iff_lt]
          grind
theorem ev_Cells (r l0 l1 : Int) : Ev X F_shapes_Cells [.int .i64 r, .agg [.int .i64 l0, .int .i64 l1]] (.tuple [.int .i64 (if Lat.shapeE r l0 l1 = 0 then Lat.many r l0 l1 else 0), .int .i64 (Lat.shapeE r l0 l1)]) := by
  refine ev_of_wpc hs (A_shapes_Cells_ok hX) 1 ?_
  simp only [A_shapes_Cells, go_sem, Nat.reduceMod, Nat.reduceBNe, Nat.reduceBEq, Nat.reduceEqDiff, Nat.reduceAdd, Int.reduceAdd, Nat.reduceMul, Nat.reduceSub, Int.reduceToNat, Int.reduceLE, Int.reduceLT, Int.reduceEq, Int.reduceNe, reduceCtorEq, Nat.reduceLT, Nat.reduceLeDiff]
  refine call_ev (ev_sCheck hX hs r l0 l1) ?_
  by_cases h : Lat.shapeE r l0 l1 = 0
  · simp only [h, go_sem, Nat.reduceMod, Nat.reduceBNe, Nat.reduceBEq, Nat.reduceEqDiff, Nat.reduceAdd, Int.reduceAdd, Nat.reduceMul, Nat.reduceSub, Int.reduceToNat, Int.reduceLE, Int.reduceLT, Int.reduceEq, Int.reduceNe, reduceCtorEq, Nat.reduceLT, Nat.reduceLeDiff]
    obtain ⟨h1, h2, h3⟩ := shapeE_0 h
    obtain ⟨n, rfl⟩ : ∃ n : Nat, r = n := ⟨r.toNat, by omega⟩
    refine call_ev (ev_product hX hs n (by omega) l0 l1 h2 h3) ?_
    simp only [go_sem, Nat.reduceMod, Nat.reduceBNe, Nat.reduceBEq, Nat.reduceEqDiff, Nat.reduceAdd, Int.reduceAdd, Nat.reduceMul, Nat.reduceSub, Int.reduceToNat, Int.reduceLE, Int.reduceLT, Int.reduceEq, Int.reduceNe, reduceCtorEq, Nat.reduceLT, Nat.reduceLeDiff]
  · simp only [h, go_sem, Nat.reduceMod, Nat.reduceBNe, Nat.reduceBEq, Nat.reduceEqDiff, Nat.reduceAdd, Int.reduceAdd, Nat.reduceMul, Nat.reduceSub, Int.reduceToNat, Int.reduceLE, Int.reduceLT, Int.reduceEq, Int.reduceNe, reduceCtorEq, Nat.reduceLT, Nat.reduceLeDiff]
theorem ev_IndexFuncL (l : List Int) (f : Nat) (cs : List AV) (hd : dryL cs = cs) (p : Int → Bool) (hp : ∀ x ∈ l, Ev X f (.int .i64 x :: cs) (.bool (p x))) (hl : l.length < 1000000) : Ev X F_slices_IndexFunc_int64_int64 [lst (AV.int .i64) .ro l, .clo f [] cs] (.int .i64 (Lat.oi (Lat.ff l.length fun i => p (l.getD i 0)))) := by
  refine ev_of_wpc hs (A_slices_IndexFunc_int64_int64_ok hX) 0 ?_
  simp only [A_slices_IndexFunc_int64_int64, go_sem, Nat.reduceMod, Nat.reduceBNe, Nat.reduceBEq, Nat.reduceEqDiff, Nat.reduceAdd, Int.reduceAdd, Nat.reduceMul, Nat.reduceSub, Int.reduceToNat, Int.reduceLE, Int.reduceLT, Int.reduceEq, Int.reduceNe, reduceCtorEq, Nat.reduceLT, Nat.reduceLeDiff]
  refine w_loop' hs.hm (ι := Nat) (fun i => i ≤ l.length ∧ ∀ j, j < i → p (l.getD j 0) = false) (fun i => [(8, .int .i64 i), (7, .int .i64 l.length), (1, .clo f [] cs), (0, lst (AV.int .i64) .ro l)]) (fun _ => []) (fun i => l.length - i) 0 ?_ fun i hi => ?_
  · simp only [go_sem, Nat.reduceMod, Nat.reduceBNe, Nat.reduceBEq, Nat.reduceEqDiff, Nat.reduceAdd, Int.reduceAdd, Nat.reduceMul, Nat.reduceSub, Int.reduceToNat, Int.reduceLE, Int.reduceLT, Int.reduceEq, Int.reduceNe, reduceCtorEq, Nat.reduceLT, Nat.reduceLeDiff]
    exact ⟨Nat.zero_le _, no_lt0⟩
  · obtain ⟨i1, i2⟩ := hi
    simp only [A_slices_IndexFunc_int64_int64L0, go_sem, Nat.reduceMod, Nat.reduceBNe, Nat.reduceBEq, Nat.reduceEqDiff, Nat.reduceAdd, Int.reduceAdd, Nat.reduceMul, Nat.reduceSub, Int.reduceToNat, Int.reduceLE, Int.reduceLT, Int.reduceEq, Int.reduceNe, reduceCtorEq, Nat.reduceLT, Nat.reduceLeDiff]
    refine ⟨fun c => ⟨⟨by omega, c⟩, call_ev (r := .bool (p (l.getD i 0))) ?_ ?_⟩, fun c => ?_⟩
    · simp only [dryL, dry, hd]
      refine hp _ ?_
      rw [List.getD_eq_getElem?_getD, List.getElem?_eq_getElem (show i < l.length by omega)]
      exact List.getElem_mem _
    · cases e : p (l.getD i 0) with
      | true =>
        simp only [go_sem, Nat.reduceMod, Nat.reduceBNe, Nat.reduceBEq, Nat.reduceEqDiff, Nat.reduceAdd, Int.reduceAdd, Nat.reduceMul, Nat.reduceSub, Int.reduceToNat, Int.reduceLE, Int.reduceLT, Int.reduceEq, Int.reduceNe, reduceCtorEq, Nat.reduceLT, Nat.reduceLeDiff]
        rw [Lat.ff_some (p := fun a => p (l.getD a 0)) (show i < l.length by omega) e i2]
        rfl
      | false =>
        simp only [go_sem, Nat.reduceMod, Nat.reduceBNe, Nat.reduceBEq, Nat.reduceEqDiff, Nat.reduceAdd, Int.reduceAdd, Nat.reduceMul, Nat.reduceSub, Int.reduceToNat, Int.reduceLE, Int.reduceLT, Int.reduceEq, Int.reduceNe, reduceCtorEq, Nat.reduceLT, Nat.reduceLeDiff]
        exact nxt1 (by omega) i2 e (by omega)
    · rw [Lat.ff_none (p := fun a => p (l.getD a 0)) (n := l.length) fun j hj => i2 j (by omega)]
      rfl
theorem ev_ContainsFuncL (l : List Int) (f : Nat) (cs : List AV) (hd : dryL cs = cs) (p : Int → Bool) (hp : ∀ x ∈ l, Ev X f (.int .i64 x :: cs) (.bool (p x))) (hl : l.length < 1000000) : Ev X F_slices_ContainsFunc_int64_int64 [lst (AV.int .i64) .ro l, .clo f [] cs] (.bool (l.any p)) := by
  refine ev_of_wpc hs (A_slices_ContainsFunc_int64_int64_ok hX) 0 ?_
  simp only [A_slices_ContainsFunc_int64_int64, go_sem, Nat.reduceMod, Nat.reduceBNe, Nat.reduceBEq, Nat.reduceEqDiff, Nat.reduceAdd, Int.reduceAdd, Nat.reduceMul, Nat.reduceSub, Int.reduceToNat, Int.reduceLE, Int.reduceLT, Int.reduceEq, Int.reduceNe, reduceCtorEq, Nat.reduceLT, Nat.reduceLeDiff]
  refine call_ev (r := .int .i64 (Lat.oi (Lat.ff l.length fun i => p (l.getD i 0)))) ?_ ?_
  · simp only [dryL, dry, lst, hd]
    exact ev_IndexFuncL hX hs l f cs hd p hp hl
  · simp only [go_sem, Nat.reduceMod, Nat.reduceBNe, Nat.reduceBEq, Nat.reduceEqDiff, Nat.reduceAdd, Int.reduceAdd, Nat.reduceMul, Nat.reduceSub, Int.reduceToNat, Int.reduceLE, Int.reduceLT, Int.reduceEq, Int.reduceNe, reduceCtorEq, Nat.reduceLT, Nat.reduceLeDiff]
    rw [show l.any p = (Lat.ff l.length fun i => p (l.getD i 0)).isSome from ?_]
    · cases Lat.ff l.length fun i => p (l.getD i 0) with
      | none => rfl
      | some c => simp [Lat.oi]
    · rw [Bool.eq_iff_iff, List.any_eq_true]
      constructor
      · rintro ⟨x, hx, hpx⟩
        obtain ⟨i, hi, e⟩ := List.getElem_of_mem hx
        cases hq : Lat.ff l.length fun i => p (l.getD i 0) with
        | some c => rfl
        | none =>
          have := Lat.ff_eq_none.1 hq i hi
          rw [List.getD_eq_getElem?_getD, List.getElem?_eq_getElem hi, Option.getD_some, e, hpx] at this
          exact absurd this (by decide)
      · intro h
        obtain ⟨a, ha⟩ := Option.isSome_iff_exists.1 h
        obtain ⟨h1, h2, _⟩ := Lat.ff_eq_some.1 ha
        exact ⟨_, List.getElem_mem h1, by rw [List.getD_eq_getElem?_getD, List.getElem?_eq_getElem h1] at h2; exact h2⟩
theorem ev_ValidRune (x : Int) (hx : 0 ≤ x ∧ x ≤ 1114111) : Ev X F_utf8_ValidRune [.int .i32 x] (.bool (Lat.runeI x)) := by
  refine ev_of_wpc hs (A_utf8_ValidRune_ok hX) 1 ?_
  simp only [A_utf8_ValidRune, go_sem, Nat.reduceMod, Nat.reduceBNe, Nat.reduceBEq, Nat.reduceEqDiff, Nat.reduceAdd, Int.reduceAdd, Nat.reduceMul, Nat.reduceSub, Int.reduceToNat, Int.reduceLE, Int.reduceLT, Int.reduceEq, Int.reduceNe, reduceCtorEq, Nat.reduceLT, Nat.reduceLeDiff, Lat.runeI]
  have h1 : (0 ≤ x) = True := eq_true hx.1
  have h2 : (x ≤ 1114111) = True := eq_true hx.2
  simp only [h1, h2, go_sem, Nat.reduceMod, Nat.reduceBNe, Nat.reduceBEq, Nat.reduceEqDiff, Nat.reduceAdd, Int.reduceAdd, Nat.reduceMul, Nat.reduceSub, Int.reduceToNat, Int.reduceLE, Int.reduceLT, Int.reduceEq, Int.reduceNe, reduceCtorEq, Nat.reduceLT, Nat.reduceLeDiff]
  grind
theorem ev_right (k x : Int) : Ev X F_arrays_right [.int .i64 k, .int .i64 x] (.bool (decide (k = 1) || Lat.runeI x)) := by
  refine ev_of_wpc hs (A_arrays_right_ok hX) 1 ?_
  simp only [A_arrays_right, go_sem, Nat.reduceMod, Nat.reduceBNe, Nat.reduceBEq, Nat.reduceEqDiff, Nat.reduceAdd, Int.reduceAdd, Nat.reduceMul, Nat.reduceSub, Int.reduceToNat, Int.reduceLE, Int.reduceLT, Int.reduceEq, Int.reduceNe, reduceCtorEq, Nat.reduceLT, Nat.reduceLeDiff]
  refine ⟨fun h => ?_, fun h => ⟨fun h2 => ⟨fun h3 => ?_, fun h3 => ?_⟩, fun h2 => ?_⟩⟩
  · simp [h]
  · rw [wi32 (by omega)]
    refine call_ev (ev_ValidRune hX hs x ⟨h2, h3⟩) ?_
    simp only [go_sem, Nat.reduceMod, Nat.reduceBNe, Nat.reduceBEq, Nat.reduceEqDiff, Nat.reduceAdd, Int.reduceAdd, Nat.reduceMul, Nat.reduceSub, Int.reduceToNat, Int.reduceLE, Int.reduceLT, Int.reduceEq, Int.reduceNe, reduceCtorEq, Nat.reduceLT, Nat.reduceLeDiff, h]
  · simp [h, Lat.runeI, h3]
  · simp [h, Lat.runeI, h2]
theorem ev_aC1 (k r a b : Int) (c : AV) (x : Int) : Ev X F_arrays_Check_1 [.int .i64 x, .vp [.int .i64 k, .int .i64 r, .int .i64 a, .int .i64 b, c]] (.bool (!(decide (k = 1) || Lat.runeI x))) := by
  refine ev_of_wpc hs (A_arrays_Check_1_ok hX) 1 ?_
  simp only [A_arrays_Check_1, go_sem, Nat.reduceMod, Nat.reduceBNe, Nat.reduceBEq, Nat.reduceEqDiff, Nat.reduceAdd, Int.reduceAdd, Nat.reduceMul, Nat.reduceSub, Int.reduceToNat, Int.reduceLE, Int.reduceLT, Int.reduceEq, Int.reduceNe, reduceCtorEq, Nat.reduceLT, Nat.reduceLeDiff]
  refine call_ev (ev_right hX hs k x) ?_
  simp only [go_sem, Nat.reduceMod, Nat.reduceBNe, Nat.reduceBEq, Nat.reduceEqDiff, Nat.reduceAdd, Int.reduceAdd, Nat.reduceMul, Nat.reduceSub, Int.reduceToNat, Int.reduceLE, Int.reduceLT, Int.reduceEq, Int.reduceNe, reduceCtorEq, Nat.reduceLT, Nat.reduceLeDiff]
theorem ev_aCheck (a : Lat.Arr) (hl : a.c.length < 1000000) : Ev X F_arrays_Check [arrV a] (.int .i64 (Lat.arrE a)) := by
  obtain ⟨k, r, l0, l1, c⟩ := a
  refine ev_of_wpc hs (A_arrays_Check_ok hX) 1 ?_
  by_cases hk : k = 1 ∨ k = 2
  · simp only [Lat.arrE, show ¬ (k ≠ 1 ∧ k ≠ 2) by omega, if_false]
    rcases hk with rfl | rfl <;> simp only [A_arrays_Check, arrV, go_sem, Nat.reduceMod, Nat.reduceBNe, Nat.reduceBEq, Nat.reduceEqDiff, Nat.reduceAdd, Int.reduceAdd, Nat.reduceMul, Nat.reduceSub, Int.reduceToNat, Int.reduceLE, Int.reduceLT, Int.reduceEq, Int.reduceNe, reduceCtorEq, Nat.reduceLT, Nat.reduceLeDiff]
    · refine call_ev (ev_Cells hX hs r l0 l1) ?_
      by_cases h : Lat.shapeE r l0 l1 = 0
      · simp only [h, go_sem, Nat.reduceMod, Nat.reduceBNe, Nat.reduceBEq, Nat.reduceEqDiff, Nat.reduceAdd, Int.reduceAdd, Nat.reduceMul, Nat.reduceSub, Int.reduceToNat, Int.reduceLE, Int.reduceLT, Int.reduceEq, Int.reduceNe, reduceCtorEq, Nat.reduceLT, Nat.reduceLeDiff, ne_eq]
        refine ⟨fun e => ?_, fun e => ?_⟩
        · rw [if_pos e]
        · refine call_lend (r := .bool (c.any fun x => !(decide (((1 : Int)) = 1) || Lat.runeI x))) (ev_ContainsFuncL hX hs c F_arrays_Check_1 [.vp [.int .i64 1, .int .i64 r, .int .i64 l0, .int .i64 l1, lst (AV.int .i64) .ro c]] rfl _ (fun x hx => ev_aC1 hX hs 1 r l0 l1 _ x) hl) rfl ?_
          rw [if_neg (fun z => z e)]
          simp only [decide_true, Bool.true_or, Bool.not_true, go_sem, Nat.reduceMod, Nat.reduceBNe, Nat.reduceBEq, Nat.reduceEqDiff, Nat.reduceAdd, Int.reduceAdd, Nat.reduceMul, Nat.reduceSub, Int.reduceToNat, Int.reduceLE, Int.reduceLT, Int.reduceEq, Int.reduceNe, reduceCtorEq, Nat.reduceLT, Nat.reduceLeDiff]
          have e2 : (c.any fun _ => false) = false := by simp
          simp only [e2, false_and, go_sem, Nat.reduceMod, Nat.reduceBNe, Nat.reduceBEq, Nat.reduceEqDiff, Nat.reduceAdd, Int.reduceAdd, Nat.reduceMul, Nat.reduceSub, Int.reduceToNat, Int.reduceLE, Int.reduceLT, Int.reduceEq, Int.reduceNe, reduceCtorEq, Nat.reduceLT, Nat.reduceLeDiff]
      · simp only [h, go_sem, Nat.reduceMod, Nat.reduceBNe, Nat.reduceBEq, Nat.reduceEqDiff, Nat.reduceAdd, Int.reduceAdd, Nat.reduceMul, Nat.reduceSub, Int.reduceToNat, Int.reduceLE, Int.reduceLT, Int.reduceEq, Int.reduceNe, reduceCtorEq, Nat.reduceLT, Nat.reduceLeDiff, ne_eq]
    · refine call_ev (ev_Cells hX hs r l0 l1) ?_
      by_cases h : Lat.shapeE r l0 l1 = 0
      · simp only [h, go_sem, Nat.reduceMod, Nat.reduceBNe, Nat.reduceBEq, Nat.reduceEqDiff, Nat.reduceAdd, Int.reduceAdd, Nat.reduceMul, Nat.reduceSub, Int.reduceToNat, Int.reduceLE, Int.reduceLT, Int.reduceEq, Int.reduceNe, reduceCtorEq, Nat.reduceLT, Nat.reduceLeDiff, ne_eq]
        refine ⟨fun e => ?_, fun e => ?_⟩
        · rw [if_pos e]
        · refine call_lend (r := .bool (c.any fun x => !(decide (((2 : Int)) = 1) || Lat.runeI x))) (ev_ContainsFuncL hX hs c F_arrays_Check_1 [.vp [.int .i64 2, .int .i64 r, .int .i64 l0, .int .i64 l1, lst (AV.int .i64) .ro c]] rfl _ (fun x hx => ev_aC1 hX hs 2 r l0 l1 _ x) hl) rfl ?_
          rw [if_neg (fun z => z e)]
          simp only [show decide ((2 : Int) = 1) = false from rfl, Bool.false_or]
          cases e2 : c.any fun x => !Lat.runeI x <;> simp only [go_sem, Nat.reduceMod, Nat.reduceBNe, Nat.reduceBEq, Nat.reduceEqDiff, Nat.reduceAdd, Int.reduceAdd, Nat.reduceMul, Nat.reduceSub, Int.reduceToNat, Int.reduceLE, Int.reduceLT, Int.reduceEq, Int.reduceNe, reduceCtorEq, Nat.reduceLT, Nat.reduceLeDiff]
          
      · simp only [h, go_sem, Nat.reduceMod, Nat.reduceBNe, Nat.reduceBEq, Nat.reduceEqDiff, Nat.reduceAdd, Int.reduceAdd, Nat.reduceMul, Nat.reduceSub, Int.reduceToNat, Int.reduceLE, Int.reduceLT, Int.reduceEq, Int.reduceNe, reduceCtorEq, Nat.reduceLT, Nat.reduceLeDiff, ne_eq]
  · have e : Lat.arrE ⟨k, r, l0, l1, c⟩ = 2 := if_pos (by simp only; omega)
    rw [e]
    have h1 : (k = 1) = False := eq_false (by omega)
    have h2 : (k = 2) = False := eq_false (by omega)
    simp only [A_arrays_Check, arrV, go_sem, Nat.reduceMod, Nat.reduceBNe, Nat.reduceBEq, Nat.reduceEqDiff, Nat.reduceAdd, Int.reduceAdd, Nat.reduceMul, Nat.reduceSub, Int.reduceToNat, Int.reduceLE, Int.reduceLT, Int.reduceEq, Int.reduceNe, reduceCtorEq, Nat.reduceLT, Nat.reduceLeDiff, h1, h2]
theorem ev_t_Fits (t : Lat.Ty) (a : Lat.Arr) : Ev X F_types_Fits [tyV t, arrV a] (.bool (Lat.fits t a)) := by
  refine ev_of_wpc hs (A_types_Fits_ok hX) 1 ?_
  simp only [A_types_Fits, tyV, arrV, go_sem, Nat.reduceMod, Nat.reduceBNe, Nat.reduceBEq, Nat.reduceEqDiff, Nat.reduceAdd, Int.reduceAdd, Nat.reduceMul, Nat.reduceSub, Int.reduceToNat, Int.reduceLE, Int.reduceLT, Int.reduceEq, Int.reduceNe, reduceCtorEq, Nat.reduceLT, Nat.reduceLeDiff, Lat.fits]
  refine ⟨fun h => ?_, fun h => ?_⟩
  · simp [h]
  · simp [h]
theorem ev_Equal (l m : List Int) (hl : l.length < 1000000) : Ev X F_slices_Equal_int64_int64 [lst (AV.int .i64) .ro l, lst (AV.int .i64) .ro m] (.bool (l == m)) := by
  refine ev_of_wpc hs (A_slices_Equal_int64_int64_ok hX) 0 ?_
  simp only [A_slices_Equal_int64_int64, go_sem, Nat.reduceMod, Nat.reduceBNe, Nat.reduceBEq, Nat.reduceEqDiff, Nat.reduceAdd, Int.reduceAdd, Nat.reduceMul, Nat.reduceSub, Int.reduceToNat, Int.reduceLE, Int.reduceLT, Int.reduceEq, Int.reduceNe, reduceCtorEq, Nat.reduceLT, Nat.reduceLeDiff]
  refine ⟨fun h => ?_, fun h => ?_⟩
  · have : (l == m) = false := by rw [beq_eq_false_iff_ne]; intro e; rw [e] at h; exact h rfl
    rw [this]
  · have hlm : l.length = m.length := by omega
    refine w_loop' hs.hm (ι := Nat) (fun i => i ≤ l.length ∧ ∀ j, j < i → l.getD j 0 = m.getD j 0) (fun i => [(13, .int .i64 i), (12, .int .i64 l.length), (0, lst (AV.int .i64) .ro l), (1, lst (AV.int .i64) .ro m)]) (fun _ => []) (fun i => l.length - i) 0 ?_ fun i hi => ?_
    · simp only [go_sem, Nat.reduceMod, Nat.reduceBNe, Nat.reduceBEq, Nat.reduceEqDiff, Nat.reduceAdd, Int.reduceAdd, Nat.reduceMul, Nat.reduceSub, Int.reduceToNat, Int.reduceLE, Int.reduceLT, Int.reduceEq, Int.reduceNe, reduceCtorEq, Nat.reduceLT, Nat.reduceLeDiff]
      exact ⟨Nat.zero_le _, no_lt0⟩
    · obtain ⟨i1, i2⟩ := hi
      simp only [A_slices_Equal_int64_int64L0, go_sem, Nat.reduceMod, Nat.reduceBNe, Nat.reduceBEq, Nat.reduceEqDiff, Nat.reduceAdd, Int.reduceAdd, Nat.reduceMul, Nat.reduceSub, Int.reduceToNat, Int.reduceLE, Int.reduceLT, Int.reduceEq, Int.reduceNe, reduceCtorEq, Nat.reduceLT, Nat.reduceLeDiff]
      refine ⟨fun c => ⟨⟨by omega, c⟩, ⟨by omega, by omega⟩, fun e => ?_, fun e => nxt1 (by omega) i2 e (by omega)⟩, fun c => ?_⟩
      · have : (l == m) = false := by rw [beq_eq_false_iff_ne]; intro e2; rw [e2] at e; exact e rfl
        rw [this]
      · have : l = m := Lat.ext_getD (d := 0) hlm fun j hj => i2 j (by omega)
        rw [this]
        simp
theorem ev_t_Sees (ns : List (List UInt8)) (up : List UInt8) (t : Lat.Ty) (o : Int) : Ev X F_types_Sees [latV ns up, tyV t, .int .i64 o] (.tuple [.agg [.bool (decide (Lat.raiseE ns up t o = 0) && Lat.ax0 up t o), .bool (decide (Lat.raiseE ns up t o = 0) && Lat.ax1 up t o)], .bool (decide (Lat.raiseE ns up t o = 0) && Lat.seesC up t o), .int .i64 (Lat.raiseE ns up t o)]) := by
  refine ev_of_wpc hs (A_types_Sees_ok hX) 1 ?_
  simp only [A_types_Sees, latV, tyV, go_sem, Nat.reduceMod, Nat.reduceBNe, Nat.reduceBEq, Nat.reduceEqDiff, Nat.reduceAdd, Int.reduceAdd, Nat.reduceMul, Nat.reduceSub, Int.reduceToNat, Int.reduceLE, Int.reduceLT, Int.reduceEq, Int.reduceNe, reduceCtorEq, Nat.reduceLT, Nat.reduceLeDiff]
  refine call_ev (ev_t_of hX hs ns up) ?_
  by_cases h : (Lat.checkS ns up).2 = 0
  · have hv := (Lat.checkS_val h).2
    simp only [h, ordT, go_sem, Nat.reduceMod, Nat.reduceBNe, Nat.reduceBEq, Nat.reduceEqDiff, Nat.reduceAdd, Int.reduceAdd, Nat.reduceMul, Nat.reduceSub, Int.reduceToNat, Int.reduceLE, Int.reduceLT, Int.reduceEq, Int.reduceNe, reduceCtorEq, Nat.reduceLT, Nat.reduceLeDiff, Lat.raiseE, tyS_2 h, ne_eq]
    refine call_ev (ev_t_check hX hs ns up hv t) ?_
    by_cases g : Lat.goodS ns.length up t = 0
    · have gg := (Lat.goodS_0 hv).1 g
      simp only [g, go_sem, Nat.reduceMod, Nat.reduceBNe, Nat.reduceBEq, Nat.reduceEqDiff, Nat.reduceAdd, Int.reduceAdd, Nat.reduceMul, Nat.reduceSub, Int.reduceToNat, Int.reduceLE, Int.reduceLT, Int.reduceEq, Int.reduceNe, reduceCtorEq, Nat.reduceLT, Nat.reduceLeDiff]
      refine call_ev (ev_t_label hX hs ns up _ o) ?_
      cases e : Lat.lab ns.length o with
      | false => simp only [go_sem, Nat.reduceMod, Nat.reduceBNe, Nat.reduceBEq, Nat.reduceEqDiff, Nat.reduceAdd, Int.reduceAdd, Nat.reduceMul, Nat.reduceSub, Int.reduceToNat, Int.reduceLE, Int.reduceLT, Int.reduceEq, Int.reduceNe, reduceCtorEq, Nat.reduceLT, Nat.reduceLeDiff]
      | true =>
        simp only [go_sem, Nat.reduceMod, Nat.reduceBNe, Nat.reduceBEq, Nat.reduceEqDiff, Nat.reduceAdd, Int.reduceAdd, Nat.reduceMul, Nat.reduceSub, Int.reduceToNat, Int.reduceLE, Int.reduceLT, Int.reduceEq, Int.reduceNe, reduceCtorEq, Nat.reduceLT, Nat.reduceLeDiff, Bool.true_eq_false]
        obtain ⟨k, r, a0, a1, d⟩ := t
        obtain ⟨n, rfl⟩ : ∃ n : Nat, r = n := ⟨r.toNat, by have := gg.r; simp only at this; omega⟩
        have hn : n ≤ 2 := by have := gg.r; simp only at this; omega
        have eL := e
        rw [← hv.len] at eL
        have l0 : Lat.lab up.length a0 = true := by rw [hv.len]; exact gg.l0
        have l1 : Lat.lab up.length a1 = true := by rw [hv.len]; exact gg.l1
        have ld : Lat.lab up.length d = true := by rw [hv.len]; exact gg.ld
        refine w_loop' hs.hm (ι := Nat) (fun i => i ≤ n) (fun i => [(35, .int .i64 i), (34, .int .i64 n), (9, .ptr 3 0), (4, .ptr 1 0), (6, .ptr 2 0), (2, .int .i64 o)]) (fun i => [.box [lst AV.str .ro ns, lst u8 .ro up], .box [.int .i64 k, .int .i64 n, .int .i64 a0, .int .i64 a1, .int .i64 d], .box [.bool (decide (1 ≤ i) && Lat.leI up a0 o), .bool (decide (2 ≤ i) && Lat.leI up a1 o)], .box [lst AV.str .ro ns, lst u8 .ro up, .int .i64 (Lat.bot ns.length up : Nat)]]) (fun i => n - i) 0 ?_ fun i hi => ?_
        · simp only [go_sem, Nat.reduceMod, Nat.reduceBNe, Nat.reduceBEq, Nat.reduceEqDiff, Nat.reduceAdd, Int.reduceAdd, Nat.reduceMul, Nat.reduceSub, Int.reduceToNat, Int.reduceLE, Int.reduceLT, Int.reduceEq, Int.reduceNe, reduceCtorEq, Nat.reduceLT, Nat.reduceLeDiff]
          exact Nat.zero_le _
        · simp only [A_types_SeesL0, go_sem, Nat.reduceMod, Nat.reduceBNe, Nat.reduceBEq, Nat.reduceEqDiff, Nat.reduceAdd, Int.reduceAdd, Nat.reduceMul, Nat.reduceSub, Int.reduceToNat, Int.reduceLE, Int.reduceLT, Int.reduceEq, Int.reduceNe, reduceCtorEq, Nat.reduceLT, Nat.reduceLeDiff]
          refine ⟨fun c => ?_, fun c => ?_⟩
          · have : i = 0 ∨ i = 1 := by omega
            rcases this with rfl | rfl
            · simp only [go_sem, Nat.reduceMod, Nat.reduceBNe, Nat.reduceBEq, Nat.reduceEqDiff, Nat.reduceAdd, Int.reduceAdd, Nat.reduceMul, Nat.reduceSub, Int.reduceToNat, Int.reduceLE, Int.reduceLT, Int.reduceEq, Int.reduceNe, reduceCtorEq, Nat.reduceLT, Nat.reduceLeDiff]
              refine callq_ev (ev_t_leq hX hs ns up _ l0 eL) ?_
              simp only [go_sem, Nat.reduceMod, Nat.reduceBNe, Nat.reduceBEq, Nat.reduceEqDiff, Nat.reduceAdd, Int.reduceAdd, Nat.reduceMul, Nat.reduceSub, Int.reduceToNat, Int.reduceLE, Int.reduceLT, Int.reduceEq, Int.reduceNe, reduceCtorEq, Nat.reduceLT, Nat.reduceLeDiff]
              exact ⟨1, by omega, by omega, rfl, by simp⟩
            · simp only [go_sem, Nat.reduceMod, Nat.reduceBNe, Nat.reduceBEq, Nat.reduceEqDiff, Nat.reduceAdd, Int.reduceAdd, Nat.reduceMul, Nat.reduceSub, Int.reduceToNat, Int.reduceLE, Int.reduceLT, Int.reduceEq, Int.reduceNe, reduceCtorEq, Nat.reduceLT, Nat.reduceLeDiff]
              refine callq_ev (ev_t_leq hX hs ns up _ l1 eL) ?_
              simp only [go_sem, Nat.reduceMod, Nat.reduceBNe, Nat.reduceBEq, Nat.reduceEqDiff, Nat.reduceAdd, Int.reduceAdd, Nat.reduceMul, Nat.reduceSub, Int.reduceToNat, Int.reduceLE, Int.reduceLT, Int.reduceEq, Int.reduceNe, reduceCtorEq, Nat.reduceLT, Nat.reduceLeDiff]
              exact ⟨2, by omega, by omega, rfl, by simp⟩
          · obtain rfl : i = n := by omega
            refine callq_ev (ev_t_leq hX hs ns up _ ld eL) ?_
            have e1 : (1 ≤ (i : Int)) = (1 ≤ i) := by rw [eq_iff_iff]; omega
            have e2 : (2 ≤ (i : Int)) = (2 ≤ i) := by rw [eq_iff_iff]; omega
            simp only [go_sem, Nat.reduceMod, Nat.reduceBNe, Nat.reduceBEq, Nat.reduceEqDiff, Nat.reduceAdd, Int.reduceAdd, Nat.reduceMul, Nat.reduceSub, Int.reduceToNat, Int.reduceLE, Int.reduceLT, Int.reduceEq, Int.reduceNe, reduceCtorEq, Nat.reduceLT, Nat.reduceLeDiff, Lat.ax0, Lat.ax1, Lat.seesC, e1, e2]
    · simp only [g, go_sem, Nat.reduceMod, Nat.reduceBNe, Nat.reduceBEq, Nat.reduceEqDiff, Nat.reduceAdd, Int.reduceAdd, Nat.reduceMul, Nat.reduceSub, Int.reduceToNat, Int.reduceLE, Int.reduceLT, Int.reduceEq, Int.reduceNe, reduceCtorEq, Nat.reduceLT, Nat.reduceLeDiff]
  · simp only [h, ordT, go_sem, Nat.reduceMod, Nat.reduceBNe, Nat.reduceBEq, Nat.reduceEqDiff, Nat.reduceAdd, Int.reduceAdd, Nat.reduceMul, Nat.reduceSub, Int.reduceToNat, Int.reduceLE, Int.reduceLT, Int.reduceEq, Int.reduceNe, reduceCtorEq, Nat.reduceLT, Nat.reduceLeDiff, Lat.raiseE, tyS_1 h, ne_eq]
end
end Go.Avm

/- The program: Agree. -/
namespace Go.Avm
open Go
instance : Inhabited Lat.Arr := ⟨⟨0, 0, 0, 0, []⟩⟩
instance : Elt arrV 5 := ⟨fun _ => rfl, fun _ => rfl, fun _ => rfl, fun _ => rfl⟩
set_option maxRecDepth 10000
section
variable {X : Cx} (hX : X.P = Go.Proofs.Tryz.prog) (hs : Std X)
include hX hs
set_option maxHeartbeats 4000000 in
theorem ev_t_Agree (ns : List (List UInt8)) (up : List UInt8) (t : Lat.Ty) (o : Int) (a b : Lat.Arr) (ha : a.c.length < 1000000) (hb : b.c.length < 1000000) : Ev X F_types_Agree [latV ns up, tyV t, .int .i64 o, arrV a, arrV b] (.tuple [.bool (Lat.agreeS ns up t o a b), .int .i64 (Lat.agreeE ns up t o a b)]) := by
  refine ev_of_wpc hs (A_types_Agree_ok hX) 1 ?_
  simp only [A_types_Agree, latV, tyV, arrV, go_sem, Nat.reduceMod, Nat.reduceBNe, Nat.reduceBEq, Nat.reduceEqDiff, Nat.reduceAdd, Int.reduceAdd, Nat.reduceMul, Nat.reduceSub, Int.reduceToNat, Int.reduceLE, Int.reduceLT, Int.reduceEq, Int.reduceNe, reduceCtorEq, Nat.reduceLT, Nat.reduceLeDiff]
  refine call_ev (ev_t_Sees hX hs ns up t o) ?_
  simp only [Lat.agreeS, Lat.agreeE, Lat.seesE]
  by_cases h : Lat.raiseE ns up t o = 0
  · simp only [h, go_sem, Nat.reduceMod, Nat.reduceBNe, Nat.reduceBEq, Nat.reduceEqDiff, Nat.reduceAdd, Int.reduceAdd, Nat.reduceMul, Nat.reduceSub, Int.reduceToNat, Int.reduceLE, Int.reduceLT, Int.reduceEq, Int.reduceNe, reduceCtorEq, Nat.reduceLT, Nat.reduceLeDiff, ne_eq]
    refine w_loop' hs.hm (ι := Nat) (fun i => i ≤ 2 ∧ (1 ≤ i → Lat.arrE a = 0) ∧ (2 ≤ i → Lat.arrE b = 0)) (fun i => [(35, .int .i64 i), (34, .int .i64 2), (33, lst arrV .ex [a, b]), (6, .ptr 1 0), (8, .ptr 2 0), (9, .ptr 3 0), (12, .ptr 4 0), (13, .bool (Lat.seesC up t o))])
      (fun i => [.box [lst AV.str .ro ns, lst u8 .ro up], .box [.int .i64 t.k, .int .i64 t.r, .int .i64 t.a0, .int .i64 t.a1, .int .i64 t.d], .box [.int .i64 a.k, .int .i64 a.r, .int .i64 a.l0, .int .i64 a.l1, lst (AV.int .i64) .ro a.c], .box [.int .i64 b.k, .int .i64 b.r, .int .i64 b.l0, .int .i64 b.l1, lst (AV.int .i64) .ro b.c], .box [.bool (Lat.ax0 up t o), .bool (Lat.ax1 up t o)]] ++ [.box [.int .i64 a.k, .int .i64 a.r, .int .i64 a.l0, .int .i64 a.l1, lst (AV.int .i64) .ro a.c], .box [.int .i64 b.k, .int .i64 b.r, .int .i64 b.l0, .int .i64 b.l1, lst (AV.int .i64) .ro b.c]].take i) (fun i => 2 - i) 0 ?_ fun i hi => ?_
    · simp only [go_sem, Nat.reduceMod, Nat.reduceBNe, Nat.reduceBEq, Nat.reduceEqDiff, Nat.reduceAdd, Int.reduceAdd, Nat.reduceMul, Nat.reduceSub, Int.reduceToNat, Int.reduceLE, Int.reduceLT, Int.reduceEq, Int.reduceNe, reduceCtorEq, Nat.reduceLT, Nat.reduceLeDiff, lst, arrV]
    · obtain ⟨i1, i2, i3⟩ := hi
      have : i = 0 ∨ i = 1 ∨ i = 2 := by omega
      rcases this with rfl | rfl | rfl
      · simp only [A_types_AgreeL0, go_sem, Nat.reduceMod, Nat.reduceBNe, Nat.reduceBEq, Nat.reduceEqDiff, Nat.reduceAdd, Int.reduceAdd, Nat.reduceMul, Nat.reduceSub, Int.reduceToNat, Int.reduceLE, Int.reduceLT, Int.reduceEq, Int.reduceNe, reduceCtorEq, Nat.reduceLT, Nat.reduceLeDiff, arrV]
        refine call_ev (ev_aCheck hX hs a ha) ?_
        by_cases g : Lat.arrE a = 0
        · simp only [g, go_sem, Nat.reduceMod, Nat.reduceBNe, Nat.reduceBEq, Nat.reduceEqDiff, Nat.reduceAdd, Int.reduceAdd, Nat.reduceMul, Nat.reduceSub, Int.reduceToNat, Int.reduceLE, Int.reduceLT, Int.reduceEq, Int.reduceNe, reduceCtorEq, Nat.reduceLT, Nat.reduceLeDiff]
          exact ⟨1, by omega, ⟨by omega, fun h => absurd h (by omega)⟩, rfl, rfl⟩
        · simp only [g, go_sem, Nat.reduceMod, Nat.reduceBNe, Nat.reduceBEq, Nat.reduceEqDiff, Nat.reduceAdd, Int.reduceAdd, Nat.reduceMul, Nat.reduceSub, Int.reduceToNat, Int.reduceLE, Int.reduceLT, Int.reduceEq, Int.reduceNe, reduceCtorEq, Nat.reduceLT, Nat.reduceLeDiff]
      · have g := i2 (by omega)
        simp only [A_types_AgreeL0, go_sem, Nat.reduceMod, Nat.reduceBNe, Nat.reduceBEq, Nat.reduceEqDiff, Nat.reduceAdd, Int.reduceAdd, Nat.reduceMul, Nat.reduceSub, Int.reduceToNat, Int.reduceLE, Int.reduceLT, Int.reduceEq, Int.reduceNe, reduceCtorEq, Nat.reduceLT, Nat.reduceLeDiff, arrV]
        refine call_ev (ev_aCheck hX hs b hb) ?_
        by_cases g2 : Lat.arrE b = 0
        · simp only [g2, go_sem, Nat.reduceMod, Nat.reduceBNe, Nat.reduceBEq, Nat.reduceEqDiff, Nat.reduceAdd, Int.reduceAdd, Nat.reduceMul, Nat.reduceSub, Int.reduceToNat, Int.reduceLE, Int.reduceLT, Int.reduceEq, Int.reduceNe, reduceCtorEq, Nat.reduceLT, Nat.reduceLeDiff]
          exact ⟨2, by omega, ⟨by omega, fun _ => g⟩, rfl, rfl⟩
        · simp only [g, g2, go_sem, Nat.reduceMod, Nat.reduceBNe, Nat.reduceBEq, Nat.reduceEqDiff, Nat.reduceAdd, Int.reduceAdd, Nat.reduceMul, Nat.reduceSub, Int.reduceToNat, Int.reduceLE, Int.reduceLT, Int.reduceEq, Int.reduceNe, reduceCtorEq, Nat.reduceLT, Nat.reduceLeDiff]
      · have g := i2 (by omega)
        have g2 := i3 (by omega)
        simp only [A_types_AgreeL0, go_sem, Nat.reduceMod, Nat.reduceBNe, Nat.reduceBEq, Nat.reduceEqDiff, Nat.reduceAdd, Int.reduceAdd, Nat.reduceMul, Nat.reduceSub, Int.reduceToNat, Int.reduceLE, Int.reduceLT, Int.reduceEq, Int.reduceNe, reduceCtorEq, Nat.reduceLT, Nat.reduceLeDiff, arrV, g, g2]
        refine call_ev (ev_t_Fits hX hs t a) ?_
        cases f1 : Lat.fits t a with
        | false =>
          simp only [go_sem, Nat.reduceMod, Nat.reduceBNe, Nat.reduceBEq, Nat.reduceEqDiff, Nat.reduceAdd, Int.reduceAdd, Nat.reduceMul, Nat.reduceSub, Int.reduceToNat, Int.reduceLE, Int.reduceLT, Int.reduceEq, Int.reduceNe, reduceCtorEq, Nat.reduceLT, Nat.reduceLeDiff]
        | true =>
          simp only [go_sem, Nat.reduceMod, Nat.reduceBNe, Nat.reduceBEq, Nat.reduceEqDiff, Nat.reduceAdd, Int.reduceAdd, Nat.reduceMul, Nat.reduceSub, Int.reduceToNat, Int.reduceLE, Int.reduceLT, Int.reduceEq, Int.reduceNe, reduceCtorEq, Nat.reduceLT, Nat.reduceLeDiff]
          refine call_ev (ev_t_Fits hX hs t b) ?_
          cases f2 : Lat.fits t b with
          | false =>
            simp only [go_sem, Nat.reduceMod, Nat.reduceBNe, Nat.reduceBEq, Nat.reduceEqDiff, Nat.reduceAdd, Int.reduceAdd, Nat.reduceMul, Nat.reduceSub, Int.reduceToNat, Int.reduceLE, Int.reduceLT, Int.reduceEq, Int.reduceNe, reduceCtorEq, Nat.reduceLT, Nat.reduceLeDiff]
          | true =>
            simp only [go_sem, Nat.reduceMod, Nat.reduceBNe, Nat.reduceBEq, Nat.reduceEqDiff, Nat.reduceAdd, Int.reduceAdd, Nat.reduceMul, Nat.reduceSub, Int.reduceToNat, Int.reduceLE, Int.reduceLT, Int.reduceEq, Int.reduceNe, reduceCtorEq, Nat.reduceLT, Nat.reduceLeDiff, Bool.true_eq_false]
            refine w_loop' hs.hm (ι := Nat) (fun i => i ≤ 2 ∧ (1 ≤ i → Lat.ax0 up t o = true → a.l0 = b.l0) ∧ (2 ≤ i → Lat.ax1 up t o = true → a.l1 = b.l1)) (fun i => [(56, .int .i64 i), (55, .agg [.bool (Lat.ax0 up t o), .bool (Lat.ax1 up t o)]), (8, .ptr 2 0), (9, .ptr 3 0), (13, .bool (Lat.seesC up t o))])
              (fun _ => [.box [lst AV.str .ro ns, lst u8 .ro up], .box [.int .i64 t.k, .int .i64 t.r, .int .i64 t.a0, .int .i64 t.a1, .int .i64 t.d], .box [.int .i64 a.k, .int .i64 a.r, .int .i64 a.l0, .int .i64 a.l1, lst (AV.int .i64) .ro a.c], .box [.int .i64 b.k, .int .i64 b.r, .int .i64 b.l0, .int .i64 b.l1, lst (AV.int .i64) .ro b.c], .box [.bool (Lat.ax0 up t o), .bool (Lat.ax1 up t o)], .box [.int .i64 a.k, .int .i64 a.r, .int .i64 a.l0, .int .i64 a.l1, lst (AV.int .i64) .ro a.c], .box [.int .i64 b.k, .int .i64 b.r, .int .i64 b.l0, .int .i64 b.l1, lst (AV.int .i64) .ro b.c]]) (fun i => 2 - i) 0 ?_ fun i hi => ?_
            · simp only [go_sem, Nat.reduceMod, Nat.reduceBNe, Nat.reduceBEq, Nat.reduceEqDiff, Nat.reduceAdd, Int.reduceAdd, Nat.reduceMul, Nat.reduceSub, Int.reduceToNat, Int.reduceLE, Int.reduceLT, Int.reduceEq, Int.reduceNe, reduceCtorEq, Nat.reduceLT, Nat.reduceLeDiff]
            · obtain ⟨j1, j2, j3⟩ := hi
              have : i = 0 ∨ i = 1 ∨ i = 2 := by omega
              rcases this with rfl | rfl | rfl
              · simp only [A_types_AgreeL1, go_sem, Nat.reduceMod, Nat.reduceBNe, Nat.reduceBEq, Nat.reduceEqDiff, Nat.reduceAdd, Int.reduceAdd, Nat.reduceMul, Nat.reduceSub, Int.reduceToNat, Int.reduceLE, Int.reduceLT, Int.reduceEq, Int.reduceNe, reduceCtorEq, Nat.reduceLT, Nat.reduceLeDiff]
                cases x0 : Lat.ax0 up t o with
                | false =>
                  simp only [go_sem, Nat.reduceMod, Nat.reduceBNe, Nat.reduceBEq, Nat.reduceEqDiff, Nat.reduceAdd, Int.reduceAdd, Nat.reduceMul, Nat.reduceSub, Int.reduceToNat, Int.reduceLE, Int.reduceLT, Int.reduceEq, Int.reduceNe, reduceCtorEq, Nat.reduceLT, Nat.reduceLeDiff]
                  exact ⟨1, by omega, ⟨by omega, fun h => absurd h (by omega)⟩, rfl⟩
                | true =>
                  simp only [go_sem, Nat.reduceMod, Nat.reduceBNe, Nat.reduceBEq, Nat.reduceEqDiff, Nat.reduceAdd, Int.reduceAdd, Nat.reduceMul, Nat.reduceSub, Int.reduceToNat, Int.reduceLE, Int.reduceLT, Int.reduceEq, Int.reduceNe, reduceCtorEq, Nat.reduceLT, Nat.reduceLeDiff]
                  refine ⟨fun e => ?_, fun e => ⟨1, by omega, ⟨by omega, fun _ => e, fun h => absurd h (by omega)⟩, rfl⟩⟩
                  simp [Lat.agreeT, x0, e]
              · simp only [A_types_AgreeL1, go_sem, Nat.reduceMod, Nat.reduceBNe, Nat.reduceBEq, Nat.reduceEqDiff, Nat.reduceAdd, Int.reduceAdd, Nat.reduceMul, Nat.reduceSub, Int.reduceToNat, Int.reduceLE, Int.reduceLT, Int.reduceEq, Int.reduceNe, reduceCtorEq, Nat.reduceLT, Nat.reduceLeDiff]
                cases x1 : Lat.ax1 up t o with
                | false =>
                  simp only [go_sem, Nat.reduceMod, Nat.reduceBNe, Nat.reduceBEq, Nat.reduceEqDiff, Nat.reduceAdd, Int.reduceAdd, Nat.reduceMul, Nat.reduceSub, Int.reduceToNat, Int.reduceLE, Int.reduceLT, Int.reduceEq, Int.reduceNe, reduceCtorEq, Nat.reduceLT, Nat.reduceLeDiff]
                  exact ⟨2, by omega, ⟨by omega, fun _ => j2 (by omega)⟩, rfl⟩
                | true =>
                  simp only [go_sem, Nat.reduceMod, Nat.reduceBNe, Nat.reduceBEq, Nat.reduceEqDiff, Nat.reduceAdd, Int.reduceAdd, Nat.reduceMul, Nat.reduceSub, Int.reduceToNat, Int.reduceLE, Int.reduceLT, Int.reduceEq, Int.reduceNe, reduceCtorEq, Nat.reduceLT, Nat.reduceLeDiff]
                  refine ⟨fun e => ?_, fun e => ⟨2, by omega, ⟨by omega, fun _ => j2 (by omega), fun _ => e⟩, rfl⟩⟩
                  simp [Lat.agreeT, x1, e]
              · have k0 := j2 (by omega)
                have k1 := j3 (by omega)
                simp only [A_types_AgreeL1, go_sem, Nat.reduceMod, Nat.reduceBNe, Nat.reduceBEq, Nat.reduceEqDiff, Nat.reduceAdd, Int.reduceAdd, Nat.reduceMul, Nat.reduceSub, Int.reduceToNat, Int.reduceLE, Int.reduceLT, Int.reduceEq, Int.reduceNe, reduceCtorEq, Nat.reduceLT, Nat.reduceLeDiff]
                refine ⟨fun e => ?_, fun e => call_ev (ev_Equal hX hs a.c b.c ha) ?_⟩
                · simp only [Lat.agreeT, e]
                  cases x0 : Lat.ax0 up t o <;> cases x1 : Lat.ax1 up t o <;> simp_all
                · simp only [go_sem, Nat.reduceMod, Nat.reduceBNe, Nat.reduceBEq, Nat.reduceEqDiff, Nat.reduceAdd, Int.reduceAdd, Nat.reduceMul, Nat.reduceSub, Int.reduceToNat, Int.reduceLE, Int.reduceLT, Int.reduceEq, Int.reduceNe, reduceCtorEq, Nat.reduceLT, Nat.reduceLeDiff]
                  simp only [Lat.agreeT, e]
                  cases x0 : Lat.ax0 up t o <;> cases x1 : Lat.ax1 up t o <;> simp_all
  · simp only [h, go_sem, Nat.reduceMod, Nat.reduceBNe, Nat.reduceBEq, Nat.reduceEqDiff, Nat.reduceAdd, Int.reduceAdd, Nat.reduceMul, Nat.reduceSub, Int.reduceToNat, Int.reduceLE, Int.reduceLT, Int.reduceEq, Int.reduceNe, reduceCtorEq, Nat.reduceLT, Nat.reduceLeDiff, ne_eq]
end
end Go.Avm
