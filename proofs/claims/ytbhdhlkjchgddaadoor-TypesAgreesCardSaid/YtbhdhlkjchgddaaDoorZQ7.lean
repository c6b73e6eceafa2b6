/- TypesRaises. -/
import Derived.Test.YtbhdhlkjchgddaaDoorZQ6
set_option linter.unusedSectionVars false
set_option linter.unusedSimpArgs false
set_option linter.unusedVariables false

/- TypesRaises. -/
namespace Go.Avm
open Go
theorem joinS_lab {ns : List (List UInt8)} {up : List UInt8} {l m : Int} (hc : (Lat.checkS ns up).2 = 0) (hl : Lat.lab ns.length l = true) (hm : Lat.lab ns.length m = true) : askS ns up l m = 0 ∧ joinS ns up l m = Lat.jnI ns.length up l m := by
  obtain ⟨l, rfl, hl⟩ := Lat.lab_nat hl
  obtain ⟨m, rfl, hm⟩ := Lat.lab_nat hm
  have ha : askS ns up l m = 0 := by
    unfold askS
    simp [hc]
    omega
  refine ⟨ha, ?_⟩
  unfold joinS
  simp [ha, Lat.jnI_nat]
set_option maxRecDepth 10000
section
variable {X : Cx} (hX : X.P = Go.Proofs.Tryd.prog) (hs : Std X)
include hX hs
theorem ev_ra0 (ns : List (List UInt8)) (up : List UInt8) {t : Lat.Ty} {l : Int} (h : Lat.raiseE ns up t l = 0) {u : Lat.Ty} (hu : Lat.raiseT ns.length up t l = u) : Ev X F_types_Raise [latV ns up, tyV t, .int .i64 l] (.tuple [tyV u, .int .i64 0]) :=
  ev_eqr (ev_t_Raise hX hs ns up t l) (by rw [Lat.raiseS, if_pos h, h, hu])
set_option maxHeartbeats 8000000 in
theorem ev_lTRaises (ns : List (List UInt8)) (up : List UInt8) (t : Lat.Ty) (l m : Int) : Ev X F_law20_TypesRaises [latV ns up, tyV t, .agg [.int .i64 l, .int .i64 m]] (.bool true) := by
  refine ev_of_xa hs (A_law20_TypesRaises_ok hX) 1 ?_
  simp only [A_law20_TypesRaises, latV, tyV]
  refine xa_cut hs.hm ?_
  simp only [go_sem, Nat.reduceMod, Nat.reduceBNe, Nat.reduceBEq, Nat.reduceEqDiff, Nat.reduceAdd, Int.reduceAdd, Nat.reduceMul, Nat.reduceSub, Int.reduceToNat, Int.reduceLE, Int.reduceLT, Int.reduceEq, Int.reduceNe, reduceCtorEq, Nat.reduceLT, Nat.reduceLeDiff, tyV, ty_beq]
  refine xa_cut hs.hm ?_
  simp only [go_sem, Nat.reduceMod, Nat.reduceBNe, Nat.reduceBEq, Nat.reduceEqDiff, Nat.reduceAdd, Int.reduceAdd, Nat.reduceMul, Nat.reduceSub, Int.reduceToNat, Int.reduceLE, Int.reduceLT, Int.reduceEq, Int.reduceNe, reduceCtorEq, Nat.reduceLT, Nat.reduceLeDiff, tyV, ty_beq]
  refine call_ev (ev_Large hX hs ns up) ?_
  cases largeS ns up with
  | true =>
    simp only [go_sem, Nat.reduceMod, Nat.reduceBNe, Nat.reduceBEq, Nat.reduceEqDiff, Nat.reduceAdd, Int.reduceAdd, Nat.reduceMul, Nat.reduceSub, Int.reduceToNat, Int.reduceLE, Int.reduceLT, Int.reduceEq, Int.reduceNe, reduceCtorEq, Nat.reduceLT, Nat.reduceLeDiff]
    refine call_ev (ev_shown hX hs) ?_
    simp only [go_sem, Nat.reduceMod, Nat.reduceBNe, Nat.reduceBEq, Nat.reduceEqDiff, Nat.reduceAdd, Int.reduceAdd, Nat.reduceMul, Nat.reduceSub, Int.reduceToNat, Int.reduceLE, Int.reduceLT, Int.reduceEq, Int.reduceNe, reduceCtorEq, Nat.reduceLT, Nat.reduceLeDiff, tyV, ty_beq]
  | false =>
    simp only [go_sem, Nat.reduceMod, Nat.reduceBNe, Nat.reduceBEq, Nat.reduceEqDiff, Nat.reduceAdd, Int.reduceAdd, Nat.reduceMul, Nat.reduceSub, Int.reduceToNat, Int.reduceLE, Int.reduceLT, Int.reduceEq, Int.reduceNe, reduceCtorEq, Nat.reduceLT, Nat.reduceLeDiff]
    refine xa_keep [3, 4, 5, 6] ?_
    simp only [go_sem, Nat.reduceMod, Nat.reduceBNe, Nat.reduceBEq, Nat.reduceEqDiff, Nat.reduceAdd, Int.reduceAdd, Nat.reduceMul, Nat.reduceSub, Int.reduceToNat, Int.reduceLE, Int.reduceLT, Int.reduceEq, Int.reduceNe, reduceCtorEq, Nat.reduceLT, Nat.reduceLeDiff]
    by_cases h1 : Lat.raiseE ns up t l = 0
    · by_cases h2 : Lat.raiseE ns up t m = 0
      · obtain ⟨t0, hl⟩ := Lat.raiseE_0.1 h1
        obtain ⟨_, hm⟩ := Lat.raiseE_0.1 h2
        obtain ⟨hc, hv, gt⟩ := Lat.tyS_0 t0
        have ga := Lat.raise_good hv gt hl
        have gb := Lat.raise_good hv gt hm
        have a0 := Lat.tyS_of hc ga
        have b0 := Lat.tyS_of hc gb
        have hj := Lat.jnI_lab hv hl hm
        have gc := Lat.raise_good hv gt hj
        have c0 := Lat.tyS_of hc gc
        have e1 : Lat.raiseE ns up (Lat.raiseT ns.length up t l) m = 0 := Lat.raiseE_0.2 ⟨a0, hm⟩
        have e2 : Lat.raiseE ns up t (Lat.jnI ns.length up l m) = 0 := Lat.raiseE_0.2 ⟨t0, hj⟩
        have f1 := Lat.raise_raise hv gt hl hm
        have f2 := Lat.raise_raise hv gt hm hl
        rw [Lat.jnI_comm hv hm hl] at f2
        have w1 := Lat.within_raise hv gt hl
        have w2 := Lat.within_raise hv gb hl
        rw [f2] at w2
        have j0 := joinS_lab hc hl hm
        have q1 : Lat.bothS ns up t (Lat.raiseT ns.length up t l) = 0 := Lat.bothS_0.2 ⟨t0, a0, rfl, rfl⟩
        have q2 : Lat.bothS ns up (Lat.raiseT ns.length up t m) (Lat.raiseT ns.length up t (Lat.jnI ns.length up l m)) = 0 := Lat.bothS_0.2 ⟨b0, c0, rfl, rfl⟩
        have hb := Lat.bot_lab hv
        have e3 : Lat.raiseE ns up t (Lat.bot ns.length up : Nat) = 0 := Lat.raiseE_0.2 ⟨t0, hb⟩
        have f3 := Lat.raise_bot hv gt
        have hbs : botS ns up = (Lat.bot ns.length up : Nat) := by simp only [botS, hc, if_true]; rfl
        generalize fa : Lat.raiseT ns.length up t l = ta at *
        generalize fb : Lat.raiseT ns.length up t m = tb at *
        generalize fc : Lat.raiseT ns.length up t (Lat.jnI ns.length up l m) = tc at *
        refine xa_cut hs.hm ?_
        simp only [go_sem, Nat.reduceMod, Nat.reduceBNe, Nat.reduceBEq, Nat.reduceEqDiff, Nat.reduceAdd, Int.reduceAdd, Nat.reduceMul, Nat.reduceSub, Int.reduceToNat, Int.reduceLE, Int.reduceLT, Int.reduceEq, Int.reduceNe, reduceCtorEq, Nat.reduceLT, Nat.reduceLeDiff, tyV, ty_beq]
        refine call_ev (ev_ra0 hX hs ns up h1 fa) ?_
        simp only [go_sem, Nat.reduceMod, Nat.reduceBNe, Nat.reduceBEq, Nat.reduceEqDiff, Nat.reduceAdd, Int.reduceAdd, Nat.reduceMul, Nat.reduceSub, Int.reduceToNat, Int.reduceLE, Int.reduceLT, Int.reduceEq, Int.reduceNe, reduceCtorEq, Nat.reduceLT, Nat.reduceLeDiff, tyV, ty_beq]
        refine xa_keep [3, 4, 5, 6, 7, 8] ?_
        simp only [go_sem, Nat.reduceMod, Nat.reduceBNe, Nat.reduceBEq, Nat.reduceEqDiff, Nat.reduceAdd, Int.reduceAdd, Nat.reduceMul, Nat.reduceSub, Int.reduceToNat, Int.reduceLE, Int.reduceLT, Int.reduceEq, Int.reduceNe, reduceCtorEq, Nat.reduceLT, Nat.reduceLeDiff]
        refine xa_cut hs.hm ?_
        simp only [go_sem, Nat.reduceMod, Nat.reduceBNe, Nat.reduceBEq, Nat.reduceEqDiff, Nat.reduceAdd, Int.reduceAdd, Nat.reduceMul, Nat.reduceSub, Int.reduceToNat, Int.reduceLE, Int.reduceLT, Int.reduceEq, Int.reduceNe, reduceCtorEq, Nat.reduceLT, Nat.reduceLeDiff, tyV, ty_beq]
        refine call_ev (ev_ra0 hX hs ns up h2 fb) ?_
        simp only [go_sem, Nat.reduceMod, Nat.reduceBNe, Nat.reduceBEq, Nat.reduceEqDiff, Nat.reduceAdd, Int.reduceAdd, Nat.reduceMul, Nat.reduceSub, Int.reduceToNat, Int.reduceLE, Int.reduceLT, Int.reduceEq, Int.reduceNe, reduceCtorEq, Nat.reduceLT, Nat.reduceLeDiff, tyV, ty_beq]
        refine xa_keep [3, 4, 5, 6, 7, 8, 9, 10] ?_
        simp only [go_sem, Nat.reduceMod, Nat.reduceBNe, Nat.reduceBEq, Nat.reduceEqDiff, Nat.reduceAdd, Int.reduceAdd, Nat.reduceMul, Nat.reduceSub, Int.reduceToNat, Int.reduceLE, Int.reduceLT, Int.reduceEq, Int.reduceNe, reduceCtorEq, Nat.reduceLT, Nat.reduceLeDiff]
        refine xa_cut hs.hm ?_
        simp only [go_sem, Nat.reduceMod, Nat.reduceBNe, Nat.reduceBEq, Nat.reduceEqDiff, Nat.reduceAdd, Int.reduceAdd, Nat.reduceMul, Nat.reduceSub, Int.reduceToNat, Int.reduceLE, Int.reduceLT, Int.reduceEq, Int.reduceNe, reduceCtorEq, Nat.reduceLT, Nat.reduceLeDiff, tyV, ty_beq]
        refine xa_keep [3, 4, 5, 6, 7, 9] ?_
        simp only [go_sem, Nat.reduceMod, Nat.reduceBNe, Nat.reduceBEq, Nat.reduceEqDiff, Nat.reduceAdd, Int.reduceAdd, Nat.reduceMul, Nat.reduceSub, Int.reduceToNat, Int.reduceLE, Int.reduceLT, Int.reduceEq, Int.reduceNe, reduceCtorEq, Nat.reduceLT, Nat.reduceLeDiff]
        refine xa_cut hs.hm ?_
        simp only [go_sem, Nat.reduceMod, Nat.reduceBNe, Nat.reduceBEq, Nat.reduceEqDiff, Nat.reduceAdd, Int.reduceAdd, Nat.reduceMul, Nat.reduceSub, Int.reduceToNat, Int.reduceLE, Int.reduceLT, Int.reduceEq, Int.reduceNe, reduceCtorEq, Nat.reduceLT, Nat.reduceLeDiff, tyV, ty_beq]
        refine call_ev (ev_ra0 hX hs ns up e1 f1) ?_
        simp only [go_sem, Nat.reduceMod, Nat.reduceBNe, Nat.reduceBEq, Nat.reduceEqDiff, Nat.reduceAdd, Int.reduceAdd, Nat.reduceMul, Nat.reduceSub, Int.reduceToNat, Int.reduceLE, Int.reduceLT, Int.reduceEq, Int.reduceNe, reduceCtorEq, Nat.reduceLT, Nat.reduceLeDiff, tyV, ty_beq]
        refine xa_keep [3, 4, 5, 6, 7, 8, 9, 11] ?_
        simp only [go_sem, Nat.reduceMod, Nat.reduceBNe, Nat.reduceBEq, Nat.reduceEqDiff, Nat.reduceAdd, Int.reduceAdd, Nat.reduceMul, Nat.reduceSub, Int.reduceToNat, Int.reduceLE, Int.reduceLT, Int.reduceEq, Int.reduceNe, reduceCtorEq, Nat.reduceLT, Nat.reduceLeDiff]
        refine xa_cut hs.hm ?_
        simp only [go_sem, Nat.reduceMod, Nat.reduceBNe, Nat.reduceBEq, Nat.reduceEqDiff, Nat.reduceAdd, Int.reduceAdd, Nat.reduceMul, Nat.reduceSub, Int.reduceToNat, Int.reduceLE, Int.reduceLT, Int.reduceEq, Int.reduceNe, reduceCtorEq, Nat.reduceLT, Nat.reduceLeDiff, tyV, ty_beq]
        refine call_ev (ev_eqr (ev_rJoin hX hs ns up l m) (by rw [j0.1, j0.2])) ?_
        simp only [go_sem, Nat.reduceMod, Nat.reduceBNe, Nat.reduceBEq, Nat.reduceEqDiff, Nat.reduceAdd, Int.reduceAdd, Nat.reduceMul, Nat.reduceSub, Int.reduceToNat, Int.reduceLE, Int.reduceLT, Int.reduceEq, Int.reduceNe, reduceCtorEq, Nat.reduceLT, Nat.reduceLeDiff, tyV, ty_beq]
        refine xa_keep [3, 4, 6, 7, 8, 9, 10, 11, 12] ?_
        simp only [go_sem, Nat.reduceMod, Nat.reduceBNe, Nat.reduceBEq, Nat.reduceEqDiff, Nat.reduceAdd, Int.reduceAdd, Nat.reduceMul, Nat.reduceSub, Int.reduceToNat, Int.reduceLE, Int.reduceLT, Int.reduceEq, Int.reduceNe, reduceCtorEq, Nat.reduceLT, Nat.reduceLeDiff]
        refine xa_cut hs.hm ?_
        simp only [go_sem, Nat.reduceMod, Nat.reduceBNe, Nat.reduceBEq, Nat.reduceEqDiff, Nat.reduceAdd, Int.reduceAdd, Nat.reduceMul, Nat.reduceSub, Int.reduceToNat, Int.reduceLE, Int.reduceLT, Int.reduceEq, Int.reduceNe, reduceCtorEq, Nat.reduceLT, Nat.reduceLeDiff, tyV, ty_beq]
        refine call_ev (ev_ra0 hX hs ns up e2 fc) ?_
        simp only [go_sem, Nat.reduceMod, Nat.reduceBNe, Nat.reduceBEq, Nat.reduceEqDiff, Nat.reduceAdd, Int.reduceAdd, Nat.reduceMul, Nat.reduceSub, Int.reduceToNat, Int.reduceLE, Int.reduceLT, Int.reduceEq, Int.reduceNe, reduceCtorEq, Nat.reduceLT, Nat.reduceLeDiff, tyV, ty_beq]
        refine xa_keep [3, 4, 6, 7, 8, 9, 10, 11, 13, 14] ?_
        simp only [go_sem, Nat.reduceMod, Nat.reduceBNe, Nat.reduceBEq, Nat.reduceEqDiff, Nat.reduceAdd, Int.reduceAdd, Nat.reduceMul, Nat.reduceSub, Int.reduceToNat, Int.reduceLE, Int.reduceLT, Int.reduceEq, Int.reduceNe, reduceCtorEq, Nat.reduceLT, Nat.reduceLeDiff]
        refine xa_cut hs.hm ?_
        simp only [go_sem, Nat.reduceMod, Nat.reduceBNe, Nat.reduceBEq, Nat.reduceEqDiff, Nat.reduceAdd, Int.reduceAdd, Nat.reduceMul, Nat.reduceSub, Int.reduceToNat, Int.reduceLE, Int.reduceLT, Int.reduceEq, Int.reduceNe, reduceCtorEq, Nat.reduceLT, Nat.reduceLeDiff, tyV, ty_beq]
        refine call_ev (ev_w0 hX hs ns up q1 w1) ?_
        simp only [go_sem, Nat.reduceMod, Nat.reduceBNe, Nat.reduceBEq, Nat.reduceEqDiff, Nat.reduceAdd, Int.reduceAdd, Nat.reduceMul, Nat.reduceSub, Int.reduceToNat, Int.reduceLE, Int.reduceLT, Int.reduceEq, Int.reduceNe, reduceCtorEq, Nat.reduceLT, Nat.reduceLeDiff, tyV, ty_beq]
        refine xa_keep [3, 4, 6, 7, 8, 9, 10, 11, 13, 14, 15, 16] ?_
        simp only [go_sem, Nat.reduceMod, Nat.reduceBNe, Nat.reduceBEq, Nat.reduceEqDiff, Nat.reduceAdd, Int.reduceAdd, Nat.reduceMul, Nat.reduceSub, Int.reduceToNat, Int.reduceLE, Int.reduceLT, Int.reduceEq, Int.reduceNe, reduceCtorEq, Nat.reduceLT, Nat.reduceLeDiff]
        refine xa_cut hs.hm ?_
        simp only [go_sem, Nat.reduceMod, Nat.reduceBNe, Nat.reduceBEq, Nat.reduceEqDiff, Nat.reduceAdd, Int.reduceAdd, Nat.reduceMul, Nat.reduceSub, Int.reduceToNat, Int.reduceLE, Int.reduceLT, Int.reduceEq, Int.reduceNe, reduceCtorEq, Nat.reduceLT, Nat.reduceLeDiff, tyV, ty_beq]
        refine call_ev (ev_w0 hX hs ns up q2 w2) ?_
        simp only [go_sem, Nat.reduceMod, Nat.reduceBNe, Nat.reduceBEq, Nat.reduceEqDiff, Nat.reduceAdd, Int.reduceAdd, Nat.reduceMul, Nat.reduceSub, Int.reduceToNat, Int.reduceLE, Int.reduceLT, Int.reduceEq, Int.reduceNe, reduceCtorEq, Nat.reduceLT, Nat.reduceLeDiff, tyV, ty_beq]
        refine xa_keep [3, 4, 6, 7, 8, 10, 11, 13, 14, 15, 16, 17, 18] ?_
        simp only [go_sem, Nat.reduceMod, Nat.reduceBNe, Nat.reduceBEq, Nat.reduceEqDiff, Nat.reduceAdd, Int.reduceAdd, Nat.reduceMul, Nat.reduceSub, Int.reduceToNat, Int.reduceLE, Int.reduceLT, Int.reduceEq, Int.reduceNe, reduceCtorEq, Nat.reduceLT, Nat.reduceLeDiff]
        refine xa_cut hs.hm ?_
        simp only [go_sem, Nat.reduceMod, Nat.reduceBNe, Nat.reduceBEq, Nat.reduceEqDiff, Nat.reduceAdd, Int.reduceAdd, Nat.reduceMul, Nat.reduceSub, Int.reduceToNat, Int.reduceLE, Int.reduceLT, Int.reduceEq, Int.reduceNe, reduceCtorEq, Nat.reduceLT, Nat.reduceLeDiff, tyV, ty_beq]
        refine call_ev (ev_eqr (ev_rBottom hX hs ns up) (by rw [hbs, hc])) ?_
        simp only [go_sem, Nat.reduceMod, Nat.reduceBNe, Nat.reduceBEq, Nat.reduceEqDiff, Nat.reduceAdd, Int.reduceAdd, Nat.reduceMul, Nat.reduceSub, Int.reduceToNat, Int.reduceLE, Int.reduceLT, Int.reduceEq, Int.reduceNe, reduceCtorEq, Nat.reduceLT, Nat.reduceLeDiff, tyV, ty_beq]
        refine xa_keep [3, 4, 6, 7, 8, 10, 11, 13, 14, 15, 16, 17, 18, 19, 20] ?_
        simp only [go_sem, Nat.reduceMod, Nat.reduceBNe, Nat.reduceBEq, Nat.reduceEqDiff, Nat.reduceAdd, Int.reduceAdd, Nat.reduceMul, Nat.reduceSub, Int.reduceToNat, Int.reduceLE, Int.reduceLT, Int.reduceEq, Int.reduceNe, reduceCtorEq, Nat.reduceLT, Nat.reduceLeDiff]
        refine xa_cut hs.hm ?_
        simp only [go_sem, Nat.reduceMod, Nat.reduceBNe, Nat.reduceBEq, Nat.reduceEqDiff, Nat.reduceAdd, Int.reduceAdd, Nat.reduceMul, Nat.reduceSub, Int.reduceToNat, Int.reduceLE, Int.reduceLT, Int.reduceEq, Int.reduceNe, reduceCtorEq, Nat.reduceLT, Nat.reduceLeDiff, tyV, ty_beq]
        refine call_ev (ev_ra0 hX hs ns up e3 f3) ?_
        simp only [go_sem, Nat.reduceMod, Nat.reduceBNe, Nat.reduceBEq, Nat.reduceEqDiff, Nat.reduceAdd, Int.reduceAdd, Nat.reduceMul, Nat.reduceSub, Int.reduceToNat, Int.reduceLE, Int.reduceLT, Int.reduceEq, Int.reduceNe, reduceCtorEq, Nat.reduceLT, Nat.reduceLeDiff, tyV, ty_beq]
        refine xa_keep [3, 4, 6, 7, 8, 10, 11, 13, 14, 15, 16, 17, 18, 20, 21, 22] ?_
        simp only [go_sem, Nat.reduceMod, Nat.reduceBNe, Nat.reduceBEq, Nat.reduceEqDiff, Nat.reduceAdd, Int.reduceAdd, Nat.reduceMul, Nat.reduceSub, Int.reduceToNat, Int.reduceLE, Int.reduceLT, Int.reduceEq, Int.reduceNe, reduceCtorEq, Nat.reduceLT, Nat.reduceLeDiff]
        refine xa_last hs.hm ?_
        simp only [go_sem, Nat.reduceMod, Nat.reduceBNe, Nat.reduceBEq, Nat.reduceEqDiff, Nat.reduceAdd, Int.reduceAdd, Nat.reduceMul, Nat.reduceSub, Int.reduceToNat, Int.reduceLE, Int.reduceLT, Int.reduceEq, Int.reduceNe, reduceCtorEq, Nat.reduceLT, Nat.reduceLeDiff, ty_beq]
        refine call_ev (ev_eqr (ev_t_Check hX hs ns up ta) (by rw [a0])) ?_
        simp only [go_sem, Nat.reduceMod, Nat.reduceBNe, Nat.reduceBEq, Nat.reduceEqDiff, Nat.reduceAdd, Int.reduceAdd, Nat.reduceMul, Nat.reduceSub, Int.reduceToNat, Int.reduceLE, Int.reduceLT, Int.reduceEq, Int.reduceNe, reduceCtorEq, Nat.reduceLT, Nat.reduceLeDiff, tyV, ty_beq]
        refine call_ev (ev_shown hX hs) ?_
        simp only [go_sem, Nat.reduceMod, Nat.reduceBNe, Nat.reduceBEq, Nat.reduceEqDiff, Nat.reduceAdd, Int.reduceAdd, Nat.reduceMul, Nat.reduceSub, Int.reduceToNat, Int.reduceLE, Int.reduceLT, Int.reduceEq, Int.reduceNe, reduceCtorEq, Nat.reduceLT, Nat.reduceLeDiff, tyV, ty_beq]
      · have e1 := ev_eqr (ev_t_Raise hX hs ns up t l) (by rw [Lat.raiseS, if_pos h1, h1])
        refine xa_cut hs.hm ?_
        simp only [go_sem, Nat.reduceMod, Nat.reduceBNe, Nat.reduceBEq, Nat.reduceEqDiff, Nat.reduceAdd, Int.reduceAdd, Nat.reduceMul, Nat.reduceSub, Int.reduceToNat, Int.reduceLE, Int.reduceLT, Int.reduceEq, Int.reduceNe, reduceCtorEq, Nat.reduceLT, Nat.reduceLeDiff, tyV, ty_beq]
        refine call_ev (e1) ?_
        simp only [go_sem, Nat.reduceMod, Nat.reduceBNe, Nat.reduceBEq, Nat.reduceEqDiff, Nat.reduceAdd, Int.reduceAdd, Nat.reduceMul, Nat.reduceSub, Int.reduceToNat, Int.reduceLE, Int.reduceLT, Int.reduceEq, Int.reduceNe, reduceCtorEq, Nat.reduceLT, Nat.reduceLeDiff, tyV, ty_beq]
        refine xa_keep [3, 4, 5, 6, 7, 8] ?_
        simp only [go_sem, Nat.reduceMod, Nat.reduceBNe, Nat.reduceBEq, Nat.reduceEqDiff, Nat.reduceAdd, Int.reduceAdd, Nat.reduceMul, Nat.reduceSub, Int.reduceToNat, Int.reduceLE, Int.reduceLT, Int.reduceEq, Int.reduceNe, reduceCtorEq, Nat.reduceLT, Nat.reduceLeDiff]
        refine xa_cut hs.hm ?_
        simp only [go_sem, Nat.reduceMod, Nat.reduceBNe, Nat.reduceBEq, Nat.reduceEqDiff, Nat.reduceAdd, Int.reduceAdd, Nat.reduceMul, Nat.reduceSub, Int.reduceToNat, Int.reduceLE, Int.reduceLT, Int.reduceEq, Int.reduceNe, reduceCtorEq, Nat.reduceLT, Nat.reduceLeDiff, tyV, ty_beq]
        refine call_ev (ev_t_Raise hX hs ns up t m) ?_
        simp only [go_sem, Nat.reduceMod, Nat.reduceBNe, Nat.reduceBEq, Nat.reduceEqDiff, Nat.reduceAdd, Int.reduceAdd, Nat.reduceMul, Nat.reduceSub, Int.reduceToNat, Int.reduceLE, Int.reduceLT, Int.reduceEq, Int.reduceNe, reduceCtorEq, Nat.reduceLT, Nat.reduceLeDiff, tyV, ty_beq]
        refine xa_keep [3, 4, 5, 6, 7, 8, 9, 10] ?_
        simp only [go_sem, Nat.reduceMod, Nat.reduceBNe, Nat.reduceBEq, Nat.reduceEqDiff, Nat.reduceAdd, Int.reduceAdd, Nat.reduceMul, Nat.reduceSub, Int.reduceToNat, Int.reduceLE, Int.reduceLT, Int.reduceEq, Int.reduceNe, reduceCtorEq, Nat.reduceLT, Nat.reduceLeDiff]
        refine xa_cut hs.hm ?_
        simp only [go_sem, Nat.reduceMod, Nat.reduceBNe, Nat.reduceBEq, Nat.reduceEqDiff, Nat.reduceAdd, Int.reduceAdd, Nat.reduceMul, Nat.reduceSub, Int.reduceToNat, Int.reduceLE, Int.reduceLT, Int.reduceEq, Int.reduceNe, reduceCtorEq, Nat.reduceLT, Nat.reduceLeDiff, h2]
        refine call_ev (ev_shown hX hs) ?_
        simp only [go_sem, Nat.reduceMod, Nat.reduceBNe, Nat.reduceBEq, Nat.reduceEqDiff, Nat.reduceAdd, Int.reduceAdd, Nat.reduceMul, Nat.reduceSub, Int.reduceToNat, Int.reduceLE, Int.reduceLT, Int.reduceEq, Int.reduceNe, reduceCtorEq, Nat.reduceLT, Nat.reduceLeDiff, tyV, ty_beq]
    · refine xa_cut hs.hm ?_
      simp only [go_sem, Nat.reduceMod, Nat.reduceBNe, Nat.reduceBEq, Nat.reduceEqDiff, Nat.reduceAdd, Int.reduceAdd, Nat.reduceMul, Nat.reduceSub, Int.reduceToNat, Int.reduceLE, Int.reduceLT, Int.reduceEq, Int.reduceNe, reduceCtorEq, Nat.reduceLT, Nat.reduceLeDiff]
      refine call_ev (ev_t_Raise hX hs ns up t l) ?_
      simp only [go_sem, Nat.reduceMod, Nat.reduceBNe, Nat.reduceBEq, Nat.reduceEqDiff, Nat.reduceAdd, Int.reduceAdd, Nat.reduceMul, Nat.reduceSub, Int.reduceToNat, Int.reduceLE, Int.reduceLT, Int.reduceEq, Int.reduceNe, reduceCtorEq, Nat.reduceLT, Nat.reduceLeDiff, tyV, ty_beq]
      refine xa_keep [3, 4, 5, 6, 7, 8] ?_
      simp only [go_sem, Nat.reduceMod, Nat.reduceBNe, Nat.reduceBEq, Nat.reduceEqDiff, Nat.reduceAdd, Int.reduceAdd, Nat.reduceMul, Nat.reduceSub, Int.reduceToNat, Int.reduceLE, Int.reduceLT, Int.reduceEq, Int.reduceNe, reduceCtorEq, Nat.reduceLT, Nat.reduceLeDiff]
      refine xa_cut hs.hm ?_
      simp only [go_sem, Nat.reduceMod, Nat.reduceBNe, Nat.reduceBEq, Nat.reduceEqDiff, Nat.reduceAdd, Int.reduceAdd, Nat.reduceMul, Nat.reduceSub, Int.reduceToNat, Int.reduceLE, Int.reduceLT, Int.reduceEq, Int.reduceNe, reduceCtorEq, Nat.reduceLT, Nat.reduceLeDiff, tyV, ty_beq]
      refine call_ev (ev_t_Raise hX hs ns up t m) ?_
      simp only [go_sem, Nat.reduceMod, Nat.reduceBNe, Nat.reduceBEq, Nat.reduceEqDiff, Nat.reduceAdd, Int.reduceAdd, Nat.reduceMul, Nat.reduceSub, Int.reduceToNat, Int.reduceLE, Int.reduceLT, Int.reduceEq, Int.reduceNe, reduceCtorEq, Nat.reduceLT, Nat.reduceLeDiff, tyV, ty_beq]
      refine xa_keep [3, 4, 5, 6, 7, 8, 9, 10] ?_
      simp only [go_sem, Nat.reduceMod, Nat.reduceBNe, Nat.reduceBEq, Nat.reduceEqDiff, Nat.reduceAdd, Int.reduceAdd, Nat.reduceMul, Nat.reduceSub, Int.reduceToNat, Int.reduceLE, Int.reduceLT, Int.reduceEq, Int.reduceNe, reduceCtorEq, Nat.reduceLT, Nat.reduceLeDiff]
      refine xa_cut hs.hm ?_
      simp only [go_sem, Nat.reduceMod, Nat.reduceBNe, Nat.reduceBEq, Nat.reduceEqDiff, Nat.reduceAdd, Int.reduceAdd, Nat.reduceMul, Nat.reduceSub, Int.reduceToNat, Int.reduceLE, Int.reduceLT, Int.reduceEq, Int.reduceNe, reduceCtorEq, Nat.reduceLT, Nat.reduceLeDiff, h1]
      refine call_ev (ev_shown hX hs) ?_
      simp only [go_sem, Nat.reduceMod, Nat.reduceBNe, Nat.reduceBEq, Nat.reduceEqDiff, Nat.reduceAdd, Int.reduceAdd, Nat.reduceMul, Nat.reduceSub, Int.reduceToNat, Int.reduceLE, Int.reduceLT, Int.reduceEq, Int.reduceNe, reduceCtorEq, Nat.reduceLT, Nat.reduceLeDiff, tyV, ty_beq]
end
end Go.Avm

/- TypesAgrees: the inner loop. -/
namespace Go.Avm
open Go
set_option maxRecDepth 10000
section
variable {X : Cx} (hX : X.P = Go.Proofs.Tryd.prog) (hs : Std X)
include hX hs
theorem ag_inner {Q : Exit → Fr → Heap → Prop} {F : FL} {H : Heap} {n : Nat} (hn : n ≤ 2) {p : Nat} {below fewer x0 x1 y0 y1 w cl : Bool} {k a0 a1 d by' o : Int}
    (hb : H[1]? = some (.box [.int .i64 k, .int .i64 n, .int .i64 a0, .int .i64 a1, .int .i64 d, .int .i64 by'])) (hp : H[p]? = some (.box [.bool x0, .bool x1])) (hq : H[3]? = some (.box [.bool y0, .bool y1]))
    (c0 : 1 ≤ n → (below = true → x0 = true → y0 = true) ∧ (fewer = true → x0 = true)) (c1 : 2 ≤ n → (below = true → x1 = true → y1 = true) ∧ (fewer = true → x1 = true))
    (hF : FL.has F.get [(26, .int .i64 0), (3, .ptr 0 0), (4, .ptr 1 0), (5, .ptr 2 0), (6, .bool false), (7, .bool w), (15, .ptr 3 0), (16, .bool cl), (18, .int .i64 o), (19, .ptr p 0), (20, .bool fewer), (24, .bool below)])
    (hQ : ∀ F' : FL, FL.has F'.get [(3, .ptr 0 0), (4, .ptr 1 0), (5, .ptr 2 0), (6, .bool false), (7, .bool w), (15, .ptr 3 0), (16, .bool cl), (18, .int .i64 o)] → Q (.exit 2) F'.get H) : wpc X 246 (.loop A_law20_TypesAgreesL1) Q F.get H := by
  refine w_loop' hs.hm (ι := Nat) (fun i => i ≤ n) (fun i => [(26, .int .i64 i), (3, .ptr 0 0), (4, .ptr 1 0), (5, .ptr 2 0), (6, .bool false), (7, .bool w), (15, .ptr 3 0), (16, .bool cl), (18, .int .i64 o), (19, .ptr p 0), (20, .bool fewer), (24, .bool below)]) (fun _ => H) (fun i => n - i) 0 ⟨Nat.zero_le _, hF, rfl⟩ fun i hi => ?_
  simp only [A_law20_TypesAgreesL1, go_sem, Nat.reduceMod, Nat.reduceBNe, Nat.reduceBEq, Nat.reduceEqDiff, Nat.reduceAdd, Int.reduceAdd, Nat.reduceMul, Nat.reduceSub, Int.reduceToNat, Int.reduceLE, Int.reduceLT, Int.reduceEq, Int.reduceNe, reduceCtorEq, Nat.reduceLT, Nat.reduceLeDiff, hb, hp, hq]
  refine ⟨fun c => ?_, fun c => hQ _ (by simp only [go_sem, Nat.reduceMod, Nat.reduceBNe, Nat.reduceBEq, Nat.reduceEqDiff, Nat.reduceAdd, Int.reduceAdd, Nat.reduceMul, Nat.reduceSub, Int.reduceToNat, Int.reduceLE, Int.reduceLT, Int.reduceEq, Int.reduceNe, reduceCtorEq, Nat.reduceLT, Nat.reduceLeDiff])⟩
  have : i = 0 ∨ i = 1 := by omega
  rcases this with rfl | rfl
  · obtain ⟨q1, q2⟩ := c0 (by omega)
    simp only [go_sem, Nat.reduceMod, Nat.reduceBNe, Nat.reduceBEq, Nat.reduceEqDiff, Nat.reduceAdd, Int.reduceAdd, Nat.reduceMul, Nat.reduceSub, Int.reduceToNat, Int.reduceLE, Int.reduceLT, Int.reduceEq, Int.reduceNe, reduceCtorEq, Nat.reduceLT, Nat.reduceLeDiff, hb, hp, hq]
    cases below <;> cases x0 <;> cases y0 <;> cases fewer
    all_goals first | (exfalso; revert q1 q2; decide) | (simp only [go_sem, Nat.reduceMod, Nat.reduceBNe, Nat.reduceBEq, Nat.reduceEqDiff, Nat.reduceAdd, Int.reduceAdd, Nat.reduceMul, Nat.reduceSub, Int.reduceToNat, Int.reduceLE, Int.reduceLT, Int.reduceEq, Int.reduceNe, reduceCtorEq, Nat.reduceLT, Nat.reduceLeDiff, hb, hp, hq]; exact ⟨1, by omega, by omega, rfl⟩)
  · obtain ⟨q1, q2⟩ := c1 (by omega)
    simp only [go_sem, Nat.reduceMod, Nat.reduceBNe, Nat.reduceBEq, Nat.reduceEqDiff, Nat.reduceAdd, Int.reduceAdd, Nat.reduceMul, Nat.reduceSub, Int.reduceToNat, Int.reduceLE, Int.reduceLT, Int.reduceEq, Int.reduceNe, reduceCtorEq, Nat.reduceLT, Nat.reduceLeDiff, hb, hp, hq]
    cases below <;> cases x1 <;> cases y1 <;> cases fewer
    all_goals first | (exfalso; revert q1 q2; decide) | (simp only [go_sem, Nat.reduceMod, Nat.reduceBNe, Nat.reduceBEq, Nat.reduceEqDiff, Nat.reduceAdd, Int.reduceAdd, Nat.reduceMul, Nat.reduceSub, Int.reduceToNat, Int.reduceLE, Int.reduceLT, Int.reduceEq, Int.reduceNe, reduceCtorEq, Nat.reduceLT, Nat.reduceLeDiff, hb, hp, hq]; exact ⟨2, by omega, by omega, rfl⟩)
end
end Go.Avm

/- TypesAgrees. -/
namespace Go.Avm
open Go
def arC (a : Lat.Arr) : List AV := [.int .i64 a.k, .int .i64 a.r, .int .i64 a.l0, .int .i64 a.l1, lst (AV.int .i64) .ro a.c]
theorem leqS_lab {ns : List (List UInt8)} {up : List UInt8} {l m : Int} (hc : (Lat.checkS ns up).2 = 0) (hl : Lat.lab ns.length l = true) (hm : Lat.lab ns.length m = true) : askS ns up l m = 0 ∧ leqS ns up l m = Lat.leI up l m := by
  have hv := chk_val hc
  obtain ⟨h1, _⟩ := joinS_lab hc hl hm
  refine ⟨h1, ?_⟩
  unfold leqS
  rw [h1, below_lab (by rw [hv.len]; exact hl) (by rw [hv.len]; exact hm)]
  simp
set_option maxRecDepth 10000
section
variable {X : Cx} (hX : X.P = Go.Proofs.Tryd.prog) (hs : Std X)
include hX hs
theorem ev_big (a : Lat.Arr) : Ev X F_law20_big [arrV a] (.bool (decide (450 < a.c.length))) := by
  refine ev_of_wpc hs (A_law20_big_ok hX) 1 ?_
  simp only [A_law20_big, arrV, go_sem, Nat.reduceMod, Nat.reduceBNe, Nat.reduceBEq, Nat.reduceEqDiff, Nat.reduceAdd, Int.reduceAdd, Nat.reduceMul, Nat.reduceSub, Int.reduceToNat, Int.reduceLE, Int.reduceLT, Int.reduceEq, Int.reduceNe, reduceCtorEq, Nat.reduceLT, Nat.reduceLeDiff, gt_iff_lt]
  have : (450 < (a.c.length : Int)) = (450 < a.c.length) := by rw [eq_iff_iff]; omega
  simp only [this]
theorem ev_ag0 (ns : List (List UInt8)) (up : List UInt8) {t : Lat.Ty} {o : Int} {a b : Lat.Arr} (ha : a.c.length < 1000000) (hb : b.c.length < 1000000) (h : Lat.agreeE ns up t o a b = 0) {w : Bool} (hw : Lat.agreeT up t o a b = w) : Ev X F_types_Agree [latV ns up, tyV t, .int .i64 o, arrV a, arrV b] (.tuple [.bool w, .int .i64 0]) :=
  ev_eqr (ev_t_Agree hX hs ns up t o a b ha hb) (by rw [Lat.agreeS, h, hw]; rfl)
theorem ev_se0 (ns : List (List UInt8)) (up : List UInt8) {t : Lat.Ty} {o : Int} (h : Lat.raiseE ns up t o = 0) : Ev X F_types_Sees [latV ns up, tyV t, .int .i64 o] (.tuple [.agg [.bool (Lat.ax0 up t o), .bool (Lat.ax1 up t o)], .bool (Lat.seesC up t o), .int .i64 0]) :=
  ev_eqr (ev_t_Sees hX hs ns up t o) (by simp only [h, decide_true, Bool.true_and])
set_option maxHeartbeats 8000000 in
theorem ev_lTAgrees (ns : List (List UInt8)) (up : List UInt8) (t : Lat.Ty) (by' : Int) (a b c : Lat.Arr) : Ev X F_law20_TypesAgrees [latV ns up, .agg (tyC t ++ [.int .i64 by']), .agg (arC a ++ arC b ++ arC c)] (.bool true) := by
  refine ev_of_xa hs (A_law20_TypesAgrees_ok hX) 1 ?_
  simp only [A_law20_TypesAgrees, latV, tyC, arC, List.cons_append, List.nil_append]
  refine xa_cut hs.hm ?_
  simp only [go_sem, Nat.reduceMod, Nat.reduceBNe, Nat.reduceBEq, Nat.reduceEqDiff, Nat.reduceAdd, Int.reduceAdd, Nat.reduceMul, Nat.reduceSub, Int.reduceToNat, Int.reduceLE, Int.reduceLT, Int.reduceEq, Int.reduceNe, reduceCtorEq, Nat.reduceLT, Nat.reduceLeDiff, tyV, arrV]
  refine xa_cut hs.hm ?_
  simp only [go_sem, Nat.reduceMod, Nat.reduceBNe, Nat.reduceBEq, Nat.reduceEqDiff, Nat.reduceAdd, Int.reduceAdd, Nat.reduceMul, Nat.reduceSub, Int.reduceToNat, Int.reduceLE, Int.reduceLT, Int.reduceEq, Int.reduceNe, reduceCtorEq, Nat.reduceLT, Nat.reduceLeDiff, tyV, arrV]
  refine call_ev (ev_Large hX hs ns up) ?_
  simp only [go_sem, Nat.reduceMod, Nat.reduceBNe, Nat.reduceBEq, Nat.reduceEqDiff, Nat.reduceAdd, Int.reduceAdd, Nat.reduceMul, Nat.reduceSub, Int.reduceToNat, Int.reduceLE, Int.reduceLT, Int.reduceEq, Int.reduceNe, reduceCtorEq, Nat.reduceLT, Nat.reduceLeDiff, tyV, arrV]
  cases largeS ns up with
  | true =>
    simp only [go_sem, Nat.reduceMod, Nat.reduceBNe, Nat.reduceBEq, Nat.reduceEqDiff, Nat.reduceAdd, Int.reduceAdd, Nat.reduceMul, Nat.reduceSub, Int.reduceToNat, Int.reduceLE, Int.reduceLT, Int.reduceEq, Int.reduceNe, reduceCtorEq, Nat.reduceLT, Nat.reduceLeDiff]
    refine call_ev (ev_shown hX hs) ?_
    simp only [go_sem, Nat.reduceMod, Nat.reduceBNe, Nat.reduceBEq, Nat.reduceEqDiff, Nat.reduceAdd, Int.reduceAdd, Nat.reduceMul, Nat.reduceSub, Int.reduceToNat, Int.reduceLE, Int.reduceLT, Int.reduceEq, Int.reduceNe, reduceCtorEq, Nat.reduceLT, Nat.reduceLeDiff, tyV, arrV]
  | false =>
    simp only [go_sem, Nat.reduceMod, Nat.reduceBNe, Nat.reduceBEq, Nat.reduceEqDiff, Nat.reduceAdd, Int.reduceAdd, Nat.reduceMul, Nat.reduceSub, Int.reduceToNat, Int.reduceLE, Int.reduceLT, Int.reduceEq, Int.reduceNe, reduceCtorEq, Nat.reduceLT, Nat.reduceLeDiff]
    refine call_ev (ev_big hX hs a) ?_
    by_cases la : 450 < a.c.length
    · simp only [la, go_sem, Nat.reduceMod, Nat.reduceBNe, Nat.reduceBEq, Nat.reduceEqDiff, Nat.reduceAdd, Int.reduceAdd, Nat.reduceMul, Nat.reduceSub, Int.reduceToNat, Int.reduceLE, Int.reduceLT, Int.reduceEq, Int.reduceNe, reduceCtorEq, Nat.reduceLT, Nat.reduceLeDiff]
      refine call_ev (ev_shown hX hs) ?_
      simp only [go_sem, Nat.reduceMod, Nat.reduceBNe, Nat.reduceBEq, Nat.reduceEqDiff, Nat.reduceAdd, Int.reduceAdd, Nat.reduceMul, Nat.reduceSub, Int.reduceToNat, Int.reduceLE, Int.reduceLT, Int.reduceEq, Int.reduceNe, reduceCtorEq, Nat.reduceLT, Nat.reduceLeDiff, tyV, arrV]
    simp only [la, go_sem, Nat.reduceMod, Nat.reduceBNe, Nat.reduceBEq, Nat.reduceEqDiff, Nat.reduceAdd, Int.reduceAdd, Nat.reduceMul, Nat.reduceSub, Int.reduceToNat, Int.reduceLE, Int.reduceLT, Int.reduceEq, Int.reduceNe, reduceCtorEq, Nat.reduceLT, Nat.reduceLeDiff]
    refine call_ev (ev_big hX hs b) ?_
    by_cases lb : 450 < b.c.length
    · simp only [lb, go_sem, Nat.reduceMod, Nat.reduceBNe, Nat.reduceBEq, Nat.reduceEqDiff, Nat.reduceAdd, Int.reduceAdd, Nat.reduceMul, Nat.reduceSub, Int.reduceToNat, Int.reduceLE, Int.reduceLT, Int.reduceEq, Int.reduceNe, reduceCtorEq, Nat.reduceLT, Nat.reduceLeDiff]
      refine call_ev (ev_shown hX hs) ?_
      simp only [go_sem, Nat.reduceMod, Nat.reduceBNe, Nat.reduceBEq, Nat.reduceEqDiff, Nat.reduceAdd, Int.reduceAdd, Nat.reduceMul, Nat.reduceSub, Int.reduceToNat, Int.reduceLE, Int.reduceLT, Int.reduceEq, Int.reduceNe, reduceCtorEq, Nat.reduceLT, Nat.reduceLeDiff, tyV, arrV]
    simp only [lb, go_sem, Nat.reduceMod, Nat.reduceBNe, Nat.reduceBEq, Nat.reduceEqDiff, Nat.reduceAdd, Int.reduceAdd, Nat.reduceMul, Nat.reduceSub, Int.reduceToNat, Int.reduceLE, Int.reduceLT, Int.reduceEq, Int.reduceNe, reduceCtorEq, Nat.reduceLT, Nat.reduceLeDiff]
    refine call_ev (ev_big hX hs c) ?_
    by_cases lc : 450 < c.c.length
    · simp only [lc, go_sem, Nat.reduceMod, Nat.reduceBNe, Nat.reduceBEq, Nat.reduceEqDiff, Nat.reduceAdd, Int.reduceAdd, Nat.reduceMul, Nat.reduceSub, Int.reduceToNat, Int.reduceLE, Int.reduceLT, Int.reduceEq, Int.reduceNe, reduceCtorEq, Nat.reduceLT, Nat.reduceLeDiff]
      refine call_ev (ev_shown hX hs) ?_
      simp only [go_sem, Nat.reduceMod, Nat.reduceBNe, Nat.reduceBEq, Nat.reduceEqDiff, Nat.reduceAdd, Int.reduceAdd, Nat.reduceMul, Nat.reduceSub, Int.reduceToNat, Int.reduceLE, Int.reduceLT, Int.reduceEq, Int.reduceNe, reduceCtorEq, Nat.reduceLT, Nat.reduceLeDiff, tyV, arrV]
    simp only [lc, go_sem, Nat.reduceMod, Nat.reduceBNe, Nat.reduceBEq, Nat.reduceEqDiff, Nat.reduceAdd, Int.reduceAdd, Nat.reduceMul, Nat.reduceSub, Int.reduceToNat, Int.reduceLE, Int.reduceLT, Int.reduceEq, Int.reduceNe, reduceCtorEq, Nat.reduceLT, Nat.reduceLeDiff]
    refine xa_keep [3, 4, 5, 6] ?_
    simp only [go_sem, Nat.reduceMod, Nat.reduceBNe, Nat.reduceBEq, Nat.reduceEqDiff, Nat.reduceAdd, Int.reduceAdd, Nat.reduceMul, Nat.reduceSub, Int.reduceToNat, Int.reduceLE, Int.reduceLT, Int.reduceEq, Int.reduceNe, reduceCtorEq, Nat.reduceLT, Nat.reduceLeDiff]
    have l1 : a.c.length < 1000000 := by omega
    have l2 : b.c.length < 1000000 := by omega
    have l3 : c.c.length < 1000000 := by omega
    refine xa_cut hs.hm ?_
    simp only [go_sem, Nat.reduceMod, Nat.reduceBNe, Nat.reduceBEq, Nat.reduceEqDiff, Nat.reduceAdd, Int.reduceAdd, Nat.reduceMul, Nat.reduceSub, Int.reduceToNat, Int.reduceLE, Int.reduceLT, Int.reduceEq, Int.reduceNe, reduceCtorEq, Nat.reduceLT, Nat.reduceLeDiff, tyV, arrV]
    refine call_ev (ev_t_Agree hX hs ns up t by' a b l1 l2) ?_
    simp only [go_sem, Nat.reduceMod, Nat.reduceBNe, Nat.reduceBEq, Nat.reduceEqDiff, Nat.reduceAdd, Int.reduceAdd, Nat.reduceMul, Nat.reduceSub, Int.reduceToNat, Int.reduceLE, Int.reduceLT, Int.reduceEq, Int.reduceNe, reduceCtorEq, Nat.reduceLT, Nat.reduceLeDiff, tyV, arrV]
    refine xa_keep [3, 4, 5, 6, 7, 8] ?_
    simp only [go_sem, Nat.reduceMod, Nat.reduceBNe, Nat.reduceBEq, Nat.reduceEqDiff, Nat.reduceAdd, Int.reduceAdd, Nat.reduceMul, Nat.reduceSub, Int.reduceToNat, Int.reduceLE, Int.reduceLT, Int.reduceEq, Int.reduceNe, reduceCtorEq, Nat.reduceLT, Nat.reduceLeDiff]
    refine xa_cut hs.hm ?_
    simp only [go_sem, Nat.reduceMod, Nat.reduceBNe, Nat.reduceBEq, Nat.reduceEqDiff, Nat.reduceAdd, Int.reduceAdd, Nat.reduceMul, Nat.reduceSub, Int.reduceToNat, Int.reduceLE, Int.reduceLT, Int.reduceEq, Int.reduceNe, reduceCtorEq, Nat.reduceLT, Nat.reduceLeDiff, tyV, arrV]
    refine call_ev (ev_t_Agree hX hs ns up t by' b c l2 l3) ?_
    simp only [go_sem, Nat.reduceMod, Nat.reduceBNe, Nat.reduceBEq, Nat.reduceEqDiff, Nat.reduceAdd, Int.reduceAdd, Nat.reduceMul, Nat.reduceSub, Int.reduceToNat, Int.reduceLE, Int.reduceLT, Int.reduceEq, Int.reduceNe, reduceCtorEq, Nat.reduceLT, Nat.reduceLeDiff, tyV, arrV]
    refine xa_keep [3, 4, 5, 6, 7, 8, 9, 10] ?_
    simp only [go_sem, Nat.reduceMod, Nat.reduceBNe, Nat.reduceBEq, Nat.reduceEqDiff, Nat.reduceAdd, Int.reduceAdd, Nat.reduceMul, Nat.reduceSub, Int.reduceToNat, Int.reduceLE, Int.reduceLT, Int.reduceEq, Int.reduceNe, reduceCtorEq, Nat.reduceLT, Nat.reduceLeDiff]
    refine xa_cut hs.hm ?_
    by_cases h1 : Lat.agreeE ns up t by' a b = 0
    · by_cases h2 : Lat.agreeE ns up t by' b c = 0
      · obtain ⟨r0, a0, b0, fa, fb⟩ := Lat.agreeE_0.1 h1
        obtain ⟨_, _, c0, _, fc⟩ := Lat.agreeE_0.1 h2
        obtain ⟨t0, ho⟩ := Lat.raiseE_0.1 r0
        obtain ⟨hc, hv, gt⟩ := Lat.tyS_0 t0
        have h3 : Lat.agreeE ns up t by' a c = 0 := Lat.agreeE_0.2 ⟨r0, a0, c0, fa, fc⟩
        have h4 : Lat.agreeE ns up t by' b a = 0 := Lat.agreeE_0.2 ⟨r0, b0, a0, fb, fa⟩
        have h5 : Lat.agreeE ns up t by' a a = 0 := Lat.agreeE_0.2 ⟨r0, a0, a0, fa, fa⟩
        have s1 : Lat.agreeS ns up t by' a b = Lat.agreeT up t by' a b := by simp [Lat.agreeS, h1]
        have s2 : Lat.agreeS ns up t by' b c = Lat.agreeT up t by' b c := by simp [Lat.agreeS, h2]
        have tra : Lat.agreeT up t by' a b = true → Lat.agreeT up t by' b c = true → Lat.agreeT up t by' a c = true := fun x y => Lat.agree_tra x y
        simp only [h1, h2, s1, s2, go_sem, Nat.reduceMod, Nat.reduceBNe, Nat.reduceBEq, Nat.reduceEqDiff, Nat.reduceAdd, Int.reduceAdd, Nat.reduceMul, Nat.reduceSub, Int.reduceToNat, Int.reduceLE, Int.reduceLT, Int.reduceEq, Int.reduceNe, reduceCtorEq, Nat.reduceLT, Nat.reduceLeDiff]
        refine xa_keep [3, 4, 5, 6, 7, 9] ?_
        simp only [go_sem, Nat.reduceMod, Nat.reduceBNe, Nat.reduceBEq, Nat.reduceEqDiff, Nat.reduceAdd, Int.reduceAdd, Nat.reduceMul, Nat.reduceSub, Int.reduceToNat, Int.reduceLE, Int.reduceLT, Int.reduceEq, Int.reduceNe, reduceCtorEq, Nat.reduceLT, Nat.reduceLeDiff]
        refine xa_cut hs.hm ?_
        simp only [go_sem, Nat.reduceMod, Nat.reduceBNe, Nat.reduceBEq, Nat.reduceEqDiff, Nat.reduceAdd, Int.reduceAdd, Nat.reduceMul, Nat.reduceSub, Int.reduceToNat, Int.reduceLE, Int.reduceLT, Int.reduceEq, Int.reduceNe, reduceCtorEq, Nat.reduceLT, Nat.reduceLeDiff, tyV, arrV]
        refine call_ev (ev_ag0 hX hs ns up l1 l3 h3 rfl) ?_
        simp only [go_sem, Nat.reduceMod, Nat.reduceBNe, Nat.reduceBEq, Nat.reduceEqDiff, Nat.reduceAdd, Int.reduceAdd, Nat.reduceMul, Nat.reduceSub, Int.reduceToNat, Int.reduceLE, Int.reduceLT, Int.reduceEq, Int.reduceNe, reduceCtorEq, Nat.reduceLT, Nat.reduceLeDiff, tyV, arrV]
        refine xa_keep [3, 4, 5, 6, 7, 8, 9, 11] ?_
        simp only [go_sem, Nat.reduceMod, Nat.reduceBNe, Nat.reduceBEq, Nat.reduceEqDiff, Nat.reduceAdd, Int.reduceAdd, Nat.reduceMul, Nat.reduceSub, Int.reduceToNat, Int.reduceLE, Int.reduceLT, Int.reduceEq, Int.reduceNe, reduceCtorEq, Nat.reduceLT, Nat.reduceLeDiff]
        refine xa_cut hs.hm ?_
        simp only [go_sem, Nat.reduceMod, Nat.reduceBNe, Nat.reduceBEq, Nat.reduceEqDiff, Nat.reduceAdd, Int.reduceAdd, Nat.reduceMul, Nat.reduceSub, Int.reduceToNat, Int.reduceLE, Int.reduceLT, Int.reduceEq, Int.reduceNe, reduceCtorEq, Nat.reduceLT, Nat.reduceLeDiff, tyV, arrV]
        refine call_ev (ev_ag0 hX hs ns up l2 l1 h4 (Lat.agree_comm up t by' b a)) ?_
        simp only [go_sem, Nat.reduceMod, Nat.reduceBNe, Nat.reduceBEq, Nat.reduceEqDiff, Nat.reduceAdd, Int.reduceAdd, Nat.reduceMul, Nat.reduceSub, Int.reduceToNat, Int.reduceLE, Int.reduceLT, Int.reduceEq, Int.reduceNe, reduceCtorEq, Nat.reduceLT, Nat.reduceLeDiff, tyV, arrV]
        refine xa_keep [3, 4, 5, 6, 7, 8, 9, 10, 11, 12] ?_
        simp only [go_sem, Nat.reduceMod, Nat.reduceBNe, Nat.reduceBEq, Nat.reduceEqDiff, Nat.reduceAdd, Int.reduceAdd, Nat.reduceMul, Nat.reduceSub, Int.reduceToNat, Int.reduceLE, Int.reduceLT, Int.reduceEq, Int.reduceNe, reduceCtorEq, Nat.reduceLT, Nat.reduceLeDiff]
        refine xa_cut hs.hm ?_
        simp only [go_sem, Nat.reduceMod, Nat.reduceBNe, Nat.reduceBEq, Nat.reduceEqDiff, Nat.reduceAdd, Int.reduceAdd, Nat.reduceMul, Nat.reduceSub, Int.reduceToNat, Int.reduceLE, Int.reduceLT, Int.reduceEq, Int.reduceNe, reduceCtorEq, Nat.reduceLT, Nat.reduceLeDiff, tyV, arrV]
        refine call_ev (ev_ag0 hX hs ns up l1 l1 h5 (Lat.agree_refl up t by' a)) ?_
        simp only [go_sem, Nat.reduceMod, Nat.reduceBNe, Nat.reduceBEq, Nat.reduceEqDiff, Nat.reduceAdd, Int.reduceAdd, Nat.reduceMul, Nat.reduceSub, Int.reduceToNat, Int.reduceLE, Int.reduceLT, Int.reduceEq, Int.reduceNe, reduceCtorEq, Nat.reduceLT, Nat.reduceLeDiff, tyV, arrV]
        refine xa_keep [3, 4, 5, 6, 7, 8, 9, 10, 11, 12, 13, 14] ?_
        simp only [go_sem, Nat.reduceMod, Nat.reduceBNe, Nat.reduceBEq, Nat.reduceEqDiff, Nat.reduceAdd, Int.reduceAdd, Nat.reduceMul, Nat.reduceSub, Int.reduceToNat, Int.reduceLE, Int.reduceLT, Int.reduceEq, Int.reduceNe, reduceCtorEq, Nat.reduceLT, Nat.reduceLeDiff]
        refine xa_cut hs.hm ?_
        have mono : ∀ o : Nat, o < ns.length → Lat.leI up (o : Int) by' = true → Lat.agreeT up t by' a b = true → Lat.agreeT up t o a b = true := fun o ho' hl hab => Lat.agree_mono hv gt ho (Lat.lab_of ho') hl hab
        cases w1 : Lat.agreeT up t by' a b
        simp only [go_sem, Nat.reduceMod, Nat.reduceBNe, Nat.reduceBEq, Nat.reduceEqDiff, Nat.reduceAdd, Int.reduceAdd, Nat.reduceMul, Nat.reduceSub, Int.reduceToNat, Int.reduceLE, Int.reduceLT, Int.reduceEq, Int.reduceNe, reduceCtorEq, Nat.reduceLT, Nat.reduceLeDiff, beq_self_eq_true]
        refine xa_keep [3, 4, 5, 6, 7] ?_
        simp only [go_sem, Nat.reduceMod, Nat.reduceBNe, Nat.reduceBEq, Nat.reduceEqDiff, Nat.reduceAdd, Int.reduceAdd, Nat.reduceMul, Nat.reduceSub, Int.reduceToNat, Int.reduceLE, Int.reduceLT, Int.reduceEq, Int.reduceNe, reduceCtorEq, Nat.reduceLT, Nat.reduceLeDiff]
        rotate_left
        cases w2 : Lat.agreeT up t by' b c
        simp only [go_sem, Nat.reduceMod, Nat.reduceBNe, Nat.reduceBEq, Nat.reduceEqDiff, Nat.reduceAdd, Int.reduceAdd, Nat.reduceMul, Nat.reduceSub, Int.reduceToNat, Int.reduceLE, Int.reduceLT, Int.reduceEq, Int.reduceNe, reduceCtorEq, Nat.reduceLT, Nat.reduceLeDiff, beq_self_eq_true]
        refine xa_keep [3, 4, 5, 6, 7] ?_
        simp only [go_sem, Nat.reduceMod, Nat.reduceBNe, Nat.reduceBEq, Nat.reduceEqDiff, Nat.reduceAdd, Int.reduceAdd, Nat.reduceMul, Nat.reduceSub, Int.reduceToNat, Int.reduceLE, Int.reduceLT, Int.reduceEq, Int.reduceNe, reduceCtorEq, Nat.reduceLT, Nat.reduceLeDiff]
        rotate_left
        rw [tra w1 w2]
        simp only [go_sem, Nat.reduceMod, Nat.reduceBNe, Nat.reduceBEq, Nat.reduceEqDiff, Nat.reduceAdd, Int.reduceAdd, Nat.reduceMul, Nat.reduceSub, Int.reduceToNat, Int.reduceLE, Int.reduceLT, Int.reduceEq, Int.reduceNe, reduceCtorEq, Nat.reduceLT, Nat.reduceLeDiff, beq_self_eq_true]
        refine xa_keep [3, 4, 5, 6, 7] ?_
        simp only [go_sem, Nat.reduceMod, Nat.reduceBNe, Nat.reduceBEq, Nat.reduceEqDiff, Nat.reduceAdd, Int.reduceAdd, Nat.reduceMul, Nat.reduceSub, Int.reduceToNat, Int.reduceLE, Int.reduceLT, Int.reduceEq, Int.reduceNe, reduceCtorEq, Nat.reduceLT, Nat.reduceLeDiff]
        all_goals
          refine xa_cut hs.hm ?_
          simp only [go_sem, Nat.reduceMod, Nat.reduceBNe, Nat.reduceBEq, Nat.reduceEqDiff, Nat.reduceAdd, Int.reduceAdd, Nat.reduceMul, Nat.reduceSub, Int.reduceToNat, Int.reduceLE, Int.reduceLT, Int.reduceEq, Int.reduceNe, reduceCtorEq, Nat.reduceLT, Nat.reduceLeDiff, tyV, arrV]
          refine call_ev (ev_se0 hX hs ns up r0) ?_
          simp only [go_sem, Nat.reduceMod, Nat.reduceBNe, Nat.reduceBEq, Nat.reduceEqDiff, Nat.reduceAdd, Int.reduceAdd, Nat.reduceMul, Nat.reduceSub, Int.reduceToNat, Int.reduceLE, Int.reduceLT, Int.reduceEq, Int.reduceNe, reduceCtorEq, Nat.reduceLT, Nat.reduceLeDiff, tyV, arrV]
          refine xa_keep [3, 4, 5, 6, 7, 15, 16] ?_
          simp only [go_sem, Nat.reduceMod, Nat.reduceBNe, Nat.reduceBEq, Nat.reduceEqDiff, Nat.reduceAdd, Int.reduceAdd, Nat.reduceMul, Nat.reduceSub, Int.reduceToNat, Int.reduceLE, Int.reduceLT, Int.reduceEq, Int.reduceNe, reduceCtorEq, Nat.reduceLT, Nat.reduceLeDiff]
          refine xa_cut hs.hm ?_
          simp only [go_sem, Nat.reduceMod, Nat.reduceBNe, Nat.reduceBEq, Nat.reduceEqDiff, Nat.reduceAdd, Int.reduceAdd, Nat.reduceMul, Nat.reduceSub, Int.reduceToNat, Int.reduceLE, Int.reduceLT, Int.reduceEq, Int.reduceNe, reduceCtorEq, Nat.reduceLT, Nat.reduceLeDiff, tyV, arrV]
          refine w_loopx (ι := Nat × List Blk) (fun p => p.1 ≤ ns.length) (fun p => [(18, .int .i64 p.1), (3, .ptr 0 0), (4, .ptr 1 0), (5, .ptr 2 0), (6, .bool false), (7, .bool (Lat.agreeT up t by' a b)), (15, .ptr 3 0), (16, .bool (Lat.seesC up t by'))])
            (fun p => .box [lst AV.str .ro ns, lst u8 .ro up] :: .box [.int .i64 t.k, .int .i64 t.r, .int .i64 t.a0, .int .i64 t.a1, .int .i64 t.d, .int .i64 by'] :: .box [.int .i64 a.k, .int .i64 a.r, .int .i64 a.l0, .int .i64 a.l1, lst (AV.int .i64) .ro a.c, .int .i64 b.k, .int .i64 b.r, .int .i64 b.l0, .int .i64 b.l1, lst (AV.int .i64) .ro b.c, .int .i64 c.k, .int .i64 c.r, .int .i64 c.l0, .int .i64 c.l1, lst (AV.int .i64) .ro c.c] :: .box [.bool (Lat.ax0 up t by'), .bool (Lat.ax1 up t by')] :: p.2) (fun p => ns.length - p.1) (0, []) ?_ fun p hi => ?_
          · simp only [go_sem, Nat.reduceMod, Nat.reduceBNe, Nat.reduceBEq, Nat.reduceEqDiff, Nat.reduceAdd, Int.reduceAdd, Nat.reduceMul, Nat.reduceSub, Int.reduceToNat, Int.reduceLE, Int.reduceLT, Int.reduceEq, Int.reduceNe, reduceCtorEq, Nat.reduceLT, Nat.reduceLeDiff, w1]
            exact Nat.zero_le _
          · obtain ⟨o, R⟩ := p
            simp only at hi
            simp only [A_law20_TypesAgreesL0]
            refine xa_cut hs.hm ?_
            simp only [go_sem, Nat.reduceMod, Nat.reduceBNe, Nat.reduceBEq, Nat.reduceEqDiff, Nat.reduceAdd, Int.reduceAdd, Nat.reduceMul, Nat.reduceSub, Int.reduceToNat, Int.reduceLE, Int.reduceLT, Int.reduceEq, Int.reduceNe, reduceCtorEq, Nat.reduceLT, Nat.reduceLeDiff, tyV, arrV]
            refine ⟨fun ho' => ?_, fun ho' => ?_⟩
            · have hlo : Lat.lab ns.length (o : Int) = true := Lat.lab_of (by omega)
              have ro : Lat.raiseE ns up t o = 0 := Lat.raiseE_0.2 ⟨t0, hlo⟩
              have ao : Lat.agreeE ns up t o a b = 0 := Lat.agreeE_0.2 ⟨ro, a0, b0, fa, fb⟩
              have lo := leqS_lab hc hlo ho
              refine xa_cut2 (xa_block ?_)
              refine xa_cut hs.hm ?_
              simp only [go_sem, Nat.reduceMod, Nat.reduceBNe, Nat.reduceBEq, Nat.reduceEqDiff, Nat.reduceAdd, Int.reduceAdd, Nat.reduceMul, Nat.reduceSub, Int.reduceToNat, Int.reduceLE, Int.reduceLT, Int.reduceEq, Int.reduceNe, reduceCtorEq, Nat.reduceLT, Nat.reduceLeDiff, tyV, arrV]
              refine call_ev (ev_se0 hX hs ns up ro) ?_
              simp only [go_sem, Nat.reduceMod, Nat.reduceBNe, Nat.reduceBEq, Nat.reduceEqDiff, Nat.reduceAdd, Int.reduceAdd, Nat.reduceMul, Nat.reduceSub, Int.reduceToNat, Int.reduceLE, Int.reduceLT, Int.reduceEq, Int.reduceNe, reduceCtorEq, Nat.reduceLT, Nat.reduceLeDiff, tyV, arrV]
              refine xa_keep [3, 4, 5, 6, 7, 15, 16, 18, 19, 20, 21] ?_
              simp only [go_sem, Nat.reduceMod, Nat.reduceBNe, Nat.reduceBEq, Nat.reduceEqDiff, Nat.reduceAdd, Int.reduceAdd, Nat.reduceMul, Nat.reduceSub, Int.reduceToNat, Int.reduceLE, Int.reduceLT, Int.reduceEq, Int.reduceNe, reduceCtorEq, Nat.reduceLT, Nat.reduceLeDiff]
              refine xa_cut hs.hm ?_
              simp only [go_sem, Nat.reduceMod, Nat.reduceBNe, Nat.reduceBEq, Nat.reduceEqDiff, Nat.reduceAdd, Int.reduceAdd, Nat.reduceMul, Nat.reduceSub, Int.reduceToNat, Int.reduceLE, Int.reduceLT, Int.reduceEq, Int.reduceNe, reduceCtorEq, Nat.reduceLT, Nat.reduceLeDiff, tyV, arrV]
              refine call_ev (ev_ag0 hX hs ns up l1 l2 ao rfl) ?_
              simp only [go_sem, Nat.reduceMod, Nat.reduceBNe, Nat.reduceBEq, Nat.reduceEqDiff, Nat.reduceAdd, Int.reduceAdd, Nat.reduceMul, Nat.reduceSub, Int.reduceToNat, Int.reduceLE, Int.reduceLT, Int.reduceEq, Int.reduceNe, reduceCtorEq, Nat.reduceLT, Nat.reduceLeDiff, tyV, arrV]
              refine xa_keep [3, 4, 5, 6, 7, 15, 16, 18, 19, 20, 21, 22, 23] ?_
              simp only [go_sem, Nat.reduceMod, Nat.reduceBNe, Nat.reduceBEq, Nat.reduceEqDiff, Nat.reduceAdd, Int.reduceAdd, Nat.reduceMul, Nat.reduceSub, Int.reduceToNat, Int.reduceLE, Int.reduceLT, Int.reduceEq, Int.reduceNe, reduceCtorEq, Nat.reduceLT, Nat.reduceLeDiff]
              refine xa_cut hs.hm ?_
              simp only [go_sem, Nat.reduceMod, Nat.reduceBNe, Nat.reduceBEq, Nat.reduceEqDiff, Nat.reduceAdd, Int.reduceAdd, Nat.reduceMul, Nat.reduceSub, Int.reduceToNat, Int.reduceLE, Int.reduceLT, Int.reduceEq, Int.reduceNe, reduceCtorEq, Nat.reduceLT, Nat.reduceLeDiff, tyV, arrV]
              refine call_ev (ev_eqr (ev_rLeq hX hs ns up o by') (by rw [lo.1, lo.2])) ?_
              simp only [go_sem, Nat.reduceMod, Nat.reduceBNe, Nat.reduceBEq, Nat.reduceEqDiff, Nat.reduceAdd, Int.reduceAdd, Nat.reduceMul, Nat.reduceSub, Int.reduceToNat, Int.reduceLE, Int.reduceLT, Int.reduceEq, Int.reduceNe, reduceCtorEq, Nat.reduceLT, Nat.reduceLeDiff, tyV, arrV]
              refine xa_keep [3, 4, 5, 6, 7, 15, 16, 18, 19, 20, 21, 22, 23, 24, 25] ?_
              simp only [go_sem, Nat.reduceMod, Nat.reduceBNe, Nat.reduceBEq, Nat.reduceEqDiff, Nat.reduceAdd, Int.reduceAdd, Nat.reduceMul, Nat.reduceSub, Int.reduceToNat, Int.reduceLE, Int.reduceLT, Int.reduceEq, Int.reduceNe, reduceCtorEq, Nat.reduceLT, Nat.reduceLeDiff]
              refine xa_cut hs.hm ?_
              simp only [go_sem, Nat.reduceMod, Nat.reduceBNe, Nat.reduceBEq, Nat.reduceEqDiff, Nat.reduceAdd, Int.reduceAdd, Nat.reduceMul, Nat.reduceSub, Int.reduceToNat, Int.reduceLE, Int.reduceLT, Int.reduceEq, Int.reduceNe, reduceCtorEq, Nat.reduceLT, Nat.reduceLeDiff, tyV, arrV]
              refine xa_keep [3, 4, 5, 6, 7, 15, 16, 18, 19, 20, 22, 24] ?_
              simp only [go_sem, Nat.reduceMod, Nat.reduceBNe, Nat.reduceBEq, Nat.reduceEqDiff, Nat.reduceAdd, Int.reduceAdd, Nat.reduceMul, Nat.reduceSub, Int.reduceToNat, Int.reduceLE, Int.reduceLT, Int.reduceEq, Int.reduceNe, reduceCtorEq, Nat.reduceLT, Nat.reduceLeDiff]
              refine xa_cut hs.hm ?_
              have mo := Lat.sees_mono hv gt ho hlo
              have ax := Lat.sees_axes hv gt hlo
              have m3 := mono o (by omega)
              obtain ⟨rn, hrn⟩ : ∃ rn : Nat, t.r = rn := ⟨t.r.toNat, by have := gt.r; omega⟩
              have hr2 : rn ≤ 2 := by have := gt.r; omega
              have c0 : 1 ≤ rn → (Lat.leI up o by' = true → Lat.ax0 up t o = true → Lat.ax0 up t by' = true) ∧ (Lat.seesC up t o = true → Lat.ax0 up t o = true) := fun h => ⟨fun x => (mo x).1, fun x => by simp only [Lat.ax0, (ax x).1, Bool.and_true, decide_eq_true_eq]; omega⟩
              have c1 : 2 ≤ rn → (Lat.leI up o by' = true → Lat.ax1 up t o = true → Lat.ax1 up t by' = true) ∧ (Lat.seesC up t o = true → Lat.ax1 up t o = true) := fun h => ⟨fun x => (mo x).2.1, fun x => by simp only [Lat.ax1, (ax x).2, Bool.and_true, decide_eq_true_eq]; omega⟩
              have m2 := fun x => (mo x).2.2
              rw [hrn]
              generalize Lat.leI up o by' = b1 at *
              generalize Lat.seesC up t o = b2 at *
              generalize Lat.seesC up t by' = b3 at *
              cases b1 <;> cases b2 <;> cases b3 <;> try (exact absurd (m2 rfl rfl) (by decide))
              all_goals
                cases w1' : Lat.agreeT up t by' a b <;> try (exact absurd (w1.symm.trans w1') (by decide))
                all_goals
                  try simp only [w1', forall_const, true_implies] at m3
                  try simp only [m3]
                  simp only [go_sem, Nat.reduceMod, Nat.reduceBNe, Nat.reduceBEq, Nat.reduceEqDiff, Nat.reduceAdd, Int.reduceAdd, Nat.reduceMul, Nat.reduceSub, Int.reduceToNat, Int.reduceLE, Int.reduceLT, Int.reduceEq, Int.reduceNe, reduceCtorEq, Nat.reduceLT, Nat.reduceLeDiff]
                  refine xa_last hs.hm ?_
                  simp only [go_sem, Nat.reduceMod, Nat.reduceBNe, Nat.reduceBEq, Nat.reduceEqDiff, Nat.reduceAdd, Int.reduceAdd, Nat.reduceMul, Nat.reduceSub, Int.reduceToNat, Int.reduceLE, Int.reduceLT, Int.reduceEq, Int.reduceNe, reduceCtorEq, Nat.reduceLT, Nat.reduceLeDiff]
                  refine ag_inner hX hs hr2 rfl (p := R.length + 1 + 1 + 1 + 1) (by simp only [List.getElem?_cons_succ, gl_concat]) rfl c0 c1 ⟨rfl, rfl, rfl, rfl, rfl, rfl, rfl, rfl, rfl, rfl, rfl, rfl, trivial⟩ fun F' hF' => ?_
                  simp only [go_sem, Nat.reduceMod, Nat.reduceBNe, Nat.reduceBEq, Nat.reduceEqDiff, Nat.reduceAdd, Int.reduceAdd, Nat.reduceMul, Nat.reduceSub, Int.reduceToNat, Int.reduceLE, Int.reduceLT, Int.reduceEq, Int.reduceNe, reduceCtorEq, Nat.reduceLT, Nat.reduceLeDiff]
                  refine xa_fl hF' (xa_last hs.hm ?_)
                  simp only [go_sem, Nat.reduceMod, Nat.reduceBNe, Nat.reduceBEq, Nat.reduceEqDiff, Nat.reduceAdd, Int.reduceAdd, Nat.reduceMul, Nat.reduceSub, Int.reduceToNat, Int.reduceLE, Int.reduceLT, Int.reduceEq, Int.reduceNe, reduceCtorEq, Nat.reduceLT, Nat.reduceLeDiff]
                  have h8 := hv.le8
                  exact ⟨(o + 1, R ++ [.box [.bool (Lat.ax0 up t o), .bool (Lat.ax1 up t o)]]), by simp only; omega, by simp only; omega, by rw [wi64 (by omega)]; rfl, rfl⟩
            · refine xa_last hs.hm ?_
              simp only [go_sem, Nat.reduceMod, Nat.reduceBNe, Nat.reduceBEq, Nat.reduceEqDiff, Nat.reduceAdd, Int.reduceAdd, Nat.reduceMul, Nat.reduceSub, Int.reduceToNat, Int.reduceLE, Int.reduceLT, Int.reduceEq, Int.reduceNe, reduceCtorEq, Nat.reduceLT, Nat.reduceLeDiff]
              refine call_ev (ev_shown hX hs) ?_
              simp only [go_sem, Nat.reduceMod, Nat.reduceBNe, Nat.reduceBEq, Nat.reduceEqDiff, Nat.reduceAdd, Int.reduceAdd, Nat.reduceMul, Nat.reduceSub, Int.reduceToNat, Int.reduceLE, Int.reduceLT, Int.reduceEq, Int.reduceNe, reduceCtorEq, Nat.reduceLT, Nat.reduceLeDiff, tyV, arrV]
      · simp only [h1, h2, go_sem, Nat.reduceMod, Nat.reduceBNe, Nat.reduceBEq, Nat.reduceEqDiff, Nat.reduceAdd, Int.reduceAdd, Nat.reduceMul, Nat.reduceSub, Int.reduceToNat, Int.reduceLE, Int.reduceLT, Int.reduceEq, Int.reduceNe, reduceCtorEq, Nat.reduceLT, Nat.reduceLeDiff]
        refine call_ev (ev_shown hX hs) ?_
        simp only [go_sem, Nat.reduceMod, Nat.reduceBNe, Nat.reduceBEq, Nat.reduceEqDiff, Nat.reduceAdd, Int.reduceAdd, Nat.reduceMul, Nat.reduceSub, Int.reduceToNat, Int.reduceLE, Int.reduceLT, Int.reduceEq, Int.reduceNe, reduceCtorEq, Nat.reduceLT, Nat.reduceLeDiff, tyV, arrV]
    · simp only [h1, go_sem, Nat.reduceMod, Nat.reduceBNe, Nat.reduceBEq, Nat.reduceEqDiff, Nat.reduceAdd, Int.reduceAdd, Nat.reduceMul, Nat.reduceSub, Int.reduceToNat, Int.reduceLE, Int.reduceLT, Int.reduceEq, Int.reduceNe, reduceCtorEq, Nat.reduceLT, Nat.reduceLeDiff]
      refine call_ev (ev_shown hX hs) ?_
      simp only [go_sem, Nat.reduceMod, Nat.reduceBNe, Nat.reduceBEq, Nat.reduceEqDiff, Nat.reduceAdd, Int.reduceAdd, Nat.reduceMul, Nat.reduceSub, Int.reduceToNat, Int.reduceLE, Int.reduceLT, Int.reduceEq, Int.reduceNe, reduceCtorEq, Nat.reduceLT, Nat.reduceLeDiff, tyV, arrV]
end
end Go.Avm
