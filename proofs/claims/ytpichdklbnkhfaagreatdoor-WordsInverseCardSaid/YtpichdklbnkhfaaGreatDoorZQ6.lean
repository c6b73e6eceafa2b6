/- Words: list expressions, read by the reference. -/
import Derived.Test.YtpichdklbnkhfaaGreatDoorZQ5
import Derived.Test.YtpichdklbnkhfaaGreatDoorZQ2
import Derived.Test.YtpichdklbnkhfaaGreatDoorZQ4
import Derived.Test.YtpichdklbnkhfaaGreatDoorN4
set_option linter.unusedSectionVars false
set_option linter.unusedSimpArgs false
set_option linter.unusedVariables false

/- Words: list expressions, read by the reference. -/
namespace Go.Avm
open Go
set_option maxRecDepth 10000
section
variable {X : Cx} (hX : X.P = Go.Proofs.Tryz.prog) (hs : Std X)
include hX hs
set_option maxHeartbeats 4000000 in
theorem ev_rParseList (s : List UInt8) (hl : s.length < 900000) : Ev X F_ref01_ParseList [.str s] (plV s) := by
  refine ev_of_wpcd hs (A_ref01_ParseList_ok hX) 3 ?_
  simp only [A_ref01_ParseList, go_sem, Nat.reduceMod, Nat.reduceBNe, Nat.reduceBEq, Nat.reduceEqDiff, Nat.reduceAdd, Int.reduceAdd, Nat.reduceMul, Nat.reduceSub, Int.reduceToNat, Int.reduceLE, Int.reduceLT, Int.reduceEq, Int.reduceNe, reduceCtorEq, Nat.reduceLT, Nat.reduceLeDiff]
  refine ⟨fun h => plV_nil (by rw [Wo.plS, if_pos h]), fun h0 => ?_⟩
  refine call_ev (ev_parts hX hs s 44 (by omega)) ?_
  have hpl := Wo.splC_len s 44
  simp only [go_sem, Nat.reduceMod, Nat.reduceBNe, Nat.reduceBEq, Nat.reduceEqDiff, Nat.reduceAdd, Int.reduceAdd, Nat.reduceMul, Nat.reduceSub, Int.reduceToNat, Int.reduceLE, Int.reduceLT, Int.reduceEq, Int.reduceNe, reduceCtorEq, Nat.reduceLT, Nat.reduceLeDiff]
  generalize hpc : Wo.splC 44 s = pcs at *
  refine w_loop hs.hm (ι := Nat × List (List UInt8 × List UInt8)) (fun x => Wo.Pl pcs x.1 x.2 ∧ ∀ p ∈ x.2, p.2.length ≤ s.length) (fun x => [(8, .int .i64 x.1), (7, lst AV.str .ro pcs), (4, .str (Wo.lastB x.2)), (5, lst AV.str (.tok 0 1) (x.2.map (·.1))), (6, lst AV.str (.tok 1 1) (x.2.map (·.2))), (0, .str s)]) (fun x => [.tok x.2.length, .tok x.2.length]) (fun x => pcs.length - x.1) (0, []) ⟨⟨Wo.pl_0 pcs, fun p hp => by cases hp⟩, _, _, (wk_tok 5 1 rfl).trans (wk_tok 6 1 rfl), ⟨by simp only [go_sem, Nat.reduceMod, Nat.reduceBNe, Nat.reduceBEq, Nat.reduceEqDiff, Nat.reduceAdd, Int.reduceAdd, Nat.reduceMul, Nat.reduceSub, Int.reduceToNat, Int.reduceLE, Int.reduceLT, Int.reduceEq, Int.reduceNe, reduceCtorEq, Nat.reduceLT, Nat.reduceLeDiff]; exact ⟨rfl, rfl, rfl⟩, rfl⟩⟩ fun x hx => ?_
  obtain ⟨i, ps⟩ := x
  obtain ⟨hx, hlen⟩ := hx
  simp only at hx hlen
  have hpsl : ps.length = i := hx.2.1
  by_cases hlt : i < pcs.length
  · have hlt' : (i : Int) < pcs.length := by omega
    have hrl : (pcs.getD i []).length ≤ s.length := by rw [← hpc]; exact Wo.splC_glen (by rw [hpc]; exact hlt)
    have hbd := Wo.pl_bad hx hlt
    have hnx := fun p => Wo.pl_next (p := p) hx hlt
    have hla := Wo.pl_last hx
    have hll : (Wo.lastB ps).length ≤ s.length := Wo.lastB_len hlen
    have hbad : (Wo.rp (pcs.getD i []) = none ∨ ∃ p, Wo.rp (pcs.getD i []) = some p ∧ Wo.lastB ps ≠ [] ∧ Wo.lessB (Wo.nextS (Wo.lastB ps)) p.1 = false) → AV.tuple [.sl .ro [], .int .i64 6] = plV s := fun h => plV_nil (Wo.plN h0 (by rw [hpc]; exact hbd h))
    have nx : ∀ p, Wo.rp (pcs.getD i []) = some p → (Wo.lastB ps = [] ∨ Wo.lessB (Wo.nextS (Wo.lastB ps)) p.1 = true) → p.2.length ≤ s.length → ∃ j : Nat × List (List UInt8 × List UInt8), pcs.length - j.1 < pcs.length - i ∧ (Wo.Pl pcs j.1 j.2 ∧ ∀ p ∈ j.2, p.2.length ≤ s.length) ∧ (AV.int .i64 (IntKind.i64.wrap ((i : Int) + 1)) = AV.int .i64 j.1 ∧ AV.str p.2 = AV.str (Wo.lastB j.2) ∧ lst AV.str (.tok 0 1) (ps.map (·.1) ++ [p.1]) = lst AV.str (.tok 0 1) (j.2.map (·.1)) ∧ lst AV.str (.tok 1 1) (ps.map (·.2) ++ [p.2]) = lst AV.str (.tok 1 1) (j.2.map (·.2))) ∧ [Blk.tok (ps.length + 1), Blk.tok (ps.length + 1)] = [Blk.tok j.2.length, Blk.tok j.2.length] := fun p h1 h2 h3 =>
      ⟨(i + 1, ps ++ [p]), by simp only; omega, ⟨hnx p h1 h2, fun q hq => by
        rcases List.mem_append.1 hq with hq | hq
        · exact hlen q hq
        · rw [List.mem_singleton.1 hq]; exact h3⟩, ⟨by rw [wi64 (by omega)]; rfl, by rw [Wo.lastB_snoc], by rw [List.map_append]; rfl, by rw [List.map_append]; rfl⟩, by rw [List.length_append, List.length_singleton]⟩
    simp only [A_ref01_ParseListL0, go_sem, Nat.reduceMod, Nat.reduceBNe, Nat.reduceBEq, Nat.reduceEqDiff, Nat.reduceAdd, Int.reduceAdd, Nat.reduceMul, Nat.reduceSub, Int.reduceToNat, Int.reduceLE, Int.reduceLT, Int.reduceEq, Int.reduceNe, reduceCtorEq, Nat.reduceLT, Nat.reduceLeDiff, hlt', dfltS]
    generalize pcs.getD i [] = r at *
    refine ⟨by omega, call_ev (ev_parts hX hs r 45 (by omega)) ?_⟩
    have hrp := Wo.rp_rpL r
    have hqm : ∀ p ∈ Wo.splC 45 r, p.length ≤ r.length := fun p hp => Wo.splC_mlen hp
    have hq0 := Wo.splC_ne 45 r
    have hql := Wo.splC_len r 45
    generalize Wo.splC 45 r = q at *
    match q, hq0 with
    | [a], _ =>
      have hal := hqm a (by simp)
      simp only [Wo.rpL] at hrp
      simp only [go_sem, Nat.reduceMod, Nat.reduceBNe, Nat.reduceBEq, Nat.reduceEqDiff, Nat.reduceAdd, Int.reduceAdd, Nat.reduceMul, Nat.reduceSub, Int.reduceToNat, Int.reduceLE, Int.reduceLT, Int.reduceEq, Int.reduceNe, reduceCtorEq, Nat.reduceLT, Nat.reduceLeDiff]
      refine callq_ev (ev_rdecimal hX hs a (by omega)) ?_
      cases ha : Wo.decS a with
      | false =>
        rw [ha, if_neg (by decide)] at hrp
        simp only [go_sem, Nat.reduceMod, Nat.reduceBNe, Nat.reduceBEq, Nat.reduceEqDiff, Nat.reduceAdd, Int.reduceAdd, Nat.reduceMul, Nat.reduceSub, Int.reduceToNat, Int.reduceLE, Int.reduceLT, Int.reduceEq, Int.reduceNe, reduceCtorEq, Nat.reduceLT, Nat.reduceLeDiff]
        exact hbad (.inl hrp)
      | true =>
        rw [ha, if_pos rfl] at hrp
        simp only [go_sem, Nat.reduceMod, Nat.reduceBNe, Nat.reduceBEq, Nat.reduceEqDiff, Nat.reduceAdd, Int.reduceAdd, Nat.reduceMul, Nat.reduceSub, Int.reduceToNat, Int.reduceLE, Int.reduceLT, Int.reduceEq, Int.reduceNe, reduceCtorEq, Nat.reduceLT, Nat.reduceLeDiff]
        refine ⟨fun hi0 => ?_, fun hi0 => ?_⟩
        · refine callq_ev (ev_next hX hs _ (by omega) (Wo.natS_dg (hla.2 (by omega))).2) ?_
          simp only [go_sem, Nat.reduceMod, Nat.reduceBNe, Nat.reduceBEq, Nat.reduceEqDiff, Nat.reduceAdd, Int.reduceAdd, Nat.reduceMul, Nat.reduceSub, Int.reduceToNat, Int.reduceLE, Int.reduceLT, Int.reduceEq, Int.reduceNe, reduceCtorEq, Nat.reduceLT, Nat.reduceLeDiff]
          refine callq_ev (ev_less hX hs _ a) ?_
          cases hf : Wo.lessB (Wo.nextS (Wo.lastB ps)) a with
          | false =>
            simp only [go_sem, Nat.reduceMod, Nat.reduceBNe, Nat.reduceBEq, Nat.reduceEqDiff, Nat.reduceAdd, Int.reduceAdd, Nat.reduceMul, Nat.reduceSub, Int.reduceToNat, Int.reduceLE, Int.reduceLT, Int.reduceEq, Int.reduceNe, reduceCtorEq, Nat.reduceLT, Nat.reduceLeDiff]
            exact hbad (.inr ⟨_, hrp, (Wo.natS_dg (hla.2 (by omega))).1, hf⟩)
          | true =>
            simp only [go_sem, Nat.reduceMod, Nat.reduceBNe, Nat.reduceBEq, Nat.reduceEqDiff, Nat.reduceAdd, Int.reduceAdd, Nat.reduceMul, Nat.reduceSub, Int.reduceToNat, Int.reduceLE, Int.reduceLT, Int.reduceEq, Int.reduceNe, reduceCtorEq, Nat.reduceLT, Nat.reduceLeDiff]
            have w0 : IntKind.i64.wrap (1 - 1) = 0 := rfl
            rw [w0, List.length_map, List.length_map]
            exact ⟨⟨by decide, by decide⟩, ⟨⟨rfl, by omega⟩, by omega⟩, ⟨⟨rfl, by omega⟩, by omega⟩, nx (a, a) hrp (.inr hf) (by simp only; omega)⟩
        · have w0 : IntKind.i64.wrap (1 - 1) = 0 := rfl
          rw [w0, List.length_map, List.length_map]
          exact ⟨⟨by decide, by decide⟩, ⟨⟨rfl, by omega⟩, by omega⟩, ⟨⟨rfl, by omega⟩, by omega⟩, nx (a, a) hrp (.inl (hla.1.2 (by omega))) (by simp only; omega)⟩
    | [a, b], _ =>
      have hal := hqm a (by simp)
      have hbl := hqm b (by simp)
      simp only [Wo.rpL] at hrp
      simp only [go_sem, Nat.reduceMod, Nat.reduceBNe, Nat.reduceBEq, Nat.reduceEqDiff, Nat.reduceAdd, Int.reduceAdd, Nat.reduceMul, Nat.reduceSub, Int.reduceToNat, Int.reduceLE, Int.reduceLT, Int.reduceEq, Int.reduceNe, reduceCtorEq, Nat.reduceLT, Nat.reduceLeDiff]
      refine callq_ev (ev_rdecimal hX hs a (by omega)) ?_
      cases ha : Wo.decS a with
      | false =>
        rw [ha, Bool.false_and, Bool.false_and, if_neg (by decide)] at hrp
        simp only [go_sem, Nat.reduceMod, Nat.reduceBNe, Nat.reduceBEq, Nat.reduceEqDiff, Nat.reduceAdd, Int.reduceAdd, Nat.reduceMul, Nat.reduceSub, Int.reduceToNat, Int.reduceLE, Int.reduceLT, Int.reduceEq, Int.reduceNe, reduceCtorEq, Nat.reduceLT, Nat.reduceLeDiff]
        exact hbad (.inl hrp)
      | true =>
      simp only [go_sem, Nat.reduceMod, Nat.reduceBNe, Nat.reduceBEq, Nat.reduceEqDiff, Nat.reduceAdd, Int.reduceAdd, Nat.reduceMul, Nat.reduceSub, Int.reduceToNat, Int.reduceLE, Int.reduceLT, Int.reduceEq, Int.reduceNe, reduceCtorEq, Nat.reduceLT, Nat.reduceLeDiff]
      refine callq_ev (ev_rdecimal hX hs b (by omega)) ?_
      cases hb : Wo.decS b with
      | false =>
        rw [ha, hb, Bool.true_and, Bool.false_and, if_neg (by decide)] at hrp
        simp only [go_sem, Nat.reduceMod, Nat.reduceBNe, Nat.reduceBEq, Nat.reduceEqDiff, Nat.reduceAdd, Int.reduceAdd, Nat.reduceMul, Nat.reduceSub, Int.reduceToNat, Int.reduceLE, Int.reduceLT, Int.reduceEq, Int.reduceNe, reduceCtorEq, Nat.reduceLT, Nat.reduceLeDiff]
        exact hbad (.inl hrp)
      | true =>
      simp only [go_sem, Nat.reduceMod, Nat.reduceBNe, Nat.reduceBEq, Nat.reduceEqDiff, Nat.reduceAdd, Int.reduceAdd, Nat.reduceMul, Nat.reduceSub, Int.reduceToNat, Int.reduceLE, Int.reduceLT, Int.reduceEq, Int.reduceNe, reduceCtorEq, Nat.reduceLT, Nat.reduceLeDiff]
      refine callq_ev (ev_less hX hs a b) ?_
      cases hab : Wo.lessB a b with
      | false =>
        rw [ha, hb, hab, Bool.and_false, if_neg (by decide)] at hrp
        simp only [go_sem, Nat.reduceMod, Nat.reduceBNe, Nat.reduceBEq, Nat.reduceEqDiff, Nat.reduceAdd, Int.reduceAdd, Nat.reduceMul, Nat.reduceSub, Int.reduceToNat, Int.reduceLE, Int.reduceLT, Int.reduceEq, Int.reduceNe, reduceCtorEq, Nat.reduceLT, Nat.reduceLeDiff]
        exact hbad (.inl hrp)
      | true =>
        rw [ha, hb, hab] at hrp
        have hrp : Wo.rp r = some (a, b) := hrp
        simp only [go_sem, Nat.reduceMod, Nat.reduceBNe, Nat.reduceBEq, Nat.reduceEqDiff, Nat.reduceAdd, Int.reduceAdd, Nat.reduceMul, Nat.reduceSub, Int.reduceToNat, Int.reduceLE, Int.reduceLT, Int.reduceEq, Int.reduceNe, reduceCtorEq, Nat.reduceLT, Nat.reduceLeDiff]
        refine ⟨fun hi0 => ?_, fun hi0 => ?_⟩
        · refine callq_ev (ev_next hX hs _ (by omega) (Wo.natS_dg (hla.2 (by omega))).2) ?_
          simp only [go_sem, Nat.reduceMod, Nat.reduceBNe, Nat.reduceBEq, Nat.reduceEqDiff, Nat.reduceAdd, Int.reduceAdd, Nat.reduceMul, Nat.reduceSub, Int.reduceToNat, Int.reduceLE, Int.reduceLT, Int.reduceEq, Int.reduceNe, reduceCtorEq, Nat.reduceLT, Nat.reduceLeDiff]
          refine callq_ev (ev_less hX hs _ a) ?_
          cases hf : Wo.lessB (Wo.nextS (Wo.lastB ps)) a with
          | false =>
            simp only [go_sem, Nat.reduceMod, Nat.reduceBNe, Nat.reduceBEq, Nat.reduceEqDiff, Nat.reduceAdd, Int.reduceAdd, Nat.reduceMul, Nat.reduceSub, Int.reduceToNat, Int.reduceLE, Int.reduceLT, Int.reduceEq, Int.reduceNe, reduceCtorEq, Nat.reduceLT, Nat.reduceLeDiff]
            exact hbad (.inr ⟨_, hrp, (Wo.natS_dg (hla.2 (by omega))).1, hf⟩)
          | true =>
            simp only [go_sem, Nat.reduceMod, Nat.reduceBNe, Nat.reduceBEq, Nat.reduceEqDiff, Nat.reduceAdd, Int.reduceAdd, Nat.reduceMul, Nat.reduceSub, Int.reduceToNat, Int.reduceLE, Int.reduceLT, Int.reduceEq, Int.reduceNe, reduceCtorEq, Nat.reduceLT, Nat.reduceLeDiff]
            have w0 : IntKind.i64.wrap (2 - 1) = 1 := rfl
            rw [w0, List.length_map, List.length_map]
            exact ⟨⟨by decide, by decide⟩, ⟨⟨rfl, by omega⟩, by omega⟩, ⟨⟨rfl, by omega⟩, by omega⟩, nx (a, b) hrp (.inr hf) (by simp only; omega)⟩
        · have w0 : IntKind.i64.wrap (2 - 1) = 1 := rfl
          rw [w0, List.length_map, List.length_map]
          exact ⟨⟨by decide, by decide⟩, ⟨⟨rfl, by omega⟩, by omega⟩, ⟨⟨rfl, by omega⟩, by omega⟩, nx (a, b) hrp (.inl (hla.1.2 (by omega))) (by simp only; omega)⟩
    | a :: b :: c :: t, _ =>
      simp only [Wo.rpL] at hrp
      simp only [go_sem, Nat.reduceMod, Nat.reduceBNe, Nat.reduceBEq, Nat.reduceEqDiff, Nat.reduceAdd, Int.reduceAdd, Nat.reduceMul, Nat.reduceSub, Int.reduceToNat, Int.reduceLE, Int.reduceLT, Int.reduceEq, Int.reduceNe, reduceCtorEq, Nat.reduceLT, Nat.reduceLeDiff]
      exact ⟨fun _ => hbad (.inl hrp), fun h => absurd (by omega) h⟩
  · have hlt' : ¬ (i : Int) < pcs.length := by omega
    obtain rfl : i = pcs.length := by have := hx.1; omega
    have he := Wo.pl_end hx
    have hL := Wo.plL h0 (by rw [hpc]; exact he)
    have i10 := Wo.itoa_len11 (n := 1000000000) (by omega)
    have hll : (Wo.lastB ps).length ≤ s.length := Wo.lastB_len hlen
    simp only [A_ref01_ParseListL0, go_sem, Nat.reduceMod, Nat.reduceBNe, Nat.reduceBEq, Nat.reduceEqDiff, Nat.reduceAdd, Int.reduceAdd, Nat.reduceMul, Nat.reduceSub, Int.reduceToNat, Int.reduceLE, Int.reduceLT, Int.reduceEq, Int.reduceNe, reduceCtorEq, Nat.reduceLT, Nat.reduceLeDiff, hlt']
    refine call_ev (ev_rDigits hX hs 1000000000 (by omega)) ?_
    simp only [go_sem, Nat.reduceMod, Nat.reduceBNe, Nat.reduceBEq, Nat.reduceEqDiff, Nat.reduceAdd, Int.reduceAdd, Nat.reduceMul, Nat.reduceSub, Int.reduceToNat, Int.reduceLE, Int.reduceLT, Int.reduceEq, Int.reduceNe, reduceCtorEq, Nat.reduceLT, Nat.reduceLeDiff]
    refine call_ev (ev_less hX hs _ _) ?_
    cases hls : Wo.lessB (Lib.itoa 1000000000) (Wo.lastB ps) with
    | true =>
      simp only [go_sem, Nat.reduceMod, Nat.reduceBNe, Nat.reduceBEq, Nat.reduceEqDiff, Nat.reduceAdd, Int.reduceAdd, Nat.reduceMul, Nat.reduceSub, Int.reduceToNat, Int.reduceLE, Int.reduceLT, Int.reduceEq, Int.reduceNe, reduceCtorEq, Nat.reduceLT, Nat.reduceLeDiff]
      exact plV_nil (by rw [hL, if_pos hls])
    | false =>
    rw [hls, if_neg (by decide)] at hL
    have rng := fun k (hk : k < ps.length) => Wo.ps_rng he hls hk
    simp only [go_sem, Nat.reduceMod, Nat.reduceBNe, Nat.reduceBEq, Nat.reduceEqDiff, Nat.reduceAdd, Int.reduceAdd, Nat.reduceMul, Nat.reduceSub, Int.reduceToNat, Int.reduceLE, Int.reduceLT, Int.reduceEq, Int.reduceNe, reduceCtorEq, Nat.reduceLT, Nat.reduceLeDiff]
    refine w_loop hs.hm (ι := Nat) (fun k => k ≤ ps.length ∧ (Wo.outN ps k).length ≤ 500) (fun k => [(11, .int .i64 k), (7, lst AV.str .ro pcs), (5, lst AV.str (.tok 0 1) (ps.map (·.1))), (6, lst AV.str (.tok 1 1) (ps.map (·.2))), (10, lst (AV.int .i64) (.tok 2 1) (Wo.outN ps k)), (0, .str s)]) (fun k => [.tok ps.length, .tok ps.length, .tok (Wo.outN ps k).length]) (fun k => ps.length - k) 0 ⟨⟨Nat.zero_le _, Nat.zero_le _⟩, _, _, wk_tok 10 1 rfl, ⟨by simp only [go_sem, Nat.reduceMod, Nat.reduceBNe, Nat.reduceBEq, Nat.reduceEqDiff, Nat.reduceAdd, Int.reduceAdd, Nat.reduceMul, Nat.reduceSub, Int.reduceToNat, Int.reduceLE, Int.reduceLT, Int.reduceEq, Int.reduceNe, reduceCtorEq, Nat.reduceLT, Nat.reduceLeDiff]; rfl, rfl⟩⟩ fun k hx => ?_
    obtain ⟨x1, x2⟩ := hx
    by_cases hk : k < ps.length
    · have hk' : (k : Int) < pcs.length := by omega
      obtain ⟨n1, n2, n3, n4⟩ := rng k hk
      have hun := Wo.outN_s hk
      have hov := Wo.outN_over hk
      have g1 := Wo.getD_1 ps k
      have g2 := Wo.getD_2 ps k
      simp only [A_ref01_ParseListL1, go_sem, Nat.reduceMod, Nat.reduceBNe, Nat.reduceBEq, Nat.reduceEqDiff, Nat.reduceAdd, Int.reduceAdd, Nat.reduceMul, Nat.reduceSub, Int.reduceToNat, Int.reduceLE, Int.reduceLT, Int.reduceEq, Int.reduceNe, reduceCtorEq, Nat.reduceLT, Nat.reduceLeDiff, hk', dfltS, g1]
      generalize ps.getD k ([], []) = p at *
      obtain ⟨pa, pb⟩ := p
      simp only at n1 n2 n3 n4 hun hov g2
      have la := Wo.nat_len n1 (by omega)
      have lb := Wo.nat_len n2 n4
      have i1 := Wo.intS_nat n1 (by omega)
      have i2 := Wo.intS_nat n2 n4
      refine ⟨by rw [List.length_map]; omega, call_ev (ev_rInt hX hs pa 0 1000000000 (by omega)) ?_⟩
      rw [intV, i1]
      simp only [go_sem, Nat.reduceMod, Nat.reduceBNe, Nat.reduceBEq, Nat.reduceEqDiff, Nat.reduceAdd, Int.reduceAdd, Nat.reduceMul, Nat.reduceSub, Int.reduceToNat, Int.reduceLE, Int.reduceLT, Int.reduceEq, Int.reduceNe, reduceCtorEq, Nat.reduceLT, Nat.reduceLeDiff, dfltS, g2]
      refine ⟨by rw [List.length_map]; omega, call_ev (ev_rInt hX hs pb 0 1000000000 (by omega)) ?_⟩
      rw [intV, i2]
      simp only [go_sem, Nat.reduceMod, Nat.reduceBNe, Nat.reduceBEq, Nat.reduceEqDiff, Nat.reduceAdd, Int.reduceAdd, Nat.reduceMul, Nat.reduceSub, Int.reduceToNat, Int.reduceLE, Int.reduceLT, Int.reduceEq, Int.reduceNe, reduceCtorEq, Nat.reduceLT, Nat.reduceLeDiff]
      have hrg : Wo.rngI (Wo.numP (pa, pb)) = Wo.seqN (Wo.magL 0 pa : Nat) (((Wo.magL 0 pb : Nat) : Int) - (Wo.magL 0 pa : Nat) + 1).toNat := rfl
      rw [hrg] at hun
      clear hrg i1 i2 la lb n1 n2
      generalize Wo.magL 0 pa = va at *
      generalize Wo.magL 0 pb = vb at *
      have hN : ((((vb : Nat) : Int) - (va : Nat) + 1).toNat : Int) = (vb : Int) - va + 1 := by omega
      generalize (((vb : Nat) : Int) - (va : Nat) + 1).toNat = N at *
      refine w_loop' hs.hm (ι := Nat) (fun m => m ≤ N ∧ (Wo.outN ps k).length + m ≤ 500) (fun m => [(16, .int .i64 ((va + m : Nat) : Int)), (14, .int .i64 (vb : Nat)), (11, .int .i64 k), (7, lst AV.str .ro pcs), (5, lst AV.str (.tok 0 1) (ps.map (·.1))), (6, lst AV.str (.tok 1 1) (ps.map (·.2))), (10, lst (AV.int .i64) (.tok 2 1) (Wo.outN ps k ++ Wo.seqN (va : Nat) m)), (0, .str s)]) (fun m => [.tok ps.length, .tok ps.length, .tok (Wo.outN ps k ++ Wo.seqN (va : Nat) m).length]) (fun m => N - m) 0 ?_ fun m hm => ?_
      · simp only [go_sem, Nat.reduceMod, Nat.reduceBNe, Nat.reduceBEq, Nat.reduceEqDiff, Nat.reduceAdd, Int.reduceAdd, Nat.reduceMul, Nat.reduceSub, Int.reduceToNat, Int.reduceLE, Int.reduceLT, Int.reduceEq, Int.reduceNe, reduceCtorEq, Nat.reduceLT, Nat.reduceLeDiff]
        exact ⟨⟨Nat.zero_le _, x2⟩, by rw [Wo.seqN_0, List.append_nil]; exact ⟨rfl, rfl⟩, by rw [Wo.seqN_0, List.append_nil]⟩
      · obtain ⟨hm, hm5⟩ := hm
        have hsl := Wo.seqN_len (va : Nat) m
        have hal : (Wo.outN ps k ++ Wo.seqN (va : Nat) m).length = (Wo.outN ps k).length + m := by rw [List.length_append, hsl]
        simp only [A_ref01_ParseListL2, go_sem, Nat.reduceMod, Nat.reduceBNe, Nat.reduceBEq, Nat.reduceEqDiff, Nat.reduceAdd, Int.reduceAdd, Nat.reduceMul, Nat.reduceSub, Int.reduceToNat, Int.reduceLE, Int.reduceLT, Int.reduceEq, Int.reduceNe, reduceCtorEq, Nat.reduceLT, Nat.reduceLeDiff]
        refine ⟨fun h6 => ⟨fun h7 => ?_, fun h7 => ?_⟩, fun h6 => ?_⟩
        · exact plV_nil (by rw [hL, if_pos (hov (by omega))])
        · have hss := Wo.seqN_s (va : Nat) m
          refine ⟨by omega, m + 1, by omega, ⟨by omega, by omega⟩, ⟨by rw [wi64 (by omega)]; rfl, ?_⟩, ?_⟩
          · rw [hss, List.append_assoc]
            rfl
          · rw [hss, ← List.append_assoc]
            simp only [List.length_append, List.length_singleton]
        · have : m = N := by omega
          subst this
          rw [← hun]
          exact ⟨k + 1, by omega, ⟨by omega, by rw [hun, hal]; omega⟩, ⟨by rw [wi64 (by omega)]; rfl, rfl⟩, rfl⟩
    · have hk' : ¬ (k : Int) < pcs.length := by omega
      obtain rfl : k = ps.length := by omega
      simp only [A_ref01_ParseListL1, go_sem, Nat.reduceMod, Nat.reduceBNe, Nat.reduceBEq, Nat.reduceEqDiff, Nat.reduceAdd, Int.reduceAdd, Nat.reduceMul, Nat.reduceSub, Int.reduceToNat, Int.reduceLE, Int.reduceLT, Int.reduceEq, Int.reduceNe, reduceCtorEq, Nat.reduceLT, Nat.reduceLeDiff, hk']
      rw [Wo.outN_all] at *
      exact plV_eq (by rw [hL, if_neg (by omega)])
end
end Go.Avm

/- Words: lists by the reference; equal lists. -/
namespace Go.Avm
open Go
set_option maxRecDepth 10000
theorem asc_1 (l : List Int) : Wo.ascB (l.take 1) = true := by
  cases l <;> rfl
theorem ch_val {l : List Int} {i : Nat} : ∀ {m : Nat}, Wo.Ch l i m → l.getD (i + m) 0 = l.getD i 0 + m
  | 0, _ => by simp
  | m + 1, h => by
    have h1 := ch_val (m := m) ⟨by have := h.1; omega, fun j a b => h.2 j a (by omega)⟩
    have h2 := h.2 (i + m) (by omega) (by omega)
    rw [show i + (m + 1) = i + m + 1 by omega, h2, h1]
    push_cast
    omega
section
variable {X : Cx} (hX : X.P = Go.Proofs.Tryz.prog) (hs : Std X)
include hX hs
set_option maxHeartbeats 4000000 in
theorem ev_rList (l : List Int) : Ev X F_ref01_List [lst (AV.int .i64) .ro l] (listV l) := by
  refine ev_of_wpc hs (A_ref01_List_ok hX) 0 ?_
  simp only [A_ref01_List, go_sem, Nat.reduceMod, Nat.reduceBNe, Nat.reduceBEq, Nat.reduceEqDiff, Nat.reduceAdd, Int.reduceAdd, Nat.reduceMul, Nat.reduceSub, Int.reduceToNat, Int.reduceLE, Int.reduceLT, Int.reduceEq, Int.reduceNe, reduceCtorEq, Nat.reduceLT, Nat.reduceLeDiff]
  refine ⟨fun h => listV_eq (by rw [Wo.listS, if_pos (by omega)]), fun h5 => ?_⟩
  refine w_loop' hs.hm (ι := Nat) (fun i => i ≤ l.length ∧ ∀ k, k < i → ¬ (l.getD k 0 < 0 ∨ 1000000000 < l.getD k 0)) (fun i => [(4, .int .i64 i), (0, lst (AV.int .i64) .ro l)]) (fun _ => []) (fun i => l.length - i) 0 ?_ fun i hi => ?_
  · simp only [go_sem, Nat.reduceMod, Nat.reduceBNe, Nat.reduceBEq, Nat.reduceEqDiff, Nat.reduceAdd, Int.reduceAdd, Nat.reduceMul, Nat.reduceSub, Int.reduceToNat, Int.reduceLE, Int.reduceLT, Int.reduceEq, Int.reduceNe, reduceCtorEq, Nat.reduceLT, Nat.reduceLeDiff]
    exact ⟨Nat.zero_le _, no_lt0⟩
  obtain ⟨i1, i2⟩ := hi
  by_cases hlt : i < l.length
  · have hlt' : (i : Int) < l.length := by omega
    have hbad : (l.getD i 0 < 0 ∨ 1000000000 < l.getD i 0) → AV.tuple [.str [], .int .i64 7] = listV l := fun h => listV_eq (by rw [Wo.listS, if_neg (by omega), if_pos (Wo.out_yes hlt h)])
    simp only [A_ref01_ListL0, go_sem, Nat.reduceMod, Nat.reduceBNe, Nat.reduceBEq, Nat.reduceEqDiff, Nat.reduceAdd, Int.reduceAdd, Nat.reduceMul, Nat.reduceSub, Int.reduceToNat, Int.reduceLE, Int.reduceLT, Int.reduceEq, Int.reduceNe, reduceCtorEq, Nat.reduceLT, Nat.reduceLeDiff, hlt', dflt]
    refine ⟨by omega, fun h1 => hbad (.inl h1), fun h1 => ⟨by omega, fun h2 => hbad (.inr h2), fun h2 => ?_⟩⟩
    refine ⟨i + 1, by omega, ⟨by omega, fun k hk => ?_⟩, by rw [wi64 (by omega)]; rfl⟩
    rcases Nat.lt_or_ge k i with h' | h'
    · exact i2 k h'
    · rw [show k = i by omega]; omega
  · have hlt' : ¬ (i : Int) < l.length := by omega
    obtain rfl : i = l.length := by omega
    have ho := Wo.out_no i2
    have hL : Wo.listS l = if Wo.ascB l then (if l = [] then ([45], 0) else (Wo.tx [] (Wo.runs l), 0)) else ([], 6) := by rw [Wo.listS, if_neg (by omega), if_neg (by rw [ho]; decide)]
    simp only [A_ref01_ListL0, go_sem, Nat.reduceMod, Nat.reduceBNe, Nat.reduceBEq, Nat.reduceEqDiff, Nat.reduceAdd, Int.reduceAdd, Nat.reduceMul, Nat.reduceSub, Int.reduceToNat, Int.reduceLE, Int.reduceLT, Int.reduceEq, Int.reduceNe, reduceCtorEq, Nat.reduceLT, Nat.reduceLeDiff, hlt']
    refine w_loop' hs.hm (ι := Nat) (fun j => 1 ≤ j ∧ (j ≤ l.length ∨ l.length = 0) ∧ Wo.ascB (l.take j) = true) (fun j => [(5, .int .i64 j), (0, lst (AV.int .i64) .ro l)]) (fun _ => []) (fun j => l.length - j) 1 ?_ fun j hj => ?_
    · simp only [go_sem, Nat.reduceMod, Nat.reduceBNe, Nat.reduceBEq, Nat.reduceEqDiff, Nat.reduceAdd, Int.reduceAdd, Nat.reduceMul, Nat.reduceSub, Int.reduceToNat, Int.reduceLE, Int.reduceLT, Int.reduceEq, Int.reduceNe, reduceCtorEq, Nat.reduceLT, Nat.reduceLeDiff]
      exact ⟨by omega, asc_1 l⟩
    obtain ⟨j1, j2, j3⟩ := hj
    by_cases hlt2 : j < l.length
    · have hlt2' : (j : Int) < l.length := by omega
      have hat := Wo.asc_take hlt2
      have ej : IntKind.i64.wrap ((j : Int) - 1) = ((j - 1 : Nat) : Int) := by rw [wi64 (by omega)]; omega
      simp only [A_ref01_ListL1, go_sem, Nat.reduceMod, Nat.reduceBNe, Nat.reduceBEq, Nat.reduceEqDiff, Nat.reduceAdd, Int.reduceAdd, Nat.reduceMul, Nat.reduceSub, Int.reduceToNat, Int.reduceLE, Int.reduceLT, Int.reduceEq, Int.reduceNe, reduceCtorEq, Nat.reduceLT, Nat.reduceLeDiff, hlt2', dflt, ej]
      refine ⟨by omega, ⟨by omega, by omega⟩, fun h1 => ?_, fun h1 => ?_⟩
      · have hna : Wo.ascB l = false := by
          cases h : Wo.ascB l with
          | false => rfl
          | true =>
            have := Wo.asc_iff.1 h (j - 1) (by omega)
            rw [show j - 1 + 1 = j by omega] at this
            omega
        exact listV_eq (by rw [hL, hna, if_neg (by decide)])
      · refine ⟨j + 1, by omega, ⟨by omega, by omega, ?_⟩, by rw [wi64 (by omega)]; rfl⟩
        rw [hat, j3, decide_eq_true (show l.getD (j - 1) 0 < l.getD j 0 by omega), Bool.or_true]
        rfl
    · have hlt2' : ¬ (j : Int) < l.length := by omega
      have hall : Wo.ascB l = true := by rw [List.take_of_length_le (by omega)] at j3; exact j3
      rw [hall, if_pos rfl] at hL
      simp only [A_ref01_ListL1, go_sem, Nat.reduceMod, Nat.reduceBNe, Nat.reduceBEq, Nat.reduceEqDiff, Nat.reduceAdd, Int.reduceAdd, Nat.reduceMul, Nat.reduceSub, Int.reduceToNat, Int.reduceLE, Int.reduceLT, Int.reduceEq, Int.reduceNe, reduceCtorEq, Nat.reduceLT, Nat.reduceLeDiff, hlt2']
      refine ⟨fun h => listV_eq (by rw [hL, if_pos (List.length_eq_zero_iff.1 (by omega))]), fun h => ?_⟩
      have hne : l ≠ [] := fun e => h (by rw [e]; rfl)
      rw [if_neg hne] at hL
      refine w_loop' hs.hm (ι := Nat × List UInt8) (fun x => Wo.Tx l x.1 x.2) (fun x => [(7, .int .i64 x.1), (6, .str x.2), (0, lst (AV.int .i64) .ro l)]) (fun _ => []) (fun x => l.length - x.1) (0, []) ?_ fun x hx => ?_
      · simp only [go_sem, Nat.reduceMod, Nat.reduceBNe, Nat.reduceBEq, Nat.reduceEqDiff, Nat.reduceAdd, Int.reduceAdd, Nat.reduceMul, Nat.reduceSub, Int.reduceToNat, Int.reduceLE, Int.reduceLT, Int.reduceEq, Int.reduceNe, reduceCtorEq, Nat.reduceLT, Nat.reduceLeDiff]
        exact Wo.tx_0 l
      obtain ⟨i, b⟩ := x
      simp only at hx
      obtain ⟨x1, x2, x3, x4⟩ := hx
      by_cases hi : i < l.length
      · have hi' : (i : Int) < l.length := by omega
        simp only [A_ref01_ListL2, go_sem, Nat.reduceMod, Nat.reduceBNe, Nat.reduceBEq, Nat.reduceEqDiff, Nat.reduceAdd, Int.reduceAdd, Nat.reduceMul, Nat.reduceSub, Int.reduceToNat, Int.reduceLE, Int.reduceLT, Int.reduceEq, Int.reduceNe, reduceCtorEq, Nat.reduceLT, Nat.reduceLeDiff, hi']
        refine w_loop' hs.hm (ι := Nat) (fun m => Wo.Ch l i m) (fun m => [(8, .int .i64 (i + m : Nat)), (7, .int .i64 i), (6, .str b), (0, lst (AV.int .i64) .ro l)]) (fun _ => []) (fun m => l.length - m) 0 ?_ fun m hm => ?_
        · simp only [go_sem, Nat.reduceMod, Nat.reduceBNe, Nat.reduceBEq, Nat.reduceEqDiff, Nat.reduceAdd, Int.reduceAdd, Nat.reduceMul, Nat.reduceSub, Int.reduceToNat, Int.reduceLE, Int.reduceLT, Int.reduceEq, Int.reduceNe, reduceCtorEq, Nat.reduceLT, Nat.reduceLeDiff]
          exact ⟨⟨by omega, fun j h1 h2 => by omega⟩, rfl⟩
        have hml := hm.1
        have hcv := ch_val hm
        have r1 := i2 (i + m) hml
        have r0 := i2 i hi
        have wn : IntKind.i64.wrap (((i + m : Nat) : Int) + 1) = ((i + m + 1 : Nat) : Int) := by rw [wi64 (by omega)]; rfl
        have w1 : IntKind.i64.wrap (l.getD (i + m) 0 + 1) = l.getD (i + m) 0 + 1 := wi64 (by omega)
        have l1 := Wo.itoa_len11 (n := l.getD i 0) (by omega)
        have l2 := Wo.itoa_len11 (n := l.getD (i + m) 0) (by omega)
        have hr1 : l.getD i 0 < l.getD (i + m) 0 → Wo.rt (l.getD i 0, l.getD (i + m) 0) = Lib.itoa (l.getD i 0) ++ 45 :: Lib.itoa (l.getD (i + m) 0) := fun h => by rw [Wo.rt, if_pos h]
        have hr2 : ¬ l.getD i 0 < l.getD (i + m) 0 → Wo.rt (l.getD i 0, l.getD (i + m) 0) = Lib.itoa (l.getD i 0) := fun h => by rw [Wo.rt, if_neg h, List.append_nil]
        simp only [A_ref01_ListL3, go_sem, Nat.reduceMod, Nat.reduceBNe, Nat.reduceBEq, Nat.reduceEqDiff, Nat.reduceAdd, Int.reduceAdd, Nat.reduceMul, Nat.reduceSub, Int.reduceToNat, Int.reduceLE, Int.reduceLT, Int.reduceEq, Int.reduceNe, reduceCtorEq, Nat.reduceLT, Nat.reduceLeDiff, wn, dflt, w1]
        refine ⟨fun c1 => ⟨⟨by omega, by omega⟩, ⟨by omega, by omega⟩, fun e => ⟨m + 1, by omega, Wo.ch_next hm (by omega) e, rfl⟩, fun e => ?_⟩, fun c1 => ?_⟩
        · have hend : i + m + 1 = l.length ∨ l.getD (i + m + 1) 0 ≠ l.getD (i + m) 0 + 1 := .inr e
          have hn := Wo.tx_next ⟨x1, x2, x3, x4⟩ i2 hm hend
          have nx : ∀ t : List UInt8, t = b ++ (if b = [] then [] else [44]) ++ Wo.rt (l.getD i 0, l.getD (i + m) 0) → ∃ j : Nat × List UInt8, l.length - j.1 < l.length - i ∧ Wo.Tx l j.1 j.2 ∧ AV.int .i64 ((i + m + 1 : Nat) : Int) = AV.int .i64 (j.1 : Int) ∧ AV.str t = AV.str j.2 := fun t ht => ⟨(i + m + 1, t), by simp only; omega, by rw [ht]; exact hn, rfl, rfl⟩
          refine ⟨fun hb => ?_, fun hb => ?_⟩
          · have hbl : (b ++ [44]).length = b.length + 1 := by rw [List.length_append, List.length_singleton]
            have hbl2 : (b ++ [44] ++ Lib.itoa (l.getD i 0)).length = b.length + 1 + (Lib.itoa (l.getD i 0)).length := by rw [List.length_append, hbl]
            have hbl3 : (b ++ [44] ++ Lib.itoa (l.getD i 0) ++ [45]).length = b.length + 1 + (Lib.itoa (l.getD i 0)).length + 1 := by rw [List.length_append, hbl2, List.length_singleton]
            refine ⟨by omega, ⟨by omega, by omega⟩, call_ev (ev_rDigits hX hs _ (by omega)) ?_⟩
            simp only [go_sem, Nat.reduceMod, Nat.reduceBNe, Nat.reduceBEq, Nat.reduceEqDiff, Nat.reduceAdd, Int.reduceAdd, Nat.reduceMul, Nat.reduceSub, Int.reduceToNat, Int.reduceLE, Int.reduceLT, Int.reduceEq, Int.reduceNe, reduceCtorEq, Nat.reduceLT, Nat.reduceLeDiff, dflt]
            refine ⟨by omega, fun hg => ⟨by omega, ⟨by omega, by omega⟩, call_ev (ev_rDigits hX hs _ (by omega)) ?_⟩, fun hg => ?_⟩
            · simp only [go_sem, Nat.reduceMod, Nat.reduceBNe, Nat.reduceBEq, Nat.reduceEqDiff, Nat.reduceAdd, Int.reduceAdd, Nat.reduceMul, Nat.reduceSub, Int.reduceToNat, Int.reduceLE, Int.reduceLT, Int.reduceEq, Int.reduceNe, reduceCtorEq, Nat.reduceLT, Nat.reduceLeDiff, wn]
              exact ⟨by omega, nx _ (by rw [hr1 (by omega), if_neg hb]; simp only [List.append_assoc]; rfl)⟩
            · simp only [wn]
              exact nx _ (by rw [hr2 (by omega), if_neg hb])
          · subst hb
            have hbl2 : ([] ++ Lib.itoa (l.getD i 0)).length = (Lib.itoa (l.getD i 0)).length := rfl
            refine ⟨⟨by omega, by omega⟩, call_ev (ev_rDigits hX hs _ (by omega)) ?_⟩
            simp only [go_sem, Nat.reduceMod, Nat.reduceBNe, Nat.reduceBEq, Nat.reduceEqDiff, Nat.reduceAdd, Int.reduceAdd, Nat.reduceMul, Nat.reduceSub, Int.reduceToNat, Int.reduceLE, Int.reduceLT, Int.reduceEq, Int.reduceNe, reduceCtorEq, Nat.reduceLT, Nat.reduceLeDiff, dflt]
            refine ⟨by omega, fun hg => ⟨by omega, ⟨by omega, by omega⟩, call_ev (ev_rDigits hX hs _ (by omega)) ?_⟩, fun hg => ?_⟩
            · simp only [go_sem, Nat.reduceMod, Nat.reduceBNe, Nat.reduceBEq, Nat.reduceEqDiff, Nat.reduceAdd, Int.reduceAdd, Nat.reduceMul, Nat.reduceSub, Int.reduceToNat, Int.reduceLE, Int.reduceLT, Int.reduceEq, Int.reduceNe, reduceCtorEq, Nat.reduceLT, Nat.reduceLeDiff, wn]
              exact ⟨by simp only [List.length_append, List.length_singleton]; omega, nx _ (by rw [hr1 (by omega), if_pos rfl]; simp only [List.append_assoc]; rfl)⟩
            · simp only [wn]
              exact nx _ (by rw [hr2 (by omega), if_pos rfl]; rfl)
        · have hend : i + m + 1 = l.length ∨ l.getD (i + m + 1) 0 ≠ l.getD (i + m) 0 + 1 := .inl (by omega)
          have hn := Wo.tx_next ⟨x1, x2, x3, x4⟩ i2 hm hend
          have nx : ∀ t : List UInt8, t = b ++ (if b = [] then [] else [44]) ++ Wo.rt (l.getD i 0, l.getD (i + m) 0) → ∃ j : Nat × List UInt8, l.length - j.1 < l.length - i ∧ Wo.Tx l j.1 j.2 ∧ AV.int .i64 ((i + m + 1 : Nat) : Int) = AV.int .i64 (j.1 : Int) ∧ AV.str t = AV.str j.2 := fun t ht => ⟨(i + m + 1, t), by simp only; omega, by rw [ht]; exact hn, rfl, rfl⟩
          refine ⟨fun hb => ?_, fun hb => ?_⟩
          · have hbl : (b ++ [44]).length = b.length + 1 := by rw [List.length_append, List.length_singleton]
            have hbl2 : (b ++ [44] ++ Lib.itoa (l.getD i 0)).length = b.length + 1 + (Lib.itoa (l.getD i 0)).length := by rw [List.length_append, hbl]
            have hbl3 : (b ++ [44] ++ Lib.itoa (l.getD i 0) ++ [45]).length = b.length + 1 + (Lib.itoa (l.getD i 0)).length + 1 := by rw [List.length_append, hbl2, List.length_singleton]
            refine ⟨by omega, ⟨by omega, by omega⟩, call_ev (ev_rDigits hX hs _ (by omega)) ?_⟩
            simp only [go_sem, Nat.reduceMod, Nat.reduceBNe, Nat.reduceBEq, Nat.reduceEqDiff, Nat.reduceAdd, Int.reduceAdd, Nat.reduceMul, Nat.reduceSub, Int.reduceToNat, Int.reduceLE, Int.reduceLT, Int.reduceEq, Int.reduceNe, reduceCtorEq, Nat.reduceLT, Nat.reduceLeDiff, dflt]
            refine ⟨by omega, fun hg => ⟨by omega, ⟨by omega, by omega⟩, call_ev (ev_rDigits hX hs _ (by omega)) ?_⟩, fun hg => ?_⟩
            · simp only [go_sem, Nat.reduceMod, Nat.reduceBNe, Nat.reduceBEq, Nat.reduceEqDiff, Nat.reduceAdd, Int.reduceAdd, Nat.reduceMul, Nat.reduceSub, Int.reduceToNat, Int.reduceLE, Int.reduceLT, Int.reduceEq, Int.reduceNe, reduceCtorEq, Nat.reduceLT, Nat.reduceLeDiff, wn]
              exact ⟨by omega, nx _ (by rw [hr1 (by omega), if_neg hb]; simp only [List.append_assoc]; rfl)⟩
            · simp only [wn]
              exact nx _ (by rw [hr2 (by omega), if_neg hb])
          · subst hb
            have hbl2 : ([] ++ Lib.itoa (l.getD i 0)).length = (Lib.itoa (l.getD i 0)).length := rfl
            refine ⟨⟨by omega, by omega⟩, call_ev (ev_rDigits hX hs _ (by omega)) ?_⟩
            simp only [go_sem, Nat.reduceMod, Nat.reduceBNe, Nat.reduceBEq, Nat.reduceEqDiff, Nat.reduceAdd, Int.reduceAdd, Nat.reduceMul, Nat.reduceSub, Int.reduceToNat, Int.reduceLE, Int.reduceLT, Int.reduceEq, Int.reduceNe, reduceCtorEq, Nat.reduceLT, Nat.reduceLeDiff, dflt]
            refine ⟨by omega, fun hg => ⟨by omega, ⟨by omega, by omega⟩, call_ev (ev_rDigits hX hs _ (by omega)) ?_⟩, fun hg => ?_⟩
            · simp only [go_sem, Nat.reduceMod, Nat.reduceBNe, Nat.reduceBEq, Nat.reduceEqDiff, Nat.reduceAdd, Int.reduceAdd, Nat.reduceMul, Nat.reduceSub, Int.reduceToNat, Int.reduceLE, Int.reduceLT, Int.reduceEq, Int.reduceNe, reduceCtorEq, Nat.reduceLT, Nat.reduceLeDiff, wn]
              exact ⟨by simp only [List.length_append, List.length_singleton]; omega, nx _ (by rw [hr1 (by omega), if_pos rfl]; simp only [List.append_assoc]; rfl)⟩
            · simp only [wn]
              exact nx _ (by rw [hr2 (by omega), if_pos rfl]; rfl)
      · have hi' : ¬ (i : Int) < l.length := by omega
        obtain rfl : i = l.length := by omega
        have he := Wo.tx_end ⟨x1, x2, x3, x4⟩
        simp only [A_ref01_ListL2, go_sem, Nat.reduceMod, Nat.reduceBNe, Nat.reduceBEq, Nat.reduceEqDiff, Nat.reduceAdd, Int.reduceAdd, Nat.reduceMul, Nat.reduceSub, Int.reduceToNat, Int.reduceLE, Int.reduceLT, Int.reduceEq, Int.reduceNe, reduceCtorEq, Nat.reduceLT, Nat.reduceLeDiff, hi']
        exact listV_eq (by rw [hL, he])
theorem ev_lists (a b : List Int) (hl : a.length < 1000000) : Ev X F_law01_lists [lst (AV.int .i64) .ro a, lst (AV.int .i64) .ro b] (.bool (decide (a = b))) := by
  refine ev_of_wpc hs (A_law01_lists_ok hX) 0 ?_
  simp only [A_law01_lists, go_sem, Nat.reduceMod, Nat.reduceBNe, Nat.reduceBEq, Nat.reduceEqDiff, Nat.reduceAdd, Int.reduceAdd, Nat.reduceMul, Nat.reduceSub, Int.reduceToNat, Int.reduceLE, Int.reduceLT, Int.reduceEq, Int.reduceNe, reduceCtorEq, Nat.reduceLT, Nat.reduceLeDiff]
  refine ⟨fun h => ?_, fun h => ?_⟩
  · rw [decide_eq_false (fun e => h (by rw [e]))]
  have hle : a.length = b.length := by omega
  refine w_loop' hs.hm (ι := Nat) (fun i => i ≤ a.length ∧ ∀ k, k < i → a.getD k default = b.getD k default) (fun i => [(5, .int .i64 i), (1, lst (AV.int .i64) .ro b), (0, lst (AV.int .i64) .ro a)]) (fun _ => []) (fun i => a.length - i) 0 ?_ fun i hi => ?_
  · simp only [go_sem, Nat.reduceMod, Nat.reduceBNe, Nat.reduceBEq, Nat.reduceEqDiff, Nat.reduceAdd, Int.reduceAdd, Nat.reduceMul, Nat.reduceSub, Int.reduceToNat, Int.reduceLE, Int.reduceLT, Int.reduceEq, Int.reduceNe, reduceCtorEq, Nat.reduceLT, Nat.reduceLeDiff]
    exact ⟨Nat.zero_le _, no_lt0⟩
  obtain ⟨i1, i2⟩ := hi
  by_cases hlt : i < a.length
  · have hlt' : (i : Int) < a.length := by omega
    simp only [A_law01_listsL0, go_sem, Nat.reduceMod, Nat.reduceBNe, Nat.reduceBEq, Nat.reduceEqDiff, Nat.reduceAdd, Int.reduceAdd, Nat.reduceMul, Nat.reduceSub, Int.reduceToNat, Int.reduceLE, Int.reduceLT, Int.reduceEq, Int.reduceNe, reduceCtorEq, Nat.reduceLT, Nat.reduceLeDiff, hlt']
    refine ⟨by omega, ⟨by omega, by omega⟩, fun e => ?_, fun e => nxt1 (by omega) i2 e (by omega)⟩
    rw [decide_eq_false]
    exact fun h => e (by rw [h])
  · have hlt' : ¬ (i : Int) < a.length := by omega
    obtain rfl : i = a.length := by omega
    simp only [A_law01_listsL0, go_sem, Nat.reduceMod, Nat.reduceBNe, Nat.reduceBEq, Nat.reduceEqDiff, Nat.reduceAdd, Int.reduceAdd, Nat.reduceMul, Nat.reduceSub, Int.reduceToNat, Int.reduceLE, Int.reduceLT, Int.reduceEq, Int.reduceNe, reduceCtorEq, Nat.reduceLT, Nat.reduceLeDiff, hlt']
    rw [decide_eq_true (eq_all hle i2)]
end
end Go.Avm
