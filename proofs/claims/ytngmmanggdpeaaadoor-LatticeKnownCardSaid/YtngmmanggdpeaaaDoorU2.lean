/- LatticeBounds. -/
import Derived.Test.YtngmmanggdpeaaaDoorQ4
set_option linter.unusedSectionVars false
set_option linter.unusedSimpArgs false
set_option linter.unusedVariables false

/- LatticeBounds. -/
namespace Go.Avm
open Go
set_option maxRecDepth 10000
section
variable {X : Cx} (hX : X.P = Go.Proofs.Tryd.prog) (hs : Std X)
include hX hs
theorem bN {ns : List (List UInt8)} {up : List UInt8} (h : (Lat.checkS ns up).2 = 0) {a b : Nat} (ha : a < ns.length) (hb : b < ns.length) : Ev X F_law03_below [latV ns up, .int .i64 a, .int .i64 b] (.bool (Lat.le up a b)) := by
  have hv := chk_val h
  have h0 := askS_n h ha hb
  have h1 : leqS ns up a b = Lat.le up a b := by rw [leqS, h0, below_nat up a b (by rw [hv.len]; exact ha)]; simp
  refine ev_of_wpc hs (A_law03_below_ok hX) 1 ?_
  simp only [A_law03_below, latV, go_sem, Nat.reduceBEq, Nat.reduceEqDiff, Nat.reduceAdd, Int.reduceAdd, Nat.reduceMul, Nat.reduceSub, Int.reduceToNat, Int.reduceLE, Int.reduceLT, Int.reduceEq, Int.reduceNe, reduceCtorEq, Nat.reduceLT, Nat.reduceLeDiff]
  refine call_ev (ev_Leq hX hs ns up a b) ?_
  rw [h0, h1]
  cases hl : Lat.le up a b with
  | false => simp only [go_sem, Nat.reduceBEq, Nat.reduceEqDiff, Nat.reduceAdd, Int.reduceAdd, Nat.reduceMul, Nat.reduceSub, Int.reduceToNat, Int.reduceLE, Int.reduceLT, Int.reduceEq, Int.reduceNe, reduceCtorEq, Nat.reduceLT, Nat.reduceLeDiff]
  | true => simp only [go_sem, Nat.reduceBEq, Nat.reduceEqDiff, Nat.reduceAdd, Int.reduceAdd, Nat.reduceMul, Nat.reduceSub, Int.reduceToNat, Int.reduceLE, Int.reduceLT, Int.reduceEq, Int.reduceNe, reduceCtorEq, Nat.reduceLT, Nat.reduceLeDiff]
theorem jN {ns : List (List UInt8)} {up : List UInt8} (h : (Lat.checkS ns up).2 = 0) {a b : Nat} (ha : a < ns.length) (hb : b < ns.length) : Ev X F_lattice_Join [latV ns up, .int .i64 a, .int .i64 b] (.tuple [.int .i64 (Lat.jn (Lat.msk up) ns.length a b : Nat), .int .i64 0]) := by
  have := ev_Join hX hs ns up a b
  rw [joinS, askS_n h ha hb, if_pos rfl] at this
  exact this
theorem mN {ns : List (List UInt8)} {up : List UInt8} (h : (Lat.checkS ns up).2 = 0) {a b : Nat} (ha : a < ns.length) (hb : b < ns.length) : Ev X F_lattice_Meet [latV ns up, .int .i64 a, .int .i64 b] (.tuple [.int .i64 (Lat.jn (fun c => Lat.dn up c ns.length) ns.length a b : Nat), .int .i64 0]) := by
  have := ev_Meet hX hs ns up a b
  rw [meetS, askS_n h ha hb, if_pos rfl] at this
  exact this
set_option maxHeartbeats 4000000 in
theorem ev_lBounds (ns : List (List UInt8)) (up : List UInt8) : Ev X F_law03_LatticeBounds [latV ns up] (.bool true) := by
  refine ev_of_wpc hs (A_law03_LatticeBounds_ok hX) 1 ?_
  simp only [A_law03_LatticeBounds, latV, go_sem, Nat.reduceBEq, Nat.reduceEqDiff, Nat.reduceAdd, Int.reduceAdd, Nat.reduceMul, Nat.reduceSub, Int.reduceToNat, Int.reduceLE, Int.reduceLT, Int.reduceEq, Int.reduceNe, reduceCtorEq, Nat.reduceLT, Nat.reduceLeDiff]
  refine call_ev (ev_Far hX hs ns up) ?_
  cases hf : farS ns up with
  | true =>
    simp only [go_sem, Nat.reduceBEq, Nat.reduceEqDiff, Nat.reduceAdd, Int.reduceAdd, Nat.reduceMul, Nat.reduceSub, Int.reduceToNat, Int.reduceLE, Int.reduceLT, Int.reduceEq, Int.reduceNe, reduceCtorEq, Nat.reduceLT, Nat.reduceLeDiff]
    refine call_ev (ev_awake hX hs) ?_
    simp only [go_sem, Nat.reduceBEq, Nat.reduceEqDiff, Nat.reduceAdd, Int.reduceAdd, Nat.reduceMul, Nat.reduceSub, Int.reduceToNat, Int.reduceLE, Int.reduceLT, Int.reduceEq, Int.reduceNe, reduceCtorEq, Nat.reduceLT, Nat.reduceLeDiff]
  | false =>
    simp only [go_sem, Nat.reduceBEq, Nat.reduceEqDiff, Nat.reduceAdd, Int.reduceAdd, Nat.reduceMul, Nat.reduceSub, Int.reduceToNat, Int.reduceLE, Int.reduceLT, Int.reduceEq, Int.reduceNe, reduceCtorEq, Nat.reduceLT, Nat.reduceLeDiff]
    refine call_ev (ev_Check hX hs ns up) ?_
    by_cases h : (Lat.checkS ns up).2 = 0
    · have hv := chk_val h
      have n8 := hv.le8
      have n0 := hv.pos
      simp only [h, go_sem, Nat.reduceBEq, Nat.reduceEqDiff, Nat.reduceAdd, Int.reduceAdd, Nat.reduceMul, Nat.reduceSub, Int.reduceToNat, Int.reduceLE, Int.reduceLT, Int.reduceEq, Int.reduceNe, reduceCtorEq, Nat.reduceLT, Nat.reduceLeDiff]
      refine call_ev (ev_Bottom hX hs ns up) ?_
      simp only [h, go_sem, Nat.reduceBEq, Nat.reduceEqDiff, Nat.reduceAdd, Int.reduceAdd, Nat.reduceMul, Nat.reduceSub, Int.reduceToNat, Int.reduceLE, Int.reduceLT, Int.reduceEq, Int.reduceNe, reduceCtorEq, Nat.reduceLT, Nat.reduceLeDiff]
      refine call_ev (ev_Top hX hs ns up) ?_
      simp only [h, go_sem, Nat.reduceBEq, Nat.reduceEqDiff, Nat.reduceAdd, Int.reduceAdd, Nat.reduceMul, Nat.reduceSub, Int.reduceToNat, Int.reduceLE, Int.reduceLT, Int.reduceEq, Int.reduceNe, reduceCtorEq, Nat.reduceLT, Nat.reduceLeDiff]
      have hB : botS ns up = (Lat.foldJ (fun c => Lat.dn up c ns.length) ns.length ns.length : Nat) := by rw [botS, if_pos h]
      have hT : topS ns up = (Lat.foldJ (Lat.msk up) ns.length ns.length : Nat) := by rw [topS, if_pos h]
      have bl := (hv.od.fold n0 ns.length (Nat.le_refl _)).1
      have tl := (hv.ou.fold n0 ns.length (Nat.le_refl _)).1
      have ball : ∀ a, a < ns.length → Lat.le up (Lat.foldJ (fun c => Lat.dn up c ns.length) ns.length ns.length) a = true := fun a ha => by
        have := hv.od.fold_all n0 a ha
        rw [Lat.dn_in bl] at this
        exact this
      have tall : ∀ a, a < ns.length → Lat.le up a (Lat.foldJ (Lat.msk up) ns.length ns.length) = true := fun a ha => hv.ou.fold_all n0 a ha
      rw [hB, hT]
      generalize Lat.foldJ (fun c => Lat.dn up c ns.length) ns.length ns.length = B at *
      generalize Lat.foldJ (Lat.msk up) ns.length ns.length = T at *
      refine w_loop' hs.hm (ι := Nat) (fun a => a ≤ ns.length) (fun a => [(10, .int .i64 a), (9, .int .i64 ns.length), (7, .int .i64 T), (5, .int .i64 B), (1, .ptr 0 0)]) (fun _ => [.box [lst AV.str .ro ns, lst u8 .ro up]]) (fun a => ns.length - a) 0 ?_ fun a hi => ?_
      · simp only [go_sem, Nat.reduceBEq, Nat.reduceEqDiff, Nat.reduceAdd, Int.reduceAdd, Nat.reduceMul, Nat.reduceSub, Int.reduceToNat, Int.reduceLE, Int.reduceLT, Int.reduceEq, Int.reduceNe, reduceCtorEq, Nat.reduceLT, Nat.reduceLeDiff]
        exact Nat.zero_le _
      · simp only [A_law03_LatticeBoundsL0, go_sem, Nat.reduceBEq, Nat.reduceEqDiff, Nat.reduceAdd, Int.reduceAdd, Nat.reduceMul, Nat.reduceSub, Int.reduceToNat, Int.reduceLE, Int.reduceLT, Int.reduceEq, Int.reduceNe, reduceCtorEq, Nat.reduceLT, Nat.reduceLeDiff]
        refine ⟨fun ca => ?_, fun ca => ?_⟩
        · have ha : a < ns.length := by omega
          refine call_ev (bN hX hs h bl ha) ?_
          rw [ball a ha]
          simp only [go_sem, Nat.reduceBEq, Nat.reduceEqDiff, Nat.reduceAdd, Int.reduceAdd, Nat.reduceMul, Nat.reduceSub, Int.reduceToNat, Int.reduceLE, Int.reduceLT, Int.reduceEq, Int.reduceNe, reduceCtorEq, Nat.reduceLT, Nat.reduceLeDiff]
          refine call_ev (bN hX hs h ha tl) ?_
          rw [tall a ha]
          simp only [go_sem, Nat.reduceBEq, Nat.reduceEqDiff, Nat.reduceAdd, Int.reduceAdd, Nat.reduceMul, Nat.reduceSub, Int.reduceToNat, Int.reduceLE, Int.reduceLT, Int.reduceEq, Int.reduceNe, reduceCtorEq, Nat.reduceLT, Nat.reduceLeDiff]
          refine w_loop' hs.hm (ι := Nat) (fun b => b ≤ ns.length) (fun b => [(11, .int .i64 b), (10, .int .i64 a), (9, .int .i64 ns.length), (7, .int .i64 T), (5, .int .i64 B), (1, .ptr 0 0)]) (fun _ => [.box [lst AV.str .ro ns, lst u8 .ro up]]) (fun a => ns.length - a) 0 ?_ fun b hi => ?_
          · simp only [go_sem, Nat.reduceBEq, Nat.reduceEqDiff, Nat.reduceAdd, Int.reduceAdd, Nat.reduceMul, Nat.reduceSub, Int.reduceToNat, Int.reduceLE, Int.reduceLT, Int.reduceEq, Int.reduceNe, reduceCtorEq, Nat.reduceLT, Nat.reduceLeDiff]
            exact Nat.zero_le _
          · simp only [A_law03_LatticeBoundsL1, go_sem, Nat.reduceBEq, Nat.reduceEqDiff, Nat.reduceAdd, Int.reduceAdd, Nat.reduceMul, Nat.reduceSub, Int.reduceToNat, Int.reduceLE, Int.reduceLT, Int.reduceEq, Int.reduceNe, reduceCtorEq, Nat.reduceLT, Nat.reduceLeDiff]
            refine ⟨fun cb => ?_, fun cb => ⟨a + 1, by omega, by omega, by rw [wi64 (by omega)]; rfl⟩⟩
            have hb : b < ns.length := by omega
            refine call_ev (jN hX hs h ha hb) ?_
            simp only [go_sem, Nat.reduceBEq, Nat.reduceEqDiff, Nat.reduceAdd, Int.reduceAdd, Nat.reduceMul, Nat.reduceSub, Int.reduceToNat, Int.reduceLE, Int.reduceLT, Int.reduceEq, Int.reduceNe, reduceCtorEq, Nat.reduceLT, Nat.reduceLeDiff]
            refine call_ev (mN hX hs h ha hb) ?_
            simp only [go_sem, Nat.reduceBEq, Nat.reduceEqDiff, Nat.reduceAdd, Int.reduceAdd, Nat.reduceMul, Nat.reduceSub, Int.reduceToNat, Int.reduceLE, Int.reduceLT, Int.reduceEq, Int.reduceNe, reduceCtorEq, Nat.reduceLT, Nat.reduceLeDiff]
            have hj := hv.ou.jn_lt ha hb
            have hm := hv.od.jn_lt ha hb
            have jb : ∀ x, Lat.le up (Lat.jn (Lat.msk up) ns.length a b) x = (Lat.le up a x && Lat.le up b x) := fun x => hv.ou.jn_bit ha hb
            have hle4 : ∀ x, x < ns.length → Lat.le up x (Lat.jn (fun c => Lat.dn up c ns.length) ns.length a b) = (Lat.le up x a && Lat.le up x b) := fun x hx => by
              have := hv.od.jn_bit (x := x) ha hb
              simp only [Lat.dn_in hx] at this
              exact this
            have jr := hv.refl _ hj
            rw [jb] at jr
            simp only [Bool.and_eq_true] at jr
            have mr := hv.refl _ hm
            rw [hle4 _ hm] at mr
            simp only [Bool.and_eq_true] at mr
            generalize Lat.jn (Lat.msk up) ns.length a b = j at *
            generalize Lat.jn (fun c => Lat.dn up c ns.length) ns.length a b = m at *
            refine call_ev (bN hX hs h ha hj) ?_
            rw [jr.1]
            simp only [go_sem, Nat.reduceBEq, Nat.reduceEqDiff, Nat.reduceAdd, Int.reduceAdd, Nat.reduceMul, Nat.reduceSub, Int.reduceToNat, Int.reduceLE, Int.reduceLT, Int.reduceEq, Int.reduceNe, reduceCtorEq, Nat.reduceLT, Nat.reduceLeDiff]
            refine call_ev (bN hX hs h hb hj) ?_
            rw [jr.2]
            simp only [go_sem, Nat.reduceBEq, Nat.reduceEqDiff, Nat.reduceAdd, Int.reduceAdd, Nat.reduceMul, Nat.reduceSub, Int.reduceToNat, Int.reduceLE, Int.reduceLT, Int.reduceEq, Int.reduceNe, reduceCtorEq, Nat.reduceLT, Nat.reduceLeDiff]
            refine call_ev (bN hX hs h hm ha) ?_
            rw [mr.1]
            simp only [go_sem, Nat.reduceBEq, Nat.reduceEqDiff, Nat.reduceAdd, Int.reduceAdd, Nat.reduceMul, Nat.reduceSub, Int.reduceToNat, Int.reduceLE, Int.reduceLT, Int.reduceEq, Int.reduceNe, reduceCtorEq, Nat.reduceLT, Nat.reduceLeDiff]
            refine call_ev (bN hX hs h hm hb) ?_
            rw [mr.2]
            simp only [go_sem, Nat.reduceBEq, Nat.reduceEqDiff, Nat.reduceAdd, Int.reduceAdd, Nat.reduceMul, Nat.reduceSub, Int.reduceToNat, Int.reduceLE, Int.reduceLT, Int.reduceEq, Int.reduceNe, reduceCtorEq, Nat.reduceLT, Nat.reduceLeDiff]
            refine w_loop' hs.hm (ι := Nat) (fun c => c ≤ ns.length) (fun c => [(16, .int .i64 c), (14, .int .i64 m), (12, .int .i64 j), (11, .int .i64 b), (10, .int .i64 a), (9, .int .i64 ns.length), (7, .int .i64 T), (5, .int .i64 B), (1, .ptr 0 0)]) (fun _ => [.box [lst AV.str .ro ns, lst u8 .ro up]]) (fun a => ns.length - a) 0 ?_ fun c hi => ?_
            · simp only [go_sem, Nat.reduceBEq, Nat.reduceEqDiff, Nat.reduceAdd, Int.reduceAdd, Nat.reduceMul, Nat.reduceSub, Int.reduceToNat, Int.reduceLE, Int.reduceLT, Int.reduceEq, Int.reduceNe, reduceCtorEq, Nat.reduceLT, Nat.reduceLeDiff]
              exact Nat.zero_le _
            · simp only [A_law03_LatticeBoundsL2, go_sem, Nat.reduceBEq, Nat.reduceEqDiff, Nat.reduceAdd, Int.reduceAdd, Nat.reduceMul, Nat.reduceSub, Int.reduceToNat, Int.reduceLE, Int.reduceLT, Int.reduceEq, Int.reduceNe, reduceCtorEq, Nat.reduceLT, Nat.reduceLeDiff]
              refine ⟨fun cc => ?_, fun cc => ⟨b + 1, by omega, by omega, by rw [wi64 (by omega)]; rfl⟩⟩
              have hc : c < ns.length := by omega
              have nx : ∃ k, ns.length - k < ns.length - c ∧ k ≤ ns.length ∧ AV.int .i64 (IntKind.i64.wrap (c + 1)) = AV.int .i64 k := ⟨c + 1, by omega, by omega, by rw [wi64 (by omega)]; rfl⟩
              refine call_ev (bN hX hs h ha hc) ?_
              cases h1 : Lat.le up a c with
              | false =>
                simp only [go_sem, Nat.reduceBEq, Nat.reduceEqDiff, Nat.reduceAdd, Int.reduceAdd, Nat.reduceMul, Nat.reduceSub, Int.reduceToNat, Int.reduceLE, Int.reduceLT, Int.reduceEq, Int.reduceNe, reduceCtorEq, Nat.reduceLT, Nat.reduceLeDiff]
                refine call_ev (bN hX hs h hc ha) ?_
                cases h3 : Lat.le up c a with
                | false =>
                  simp only [go_sem, Nat.reduceBEq, Nat.reduceEqDiff, Nat.reduceAdd, Int.reduceAdd, Nat.reduceMul, Nat.reduceSub, Int.reduceToNat, Int.reduceLE, Int.reduceLT, Int.reduceEq, Int.reduceNe, reduceCtorEq, Nat.reduceLT, Nat.reduceLeDiff]
                  exact nx
                | true =>
                  simp only [go_sem, Nat.reduceBEq, Nat.reduceEqDiff, Nat.reduceAdd, Int.reduceAdd, Nat.reduceMul, Nat.reduceSub, Int.reduceToNat, Int.reduceLE, Int.reduceLT, Int.reduceEq, Int.reduceNe, reduceCtorEq, Nat.reduceLT, Nat.reduceLeDiff]
                  refine call_ev (bN hX hs h hc hb) ?_
                  cases h4 : Lat.le up c b with
                  | false =>
                    simp only [go_sem, Nat.reduceBEq, Nat.reduceEqDiff, Nat.reduceAdd, Int.reduceAdd, Nat.reduceMul, Nat.reduceSub, Int.reduceToNat, Int.reduceLE, Int.reduceLT, Int.reduceEq, Int.reduceNe, reduceCtorEq, Nat.reduceLT, Nat.reduceLeDiff]
                    exact nx
                  | true =>
                    simp only [go_sem, Nat.reduceBEq, Nat.reduceEqDiff, Nat.reduceAdd, Int.reduceAdd, Nat.reduceMul, Nat.reduceSub, Int.reduceToNat, Int.reduceLE, Int.reduceLT, Int.reduceEq, Int.reduceNe, reduceCtorEq, Nat.reduceLT, Nat.reduceLeDiff]
                    refine call_ev (bN hX hs h hc hm) ?_
                    rw [hle4 c hc, h3, h4]
                    simp only [go_sem, Nat.reduceBEq, Nat.reduceEqDiff, Nat.reduceAdd, Int.reduceAdd, Nat.reduceMul, Nat.reduceSub, Int.reduceToNat, Int.reduceLE, Int.reduceLT, Int.reduceEq, Int.reduceNe, reduceCtorEq, Nat.reduceLT, Nat.reduceLeDiff]
                    exact nx
              | true =>
                simp only [go_sem, Nat.reduceBEq, Nat.reduceEqDiff, Nat.reduceAdd, Int.reduceAdd, Nat.reduceMul, Nat.reduceSub, Int.reduceToNat, Int.reduceLE, Int.reduceLT, Int.reduceEq, Int.reduceNe, reduceCtorEq, Nat.reduceLT, Nat.reduceLeDiff]
                refine call_ev (bN hX hs h hb hc) ?_
                cases h2 : Lat.le up b c with
                | false =>
                  simp only [go_sem, Nat.reduceBEq, Nat.reduceEqDiff, Nat.reduceAdd, Int.reduceAdd, Nat.reduceMul, Nat.reduceSub, Int.reduceToNat, Int.reduceLE, Int.reduceLT, Int.reduceEq, Int.reduceNe, reduceCtorEq, Nat.reduceLT, Nat.reduceLeDiff]
                  refine call_ev (bN hX hs h hc ha) ?_
                  cases h3 : Lat.le up c a with
                  | false =>
                    simp only [go_sem, Nat.reduceBEq, Nat.reduceEqDiff, Nat.reduceAdd, Int.reduceAdd, Nat.reduceMul, Nat.reduceSub, Int.reduceToNat, Int.reduceLE, Int.reduceLT, Int.reduceEq, Int.reduceNe, reduceCtorEq, Nat.reduceLT, Nat.reduceLeDiff]
                    exact nx
                  | true =>
                    simp only [go_sem, Nat.reduceBEq, Nat.reduceEqDiff, Nat.reduceAdd, Int.reduceAdd, Nat.reduceMul, Nat.reduceSub, Int.reduceToNat, Int.reduceLE, Int.reduceLT, Int.reduceEq, Int.reduceNe, reduceCtorEq, Nat.reduceLT, Nat.reduceLeDiff]
                    refine call_ev (bN hX hs h hc hb) ?_
                    cases h4 : Lat.le up c b with
                    | false =>
                      simp only [go_sem, Nat.reduceBEq, Nat.reduceEqDiff, Nat.reduceAdd, Int.reduceAdd, Nat.reduceMul, Nat.reduceSub, Int.reduceToNat, Int.reduceLE, Int.reduceLT, Int.reduceEq, Int.reduceNe, reduceCtorEq, Nat.reduceLT, Nat.reduceLeDiff]
                      exact nx
                    | true =>
                      simp only [go_sem, Nat.reduceBEq, Nat.reduceEqDiff, Nat.reduceAdd, Int.reduceAdd, Nat.reduceMul, Nat.reduceSub, Int.reduceToNat, Int.reduceLE, Int.reduceLT, Int.reduceEq, Int.reduceNe, reduceCtorEq, Nat.reduceLT, Nat.reduceLeDiff]
                      refine call_ev (bN hX hs h hc hm) ?_
                      rw [hle4 c hc, h3, h4]
                      simp only [go_sem, Nat.reduceBEq, Nat.reduceEqDiff, Nat.reduceAdd, Int.reduceAdd, Nat.reduceMul, Nat.reduceSub, Int.reduceToNat, Int.reduceLE, Int.reduceLT, Int.reduceEq, Int.reduceNe, reduceCtorEq, Nat.reduceLT, Nat.reduceLeDiff]
                      exact nx
                | true =>
                  simp only [go_sem, Nat.reduceBEq, Nat.reduceEqDiff, Nat.reduceAdd, Int.reduceAdd, Nat.reduceMul, Nat.reduceSub, Int.reduceToNat, Int.reduceLE, Int.reduceLT, Int.reduceEq, Int.reduceNe, reduceCtorEq, Nat.reduceLT, Nat.reduceLeDiff]
                  refine call_ev (bN hX hs h hj hc) ?_
                  rw [jb c, h1, h2]
                  simp only [go_sem, Nat.reduceBEq, Nat.reduceEqDiff, Nat.reduceAdd, Int.reduceAdd, Nat.reduceMul, Nat.reduceSub, Int.reduceToNat, Int.reduceLE, Int.reduceLT, Int.reduceEq, Int.reduceNe, reduceCtorEq, Nat.reduceLT, Nat.reduceLeDiff]
                  refine call_ev (bN hX hs h hc ha) ?_
                  cases h3 : Lat.le up c a with
                  | false =>
                    simp only [go_sem, Nat.reduceBEq, Nat.reduceEqDiff, Nat.reduceAdd, Int.reduceAdd, Nat.reduceMul, Nat.reduceSub, Int.reduceToNat, Int.reduceLE, Int.reduceLT, Int.reduceEq, Int.reduceNe, reduceCtorEq, Nat.reduceLT, Nat.reduceLeDiff]
                    exact nx
                  | true =>
                    simp only [go_sem, Nat.reduceBEq, Nat.reduceEqDiff, Nat.reduceAdd, Int.reduceAdd, Nat.reduceMul, Nat.reduceSub, Int.reduceToNat, Int.reduceLE, Int.reduceLT, Int.reduceEq, Int.reduceNe, reduceCtorEq, Nat.reduceLT, Nat.reduceLeDiff]
                    refine call_ev (bN hX hs h hc hb) ?_
                    cases h4 : Lat.le up c b with
                    | false =>
                      simp only [go_sem, Nat.reduceBEq, Nat.reduceEqDiff, Nat.reduceAdd, Int.reduceAdd, Nat.reduceMul, Nat.reduceSub, Int.reduceToNat, Int.reduceLE, Int.reduceLT, Int.reduceEq, Int.reduceNe, reduceCtorEq, Nat.reduceLT, Nat.reduceLeDiff]
                      exact nx
                    | true =>
                      simp only [go_sem, Nat.reduceBEq, Nat.reduceEqDiff, Nat.reduceAdd, Int.reduceAdd, Nat.reduceMul, Nat.reduceSub, Int.reduceToNat, Int.reduceLE, Int.reduceLT, Int.reduceEq, Int.reduceNe, reduceCtorEq, Nat.reduceLT, Nat.reduceLeDiff]
                      refine call_ev (bN hX hs h hc hm) ?_
                      rw [hle4 c hc, h3, h4]
                      simp only [go_sem, Nat.reduceBEq, Nat.reduceEqDiff, Nat.reduceAdd, Int.reduceAdd, Nat.reduceMul, Nat.reduceSub, Int.reduceToNat, Int.reduceLE, Int.reduceLT, Int.reduceEq, Int.reduceNe, reduceCtorEq, Nat.reduceLT, Nat.reduceLeDiff]
                      exact nx
        · refine call_ev (ev_awake hX hs) ?_
          simp only [go_sem, Nat.reduceBEq, Nat.reduceEqDiff, Nat.reduceAdd, Int.reduceAdd, Nat.reduceMul, Nat.reduceSub, Int.reduceToNat, Int.reduceLE, Int.reduceLT, Int.reduceEq, Int.reduceNe, reduceCtorEq, Nat.reduceLT, Nat.reduceLeDiff]
    · simp only [h, go_sem, Nat.reduceBEq, Nat.reduceEqDiff, Nat.reduceAdd, Int.reduceAdd, Nat.reduceMul, Nat.reduceSub, Int.reduceToNat, Int.reduceLE, Int.reduceLT, Int.reduceEq, Int.reduceNe, reduceCtorEq, Nat.reduceLT, Nat.reduceLeDiff]
      refine call_ev (ev_awake hX hs) ?_
      simp only [go_sem, Nat.reduceBEq, Nat.reduceEqDiff, Nat.reduceAdd, Int.reduceAdd, Nat.reduceMul, Nat.reduceSub, Int.reduceToNat, Int.reduceLE, Int.reduceLT, Int.reduceEq, Int.reduceNe, reduceCtorEq, Nat.reduceLT, Nat.reduceLeDiff]
end
end Go.Avm
