/- Labels: the law of folds. -/
import Derived.Test.YtebnoigmepfdcaaGreatDoorAR2
import Derived.Test.YtebnoigmepfdcaaGreatDoorM2
set_option linter.unusedSectionVars false
set_option linter.unusedSimpArgs false
set_option linter.unusedVariables false

/- Labels: the law of folds. -/
namespace Go.Avm
open Go
theorem ckE_0 {ns : List (List UInt8)} {up : List UInt8} (h1 : (Lat.checkS ns up).2 = 0) {s : List Nat} (hl : s.length ≤ 64) (hs : ∀ x ∈ s, x < ns.length) : ckE ns up (nl s) = 0 := by
  unfold ckE
  rw [if_pos h1, if_neg (by rw [nl_len]; omega), fidx_no (p := badL ns.length) (l := nl s) fun j hj => by
    rw [nl_len] at hj
    rw [nl_getD]
    have := getD_lt hs hj
    simp only [badL, Bool.or_eq_false_iff, decide_eq_false_iff_not]
    omega]
  rfl
theorem fjI {ns : List (List UInt8)} {up : List UInt8} (h1 : (Lat.checkS ns up).2 = 0) : ∀ (k : List Nat) (b : Nat), b < ns.length → (∀ x ∈ k, x < ns.length) → (nl k).foldl (joinS ns up) (b : Int) = ((k.foldl (Lat.jn (Lat.msk up) ns.length) b : Nat) : Int)
  | [], b, _, _ => rfl
  | a :: k, b, hb, hk => by
    have ha := hk a (by simp)
    have e : joinS ns up (b : Int) (a : Int) = ((Lat.jn (Lat.msk up) ns.length b a : Nat) : Int) := by
      rw [joinS, if_pos (askS_n h1 hb ha)]
      rfl
    show (nl k).foldl (joinS ns up) (joinS ns up (b : Int) (a : Int)) = _
    rw [e]
    exact fjI h1 k _ ((chk_val h1).ou.jn_lt hb ha) fun x hx => hk x (List.mem_cons_of_mem _ hx)
theorem fidx_some {p : Int → Bool} {l : List Int} {i : Nat} (h : fidx p l = some i) : i < l.length ∧ p (l.getD i 0) = true ∧ ∀ j, j < i → p (l.getD j 0) = false := by
  unfold fidx at h
  rw [List.findIdx?_eq_some_iff_getElem] at h
  obtain ⟨hi, h1, h2⟩ := h
  refine ⟨hi, ?_, fun j hj => ?_⟩
  · rw [List.getD_eq_getElem?_getD, List.getElem?_eq_getElem hi]
    exact h1
  · have := h2 j hj
    rw [List.getD_eq_getElem?_getD, List.getElem?_eq_getElem (by omega)]
    simpa using this
theorem getD_mem {k : List Nat} {i : Nat} (hi : i < k.length) : k.getD i 0 ∈ k := by
  rw [List.getD_eq_getElem?_getD, List.getElem?_eq_getElem hi]
  exact List.getElem_mem _
set_option maxRecDepth 10000
section
variable {X : Cx} (hX : X.P = Go.Proofs.Tryz.prog) (hs : Std X)
include hX hs
set_option maxHeartbeats 4000000 in
theorem ev_LFolds (_ : True) (ns : List (List UInt8)) (up : List UInt8) (a b : List Int) : Ev X F_law04_LabelsFolds [latV ns up, lst (AV.int .i64) .ro a, lst (AV.int .i64) .ro b] (.bool true) := by
  refine ev_of_wpc hs (A_law04_LabelsFolds_ok hX) 1 ?_
  simp only [A_law04_LabelsFolds, latV, go_sem, Nat.reduceMod, Nat.reduceBNe, Nat.reduceBEq, Nat.reduceEqDiff, Nat.reduceAdd, Int.reduceAdd, Nat.reduceMul, Nat.reduceSub, Int.reduceToNat, Int.reduceLE, Int.reduceLT, Int.reduceEq, Int.reduceNe, reduceCtorEq, Nat.reduceLT, Nat.reduceLeDiff]
  refine call_ev (ev_Far hX hs ns up) ?_
  have fin : ∀ {K : Fr → Heap → Prop} {d fr H}, K (Fr.updo fr d (.bool true)) H → CallOk X F_law04_awake [] d fr H K := fun hK => call_ev (ev_awake hX hs) hK
  cases hf : farS ns up with
  | true =>
    simp only [go_sem, Nat.reduceMod, Nat.reduceBNe, Nat.reduceBEq, Nat.reduceEqDiff, Nat.reduceAdd, Int.reduceAdd, Nat.reduceMul, Nat.reduceSub, Int.reduceToNat, Int.reduceLE, Int.reduceLT, Int.reduceEq, Int.reduceNe, reduceCtorEq, Nat.reduceLT, Nat.reduceLeDiff]
    refine fin ?_
    simp only [go_sem, Nat.reduceMod, Nat.reduceBNe, Nat.reduceBEq, Nat.reduceEqDiff, Nat.reduceAdd, Int.reduceAdd, Nat.reduceMul, Nat.reduceSub, Int.reduceToNat, Int.reduceLE, Int.reduceLT, Int.reduceEq, Int.reduceNe, reduceCtorEq, Nat.reduceLT, Nat.reduceLeDiff]
  | false =>
    simp only [go_sem, Nat.reduceMod, Nat.reduceBNe, Nat.reduceBEq, Nat.reduceEqDiff, Nat.reduceAdd, Int.reduceAdd, Nat.reduceMul, Nat.reduceSub, Int.reduceToNat, Int.reduceLE, Int.reduceLT, Int.reduceEq, Int.reduceNe, reduceCtorEq, Nat.reduceLT, Nat.reduceLeDiff]
    refine ⟨fun c => ?_, fun c => ⟨fun c' => ?_, fun c' => ?_⟩⟩
    · refine fin ?_
      simp only [go_sem, Nat.reduceMod, Nat.reduceBNe, Nat.reduceBEq, Nat.reduceEqDiff, Nat.reduceAdd, Int.reduceAdd, Nat.reduceMul, Nat.reduceSub, Int.reduceToNat, Int.reduceLE, Int.reduceLT, Int.reduceEq, Int.reduceNe, reduceCtorEq, Nat.reduceLT, Nat.reduceLeDiff]
    · refine fin ?_
      simp only [go_sem, Nat.reduceMod, Nat.reduceBNe, Nat.reduceBEq, Nat.reduceEqDiff, Nat.reduceAdd, Int.reduceAdd, Nat.reduceMul, Nat.reduceSub, Int.reduceToNat, Int.reduceLE, Int.reduceLT, Int.reduceEq, Int.reduceNe, reduceCtorEq, Nat.reduceLT, Nat.reduceLeDiff]
    · refine call_ev (ev_lJoin hX hs ns up a (by omega)) ?_
      simp only [go_sem, Nat.reduceMod, Nat.reduceBNe, Nat.reduceBEq, Nat.reduceEqDiff, Nat.reduceAdd, Int.reduceAdd, Nat.reduceMul, Nat.reduceSub, Int.reduceToNat, Int.reduceLE, Int.reduceLT, Int.reduceEq, Int.reduceNe, reduceCtorEq, Nat.reduceLT, Nat.reduceLeDiff]
      refine call_ev (ev_lJoin hX hs ns up b (by omega)) ?_
      by_cases ha : ckE ns up a = 0
      · by_cases hb : ckE ns up b = 0
        · obtain ⟨h1, h2, h3⟩ := ck_ok ha
          obtain ⟨k, rfl, hk⟩ := nl_ex h3
          obtain ⟨_, h2', h3'⟩ := ck_ok hb
          obtain ⟨k', rfl, hk'⟩ := nl_ex h3'
          have hv := chk_val h1
          have h8 := hv.le8
          have hup := hv.len
          rw [nl_len] at c c'
          simp only [ha, hb, go_sem, Nat.reduceMod, Nat.reduceBNe, Nat.reduceBEq, Nat.reduceEqDiff, Nat.reduceAdd, Int.reduceAdd, Nat.reduceMul, Nat.reduceSub, Int.reduceToNat, Int.reduceLE, Int.reduceLT, Int.reduceEq, Int.reduceNe, reduceCtorEq, Nat.reduceLT, Nat.reduceLeDiff, ← nl_app]
          rw [nl_len] at h2 h2'
          have hkk : ∀ x ∈ k ++ k', x < ns.length := fun x hx => (List.mem_append.1 hx).elim (hk x) (hk' x)
          have hll : (k ++ k').length ≤ 64 := by rw [List.length_append]; omega
          have hcb : ckE ns up (nl (k ++ k')) = 0 := ckE_0 h1 hll hkk
          have eB : botS ns up = ((Lat.foldJ (fun c => Lat.dn up c ns.length) ns.length ns.length : Nat) : Int) := by rw [botS, if_pos h1]
          have j1 : jnE ns up (nl k) = ((k.foldl (Lat.jn (Lat.msk up) ns.length) (Lat.foldJ (fun c => Lat.dn up c ns.length) ns.length ns.length) : Nat) : Int) := by rw [jnE, if_pos ha, eB, fjI h1 k _ hv.bot_lt hk]
          have j2 : jnE ns up (nl k') = ((k'.foldl (Lat.jn (Lat.msk up) ns.length) (Lat.foldJ (fun c => Lat.dn up c ns.length) ns.length ns.length) : Nat) : Int) := by rw [jnE, if_pos hb, eB, fjI h1 k' _ hv.bot_lt hk']
          have j3 : jnE ns up (nl (k ++ k')) = (((k ++ k').foldl (Lat.jn (Lat.msk up) ns.length) (Lat.foldJ (fun c => Lat.dn up c ns.length) ns.length ns.length) : Nat) : Int) := by rw [jnE, if_pos hcb, eB, fjI h1 _ _ hv.bot_lt hkk]
          have l1 := hv.ou.fj_lt hv.bot_lt hk
          have l2 := hv.ou.fj_lt hv.bot_lt hk'
          have l3 := hv.ou.fj_lt hv.bot_lt hkk
          have happ := hv.ou.fj_app hv.bot_lt hk hk'
          have hrev := hv.ou.fj_rev hv.bot_lt hkk
          have hle := fun t (ht : t < ns.length) => hv.join_le hkk ht
          have hm : mtE ns up (nl (k ++ k')) = (nl (k ++ k')).foldl (meetS ns up) (topS ns up) := by rw [mtE, if_pos hcb]
          have hrv : (nl (k ++ k')).reverse.foldl (joinS ns up) (botS ns up) = jnE ns up (nl (k ++ k')) := by
            rw [j3, eB, show (nl (k ++ k')).reverse = nl (k ++ k').reverse from by simp [nl], fjI h1 _ _ hv.bot_lt (fun x hx => hkk x (List.mem_reverse.1 hx)), hrev]
          rw [j1, j2]
          generalize hJ1 : k.foldl (Lat.jn (Lat.msk up) ns.length) (Lat.foldJ (fun c => Lat.dn up c ns.length) ns.length ns.length) = J1 at j1 l1 happ ⊢
          generalize hJ2 : k'.foldl (Lat.jn (Lat.msk up) ns.length) (Lat.foldJ (fun c => Lat.dn up c ns.length) ns.length ns.length) = J2 at j2 l2 happ ⊢
          generalize hJ : (k ++ k').foldl (Lat.jn (Lat.msk up) ns.length) (Lat.foldJ (fun c => Lat.dn up c ns.length) ns.length ns.length) = J at j3 l3 happ hle
          have hw : joinS ns up (J1 : Int) (J2 : Int) = (J : Int) := by
            rw [joinS, if_pos (askS_n h1 l1 l2), happ]
            rfl
          have hnl : (nl (k ++ k')).length ≤ 64 := by rw [nl_len]; exact hll
          refine ⟨⟨by rw [nl_len]; omega, by rw [nl_len]; omega⟩, ⟨by rw [nl_len, nl_len]; omega, by rw [nl_len, nl_len]; omega⟩, ?_⟩
          refine call_ev (ev_lJoin hX hs ns up (nl (k ++ k')) (by omega)) ?_
          rw [hcb, j3]
          simp only [go_sem, Nat.reduceMod, Nat.reduceBNe, Nat.reduceBEq, Nat.reduceEqDiff, Nat.reduceAdd, Int.reduceAdd, Nat.reduceMul, Nat.reduceSub, Int.reduceToNat, Int.reduceLE, Int.reduceLT, Int.reduceEq, Int.reduceNe, reduceCtorEq, Nat.reduceLT, Nat.reduceLeDiff]
          refine call_ev (ev_lMeet hX hs ns up (nl (k ++ k')) (by omega)) ?_
          rw [hcb]
          simp only [go_sem, Nat.reduceMod, Nat.reduceBNe, Nat.reduceBEq, Nat.reduceEqDiff, Nat.reduceAdd, Int.reduceAdd, Nat.reduceMul, Nat.reduceSub, Int.reduceToNat, Int.reduceLE, Int.reduceLT, Int.reduceEq, Int.reduceNe, reduceCtorEq, Nat.reduceLT, Nat.reduceLeDiff]
          refine call_ev (ev_rJoin hX hs ns up J1 J2) ?_
          rw [hw, askS_n h1 l1 l2]
          simp only [go_sem, Nat.reduceMod, Nat.reduceBNe, Nat.reduceBEq, Nat.reduceEqDiff, Nat.reduceAdd, Int.reduceAdd, Nat.reduceMul, Nat.reduceSub, Int.reduceToNat, Int.reduceLE, Int.reduceLT, Int.reduceEq, Int.reduceNe, reduceCtorEq, Nat.reduceLT, Nat.reduceLeDiff]
          refine call_ev (ev_rBottom hX hs ns up) ?_
          rw [h1]
          simp only [go_sem, Nat.reduceMod, Nat.reduceBNe, Nat.reduceBEq, Nat.reduceEqDiff, Nat.reduceAdd, Int.reduceAdd, Nat.reduceMul, Nat.reduceSub, Int.reduceToNat, Int.reduceLE, Int.reduceLT, Int.reduceEq, Int.reduceNe, reduceCtorEq, Nat.reduceLT, Nat.reduceLeDiff]
          refine call_ev (ev_rTop hX hs ns up) ?_
          rw [h1]
          simp only [go_sem, Nat.reduceMod, Nat.reduceBNe, Nat.reduceBEq, Nat.reduceEqDiff, Nat.reduceAdd, Int.reduceAdd, Nat.reduceMul, Nat.reduceSub, Int.reduceToNat, Int.reduceLE, Int.reduceLT, Int.reduceEq, Int.reduceNe, reduceCtorEq, Nat.reduceLT, Nat.reduceLeDiff]
          generalize hL : k ++ k' = L at *
          refine w_loop' hs.hm (ι := Nat) (fun i => i ≤ L.length) (fun i => [(20, .int .i64 i), (16, .int .i64 (((nl L).reverse.take i).foldl (joinS ns up) (botS ns up))), (18, .int .i64 (((nl L).take i).foldl (meetS ns up) (topS ns up))), (11, lst (AV.int .i64) (.tok 1 1) (nl L)), (12, .int .i64 J), (13, .int .i64 (mtE ns up (nl L))), (3, .ptr 0 0)]) (fun _ => [.box [lst AV.str .ro ns, lst u8 .ro up], .tok ((nl k).length + (nl k').length)]) (fun i => L.length - i) 0 ?_ fun i hi => ?_
          · simp only [go_sem, Nat.reduceMod, Nat.reduceBNe, Nat.reduceBEq, Nat.reduceEqDiff, Nat.reduceAdd, Int.reduceAdd, Nat.reduceMul, Nat.reduceSub, Int.reduceToNat, Int.reduceLE, Int.reduceLT, Int.reduceEq, Int.reduceNe, reduceCtorEq, Nat.reduceLT, Nat.reduceLeDiff]
            exact ⟨Nat.zero_le _, rfl, rfl⟩
          · simp only [A_law04_LabelsFoldsL0, go_sem, Nat.reduceMod, Nat.reduceBNe, Nat.reduceBEq, Nat.reduceEqDiff, Nat.reduceAdd, Int.reduceAdd, Nat.reduceMul, Nat.reduceSub, Int.reduceToNat, Int.reduceLE, Int.reduceLT, Int.reduceEq, Int.reduceNe, reduceCtorEq, Nat.reduceLT, Nat.reduceLeDiff, nl_len]
            refine ⟨fun ci => ?_, fun ci => ?_⟩
            · have hiL : i < L.length := by omega
              have ew : IntKind.i64.wrap (IntKind.i64.wrap ((L.length : Int) - 1) - (i : Int)) = ((L.length - 1 - i : Nat) : Int) := by
                rw [wi64 (n := (L.length : Int) - 1) (by omega), wi64 (by omega)]
                omega
              have erev : (nl L).reverse.getD i 0 = (nl L).getD (L.length - 1 - i) 0 := by
                rw [List.getD_eq_getElem?_getD, List.getD_eq_getElem?_getD, List.getElem?_reverse (by rw [nl_len]; exact hiL), nl_len]
              have n1 := foldl_next (joinS ns up) (botS ns up) (l := (nl L).reverse) (i := i) (by rw [List.length_reverse, nl_len]; exact hiL)
              have n2 := foldl_next (meetS ns up) (topS ns up) (l := nl L) (i := i) (by rw [nl_len]; exact hiL)
              rw [ew, Int.toNat_natCast]
              refine ⟨⟨by omega, by omega⟩, ?_⟩
              refine call_ev (ev_rJoin hX hs ns up _ _) ?_
              simp only [go_sem, Nat.reduceMod, Nat.reduceBNe, Nat.reduceBEq, Nat.reduceEqDiff, Nat.reduceAdd, Int.reduceAdd, Nat.reduceMul, Nat.reduceSub, Int.reduceToNat, Int.reduceLE, Int.reduceLT, Int.reduceEq, Int.reduceNe, reduceCtorEq, Nat.reduceLT, Nat.reduceLeDiff, nl_len]
              refine ⟨⟨by omega, ci⟩, ?_⟩
              refine callq_ev (ev_rMeet hX hs ns up _ _) ?_
              simp only [go_sem, Nat.reduceMod, Nat.reduceBNe, Nat.reduceBEq, Nat.reduceEqDiff, Nat.reduceAdd, Int.reduceAdd, Nat.reduceMul, Nat.reduceSub, Int.reduceToNat, Int.reduceLE, Int.reduceLT, Int.reduceEq, Int.reduceNe, reduceCtorEq, Nat.reduceLT, Nat.reduceLeDiff]
              exact ⟨i + 1, by omega, by omega, by rw [wi64 (by omega)]; rfl, by rw [n1, erev]; rfl, by rw [n2]; rfl⟩
            · obtain rfl : i = L.length := by omega
              rw [List.take_of_length_le (l := (nl L).reverse) (by rw [List.length_reverse, nl_len]; exact Nat.le_refl _), List.take_of_length_le (l := nl L) (by rw [nl_len]; exact Nat.le_refl _), hrv, j3, hm]
              simp only [go_sem, Nat.reduceMod, Nat.reduceBNe, Nat.reduceBEq, Nat.reduceEqDiff, Nat.reduceAdd, Int.reduceAdd, Nat.reduceMul, Nat.reduceSub, Int.reduceToNat, Int.reduceLE, Int.reduceLT, Int.reduceEq, Int.reduceNe, reduceCtorEq, Nat.reduceLT, Nat.reduceLeDiff]
              refine w_loop' hs.hm (ι := Nat) (fun t => t ≤ ns.length) (fun t => [(22, .int .i64 t), (11, lst (AV.int .i64) (.tok 1 1) (nl L)), (12, .int .i64 J), (3, .ptr 0 0)]) (fun _ => [.box [lst AV.str .ro ns, lst u8 .ro up], .tok (k.length + k'.length)]) (fun t => ns.length - t) 0 ?_ fun t ht => ?_
              · simp only [go_sem, Nat.reduceMod, Nat.reduceBNe, Nat.reduceBEq, Nat.reduceEqDiff, Nat.reduceAdd, Int.reduceAdd, Nat.reduceMul, Nat.reduceSub, Int.reduceToNat, Int.reduceLE, Int.reduceLT, Int.reduceEq, Int.reduceNe, reduceCtorEq, Nat.reduceLT, Nat.reduceLeDiff]
                exact Nat.zero_le _
              · simp only [A_law04_LabelsFoldsL1, go_sem, Nat.reduceMod, Nat.reduceBNe, Nat.reduceBEq, Nat.reduceEqDiff, Nat.reduceAdd, Int.reduceAdd, Nat.reduceMul, Nat.reduceSub, Int.reduceToNat, Int.reduceLE, Int.reduceLT, Int.reduceEq, Int.reduceNe, reduceCtorEq, Nat.reduceLT, Nat.reduceLeDiff, nl_len]
                refine ⟨fun ct => ?_, fun ct => ?_⟩
                · have htn : t < ns.length := by omega
                  have hbt : badL ns.length (t : Int) = false := by simp only [badL, Bool.or_eq_false_iff, decide_eq_false_iff_not]; omega
                  have hbl : ∀ x, x < ns.length → below up (x : Int) (t : Int) = Lat.le up x t := fun x hx => below_nat up x t (by omega)
                  refine call_ev (ev_lFlows hX hs ns up (nl L) (by omega) t) ?_
                  rw [flA, flE, if_pos hcb, if_pos hcb, hbt]
                  cases hfx : fidx (nfl up t) (nl L) with
                  | none =>
                    have hall : L.all (fun a => Lat.le up a t) = true := List.all_eq_true.2 fun x hx => by
                      have := fidx_none hfx (x : Int) (List.mem_map.2 ⟨x, hx, rfl⟩)
                      rw [nfl, hbl x (hkk x hx)] at this
                      simpa using this
                    simp only [oz, oe, Bool.false_eq_true, if_false, go_sem, Nat.reduceMod, Nat.reduceBNe, Nat.reduceBEq, Nat.reduceEqDiff, Nat.reduceAdd, Int.reduceAdd, Nat.reduceMul, Nat.reduceSub, Int.reduceToNat, Int.reduceLE, Int.reduceLT, Int.reduceEq, Int.reduceNe, reduceCtorEq, Nat.reduceLT, Nat.reduceLeDiff, nl_len]
                    refine callq_ev (ev_Below hX hs ns up _ _) ?_
                    rw [hbl J l3, hle t htn, hall]
                    simp only [go_sem, Nat.reduceMod, Nat.reduceBNe, Nat.reduceBEq, Nat.reduceEqDiff, Nat.reduceAdd, Int.reduceAdd, Nat.reduceMul, Nat.reduceSub, Int.reduceToNat, Int.reduceLE, Int.reduceLT, Int.reduceEq, Int.reduceNe, reduceCtorEq, Nat.reduceLT, Nat.reduceLeDiff, nl_len]
                    refine w_loop' hs.hm (ι := Nat) (fun q => q ≤ L.length) (fun q => [(25, .int .i64 q), (24, .int .i64 0), (23, .int .i64 0), (22, .int .i64 t), (11, lst (AV.int .i64) (.tok 1 1) (nl L)), (12, .int .i64 J), (3, .ptr 0 0)]) (fun _ => [.box [lst AV.str .ro ns, lst u8 .ro up], .tok (k.length + k'.length)]) (fun q => L.length - q) 0 ?_ fun q hq => ?_
                    · simp only [go_sem, Nat.reduceMod, Nat.reduceBNe, Nat.reduceBEq, Nat.reduceEqDiff, Nat.reduceAdd, Int.reduceAdd, Nat.reduceMul, Nat.reduceSub, Int.reduceToNat, Int.reduceLE, Int.reduceLT, Int.reduceEq, Int.reduceNe, reduceCtorEq, Nat.reduceLT, Nat.reduceLeDiff]
                      exact Nat.zero_le _
                    · simp only [A_law04_LabelsFoldsL2, go_sem, Nat.reduceMod, Nat.reduceBNe, Nat.reduceBEq, Nat.reduceEqDiff, Nat.reduceAdd, Int.reduceAdd, Nat.reduceMul, Nat.reduceSub, Int.reduceToNat, Int.reduceLE, Int.reduceLT, Int.reduceEq, Int.reduceNe, reduceCtorEq, Nat.reduceLT, Nat.reduceLeDiff, nl_len, nl_get]
                      refine ⟨fun cq => ?_, fun cq => ?_⟩
                      · have hqL : q < L.length := by omega
                        refine ⟨⟨by omega, cq⟩, ?_⟩
                        refine callq_ev (ev_Below hX hs ns up _ _) ?_
                        rw [hbl _ (getD_lt hkk hqL), List.all_eq_true.1 hall (L.getD q 0) (getD_mem hqL)]
                        simp only [go_sem, Nat.reduceMod, Nat.reduceBNe, Nat.reduceBEq, Nat.reduceEqDiff, Nat.reduceAdd, Int.reduceAdd, Nat.reduceMul, Nat.reduceSub, Int.reduceToNat, Int.reduceLE, Int.reduceLT, Int.reduceEq, Int.reduceNe, reduceCtorEq, Nat.reduceLT, Nat.reduceLeDiff]
                        exact ⟨q + 1, by omega, by omega, by rw [wi64 (by omega)]; rfl⟩
                      · obtain rfl : q = L.length := by omega
                        exact ⟨t + 1, by omega, by omega, by rw [wi64 (by omega)]; rfl⟩
                  | some i =>
                    obtain ⟨hi1, hi2, hi3⟩ := fidx_some hfx
                    rw [nl_len] at hi1
                    rw [nl_getD, nfl, hbl _ (getD_lt hkk hi1), Bool.not_eq_true'] at hi2
                    have hbef : ∀ q, q < i → Lat.le up (L.getD q 0) t = true := fun q hq => by
                      have := hi3 q hq
                      rw [nl_getD, nfl, hbl _ (getD_lt hkk (by omega))] at this
                      simpa using this
                    have hall : L.all (fun a => Lat.le up a t) = false := List.all_eq_false.2 ⟨L.getD i 0, getD_mem hi1, by rw [hi2]; exact Bool.false_ne_true⟩
                    simp only [oz, oe, Bool.false_eq_true, if_false, go_sem, Nat.reduceMod, Nat.reduceBNe, Nat.reduceBEq, Nat.reduceEqDiff, Nat.reduceAdd, Int.reduceAdd, Nat.reduceMul, Nat.reduceSub, Int.reduceToNat, Int.reduceLE, Int.reduceLT, Int.reduceEq, Int.reduceNe, reduceCtorEq, Nat.reduceLT, Nat.reduceLeDiff, nl_len]
                    refine callq_ev (ev_Below hX hs ns up _ _) ?_
                    rw [hbl J l3, hle t htn, hall]
                    simp only [go_sem, Nat.reduceMod, Nat.reduceBNe, Nat.reduceBEq, Nat.reduceEqDiff, Nat.reduceAdd, Int.reduceAdd, Nat.reduceMul, Nat.reduceSub, Int.reduceToNat, Int.reduceLE, Int.reduceLT, Int.reduceEq, Int.reduceNe, reduceCtorEq, Nat.reduceLT, Nat.reduceLeDiff, nl_len, nl_get]
                    refine ⟨fun e => absurd e (by omega), fun _ => ⟨fun e => absurd e (by omega), fun _ => ⟨⟨by omega, by omega⟩, ?_⟩⟩⟩
                    refine callq_ev (ev_Below hX hs ns up _ _) ?_
                    rw [hbl _ (getD_lt hkk hi1), hi2]
                    simp only [go_sem, Nat.reduceMod, Nat.reduceBNe, Nat.reduceBEq, Nat.reduceEqDiff, Nat.reduceAdd, Int.reduceAdd, Nat.reduceMul, Nat.reduceSub, Int.reduceToNat, Int.reduceLE, Int.reduceLT, Int.reduceEq, Int.reduceNe, reduceCtorEq, Nat.reduceLT, Nat.reduceLeDiff]
                    refine w_loop' hs.hm (ι := Nat) (fun q => q ≤ L.length) (fun q => [(25, .int .i64 q), (24, .int .i64 25), (23, .int .i64 i), (22, .int .i64 t), (11, lst (AV.int .i64) (.tok 1 1) (nl L)), (12, .int .i64 J), (3, .ptr 0 0)]) (fun _ => [.box [lst AV.str .ro ns, lst u8 .ro up], .tok (k.length + k'.length)]) (fun q => L.length - q) 0 ?_ fun q hq => ?_
                    · simp only [go_sem, Nat.reduceMod, Nat.reduceBNe, Nat.reduceBEq, Nat.reduceEqDiff, Nat.reduceAdd, Int.reduceAdd, Nat.reduceMul, Nat.reduceSub, Int.reduceToNat, Int.reduceLE, Int.reduceLT, Int.reduceEq, Int.reduceNe, reduceCtorEq, Nat.reduceLT, Nat.reduceLeDiff]
                      exact Nat.zero_le _
                    · simp only [A_law04_LabelsFoldsL2, go_sem, Nat.reduceMod, Nat.reduceBNe, Nat.reduceBEq, Nat.reduceEqDiff, Nat.reduceAdd, Int.reduceAdd, Nat.reduceMul, Nat.reduceSub, Int.reduceToNat, Int.reduceLE, Int.reduceLT, Int.reduceEq, Int.reduceNe, reduceCtorEq, Nat.reduceLT, Nat.reduceLeDiff, nl_len, nl_get]
                      refine ⟨fun cq => ?_, fun cq => ?_⟩
                      · have hqL : q < L.length := by omega
                        refine ⟨⟨by omega, cq⟩, ?_⟩
                        refine callq_ev (ev_Below hX hs ns up _ _) ?_
                        rw [hbl _ (getD_lt hkk hqL)]
                        cases eq : Lat.le up (L.getD q 0) t with
                        | true =>
                          simp only [go_sem, Nat.reduceMod, Nat.reduceBNe, Nat.reduceBEq, Nat.reduceEqDiff, Nat.reduceAdd, Int.reduceAdd, Nat.reduceMul, Nat.reduceSub, Int.reduceToNat, Int.reduceLE, Int.reduceLT, Int.reduceEq, Int.reduceNe, reduceCtorEq, Nat.reduceLT, Nat.reduceLeDiff]
                          first
                            | exact ⟨q + 1, by omega, by omega, by rw [wi64 (by omega)]; rfl⟩
                            | exact ⟨fun _ => ⟨q + 1, by omega, by omega, by rw [wi64 (by omega)]; rfl⟩, fun _ => ⟨q + 1, by omega, by omega, by rw [wi64 (by omega)]; rfl⟩⟩
                        | false =>
                          have hiq : ¬ (q : Int) < i := fun hlt => by
                            have := hbef q (by omega)
                            rw [eq] at this
                            cases this
                          simp only [hiq, go_sem, Nat.reduceMod, Nat.reduceBNe, Nat.reduceBEq, Nat.reduceEqDiff, Nat.reduceAdd, Int.reduceAdd, Nat.reduceMul, Nat.reduceSub, Int.reduceToNat, Int.reduceLE, Int.reduceLT, Int.reduceEq, Int.reduceNe, reduceCtorEq, Nat.reduceLT, Nat.reduceLeDiff]
                          exact ⟨q + 1, by omega, by omega, by rw [wi64 (by omega)]; rfl⟩
                      · obtain rfl : q = L.length := by omega
                        exact ⟨t + 1, by omega, by omega, by rw [wi64 (by omega)]; rfl⟩
                · refine fin ?_
                  simp only [go_sem, Nat.reduceMod, Nat.reduceBNe, Nat.reduceBEq, Nat.reduceEqDiff, Nat.reduceAdd, Int.reduceAdd, Nat.reduceMul, Nat.reduceSub, Int.reduceToNat, Int.reduceLE, Int.reduceLT, Int.reduceEq, Int.reduceNe, reduceCtorEq, Nat.reduceLT, Nat.reduceLeDiff]
        · simp only [ha, hb, go_sem, Nat.reduceMod, Nat.reduceBNe, Nat.reduceBEq, Nat.reduceEqDiff, Nat.reduceAdd, Int.reduceAdd, Nat.reduceMul, Nat.reduceSub, Int.reduceToNat, Int.reduceLE, Int.reduceLT, Int.reduceEq, Int.reduceNe, reduceCtorEq, Nat.reduceLT, Nat.reduceLeDiff]
          refine fin ?_
          simp only [go_sem, Nat.reduceMod, Nat.reduceBNe, Nat.reduceBEq, Nat.reduceEqDiff, Nat.reduceAdd, Int.reduceAdd, Nat.reduceMul, Nat.reduceSub, Int.reduceToNat, Int.reduceLE, Int.reduceLT, Int.reduceEq, Int.reduceNe, reduceCtorEq, Nat.reduceLT, Nat.reduceLeDiff]
      · simp only [ha, go_sem, Nat.reduceMod, Nat.reduceBNe, Nat.reduceBEq, Nat.reduceEqDiff, Nat.reduceAdd, Int.reduceAdd, Nat.reduceMul, Nat.reduceSub, Int.reduceToNat, Int.reduceLE, Int.reduceLT, Int.reduceEq, Int.reduceNe, reduceCtorEq, Nat.reduceLT, Nat.reduceLeDiff]
        refine fin ?_
        simp only [go_sem, Nat.reduceMod, Nat.reduceBNe, Nat.reduceBEq, Nat.reduceEqDiff, Nat.reduceAdd, Int.reduceAdd, Nat.reduceMul, Nat.reduceSub, Int.reduceToNat, Int.reduceLE, Int.reduceLT, Int.reduceEq, Int.reduceNe, reduceCtorEq, Nat.reduceLT, Nat.reduceLeDiff]
end
end Go.Avm
