/- Labels: the law of the order. -/
import Derived.Test.YtebnoigmepfdcaaDoorAQ7
set_option linter.unusedSectionVars false
set_option linter.unusedSimpArgs false
set_option linter.unusedVariables false

/- Labels: the law of the order. -/
namespace Go.Avm
open Go
theorem far_names {ns : List (List UInt8)} {up : List UInt8} (h : farS ns up = false) : ∀ x ∈ ns, x.length ≤ 100 := by
  have h2 := (far_no h).1
  simp only [farS, longS, Bool.or_eq_false_iff] at h
  have h1 := h.1.1
  rw [List.take_of_length_le (by omega), List.any_eq_false] at h1
  intro x hx
  have := h1 x hx
  simp at this
  exact this
/-- which labels are in a list -/
def inV (k : List Nat) : List AV := tb 8 fun x => .bool (k.contains x)
theorem inV_nil : inV [] = [.bool false, .bool false, .bool false, .bool false, .bool false, .bool false, .bool false, .bool false] := rfl
theorem inV_s {k : List Nat} {i : Nat} (hi : i < k.length) : (inV (k.take i)).set (k.getD i 0) (.bool true) = inV (k.take (i + 1)) := by
  unfold inV
  rw [tb_set]
  refine tb_congr fun x hx => ?_
  rw [List.take_succ_eq_append_getElem hi, List.getD_eq_getElem?_getD, List.getElem?_eq_getElem hi, Option.getD_some]
  by_cases e : x = k[i]
  · rw [if_pos e]
    have : (k.take i ++ [k[i]]).contains x = true := by
      rw [List.contains_iff_mem, List.mem_append, List.mem_singleton]
      exact .inr e
    rw [this]
  · rw [if_neg e]
    have : ((k.take i ++ [k[i]]).contains x) = ((k.take i).contains x) := by
      rw [Bool.eq_iff_iff, List.contains_iff_mem, List.contains_iff_mem, List.mem_append, List.mem_singleton]
      exact ⟨fun h => h.resolve_right e, .inl⟩
    rw [this]
theorem inV_len (k : List Nat) : (inV k).length = 8 := tb_len _ _
theorem inV_get {k : List Nat} {x : Nat} (h : x < 8) : (inV k).getD x .undef = .bool (k.contains x) := tb_getD _ _ h
theorem inV_eq (S : List Nat) : eqCells [1, 1, 1, 1, 1, 1, 1, 1] (List.take 8 (inV S)) (List.take 8 (inV S)) = some true := by
  show eqCells [1, 1, 1, 1, 1, 1, 1, 1] [.bool (S.contains 0), .bool (S.contains 1), .bool (S.contains 2), .bool (S.contains 3), .bool (S.contains 4), .bool (S.contains 5), .bool (S.contains 6), .bool (S.contains 7)] [.bool (S.contains 0), .bool (S.contains 1), .bool (S.contains 2), .bool (S.contains 3), .bool (S.contains 4), .bool (S.contains 5), .bool (S.contains 6), .bool (S.contains 7)] = _
  generalize S.contains 0 = a, S.contains 1 = b, S.contains 2 = c, S.contains 3 = d, S.contains 4 = e, S.contains 5 = f, S.contains 6 = g, S.contains 7 = h
  cases a <;> cases b <;> cases c <;> cases d <;> cases e <;> cases f <;> cases g <;> cases h <;> rfl
set_option maxRecDepth 10000
section
variable {X : Cx} (hX : X.P = Go.Proofs.Tryd.prog) (hs : Std X)
include hX hs
theorem ev_LOrder (_ : True) (ns : List (List UInt8)) (up : List UInt8) (l : List Int) : Ev X F_law04_LabelsOrder [latV ns up, lst (AV.int .i64) .ro l] (.bool true) := by
  refine ev_of_wpc hs (A_law04_LabelsOrder_ok hX) 1 ?_
  simp only [A_law04_LabelsOrder, latV, go_sem, Nat.reduceMod, Nat.reduceBNe, Nat.reduceBEq, Nat.reduceEqDiff, Nat.reduceAdd, Int.reduceAdd, Nat.reduceMul, Nat.reduceSub, Int.reduceToNat, Int.reduceLE, Int.reduceLT, Int.reduceEq, Int.reduceNe, reduceCtorEq, Nat.reduceLT, Nat.reduceLeDiff]
  refine call_ev (ev_Far hX hs ns up) ?_
  cases hf : farS ns up with
  | true =>
    simp only [go_sem, Nat.reduceMod, Nat.reduceBNe, Nat.reduceBEq, Nat.reduceEqDiff, Nat.reduceAdd, Int.reduceAdd, Nat.reduceMul, Nat.reduceSub, Int.reduceToNat, Int.reduceLE, Int.reduceLT, Int.reduceEq, Int.reduceNe, reduceCtorEq, Nat.reduceLT, Nat.reduceLeDiff]
    refine call_ev (ev_awake hX hs) ?_
    simp only [go_sem, Nat.reduceMod, Nat.reduceBNe, Nat.reduceBEq, Nat.reduceEqDiff, Nat.reduceAdd, Int.reduceAdd, Nat.reduceMul, Nat.reduceSub, Int.reduceToNat, Int.reduceLE, Int.reduceLT, Int.reduceEq, Int.reduceNe, reduceCtorEq, Nat.reduceLT, Nat.reduceLeDiff]
  | false =>
    simp only [go_sem, Nat.reduceMod, Nat.reduceBNe, Nat.reduceBEq, Nat.reduceEqDiff, Nat.reduceAdd, Int.reduceAdd, Nat.reduceMul, Nat.reduceSub, Int.reduceToNat, Int.reduceLE, Int.reduceLT, Int.reduceEq, Int.reduceNe, reduceCtorEq, Nat.reduceLT, Nat.reduceLeDiff]
    refine ⟨fun c => ?_, fun c => ?_⟩
    · refine call_ev (ev_awake hX hs) ?_
      simp only [go_sem, Nat.reduceMod, Nat.reduceBNe, Nat.reduceBEq, Nat.reduceEqDiff, Nat.reduceAdd, Int.reduceAdd, Nat.reduceMul, Nat.reduceSub, Int.reduceToNat, Int.reduceLE, Int.reduceLT, Int.reduceEq, Int.reduceNe, reduceCtorEq, Nat.reduceLT, Nat.reduceLeDiff]
    · have hl : l.length < 1000000 := by omega
      refine call_ev (ev_lSort hX hs ns up l hl) ?_
      by_cases h : ckE ns up l = 0
      · obtain ⟨h1, h2, h3⟩ := ck_ok h
        obtain ⟨k, rfl, hk⟩ := nl_ex h3
        have hv := chk_val h1
        have h8 := hv.le8
        have hup := hv.len
        rw [stL_nl h]
        simp only [h, go_sem, Nat.reduceMod, Nat.reduceBNe, Nat.reduceBEq, Nat.reduceEqDiff, Nat.reduceAdd, Int.reduceAdd, Nat.reduceMul, Nat.reduceSub, Int.reduceToNat, Int.reduceLE, Int.reduceLT, Int.reduceEq, Int.reduceNe, reduceCtorEq, Nat.reduceLT, Nat.reduceLeDiff, nl_len, nl_get]
        have hm : ∀ x, x ∈ Lat.srt up ns.length k ↔ x ∈ k := fun x => by rw [Lat.mem_srt hv]; exact ⟨fun h => h.2, fun h => ⟨hk x h, h⟩⟩
        have hpw := Lat.pw_srt up ns.length k
        have hss := Lat.srt_srt hv k
        have hch := Lat.chain_eq hv hk
        have hlen : (Lat.srt up ns.length k).length ≤ 64 := by
          rw [← sA_all]
          have := sA_len up ns.length k ns.length
          have : ns.length * ns.length ≤ 8 * 8 := Nat.mul_le_mul h8 h8
          omega
        generalize Lat.srt up ns.length k = S at hm hpw hss hch hlen ⊢
        rw [nl_len] at hl h2
        have hkS : ∀ x ∈ S, x < ns.length := fun x hx => hk x ((hm x).1 hx)
        have hckS : ckE ns up (nl S) = 0 := by
          unfold ckE
          rw [if_pos h1, if_neg (by rw [nl_len]; omega), fidx_no (p := badL ns.length) (l := nl S) fun j hj => by
            rw [nl_len] at hj
            rw [nl_getD]
            have := getD_lt hkS hj
            simp only [badL, Bool.or_eq_false_iff, decide_eq_false_iff_not]
            omega]
          rfl
        have hstS : stL ns up (nl S) = nl S := by rw [stL_nl hckS, hss]
        refine w_loop' hs.hm (ι := Nat) (fun i => i ≤ k.length) (fun i => [(9, .int .i64 i), (1, lst (AV.int .i64) .ro (nl k)), (2, .ptr 0 0), (5, lst (AV.int .i64) .ro (nl S)), (7, .ptr 1 0), (8, .ptr 2 0)]) (fun i => [.box [lst AV.str .ro ns, lst u8 .ro up], .box (inV (k.take i)), .box (inV [])]) (fun i => k.length - i) 0 ?_ fun i hi => ?_
        · simp only [go_sem, Nat.reduceMod, Nat.reduceBNe, Nat.reduceBEq, Nat.reduceEqDiff, Nat.reduceAdd, Int.reduceAdd, Nat.reduceMul, Nat.reduceSub, Int.reduceToNat, Int.reduceLE, Int.reduceLT, Int.reduceEq, Int.reduceNe, reduceCtorEq, Nat.reduceLT, Nat.reduceLeDiff, List.take_zero, inV_nil]
          exact Nat.zero_le _
        · simp only [A_law04_LabelsOrderL0, go_sem, Nat.reduceMod, Nat.reduceBNe, Nat.reduceBEq, Nat.reduceEqDiff, Nat.reduceAdd, Int.reduceAdd, Nat.reduceMul, Nat.reduceSub, Int.reduceToNat, Int.reduceLE, Int.reduceLT, Int.reduceEq, Int.reduceNe, reduceCtorEq, Nat.reduceLT, Nat.reduceLeDiff, nl_len, nl_get]
          refine ⟨fun ci => ?_, fun ci => ?_⟩
          · have hik : i < k.length := by omega
            have hki := getD_lt hk hik
            refine ⟨⟨by omega, ci⟩, fun e => absurd e (by omega), fun _ => ⟨⟨by omega, ci⟩, fun e => absurd e (by omega), fun _ => ⟨⟨by omega, ci⟩, ⟨by omega, by omega⟩, by rw [inV_len]; omega, i + 1, by omega, by omega, by rw [wi64 (by omega)]; rfl, by rw [Nat.mul_one, inV_s hik]⟩⟩⟩
          · obtain rfl : i = k.length := by omega
            rw [List.take_length]
            refine call_ev (ev_lChain hX hs ns up (nl k) (by rw [nl_len]; exact hl)) ?_
            rw [chV_nl h]
            simp only [h, go_sem, Nat.reduceMod, Nat.reduceBNe, Nat.reduceBEq, Nat.reduceEqDiff, Nat.reduceAdd, Int.reduceAdd, Nat.reduceMul, Nat.reduceSub, Int.reduceToNat, Int.reduceLE, Int.reduceLT, Int.reduceEq, Int.reduceNe, reduceCtorEq, Nat.reduceLT, Nat.reduceLeDiff]
            refine call_ev (ev_lSort hX hs ns up (nl S) (by rw [nl_len]; omega)) ?_
            rw [hstS, hckS]
            simp only [go_sem, Nat.reduceMod, Nat.reduceBNe, Nat.reduceBEq, Nat.reduceEqDiff, Nat.reduceAdd, Int.reduceAdd, Nat.reduceMul, Nat.reduceSub, Int.reduceToNat, Int.reduceLE, Int.reduceLT, Int.reduceEq, Int.reduceNe, reduceCtorEq, Nat.reduceLT, Nat.reduceLeDiff]
            refine call_ev (ev_rlSame hX hs (nl S) (nl S) (by rw [nl_len]; omega) (by rw [nl_len]; omega)) ?_
            simp only [decide_true, go_sem, Nat.reduceMod, Nat.reduceBNe, Nat.reduceBEq, Nat.reduceEqDiff, Nat.reduceAdd, Int.reduceAdd, Nat.reduceMul, Nat.reduceSub, Int.reduceToNat, Int.reduceLE, Int.reduceLT, Int.reduceEq, Int.reduceNe, reduceCtorEq, Nat.reduceLT, Nat.reduceLeDiff]
            have hkin : inV k = inV S := tb_congr fun x hx => by
              have : k.contains x = S.contains x := by rw [Bool.eq_iff_iff, List.contains_iff_mem, List.contains_iff_mem, hm]
              rw [this]
            have hpx : ∀ i j, i < j → j < S.length → Lat.kl up ns.length (S.getD i 0) (S.getD j 0) = true := fun i j hij hj => by
              rw [List.getD_eq_getElem?_getD, List.getD_eq_getElem?_getD, List.getElem?_eq_getElem hj, List.getElem?_eq_getElem (by omega)]
              exact List.pairwise_iff_getElem.1 hpw i j (by omega) hj hij
            rw [hkin]
            refine w_loop' hs.hm (ι := Nat) (fun i => i ≤ S.length) (fun i => [(13, .int .i64 i), (10, .bool (Lat.chB up k)), (2, .ptr 0 0), (5, lst (AV.int .i64) .ro (nl S)), (7, .ptr 1 0), (8, .ptr 2 0)]) (fun i => [.box [lst AV.str .ro ns, lst u8 .ro up], .box (inV S), .box (inV (S.take i))]) (fun i => S.length - i) 0 ?_ fun i hi => ?_
            · simp only [go_sem, Nat.reduceMod, Nat.reduceBNe, Nat.reduceBEq, Nat.reduceEqDiff, Nat.reduceAdd, Int.reduceAdd, Nat.reduceMul, Nat.reduceSub, Int.reduceToNat, Int.reduceLE, Int.reduceLT, Int.reduceEq, Int.reduceNe, reduceCtorEq, Nat.reduceLT, Nat.reduceLeDiff, List.take_zero]
              exact Nat.zero_le _
            · simp only [A_law04_LabelsOrderL1, go_sem, Nat.reduceMod, Nat.reduceBNe, Nat.reduceBEq, Nat.reduceEqDiff, Nat.reduceAdd, Int.reduceAdd, Nat.reduceMul, Nat.reduceSub, Int.reduceToNat, Int.reduceLE, Int.reduceLT, Int.reduceEq, Int.reduceNe, reduceCtorEq, Nat.reduceLT, Nat.reduceLeDiff, nl_len, nl_get]
              refine ⟨fun ci => ?_, fun ci => ?_⟩
              · have hiS : i < S.length := by omega
                have hSi := getD_lt hkS hiS
                have hnot : (S.take i).contains (S.getD i 0) = false := by
                  rw [← Bool.not_eq_true, List.contains_iff_mem]
                  intro hmem
                  obtain ⟨j, hj, e⟩ := List.getElem_of_mem hmem
                  rw [List.length_take] at hj
                  have := hpx j i (by omega) hiS
                  rw [List.getElem_take] at e
                  have e2 : S.getD j 0 = S[j] := by rw [List.getD_eq_getElem?_getD, List.getElem?_eq_getElem (by omega)]; rfl
                  rw [e2, e] at this
                  exact Lat.kl_irr this
                refine ⟨⟨by omega, ci⟩, fun e => absurd e (by omega), fun _ => ⟨⟨by omega, ci⟩, fun e => absurd e (by omega), fun _ => ⟨⟨by omega, ci⟩, ⟨by omega, by omega⟩, by rw [inV_len]; omega, ?_⟩⟩⟩
                simp only [Nat.mul_one, inV_get (show S.getD i 0 < 8 by omega), hnot, go_sem, Nat.reduceMod, Nat.reduceBNe, Nat.reduceBEq, Nat.reduceEqDiff, Nat.reduceAdd, Int.reduceAdd, Nat.reduceMul, Nat.reduceSub, Int.reduceToNat, Int.reduceLE, Int.reduceLT, Int.reduceEq, Int.reduceNe, reduceCtorEq, Nat.reduceLT, Nat.reduceLeDiff, nl_len, nl_get]
                refine ⟨⟨by omega, ci⟩, ⟨by omega, by omega⟩, by rw [inV_len]; omega, ?_⟩
                rw [inV_s hiS]
                refine w_loop' hs.hm (ι := Nat) (fun j => j ≤ i) (fun j => [(14, .int .i64 j), (13, .int .i64 i), (10, .bool (Lat.chB up k)), (2, .ptr 0 0), (5, lst (AV.int .i64) .ro (nl S)), (7, .ptr 1 0), (8, .ptr 2 0)]) (fun _ => [.box [lst AV.str .ro ns, lst u8 .ro up], .box (inV S), .box (inV (S.take (i + 1)))]) (fun j => i - j) 0 ?_ fun j hj => ?_
                · simp only [go_sem, Nat.reduceMod, Nat.reduceBNe, Nat.reduceBEq, Nat.reduceEqDiff, Nat.reduceAdd, Int.reduceAdd, Nat.reduceMul, Nat.reduceSub, Int.reduceToNat, Int.reduceLE, Int.reduceLT, Int.reduceEq, Int.reduceNe, reduceCtorEq, Nat.reduceLT, Nat.reduceLeDiff]
                  exact Nat.zero_le _
                · simp only [A_law04_LabelsOrderL2, go_sem, Nat.reduceMod, Nat.reduceBNe, Nat.reduceBEq, Nat.reduceEqDiff, Nat.reduceAdd, Int.reduceAdd, Nat.reduceMul, Nat.reduceSub, Int.reduceToNat, Int.reduceLE, Int.reduceLT, Int.reduceEq, Int.reduceNe, reduceCtorEq, Nat.reduceLT, Nat.reduceLeDiff, nl_len, nl_get]
                  refine ⟨fun cj => ?_, fun cj => ?_⟩
                  · have hjS : j < S.length := by omega
                    have hSj := getD_lt hkS hjS
                    have hkl := hpx j i (by omega) hiS
                    have hne : S.getD j 0 ≠ S.getD i 0 := fun e => by rw [e] at hkl; exact Lat.kl_irr hkl
                    have hno : Lat.le up (S.getD i 0) (S.getD j 0) = false := by
                      rw [← Bool.not_eq_true]
                      intro hle
                      exact Lat.kl_asym hkl (Lat.kl_le hv hSi hSj hle (fun e => hne e.symm))
                    have hyes : Lat.chB up k = true → Lat.le up (S.getD j 0) (S.getD i 0) = true := fun hc => by
                      rw [← hch] at hc
                      have := Lat.chS_all hv hkS hc
                      rw [List.getD_eq_getElem?_getD, List.getD_eq_getElem?_getD, List.getElem?_eq_getElem hjS, List.getElem?_eq_getElem hiS]
                      exact List.pairwise_iff_getElem.1 this j i hjS hiS (by omega)
                    refine ⟨⟨by omega, by omega⟩, ⟨by omega, by omega⟩, ?_⟩
                    refine callq_ev (ev_Below hX hs ns up _ _) ?_
                    rw [below_nat up _ _ (by omega), hno]
                    cases hc : Lat.chB up k with
                    | false =>
                      simp only [go_sem, Nat.reduceMod, Nat.reduceBNe, Nat.reduceBEq, Nat.reduceEqDiff, Nat.reduceAdd, Int.reduceAdd, Nat.reduceMul, Nat.reduceSub, Int.reduceToNat, Int.reduceLE, Int.reduceLT, Int.reduceEq, Int.reduceNe, reduceCtorEq, Nat.reduceLT, Nat.reduceLeDiff]
                      exact ⟨j + 1, by omega, by omega, by rw [wi64 (by omega)]; rfl⟩
                    | true =>
                      simp only [go_sem, Nat.reduceMod, Nat.reduceBNe, Nat.reduceBEq, Nat.reduceEqDiff, Nat.reduceAdd, Int.reduceAdd, Nat.reduceMul, Nat.reduceSub, Int.reduceToNat, Int.reduceLE, Int.reduceLT, Int.reduceEq, Int.reduceNe, reduceCtorEq, Nat.reduceLT, Nat.reduceLeDiff, nl_len, nl_get]
                      refine ⟨⟨by omega, by omega⟩, ⟨by omega, by omega⟩, ?_⟩
                      refine callq_ev (ev_Below hX hs ns up _ _) ?_
                      rw [below_nat up _ _ (by omega), hyes hc]
                      simp only [go_sem, Nat.reduceMod, Nat.reduceBNe, Nat.reduceBEq, Nat.reduceEqDiff, Nat.reduceAdd, Int.reduceAdd, Nat.reduceMul, Nat.reduceSub, Int.reduceToNat, Int.reduceLE, Int.reduceLT, Int.reduceEq, Int.reduceNe, reduceCtorEq, Nat.reduceLT, Nat.reduceLeDiff]
                      exact ⟨j + 1, by omega, by omega, by rw [wi64 (by omega)]; rfl⟩
                  · obtain rfl : j = i := by omega
                    exact ⟨j + 1, by omega, by omega, by rw [wi64 (by omega)]; rfl, rfl⟩
              · obtain rfl : i = S.length := by omega
                rw [List.take_length, inV_eq]
                refine ⟨by rw [inV_len]; omega, by rw [inV_len]; omega, ?_⟩
                simp only [Option.map_some, go_sem, Nat.reduceMod, Nat.reduceBNe, Nat.reduceBEq, Nat.reduceEqDiff, Nat.reduceAdd, Int.reduceAdd, Nat.reduceMul, Nat.reduceSub, Int.reduceToNat, Int.reduceLE, Int.reduceLT, Int.reduceEq, Int.reduceNe, reduceCtorEq, Nat.reduceLT, Nat.reduceLeDiff]
                refine call_ev (ev_awake hX hs) ?_
                simp only [go_sem, Nat.reduceMod, Nat.reduceBNe, Nat.reduceBEq, Nat.reduceEqDiff, Nat.reduceAdd, Int.reduceAdd, Nat.reduceMul, Nat.reduceSub, Int.reduceToNat, Int.reduceLE, Int.reduceLT, Int.reduceEq, Int.reduceNe, reduceCtorEq, Nat.reduceLT, Nat.reduceLeDiff]
      · have e : stL ns up l = [] := by simp only [stL, h, if_false]
        rw [e]
        simp only [h, go_sem, Nat.reduceMod, Nat.reduceBNe, Nat.reduceBEq, Nat.reduceEqDiff, Nat.reduceAdd, Int.reduceAdd, Nat.reduceMul, Nat.reduceSub, Int.reduceToNat, Int.reduceLE, Int.reduceLT, Int.reduceEq, Int.reduceNe, reduceCtorEq, Nat.reduceLT, Nat.reduceLeDiff]
        refine call_ev (ev_awake hX hs) ?_
        simp only [go_sem, Nat.reduceMod, Nat.reduceBNe, Nat.reduceBEq, Nat.reduceEqDiff, Nat.reduceAdd, Int.reduceAdd, Nat.reduceMul, Nat.reduceSub, Int.reduceToNat, Int.reduceLE, Int.reduceLT, Int.reduceEq, Int.reduceNe, reduceCtorEq, Nat.reduceLT, Nat.reduceLeDiff]
end
end Go.Avm
