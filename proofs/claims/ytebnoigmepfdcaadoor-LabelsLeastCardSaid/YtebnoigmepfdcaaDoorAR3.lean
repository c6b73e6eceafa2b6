/- Labels: the law of the least ones. -/
import Derived.Test.YtebnoigmepfdcaaDoorAR2
import Derived.Test.YtebnoigmepfdcaaDoorM2
set_option linter.unusedSectionVars false
set_option linter.unusedSimpArgs false
set_option linter.unusedVariables false

/- Labels: the law of the least ones. -/
namespace Go.Avm
open Go
/-- one of them is at or below it -/
def someB (up : List UInt8) (M : List Nat) (a j : Nat) : Bool := (M.take j).any fun b => Lat.le up b a
theorem someB_0 (up : List UInt8) (M : List Nat) (a : Nat) : someB up M a 0 = false := rfl
theorem someB_s {up : List UInt8} {M : List Nat} {a j : Nat} (hj : j < M.length) : someB up M a (j + 1) = (someB up M a j || Lat.le up (M.getD j 0) a) := by
  rw [someB, List.take_succ_eq_append_getElem hj, List.any_append, List.getD_eq_getElem?_getD, List.getElem?_eq_getElem hj]
  simp [someB]
theorem someB_all (up : List UInt8) (M : List Nat) (a : Nat) : someB up M a M.length = M.any fun b => Lat.le up b a := by rw [someB, List.take_length]
/-- it is one of the first ones -/
def hasB (k : List Nat) (a j : Nat) : Bool := (k.take j).any fun b => decide (b = a)
theorem hasB_0 (k : List Nat) (a : Nat) : hasB k a 0 = false := rfl
theorem hasB_s {k : List Nat} {a j : Nat} (hj : j < k.length) : hasB k a (j + 1) = (hasB k a j || decide (k.getD j 0 = a)) := by
  rw [hasB, List.take_succ_eq_append_getElem hj, List.any_append, List.getD_eq_getElem?_getD, List.getElem?_eq_getElem hj]
  simp [hasB]
theorem hasB_all {k : List Nat} {a : Nat} (h : a ∈ k) : hasB k a k.length = true := by
  rw [hasB, List.take_length, List.any_eq_true]
  exact ⟨a, h, by simp⟩
theorem ckE_0 {ns : List (List UInt8)} {up : List UInt8} (h1 : (Lat.checkS ns up).2 = 0) {s : List Nat} (hl : s.length ≤ 64) (hs : ∀ x ∈ s, x < ns.length) : ckE ns up (nl s) = 0 := by
  unfold ckE
  rw [if_pos h1, if_neg (by rw [nl_len]; omega), fidx_no (p := badL ns.length) (l := nl s) fun j hj => by
    rw [nl_len] at hj
    rw [nl_getD]
    have := getD_lt hs hj
    simp only [badL, Bool.or_eq_false_iff, decide_eq_false_iff_not]
    omega]
  rfl
section
variable {X : Cx} (hX : X.P = Go.Proofs.Tryd.prog) (hs : Std X)
set_option maxRecDepth 10000
include hX hs
theorem ev_LLeast (_ : True) (ns : List (List UInt8)) (up : List UInt8) (l : List Int) (a : Int) (hA : 0 ≤ a ∧ a < 256) : Ev X F_law04_LabelsLeast [latV ns up, lst (AV.int .i64) .ro l, .int .u8 a] (.bool true) := by
  refine ev_of_wpc hs (A_law04_LabelsLeast_ok hX) 1 ?_
  simp only [A_law04_LabelsLeast, latV, go_sem, Nat.reduceMod, Nat.reduceBNe, Nat.reduceBEq, Nat.reduceEqDiff, Nat.reduceAdd, Int.reduceAdd, Nat.reduceMul, Nat.reduceSub, Int.reduceToNat, Int.reduceLE, Int.reduceLT, Int.reduceEq, Int.reduceNe, reduceCtorEq, Nat.reduceLT, Nat.reduceLeDiff]
  refine call_ev (ev_Far hX hs ns up) ?_
  cases hf : farS ns up with
  | true =>
    simp only [go_sem, Nat.reduceMod, Nat.reduceBNe, Nat.reduceBEq, Nat.reduceEqDiff, Nat.reduceAdd, Int.reduceAdd, Nat.reduceMul, Nat.reduceSub, Int.reduceToNat, Int.reduceLE, Int.reduceLT, Int.reduceEq, Int.reduceNe, reduceCtorEq, Nat.reduceLT, Nat.reduceLeDiff]
    refine call_ev (ev_awake hX hs) ?_
    simp only [go_sem, Nat.reduceMod, Nat.reduceBNe, Nat.reduceBEq, Nat.reduceEqDiff, Nat.reduceAdd, Int.reduceAdd, Nat.reduceMul, Nat.reduceSub, Int.reduceToNat, Int.reduceLE, Int.reduceLT, Int.reduceEq, Int.reduceNe, reduceCtorEq, Nat.reduceLT, Nat.reduceLeDiff]
  | false =>
    simp only [go_sem, Nat.reduceMod, Nat.reduceBNe, Nat.reduceBEq, Nat.reduceEqDiff, Nat.reduceAdd, Int.reduceAdd, Nat.reduceMul, Nat.reduceSub, Int.reduceToNat, Int.reduceLE, Int.reduceLT, Int.reduceEq, Int.reduceNe, reduceCtorEq, Nat.reduceLT, Nat.reduceLeDiff]
    refine ⟨fun c => ?_, fun c => ?_⟩
    · refine call_ev (ev_awake hX hs) ?_
      simp only [go_sem, Nat.reduceMod, Nat.reduceBNe, Nat.reduceBEq, Nat.reduceEqDiff, Nat.reduceAdd, Int.reduceAdd, Nat.reduceMul, Nat.reduceSub, Int.reduceToNat, Int.reduceLE, Int.reduceLT, Int.reduceEq, Int.reduceNe, reduceCtorEq, Nat.reduceLT, Nat.reduceLeDiff]
    · have hl : l.length < 1000000 := by omega
      refine call_ev (ev_lLeast hX hs ns up l hl) ?_
      by_cases h : ckE ns up l = 0
      · obtain ⟨h1, h2, h3⟩ := ck_ok h
        obtain ⟨k, rfl, hk⟩ := nl_ex h3
        have hv := chk_val h1
        have h8 := hv.le8
        have hup := hv.len
        have hp := hv.pos
        rw [lsL_nl h]
        have hbel := Lat.ls_below hv hk
        have hmem := fun x => Lat.ls_mem hv hk (x := x)
        have hanti := Lat.ls_anti hv hk
        have hpw := Lat.ls_pw hv hk
        have hlen : (Lat.lsP up [] (Lat.srt up ns.length k)).length ≤ 64 := by
          have h0 := lsP_len up (Lat.srt up ns.length k) []
          rw [← sA_all] at h0 ⊢
          have := sA_len up ns.length k ns.length
          have : ns.length * ns.length ≤ 8 * 8 := Nat.mul_le_mul h8 h8
          simp only [List.length_nil] at h0
          omega
        generalize Lat.lsP up [] (Lat.srt up ns.length k) = M at hbel hmem hanti hpw hlen ⊢
        have hkM : ∀ x ∈ M, x < ns.length := fun x hx => hk x (hmem x hx)
        rw [nl_len] at hl h2
        simp only [h, go_sem, Nat.reduceMod, Nat.reduceBNe, Nat.reduceBEq, Nat.reduceEqDiff, Nat.reduceAdd, Int.reduceAdd, Nat.reduceMul, Nat.reduceSub, Int.reduceToNat, Int.reduceLE, Int.reduceLT, Int.reduceEq, Int.reduceNe, reduceCtorEq, Nat.reduceLT, Nat.reduceLeDiff, nl_len, nl_get]
        refine w_loop' hs.hm (ι := Nat) (fun i => i ≤ k.length) (fun i => [(9, .int .i64 i), (1, lst (AV.int .i64) .ro (nl k)), (2, .int .u8 a), (3, .ptr 0 0), (7, lst (AV.int .i64) .ro (nl M))]) (fun i => [.box [lst AV.str .ro ns, lst u8 .ro up]]) (fun i => k.length - i) 0 ?_ fun i hi => ?_
        · simp only [go_sem, Nat.reduceMod, Nat.reduceBNe, Nat.reduceBEq, Nat.reduceEqDiff, Nat.reduceAdd, Int.reduceAdd, Nat.reduceMul, Nat.reduceSub, Int.reduceToNat, Int.reduceLE, Int.reduceLT, Int.reduceEq, Int.reduceNe, reduceCtorEq, Nat.reduceLT, Nat.reduceLeDiff]
          exact Nat.zero_le _
        · simp only [A_law04_LabelsLeastL0, go_sem, Nat.reduceMod, Nat.reduceBNe, Nat.reduceBEq, Nat.reduceEqDiff, Nat.reduceAdd, Int.reduceAdd, Nat.reduceMul, Nat.reduceSub, Int.reduceToNat, Int.reduceLE, Int.reduceLT, Int.reduceEq, Int.reduceNe, reduceCtorEq, Nat.reduceLT, Nat.reduceLeDiff, nl_len, nl_get]
          refine ⟨fun ci => ?_, fun ci => ?_⟩
          · have hik : i < k.length := by omega
            have hki := getD_lt hk hik
            have hmk : k.getD i 0 ∈ k := by
              rw [List.getD_eq_getElem?_getD, List.getElem?_eq_getElem hik]
              exact List.getElem_mem _
            refine w_loop' hs.hm (ι := Nat) (fun j => j ≤ M.length) (fun j => [(11, .int .i64 j), (10, .bool (someB up M (k.getD i 0) j)), (9, .int .i64 i), (1, lst (AV.int .i64) .ro (nl k)), (2, .int .u8 a), (3, .ptr 0 0), (7, lst (AV.int .i64) .ro (nl M))]) (fun j => [.box [lst AV.str .ro ns, lst u8 .ro up]]) (fun j => M.length - j) 0 ?_ fun j hj => ?_
            · simp only [go_sem, Nat.reduceMod, Nat.reduceBNe, Nat.reduceBEq, Nat.reduceEqDiff, Nat.reduceAdd, Int.reduceAdd, Nat.reduceMul, Nat.reduceSub, Int.reduceToNat, Int.reduceLE, Int.reduceLT, Int.reduceEq, Int.reduceNe, reduceCtorEq, Nat.reduceLT, Nat.reduceLeDiff, someB_0]
              exact Nat.zero_le _
            · simp only [A_law04_LabelsLeastL1, go_sem, Nat.reduceMod, Nat.reduceBNe, Nat.reduceBEq, Nat.reduceEqDiff, Nat.reduceAdd, Int.reduceAdd, Nat.reduceMul, Nat.reduceSub, Int.reduceToNat, Int.reduceLE, Int.reduceLT, Int.reduceEq, Int.reduceNe, reduceCtorEq, Nat.reduceLT, Nat.reduceLeDiff, nl_len, nl_get]
              refine ⟨fun cj => ?_, fun cj => ?_⟩
              · have hjM : j < M.length := by omega
                have hMj := getD_lt hkM hjM
                refine ⟨fun hb => ⟨j + 1, by omega, by omega, by rw [wi64 (by omega)]; rfl, by rw [someB_s hjM, hb, Bool.true_or]⟩, fun hb => ⟨⟨by omega, cj⟩, ⟨by omega, ci⟩, ?_⟩⟩
                refine callq_ev (ev_Below hX hs ns up _ _) ?_
                rw [below_nat up _ _ (by omega)]
                simp only [go_sem, Nat.reduceMod, Nat.reduceBNe, Nat.reduceBEq, Nat.reduceEqDiff, Nat.reduceAdd, Int.reduceAdd, Nat.reduceMul, Nat.reduceSub, Int.reduceToNat, Int.reduceLE, Int.reduceLT, Int.reduceEq, Int.reduceNe, reduceCtorEq, Nat.reduceLT, Nat.reduceLeDiff]
                exact ⟨j + 1, by omega, by omega, by rw [wi64 (by omega)]; rfl, by rw [someB_s hjM, hb, Bool.false_or]⟩
              · obtain rfl : j = M.length := by omega
                rw [someB_all, hbel _ hmk]
                simp only [go_sem, Nat.reduceMod, Nat.reduceBNe, Nat.reduceBEq, Nat.reduceEqDiff, Nat.reduceAdd, Int.reduceAdd, Nat.reduceMul, Nat.reduceSub, Int.reduceToNat, Int.reduceLE, Int.reduceLT, Int.reduceEq, Int.reduceNe, reduceCtorEq, Nat.reduceLT, Nat.reduceLeDiff]
                exact ⟨i + 1, by omega, by omega, by rw [wi64 (by omega)]; rfl⟩
          · refine w_loop' hs.hm (ι := Nat) (fun i => i ≤ M.length) (fun i => [(12, .int .i64 i), (1, lst (AV.int .i64) .ro (nl k)), (2, .int .u8 a), (3, .ptr 0 0), (7, lst (AV.int .i64) .ro (nl M))]) (fun i => [.box [lst AV.str .ro ns, lst u8 .ro up]]) (fun i => M.length - i) 0 ?_ fun i hi => ?_
            · simp only [go_sem, Nat.reduceMod, Nat.reduceBNe, Nat.reduceBEq, Nat.reduceEqDiff, Nat.reduceAdd, Int.reduceAdd, Nat.reduceMul, Nat.reduceSub, Int.reduceToNat, Int.reduceLE, Int.reduceLT, Int.reduceEq, Int.reduceNe, reduceCtorEq, Nat.reduceLT, Nat.reduceLeDiff]
              exact Nat.zero_le _
            · simp only [A_law04_LabelsLeastL2, go_sem, Nat.reduceMod, Nat.reduceBNe, Nat.reduceBEq, Nat.reduceEqDiff, Nat.reduceAdd, Int.reduceAdd, Nat.reduceMul, Nat.reduceSub, Int.reduceToNat, Int.reduceLE, Int.reduceLT, Int.reduceEq, Int.reduceNe, reduceCtorEq, Nat.reduceLT, Nat.reduceLeDiff, nl_len, nl_get]
              refine ⟨fun ci => ?_, fun ci => ?_⟩
              · have hiM : i < M.length := by omega
                have hMi := getD_lt hkM hiM
                have hMm : ∀ j, j < M.length → M.getD j 0 ∈ M := fun j hj => by
                  rw [List.getD_eq_getElem?_getD, List.getElem?_eq_getElem hj]
                  exact List.getElem_mem _
                refine w_loop' hs.hm (ι := Nat) (fun j => j ≤ k.length) (fun j => [(14, .int .i64 j), (13, .bool (hasB k (M.getD i 0) j)), (12, .int .i64 i), (1, lst (AV.int .i64) .ro (nl k)), (2, .int .u8 a), (3, .ptr 0 0), (7, lst (AV.int .i64) .ro (nl M))]) (fun j => [.box [lst AV.str .ro ns, lst u8 .ro up]]) (fun j => k.length - j) 0 ?_ fun j hj => ?_
                · simp only [go_sem, Nat.reduceMod, Nat.reduceBNe, Nat.reduceBEq, Nat.reduceEqDiff, Nat.reduceAdd, Int.reduceAdd, Nat.reduceMul, Nat.reduceSub, Int.reduceToNat, Int.reduceLE, Int.reduceLT, Int.reduceEq, Int.reduceNe, reduceCtorEq, Nat.reduceLT, Nat.reduceLeDiff, hasB_0]
                  exact Nat.zero_le _
                · simp only [A_law04_LabelsLeastL3, go_sem, Nat.reduceMod, Nat.reduceBNe, Nat.reduceBEq, Nat.reduceEqDiff, Nat.reduceAdd, Int.reduceAdd, Nat.reduceMul, Nat.reduceSub, Int.reduceToNat, Int.reduceLE, Int.reduceLT, Int.reduceEq, Int.reduceNe, reduceCtorEq, Nat.reduceLT, Nat.reduceLeDiff, nl_len, nl_get]
                  refine ⟨fun cj => ?_, fun cj => ?_⟩
                  · have hjk : j < k.length := by omega
                    have ed : decide (((k.getD j 0 : Nat) : Int) = ((M.getD i 0 : Nat) : Int)) = decide (k.getD j 0 = M.getD i 0) := by simp only [Int.ofNat_inj]
                    refine ⟨fun hb => ⟨j + 1, by omega, by omega, by rw [wi64 (by omega)]; rfl, by rw [hasB_s hjk, hb, Bool.true_or]⟩, fun hb => ⟨⟨by omega, cj⟩, ⟨by omega, ci⟩, j + 1, by omega, by omega, by rw [wi64 (by omega)]; rfl, by rw [hasB_s hjk, hb, Bool.false_or, ed]⟩⟩
                  · obtain rfl : j = k.length := by omega
                    rw [hasB_all (hmem _ (hMm i hiM))]
                    refine w_loop' hs.hm (ι := Nat) (fun j => j ≤ i) (fun j => [(15, .int .i64 j), (13, .bool true), (12, .int .i64 i), (1, lst (AV.int .i64) .ro (nl k)), (2, .int .u8 a), (3, .ptr 0 0), (7, lst (AV.int .i64) .ro (nl M))]) (fun j => [.box [lst AV.str .ro ns, lst u8 .ro up]]) (fun j => i - j) 0 ?_ fun j hj => ?_
                    · simp only [go_sem, Nat.reduceMod, Nat.reduceBNe, Nat.reduceBEq, Nat.reduceEqDiff, Nat.reduceAdd, Int.reduceAdd, Nat.reduceMul, Nat.reduceSub, Int.reduceToNat, Int.reduceLE, Int.reduceLT, Int.reduceEq, Int.reduceNe, reduceCtorEq, Nat.reduceLT, Nat.reduceLeDiff]
                      exact Nat.zero_le _
                    · simp only [A_law04_LabelsLeastL4, go_sem, Nat.reduceMod, Nat.reduceBNe, Nat.reduceBEq, Nat.reduceEqDiff, Nat.reduceAdd, Int.reduceAdd, Nat.reduceMul, Nat.reduceSub, Int.reduceToNat, Int.reduceLE, Int.reduceLT, Int.reduceEq, Int.reduceNe, reduceCtorEq, Nat.reduceLT, Nat.reduceLeDiff, nl_len, nl_get]
                      refine ⟨fun cj => ?_, fun cj => ?_⟩
                      · have hjM : j < M.length := by omega
                        have hMj := getD_lt hkM hjM
                        have hne := Lat.ne_of_kl (Lat.pw_ne hpw (show j < i by omega) hiM)
                        refine ⟨⟨by omega, by omega⟩, ⟨by omega, by omega⟩, ?_⟩
                        refine callq_ev (ev_Below hX hs ns up _ _) ?_
                        rw [below_nat up _ _ (by omega), hanti _ (hMm j hjM) _ (hMm i hiM) hne]
                        simp only [go_sem, Nat.reduceMod, Nat.reduceBNe, Nat.reduceBEq, Nat.reduceEqDiff, Nat.reduceAdd, Int.reduceAdd, Nat.reduceMul, Nat.reduceSub, Int.reduceToNat, Int.reduceLE, Int.reduceLT, Int.reduceEq, Int.reduceNe, reduceCtorEq, Nat.reduceLT, Nat.reduceLeDiff, nl_len, nl_get]
                        refine ⟨⟨by omega, by omega⟩, ⟨by omega, by omega⟩, ?_⟩
                        refine callq_ev (ev_Below hX hs ns up _ _) ?_
                        rw [below_nat up _ _ (by omega), hanti _ (hMm i hiM) _ (hMm j hjM) (fun e => hne e.symm)]
                        simp only [go_sem, Nat.reduceMod, Nat.reduceBNe, Nat.reduceBEq, Nat.reduceEqDiff, Nat.reduceAdd, Int.reduceAdd, Nat.reduceMul, Nat.reduceSub, Int.reduceToNat, Int.reduceLE, Int.reduceLT, Int.reduceEq, Int.reduceNe, reduceCtorEq, Nat.reduceLT, Nat.reduceLeDiff]
                        exact ⟨j + 1, by omega, by omega, by rw [wi64 (by omega)]; rfl⟩
                      · obtain rfl : j = i := by omega
                        exact ⟨j + 1, by omega, by omega, by rw [wi64 (by omega)]; rfl⟩
              · refine ⟨fun e => absurd e (by omega), fun _ => ⟨by omega, ?_⟩⟩
                obtain ⟨y, rfl⟩ : ∃ y : Nat, a = y := ⟨a.toNat, by omega⟩
                have ew : (IntKind.i64.wrap (y : Int)).tmod (ns.length : Int) = ((y % ns.length : Nat) : Int) := by
                  rw [wi64 (by omega)]
                  rfl
                rw [ew]
                have hx : y % ns.length < ns.length := Nat.mod_lt _ hp
                generalize y % ns.length = x at hx
                have hck : ckE ns up [(x : Int)] = 0 := ckE_0 h1 (s := [x]) (by simp) fun z hz => by
                  rw [List.mem_singleton.1 hz]
                  exact hx
                have ed : ∀ b, dnP up (x : Int) b = Lat.le up b x := fun b => by simp only [dnP, Int.toNat_natCast]
                have eu : ∀ b, upP up (x : Int) b = Lat.le up x b := fun b => by simp only [upP, Int.toNat_natCast]
                have d1 := Lat.dn_last hv hx (p := dnP up x) fun b _ => ed b
                have u1 := Lat.up_first hv hx (p := upP up x) fun b _ => eu b
                have d2 := fun z => Lat.mem_range_srt hv (p := dnP up x) (x := z)
                have u2 := fun z => Lat.mem_range_srt hv (p := upP up x) (x := z)
                have d3 := Lat.srt_range hv (dnP up x)
                have u3 := Lat.srt_range hv (upP up x)
                have d4 : Lat.cnt (dnP up x) ns.length ≤ ns.length := Lat.cnt_le _ _
                have u4 : Lat.cnt (upP up x) ns.length ≤ ns.length := Lat.cnt_le _ _
                refine call_ev (ev_lDown hX hs ns up x) ?_
                rw [bdL, if_pos hck, hck]
                simp only [go_sem, Nat.reduceMod, Nat.reduceBNe, Nat.reduceBEq, Nat.reduceEqDiff, Nat.reduceAdd, Int.reduceAdd, Nat.reduceMul, Nat.reduceSub, Int.reduceToNat, Int.reduceLE, Int.reduceLT, Int.reduceEq, Int.reduceNe, reduceCtorEq, Nat.reduceLT, Nat.reduceLeDiff]
                refine call_ev (ev_lUp hX hs ns up x) ?_
                rw [bdL, if_pos hck, hck]
                generalize Lat.srt up ns.length ((List.range ns.length).filter (dnP up x)) = D at d1 d2 d3 ⊢
                generalize Lat.srt up ns.length ((List.range ns.length).filter (upP up x)) = U at u1 u2 u3 ⊢
                simp only [go_sem, Nat.reduceMod, Nat.reduceBNe, Nat.reduceBEq, Nat.reduceEqDiff, Nat.reduceAdd, Int.reduceAdd, Nat.reduceMul, Nat.reduceSub, Int.reduceToNat, Int.reduceLE, Int.reduceLT, Int.reduceEq, Int.reduceNe, reduceCtorEq, Nat.reduceLT, Nat.reduceLeDiff, nl_len, nl_get]
                have ew2 : IntKind.i64.wrap ((D.length : Int) - 1) = ((D.length - 1 : Nat) : Int) := by rw [wi64 (by omega)]; omega
                rw [ew2, Int.toNat_natCast, d1.2, u1.2]
                refine ⟨fun e => absurd e (by omega), fun _ => ⟨fun e => absurd e (by omega), fun _ => ⟨⟨by omega, by omega⟩, fun e => absurd rfl e, fun _ => ⟨by omega, fun e => absurd rfl e, fun _ => ?_⟩⟩⟩⟩
                refine w_loop' hs.hm (ι := Nat) (fun i => i ≤ ns.length) (fun i => [(22, .int .i64 i), (20, .int .i64 (Lat.cnt (dnP up x) i : Nat)), (21, .int .i64 (Lat.cnt (upP up x) i : Nat)), (16, .int .i64 x), (17, lst (AV.int .i64) .ro (nl D)), (18, lst (AV.int .i64) .ro (nl U)), (3, .ptr 0 0)]) (fun i => [.box [lst AV.str .ro ns, lst u8 .ro up]]) (fun i => ns.length - i) 0 ?_ fun i hi => ?_
                · simp only [go_sem, Nat.reduceMod, Nat.reduceBNe, Nat.reduceBEq, Nat.reduceEqDiff, Nat.reduceAdd, Int.reduceAdd, Nat.reduceMul, Nat.reduceSub, Int.reduceToNat, Int.reduceLE, Int.reduceLT, Int.reduceEq, Int.reduceNe, reduceCtorEq, Nat.reduceLT, Nat.reduceLeDiff]
                  exact ⟨Nat.zero_le _, rfl, rfl⟩
                · simp only [A_law04_LabelsLeastL5, go_sem, Nat.reduceMod, Nat.reduceBNe, Nat.reduceBEq, Nat.reduceEqDiff, Nat.reduceAdd, Int.reduceAdd, Nat.reduceMul, Nat.reduceSub, Int.reduceToNat, Int.reduceLE, Int.reduceLT, Int.reduceEq, Int.reduceNe, reduceCtorEq, Nat.reduceLT, Nat.reduceLeDiff]
                  refine ⟨fun ci => ?_, fun ci => ?_⟩
                  · have hin : i < ns.length := by omega
                    have c1 : Lat.cnt (dnP up x) i ≤ i := Lat.cnt_le _ _
                    have c2 : Lat.cnt (upP up x) i ≤ i := Lat.cnt_le _ _
                    refine call_ev (ev_Below hX hs ns up _ _) ?_
                    rw [below_nat up _ _ (by omega)]
                    cases e1 : Lat.le up i x with
                    | true =>
                      have q1 : Lat.cnt (dnP up x) (i + 1) = Lat.cnt (dnP up x) i + 1 := by rw [Lat.cnt, ed, e1, if_pos rfl]
                      simp only [go_sem, Nat.reduceMod, Nat.reduceBNe, Nat.reduceBEq, Nat.reduceEqDiff, Nat.reduceAdd, Int.reduceAdd, Nat.reduceMul, Nat.reduceSub, Int.reduceToNat, Int.reduceLE, Int.reduceLT, Int.reduceEq, Int.reduceNe, reduceCtorEq, Nat.reduceLT, Nat.reduceLeDiff]
                      refine call_ev (ev_Below hX hs ns up _ _) ?_
                      rw [below_nat up _ _ (by omega)]
                      cases e2 : Lat.le up x i with
                      | true =>
                        have q2 : Lat.cnt (upP up x) (i + 1) = Lat.cnt (upP up x) i + 1 := by rw [Lat.cnt, eu, e2, if_pos rfl]
                        simp only [go_sem, Nat.reduceMod, Nat.reduceBNe, Nat.reduceBEq, Nat.reduceEqDiff, Nat.reduceAdd, Int.reduceAdd, Nat.reduceMul, Nat.reduceSub, Int.reduceToNat, Int.reduceLE, Int.reduceLT, Int.reduceEq, Int.reduceNe, reduceCtorEq, Nat.reduceLT, Nat.reduceLeDiff]
                        exact ⟨i + 1, by omega, by omega, by rw [wi64 (by omega)]; rfl, by rw [wi64 (by omega), q1]; rfl, by rw [wi64 (by omega), q2]; rfl⟩
                      | false =>
                        have q2 : Lat.cnt (upP up x) (i + 1) = Lat.cnt (upP up x) i := by rw [Lat.cnt, eu, e2, if_neg Bool.false_ne_true]; rfl
                        simp only [go_sem, Nat.reduceMod, Nat.reduceBNe, Nat.reduceBEq, Nat.reduceEqDiff, Nat.reduceAdd, Int.reduceAdd, Nat.reduceMul, Nat.reduceSub, Int.reduceToNat, Int.reduceLE, Int.reduceLT, Int.reduceEq, Int.reduceNe, reduceCtorEq, Nat.reduceLT, Nat.reduceLeDiff]
                        exact ⟨i + 1, by omega, by omega, by rw [wi64 (by omega)]; rfl, by rw [wi64 (by omega), q1]; rfl, by rw [q2]⟩
                    | false =>
                      have q1 : Lat.cnt (dnP up x) (i + 1) = Lat.cnt (dnP up x) i := by rw [Lat.cnt, ed, e1, if_neg Bool.false_ne_true]; rfl
                      simp only [go_sem, Nat.reduceMod, Nat.reduceBNe, Nat.reduceBEq, Nat.reduceEqDiff, Nat.reduceAdd, Int.reduceAdd, Nat.reduceMul, Nat.reduceSub, Int.reduceToNat, Int.reduceLE, Int.reduceLT, Int.reduceEq, Int.reduceNe, reduceCtorEq, Nat.reduceLT, Nat.reduceLeDiff]
                      refine call_ev (ev_Below hX hs ns up _ _) ?_
                      rw [below_nat up _ _ (by omega)]
                      cases e2 : Lat.le up x i with
                      | true =>
                        have q2 : Lat.cnt (upP up x) (i + 1) = Lat.cnt (upP up x) i + 1 := by rw [Lat.cnt, eu, e2, if_pos rfl]
                        simp only [go_sem, Nat.reduceMod, Nat.reduceBNe, Nat.reduceBEq, Nat.reduceEqDiff, Nat.reduceAdd, Int.reduceAdd, Nat.reduceMul, Nat.reduceSub, Int.reduceToNat, Int.reduceLE, Int.reduceLT, Int.reduceEq, Int.reduceNe, reduceCtorEq, Nat.reduceLT, Nat.reduceLeDiff]
                        exact ⟨i + 1, by omega, by omega, by rw [wi64 (by omega)]; rfl, by rw [q1], by rw [wi64 (by omega), q2]; rfl⟩
                      | false =>
                        have q2 : Lat.cnt (upP up x) (i + 1) = Lat.cnt (upP up x) i := by rw [Lat.cnt, eu, e2, if_neg Bool.false_ne_true]; rfl
                        simp only [go_sem, Nat.reduceMod, Nat.reduceBNe, Nat.reduceBEq, Nat.reduceEqDiff, Nat.reduceAdd, Int.reduceAdd, Nat.reduceMul, Nat.reduceSub, Int.reduceToNat, Int.reduceLE, Int.reduceLT, Int.reduceEq, Int.reduceNe, reduceCtorEq, Nat.reduceLT, Nat.reduceLeDiff]
                        exact ⟨i + 1, by omega, by omega, by rw [wi64 (by omega)]; rfl, by rw [q1], by rw [q2]⟩
                  · obtain rfl : i = ns.length := by omega
                    have hDm : ∀ j, j < D.length → D.getD j 0 ∈ D := fun j hj => by
                      rw [List.getD_eq_getElem?_getD, List.getElem?_eq_getElem hj]
                      exact List.getElem_mem _
                    have hUm : ∀ j, j < U.length → U.getD j 0 ∈ U := fun j hj => by
                      rw [List.getD_eq_getElem?_getD, List.getElem?_eq_getElem hj]
                      exact List.getElem_mem _
                    refine w_loop' hs.hm (ι := Nat) (fun i => i ≤ D.length) (fun i => [(23, .int .i64 i), (20, .int .i64 (Lat.cnt (dnP up x) ns.length : Nat)), (21, .int .i64 (Lat.cnt (upP up x) ns.length : Nat)), (16, .int .i64 x), (17, lst (AV.int .i64) .ro (nl D)), (18, lst (AV.int .i64) .ro (nl U)), (3, .ptr 0 0)]) (fun i => [.box [lst AV.str .ro ns, lst u8 .ro up]]) (fun i => D.length - i) 0 ?_ fun i hi => ?_
                    · simp only [go_sem, Nat.reduceMod, Nat.reduceBNe, Nat.reduceBEq, Nat.reduceEqDiff, Nat.reduceAdd, Int.reduceAdd, Nat.reduceMul, Nat.reduceSub, Int.reduceToNat, Int.reduceLE, Int.reduceLT, Int.reduceEq, Int.reduceNe, reduceCtorEq, Nat.reduceLT, Nat.reduceLeDiff]
                      exact Nat.zero_le _
                    · simp only [A_law04_LabelsLeastL6, go_sem, Nat.reduceMod, Nat.reduceBNe, Nat.reduceBEq, Nat.reduceEqDiff, Nat.reduceAdd, Int.reduceAdd, Nat.reduceMul, Nat.reduceSub, Int.reduceToNat, Int.reduceLE, Int.reduceLT, Int.reduceEq, Int.reduceNe, reduceCtorEq, Nat.reduceLT, Nat.reduceLeDiff, nl_len, nl_get]
                      refine ⟨fun ci => ?_, fun ci => ?_⟩
                      · have hiD : i < D.length := by omega
                        obtain ⟨q1, q2⟩ := (d2 _).1 (hDm i hiD)
                        rw [ed] at q2
                        refine ⟨⟨by omega, ci⟩, ?_⟩
                        refine callq_ev (ev_Below hX hs ns up _ _) ?_
                        rw [below_nat up _ _ (by omega), q2]
                        simp only [go_sem, Nat.reduceMod, Nat.reduceBNe, Nat.reduceBEq, Nat.reduceEqDiff, Nat.reduceAdd, Int.reduceAdd, Nat.reduceMul, Nat.reduceSub, Int.reduceToNat, Int.reduceLE, Int.reduceLT, Int.reduceEq, Int.reduceNe, reduceCtorEq, Nat.reduceLT, Nat.reduceLeDiff]
                        exact ⟨i + 1, by omega, by omega, by rw [wi64 (by omega)]; rfl⟩
                      · refine w_loop' hs.hm (ι := Nat) (fun i => i ≤ U.length) (fun i => [(24, .int .i64 i), (20, .int .i64 (Lat.cnt (dnP up x) ns.length : Nat)), (21, .int .i64 (Lat.cnt (upP up x) ns.length : Nat)), (16, .int .i64 x), (17, lst (AV.int .i64) .ro (nl D)), (18, lst (AV.int .i64) .ro (nl U)), (3, .ptr 0 0)]) (fun i => [.box [lst AV.str .ro ns, lst u8 .ro up]]) (fun i => U.length - i) 0 ?_ fun i hi => ?_
                        · simp only [go_sem, Nat.reduceMod, Nat.reduceBNe, Nat.reduceBEq, Nat.reduceEqDiff, Nat.reduceAdd, Int.reduceAdd, Nat.reduceMul, Nat.reduceSub, Int.reduceToNat, Int.reduceLE, Int.reduceLT, Int.reduceEq, Int.reduceNe, reduceCtorEq, Nat.reduceLT, Nat.reduceLeDiff]
                          exact Nat.zero_le _
                        · simp only [A_law04_LabelsLeastL7, go_sem, Nat.reduceMod, Nat.reduceBNe, Nat.reduceBEq, Nat.reduceEqDiff, Nat.reduceAdd, Int.reduceAdd, Nat.reduceMul, Nat.reduceSub, Int.reduceToNat, Int.reduceLE, Int.reduceLT, Int.reduceEq, Int.reduceNe, reduceCtorEq, Nat.reduceLT, Nat.reduceLeDiff, nl_len, nl_get]
                          refine ⟨fun ci => ?_, fun ci => ?_⟩
                          · have hiU : i < U.length := by omega
                            obtain ⟨q1, q2⟩ := (u2 _).1 (hUm i hiU)
                            rw [eu] at q2
                            refine ⟨⟨by omega, ci⟩, ?_⟩
                            refine callq_ev (ev_Below hX hs ns up _ _) ?_
                            rw [below_nat up _ _ (by omega), q2]
                            simp only [go_sem, Nat.reduceMod, Nat.reduceBNe, Nat.reduceBEq, Nat.reduceEqDiff, Nat.reduceAdd, Int.reduceAdd, Nat.reduceMul, Nat.reduceSub, Int.reduceToNat, Int.reduceLE, Int.reduceLT, Int.reduceEq, Int.reduceNe, reduceCtorEq, Nat.reduceLT, Nat.reduceLeDiff]
                            exact ⟨i + 1, by omega, by omega, by rw [wi64 (by omega)]; rfl⟩
                          · rw [d3, u3]
                            simp only [decide_true, go_sem, Nat.reduceMod, Nat.reduceBNe, Nat.reduceBEq, Nat.reduceEqDiff, Nat.reduceAdd, Int.reduceAdd, Nat.reduceMul, Nat.reduceSub, Int.reduceToNat, Int.reduceLE, Int.reduceLT, Int.reduceEq, Int.reduceNe, reduceCtorEq, Nat.reduceLT, Nat.reduceLeDiff]
                            refine call_ev (ev_awake hX hs) ?_
                            simp only [go_sem, Nat.reduceMod, Nat.reduceBNe, Nat.reduceBEq, Nat.reduceEqDiff, Nat.reduceAdd, Int.reduceAdd, Nat.reduceMul, Nat.reduceSub, Int.reduceToNat, Int.reduceLE, Int.reduceLT, Int.reduceEq, Int.reduceNe, reduceCtorEq, Nat.reduceLT, Nat.reduceLeDiff]
      · have e : lsL ns up l = [] := by simp only [lsL, h, if_false]
        rw [e]
        simp only [h, go_sem, Nat.reduceMod, Nat.reduceBNe, Nat.reduceBEq, Nat.reduceEqDiff, Nat.reduceAdd, Int.reduceAdd, Nat.reduceMul, Nat.reduceSub, Int.reduceToNat, Int.reduceLE, Int.reduceLT, Int.reduceEq, Int.reduceNe, reduceCtorEq, Nat.reduceLT, Nat.reduceLeDiff]
        refine call_ev (ev_awake hX hs) ?_
        simp only [go_sem, Nat.reduceMod, Nat.reduceBNe, Nat.reduceBEq, Nat.reduceEqDiff, Nat.reduceAdd, Int.reduceAdd, Nat.reduceMul, Nat.reduceSub, Int.reduceToNat, Int.reduceLE, Int.reduceLT, Int.reduceEq, Int.reduceNe, reduceCtorEq, Nat.reduceLT, Nat.reduceLeDiff]
end
end Go.Avm
