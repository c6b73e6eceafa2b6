/- The reader: number. -/
import Derived.Test.YtpkgglpiboeogaaGreatDoorAQ1
import Derived.Test.YtpkgglpiboeogaaGreatDoorM3
import Derived.Test.YtpkgglpiboeogaaGreatDoorM1
set_option linter.unusedSectionVars false
set_option linter.unusedSimpArgs false
set_option linter.unusedVariables false

/- The reader: number. -/
namespace Go.Avm
open Go Go.Rn Go.Lx
set_option maxRecDepth 10000
section
variable {X : Cx} (hX : X.P = Go.Proofs.Tryz.prog) (hs : Std X) (hN : X.G 2 = some [.int .i64 0, .int .i64 0]) {te : Nat} (hR : X.G 5 = some [.ifc te .undef])
include hX hs hN hR
set_option maxHeartbeats 1000000 in
theorem ev_num (s : List UInt8) (p : Nat) (G : Heap) (hl : s.length < 1000000) (hp : p < s.length) :
    EvM X F_lexer_reader_number [.ptr 1 0] (RH s p G) (OutQ s p G (numO (s.drop p))) := by
  refine evM_of_wpc hs (A_lexer_reader_number_ok hX) ?_
  unfold RH
  have hu : (s.drop p).getD 0 0 = s.getD p 0 := by simp [List.getD_eq_getElem?_getD, List.getElem?_drop]
  have hml := cnt_le dg ((s.drop p).drop (sg (s.drop p)))
  generalize hm : cnt dg ((s.drop p).drop (sg (s.drop p))) = m at *
  rw [List.length_drop, List.length_drop] at hml
  have hq0 : m = 0 → numO (s.drop p) = .bad 0 6 := fun h => by unfold numO; simp only [hm, h, if_true]
  have hfm : m ≠ 0 → Wo.mg ((s.drop p).take (sg (s.drop p) + m)) ≠ [] ∧ ∀ c ∈ Wo.mg ((s.drop p).take (sg (s.drop p) + m)), Wo.digB c = true := fun h0 => by
    have e1 : ((s.drop p).take (sg (s.drop p) + m)).getD 0 0 = (s.drop p).getD 0 0 := by
      rw [List.getD_eq_getElem?_getD, List.getElem?_take, if_pos (by omega), ← List.getD_eq_getElem?_getD]
    have e2 : Wo.mg ((s.drop p).take (sg (s.drop p) + m)) = ((s.drop p).drop (sg (s.drop p))).take m := by
      unfold Wo.mg
      rw [e1]
      unfold sg
      split
      · rw [List.drop_take]; congr 1; omega
      · simp
    rw [e2]
    refine ⟨fun e => ?_, fun c hc => cnt_all dg ((s.drop p).drop (sg (s.drop p))) c (by rw [hm]; exact hc)⟩
    have := congrArg List.length e
    rw [List.length_take, List.length_drop, List.length_drop, List.length_nil] at this
    omega
  by_cases h45 : s.getD p 0 = 45
  · have hsg : sg (s.drop p) = 1 := by unfold sg; rw [hu, if_pos h45]
    have hdd : s.drop (p + 1) = (s.drop p).drop 1 := by rw [List.drop_drop]
    have h45' : ((s.getD p 0).toNat : Int) = 45 := by rw [h45]; rfl
    have hw : IntKind.i64.wrap ((p : Int) + 1) = ((p + 1 : Nat) : Int) := by rw [wi64 (by omega)]; omega
    simp only [A_lexer_reader_number, go_sem, Nat.reduceMod, Nat.reduceBNe, Nat.reduceBEq, Nat.reduceEqDiff, Nat.reduceAdd, Int.reduceAdd, Nat.reduceMul, Nat.reduceSub, Int.reduceToNat, Int.reduceLE, Int.reduceLT, Int.reduceEq, Int.reduceNe, reduceCtorEq, Nat.reduceLT, Nat.reduceLeDiff, rdr, List.append_assoc, gx0, gx1, gs0, gs1, gl2, h45', hw]
    refine ⟨⟨by omega, by omega⟩, ?_⟩
    refine call_evm (ev_while hX hs 1 s (p + 1) 6 6 _ (by rfl) hl (by omega) (by decide)) ?_
    rintro r H' ⟨rfl, rfl⟩
    rw [show clP 6 6 = dg from funext cls_dg, hdd]
    rw [hsg] at hm hml hfm
    have hlen : (((s.drop p).drop 1).take m).length = m := by rw [List.length_take, List.length_drop, List.length_drop]; omega
    have hne : decide (((s.drop p).drop 1).take m = []) = decide (m = 0) := by
      rw [decide_eq_decide, ← List.length_eq_zero_iff, hlen]
    have hcut : (s.take (p + 1 + m)).drop p = (s.drop p).take (1 + m) := by rw [List.drop_take]; congr 1; omega
    rw [hm]
    simp only [go_sem, Nat.reduceMod, Nat.reduceBNe, Nat.reduceBEq, Nat.reduceEqDiff, Nat.reduceAdd, Int.reduceAdd, Nat.reduceMul, Nat.reduceSub, Int.reduceToNat, Int.reduceLE, Int.reduceLT, Int.reduceEq, Int.reduceNe, reduceCtorEq, Nat.reduceLT, Nat.reduceLeDiff, rdr, List.append_assoc, gx0, gx1, gs0, gs1, gl2, hN, hcut, hne]
    refine ⟨fun h0 => ⟨_, _, rfl, ?_, fun t k e => ?_⟩, fun h0 => ⟨⟨⟨⟨?_, ?_⟩, ?_⟩, ?_⟩, ?_⟩⟩
    · simp only [hq0 h0, outV, tkV]; rfl
    · rw [hq0 h0] at e; cases e
    all_goals try omega
    have hmg := hfm (by omega)
    refine callq_ev (ev_ParseInt hX hR _ hmg.1 hmg.2 (by rw [List.length_take, List.length_drop]; omega)) ?_
    unfold prsI
    cases hpr : Lib.parseIntB 64 ((s.drop p).take (1 + m)) with
    | ok v =>
      simp only [go_sem, Nat.reduceMod, Nat.reduceBNe, Nat.reduceBEq, Nat.reduceEqDiff, Nat.reduceAdd, Int.reduceAdd, Nat.reduceMul, Nat.reduceSub, Int.reduceToNat, Int.reduceLE, Int.reduceLT, Int.reduceEq, Int.reduceNe, reduceCtorEq, Nat.reduceLT, Nat.reduceLeDiff, rdr, List.append_assoc, gx0, gx1, gs0, gs1, gl2, hN]
      refine call_evm (ev_class hX hs 1 s _ (p + 1 + m) _ (by rfl) hl (by omega)) ?_
      rintro r H' ⟨rfl, rfl⟩
      simp only [go_sem, Nat.reduceMod, Nat.reduceBNe, Nat.reduceBEq, Nat.reduceEqDiff, Nat.reduceAdd, Int.reduceAdd, Nat.reduceMul, Nat.reduceSub, Int.reduceToNat, Int.reduceLE, Int.reduceLT, Int.reduceEq, Int.reduceNe, reduceCtorEq, Nat.reduceLT, Nat.reduceLeDiff, rdr, List.append_assoc, gx0, gx1, gs0, gs1, gl2, hN]
      have hcl : clsAt s (p + 1 + m) = 8 ↔ ltr ((s.drop p).getD (1 + m) 0) = true := by
        rw [show (s.drop p).getD (1 + m) 0 = s.getD (p + 1 + m) 0 by simp [List.getD_eq_getElem?_getD, List.getElem?_drop, Nat.add_assoc]]
        rw [← cls_ltr, decide_eq_true_eq]
        unfold clsAt
        split
        · rfl
        · rename_i hge
          have e0 : s.getD (p + 1 + m) 0 = 0 := by simp [List.getD_eq_getElem?_getD, List.getElem?_eq_none (Nat.le_of_not_lt hge)]
          rw [e0]; decide
      refine ⟨fun h1 => ⟨_, _, rfl, ?_, fun t k e => ?_⟩, fun h1 => ⟨_, _, rfl, ?_, fun t k e => ?_⟩⟩
      · have hq : numO (s.drop p) = .bad (1 + m) 6 := by
          unfold numO; simp only [hsg, hm, hpr, if_neg h0]; rw [if_pos (hcl.1 h1)]
        simp only [hq, outV, tkV, Nat.add_assoc]
      · have hq : numO (s.drop p) = .bad (1 + m) 6 := by
          unfold numO; simp only [hsg, hm, hpr, if_neg h0]; rw [if_pos (hcl.1 h1)]
        rw [hq] at e; cases e
      · have hq : numO (s.drop p) = .ok ⟨2, v, []⟩ (1 + m) := by
          unfold numO; simp only [hsg, hm, hpr, if_neg h0]; rw [if_neg (fun e => h1 (hcl.2 e))]
        simp only [hq, outV, tkV]
      · have hq : numO (s.drop p) = .ok ⟨2, v, []⟩ (1 + m) := by
          unfold numO; simp only [hsg, hm, hpr, if_neg h0]; rw [if_neg (fun e => h1 (hcl.2 e))]
        rw [hq] at e; cases e
        first | rfl | rw [Nat.add_assoc]
    | _ =>
      have hq : numO (s.drop p) = .bad 0 7 := by unfold numO; simp only [hsg, hm, hpr, if_neg h0]
      simp only [go_sem, Nat.reduceMod, Nat.reduceBNe, Nat.reduceBEq, Nat.reduceEqDiff, Nat.reduceAdd, Int.reduceAdd, Nat.reduceMul, Nat.reduceSub, Int.reduceToNat, Int.reduceLE, Int.reduceLT, Int.reduceEq, Int.reduceNe, reduceCtorEq, Nat.reduceLT, Nat.reduceLeDiff, rdr, List.append_assoc, gx0, gx1, gs0, gs1, gl2, hN]
      refine ⟨_, _, rfl, ?_, fun t k e => ?_⟩
      · simp only [hq, outV, tkV]; rfl
      · rw [hq] at e; cases e
  · have hsg : sg (s.drop p) = 0 := by unfold sg; rw [hu, if_neg h45]
    have h45' : ¬ ((s.getD p 0).toNat : Int) = 45 := fun e => h45 (UInt8.toNat_inj.1 ((by omega : (s.getD p 0).toNat = 45).trans rfl))
    simp only [A_lexer_reader_number, go_sem, Nat.reduceMod, Nat.reduceBNe, Nat.reduceBEq, Nat.reduceEqDiff, Nat.reduceAdd, Int.reduceAdd, Nat.reduceMul, Nat.reduceSub, Int.reduceToNat, Int.reduceLE, Int.reduceLT, Int.reduceEq, Int.reduceNe, reduceCtorEq, Nat.reduceLT, Nat.reduceLeDiff, rdr, List.append_assoc, gx0, gx1, gs0, gs1, gl2, h45']
    refine ⟨⟨by omega, by omega⟩, ?_⟩
    refine call_evm (ev_while hX hs 1 s (p) 6 6 _ (by rfl) hl (by omega) (by decide)) ?_
    rintro r H' ⟨rfl, rfl⟩
    rw [show clP 6 6 = dg from funext cls_dg]
    rw [hsg, List.drop_zero] at hm
    rw [hsg, Nat.sub_zero] at hml
    rw [hsg, Nat.zero_add] at hfm
    have hlen : ((s.drop p).take m).length = m := by rw [List.length_take, List.length_drop]; omega
    have hne : decide ((s.drop p).take m = []) = decide (m = 0) := by
      rw [decide_eq_decide, ← List.length_eq_zero_iff, hlen]
    have hcut : (s.take (p + m)).drop p = (s.drop p).take (m) := by rw [List.drop_take]; congr 1; omega
    rw [hm]
    simp only [go_sem, Nat.reduceMod, Nat.reduceBNe, Nat.reduceBEq, Nat.reduceEqDiff, Nat.reduceAdd, Int.reduceAdd, Nat.reduceMul, Nat.reduceSub, Int.reduceToNat, Int.reduceLE, Int.reduceLT, Int.reduceEq, Int.reduceNe, reduceCtorEq, Nat.reduceLT, Nat.reduceLeDiff, rdr, List.append_assoc, gx0, gx1, gs0, gs1, gl2, hN, hcut, hne]
    refine ⟨fun h0 => ⟨_, _, rfl, ?_, fun t k e => ?_⟩, fun h0 => ⟨⟨⟨⟨?_, ?_⟩, ?_⟩, ?_⟩, ?_⟩⟩
    · simp only [hq0 h0, outV, tkV]; rfl
    · rw [hq0 h0] at e; cases e
    all_goals try omega
    have hmg := hfm (by omega)
    refine callq_ev (ev_ParseInt hX hR _ hmg.1 hmg.2 (by rw [List.length_take, List.length_drop]; omega)) ?_
    unfold prsI
    cases hpr : Lib.parseIntB 64 ((s.drop p).take (m)) with
    | ok v =>
      simp only [go_sem, Nat.reduceMod, Nat.reduceBNe, Nat.reduceBEq, Nat.reduceEqDiff, Nat.reduceAdd, Int.reduceAdd, Nat.reduceMul, Nat.reduceSub, Int.reduceToNat, Int.reduceLE, Int.reduceLT, Int.reduceEq, Int.reduceNe, reduceCtorEq, Nat.reduceLT, Nat.reduceLeDiff, rdr, List.append_assoc, gx0, gx1, gs0, gs1, gl2, hN]
      refine call_evm (ev_class hX hs 1 s _ (p + m) _ (by rfl) hl (by omega)) ?_
      rintro r H' ⟨rfl, rfl⟩
      simp only [go_sem, Nat.reduceMod, Nat.reduceBNe, Nat.reduceBEq, Nat.reduceEqDiff, Nat.reduceAdd, Int.reduceAdd, Nat.reduceMul, Nat.reduceSub, Int.reduceToNat, Int.reduceLE, Int.reduceLT, Int.reduceEq, Int.reduceNe, reduceCtorEq, Nat.reduceLT, Nat.reduceLeDiff, rdr, List.append_assoc, gx0, gx1, gs0, gs1, gl2, hN]
      have hcl : clsAt s (p + m) = 8 ↔ ltr ((s.drop p).getD (m) 0) = true := by
        rw [show (s.drop p).getD (m) 0 = s.getD (p + m) 0 by simp [List.getD_eq_getElem?_getD, List.getElem?_drop, Nat.add_assoc]]
        rw [← cls_ltr, decide_eq_true_eq]
        unfold clsAt
        split
        · rfl
        · rename_i hge
          have e0 : s.getD (p + m) 0 = 0 := by simp [List.getD_eq_getElem?_getD, List.getElem?_eq_none (Nat.le_of_not_lt hge)]
          rw [e0]; decide
      refine ⟨fun h1 => ⟨_, _, rfl, ?_, fun t k e => ?_⟩, fun h1 => ⟨_, _, rfl, ?_, fun t k e => ?_⟩⟩
      · have hq : numO (s.drop p) = .bad (m) 6 := by
          unfold numO; simp only [hsg, List.drop_zero, Nat.zero_add, hm, hpr, if_neg h0]; rw [if_pos (hcl.1 h1)]
        simp only [hq, outV, tkV, Nat.add_assoc]
      · have hq : numO (s.drop p) = .bad (m) 6 := by
          unfold numO; simp only [hsg, List.drop_zero, Nat.zero_add, hm, hpr, if_neg h0]; rw [if_pos (hcl.1 h1)]
        rw [hq] at e; cases e
      · have hq : numO (s.drop p) = .ok ⟨2, v, []⟩ (m) := by
          unfold numO; simp only [hsg, List.drop_zero, Nat.zero_add, hm, hpr, if_neg h0]; rw [if_neg (fun e => h1 (hcl.2 e))]
        simp only [hq, outV, tkV]
      · have hq : numO (s.drop p) = .ok ⟨2, v, []⟩ (m) := by
          unfold numO; simp only [hsg, List.drop_zero, Nat.zero_add, hm, hpr, if_neg h0]; rw [if_neg (fun e => h1 (hcl.2 e))]
        rw [hq] at e; cases e
        first | rfl | rw [Nat.add_assoc]
    | _ =>
      have hq : numO (s.drop p) = .bad 0 7 := by unfold numO; simp only [hsg, List.drop_zero, Nat.zero_add, hm, hpr, if_neg h0]
      simp only [go_sem, Nat.reduceMod, Nat.reduceBNe, Nat.reduceBEq, Nat.reduceEqDiff, Nat.reduceAdd, Int.reduceAdd, Nat.reduceMul, Nat.reduceSub, Int.reduceToNat, Int.reduceLE, Int.reduceLT, Int.reduceEq, Int.reduceNe, reduceCtorEq, Nat.reduceLT, Nat.reduceLeDiff, rdr, List.append_assoc, gx0, gx1, gs0, gs1, gl2, hN]
      refine ⟨_, _, rfl, ?_, fun t k e => ?_⟩
      · simp only [hq, outV, tkV]; rfl
      · rw [hq] at e; cases e
end
end Go.Avm

/- escape, and what it calls. -/
namespace Go.Avm
open Go Go.Rn Go.Lx
theorem any_take {s : List UInt8} {i : Nat} (hi : i < s.length) (k : Nat) : Lat.inB (s.take (i + 1)) k = (Lat.inB (s.take i) k || ((s.getD i 0).toNat == k)) := by
  rw [List.take_succ_eq_append_getElem hi]
  simp only [Lat.inB, List.any_append, List.any_cons, List.any_nil, Bool.or_false]
  rw [List.getD_eq_getElem?_getD, List.getElem?_eq_getElem hi]; rfl
section
variable {X : Cx} (hX : X.P = Go.Proofs.Tryz.prog) (hs : Std X)
include hX hs
theorem ev_contains (f : Nat → Bool) (c : UInt8) : Ev X F_strings_asciiSet_contains [.vp (tb 256 fun k => .bool (f k)), u8 c] (.bool (f c.toNat)) := by
  have hc := c.toNat_lt
  refine ev_of_wpc hs (A_strings_asciiSet_contains_ok hX) 0 ?_
  simp only [A_strings_asciiSet_contains, go_sem, Nat.reduceMod, Nat.reduceBNe, Nat.reduceBEq, Nat.reduceEqDiff, Nat.reduceAdd, Int.reduceAdd, Nat.reduceMul, Nat.reduceSub, Int.reduceToNat, Int.reduceLE, Int.reduceLT, Int.reduceEq, Int.reduceNe, reduceCtorEq, Nat.reduceLT, Nat.reduceLeDiff, Nat.mul_one, ld_tb _ hc]
  omega
theorem ev_makeSet (cs : List UInt8) (h : ∀ c ∈ cs, c.toNat < 128) (hl : cs.length < 1000000) : Ev X F_strings_makeASCIISet [.str cs] (.tuple [.agg (tb 256 fun k => .bool (Lat.inB cs k)), .bool true]) := by
  refine ev_of_wpc hs (A_strings_makeASCIISet_ok hX) 0 ?_
  simp only [A_strings_makeASCIISet, tb_rep, go_sem, Nat.reduceMod, Nat.reduceBNe, Nat.reduceBEq, Nat.reduceEqDiff, Nat.reduceAdd, Int.reduceAdd, Nat.reduceMul, Nat.reduceSub, Int.reduceToNat, Int.reduceLE, Int.reduceLT, Int.reduceEq, Int.reduceNe, reduceCtorEq, Nat.reduceLT, Nat.reduceLeDiff]
  refine w_loop' hs.hm (ι := Nat) (fun i => i ≤ cs.length) (fun i => [(4, .int .i64 i), (2, .ptr 0 0), (0, .str cs)]) (fun i => [.box (tb 256 fun k => .bool (Lat.inB (cs.take i) k))]) (fun i => cs.length - i) 0 ?_ fun i hi => ?_
  · simp only [go_sem, Nat.reduceMod, Nat.reduceBNe, Nat.reduceBEq, Nat.reduceEqDiff, Nat.reduceAdd, Int.reduceAdd, Nat.reduceMul, Nat.reduceSub, Int.reduceToNat, Int.reduceLE, Int.reduceLT, Int.reduceEq, Int.reduceNe, reduceCtorEq, Nat.reduceLT, Nat.reduceLeDiff]
    exact ⟨Nat.zero_le _, rfl⟩
  · simp only [A_strings_makeASCIISetL0, go_sem, Nat.reduceMod, Nat.reduceBNe, Nat.reduceBEq, Nat.reduceEqDiff, Nat.reduceAdd, Int.reduceAdd, Nat.reduceMul, Nat.reduceSub, Int.reduceToNat, Int.reduceLE, Int.reduceLT, Int.reduceEq, Int.reduceNe, reduceCtorEq, Nat.reduceLT, Nat.reduceLeDiff, Nat.mul_one]
    refine ⟨fun c => ⟨⟨by omega, c⟩, fun e => ?_, fun e => ⟨by omega, by omega, i + 1, by omega, by omega, by rw [wi64 (by omega)]; rfl, ?_⟩⟩, fun c => ?_⟩
    · have hi' : i < cs.length := by omega
      have := h (cs[i]) (List.getElem_mem _)
      have e2 : cs.getD i 0 = cs[i] := by rw [List.getD_eq_getElem?_getD, List.getElem?_eq_getElem hi']; rfl
      rw [e2] at e
      omega
    · rw [tb_set]
      rw [tb_congr fun k hk => ?_]
      rw [any_take (by omega) k]
      by_cases ek : k = (cs.getD i 0).toNat
      · subst ek; simp
      · have : ((cs.getD i 0).toNat == k) = false := by rw [beq_eq_false_iff_ne]; exact fun e => ek e.symm
        rw [if_neg ek, this, Bool.or_false]
    · rw [List.take_of_length_le (by omega)]
theorem ev_ltrim (cs s : List UInt8) : Ev X F_strings_trimLeftASCII [.str s, .vp (tb 256 fun k => .bool (Lat.inB cs k))] (.str (Lat.ltrim cs s)) := by
  refine ev_of_wpc hs (A_strings_trimLeftASCII_ok hX) 0 ?_
  simp only [A_strings_trimLeftASCII, go_sem, Nat.reduceMod, Nat.reduceBNe, Nat.reduceBEq, Nat.reduceEqDiff, Nat.reduceAdd, Int.reduceAdd, Nat.reduceMul, Nat.reduceSub, Int.reduceToNat, Int.reduceLE, Int.reduceLT, Int.reduceEq, Int.reduceNe, reduceCtorEq, Nat.reduceLT, Nat.reduceLeDiff]
  refine w_loop' hs.hm (ι := List UInt8) (fun t => Lat.ltrim cs s = Lat.ltrim cs t) (fun t => [(0, .str t), (1, .vp (tb 256 fun k => .bool (Lat.inB cs k)))]) (fun _ => []) (fun t => t.length) s ?_ fun t ht => ?_
  · simp only [go_sem, Nat.reduceMod, Nat.reduceBNe, Nat.reduceBEq, Nat.reduceEqDiff, Nat.reduceAdd, Int.reduceAdd, Nat.reduceMul, Nat.reduceSub, Int.reduceToNat, Int.reduceLE, Int.reduceLT, Int.reduceEq, Int.reduceNe, reduceCtorEq, Nat.reduceLT, Nat.reduceLeDiff]
  · simp only [A_strings_trimLeftASCIIL0, go_sem, Nat.reduceMod, Nat.reduceBNe, Nat.reduceBEq, Nat.reduceEqDiff, Nat.reduceAdd, Int.reduceAdd, Nat.reduceMul, Nat.reduceSub, Int.reduceToNat, Int.reduceLE, Int.reduceLT, Int.reduceEq, Int.reduceNe, reduceCtorEq, Nat.reduceLT, Nat.reduceLeDiff]
    refine ⟨fun c => ⟨c, call_ev (ev_contains hX hs (Lat.inB cs) (t.getD 0 0)) ?_⟩, fun c => ?_⟩
    · cases hc : Lat.inB cs (t.getD 0 0).toNat with
      | true =>
        simp only [go_sem, Nat.reduceMod, Nat.reduceBNe, Nat.reduceBEq, Nat.reduceEqDiff, Nat.reduceAdd, Int.reduceAdd, Nat.reduceMul, Nat.reduceSub, Int.reduceToNat, Int.reduceLE, Int.reduceLT, Int.reduceEq, Int.reduceNe, reduceCtorEq, Nat.reduceLT, Nat.reduceLeDiff]
        refine ⟨by omega, t.drop 1, by rw [List.length_drop]; omega, ?_, ?_⟩
        · rw [ht, Lat.ltrim_t (by omega) hc]
        · rw [List.take_length]
      | false =>
        simp only [go_sem, Nat.reduceMod, Nat.reduceBNe, Nat.reduceBEq, Nat.reduceEqDiff, Nat.reduceAdd, Int.reduceAdd, Nat.reduceMul, Nat.reduceSub, Int.reduceToNat, Int.reduceLE, Int.reduceLT, Int.reduceEq, Int.reduceNe, reduceCtorEq, Nat.reduceLT, Nat.reduceLeDiff]
        rw [ht, Lat.ltrim_f (by omega) hc]
    · have : t = [] := List.length_eq_zero_iff.1 (by omega)
      rw [ht, this]; rfl
theorem ev_rtrim (cs s : List UInt8) (hl : s.length < 9223372036854775807) : Ev X F_strings_trimRightASCII [.str s, .vp (tb 256 fun k => .bool (Lat.inB cs k))] (.str (Lat.rtrim cs s)) := by
  refine ev_of_wpc hs (A_strings_trimRightASCII_ok hX) 0 ?_
  simp only [A_strings_trimRightASCII, go_sem, Nat.reduceMod, Nat.reduceBNe, Nat.reduceBEq, Nat.reduceEqDiff, Nat.reduceAdd, Int.reduceAdd, Nat.reduceMul, Nat.reduceSub, Int.reduceToNat, Int.reduceLE, Int.reduceLT, Int.reduceEq, Int.reduceNe, reduceCtorEq, Nat.reduceLT, Nat.reduceLeDiff]
  refine w_loop' hs.hm (ι := List UInt8) (fun t => t.length ≤ s.length ∧ Lat.rtrim cs s = Lat.rtrim cs t) (fun t => [(0, .str t), (1, .vp (tb 256 fun k => .bool (Lat.inB cs k)))]) (fun _ => []) (fun t => t.length) s ?_ fun t ht => ?_
  · simp only [go_sem, Nat.reduceMod, Nat.reduceBNe, Nat.reduceBEq, Nat.reduceEqDiff, Nat.reduceAdd, Int.reduceAdd, Nat.reduceMul, Nat.reduceSub, Int.reduceToNat, Int.reduceLE, Int.reduceLT, Int.reduceEq, Int.reduceNe, reduceCtorEq, Nat.reduceLT, Nat.reduceLeDiff]
  · obtain ⟨t1, t2⟩ := ht
    simp only [A_strings_trimRightASCIIL0, go_sem, Nat.reduceMod, Nat.reduceBNe, Nat.reduceBEq, Nat.reduceEqDiff, Nat.reduceAdd, Int.reduceAdd, Nat.reduceMul, Nat.reduceSub, Int.reduceToNat, Int.reduceLE, Int.reduceLT, Int.reduceEq, Int.reduceNe, reduceCtorEq, Nat.reduceLT, Nat.reduceLeDiff]
    refine ⟨fun c => ?_, fun c => ?_⟩
    · have e1 : IntKind.i64.wrap ((t.length : Int) - 1) = ((t.length - 1 : Nat) : Int) := by rw [wi64 (by omega)]; omega
      rw [e1]
      simp only [go_sem, Nat.reduceMod, Nat.reduceBNe, Nat.reduceBEq, Nat.reduceEqDiff, Nat.reduceAdd, Int.reduceAdd, Nat.reduceMul, Nat.reduceSub, Int.reduceToNat, Int.reduceLE, Int.reduceLT, Int.reduceEq, Int.reduceNe, reduceCtorEq, Nat.reduceLT, Nat.reduceLeDiff]
      refine ⟨by omega, call_ev (ev_contains hX hs (Lat.inB cs) (t.getD (t.length - 1) 0)) ?_⟩
      cases hc : Lat.inB cs (t.getD (t.length - 1) 0).toNat with
      | true =>
        simp only [go_sem, Nat.reduceMod, Nat.reduceBNe, Nat.reduceBEq, Nat.reduceEqDiff, Nat.reduceAdd, Int.reduceAdd, Nat.reduceMul, Nat.reduceSub, Int.reduceToNat, Int.reduceLE, Int.reduceLT, Int.reduceEq, Int.reduceNe, reduceCtorEq, Nat.reduceLT, Nat.reduceLeDiff]
        rw [e1]
        refine ⟨by omega, t.take (t.length - 1), by rw [List.length_take]; omega, ⟨by rw [List.length_take]; omega, ?_⟩, rfl⟩
        rw [t2, Lat.rtrim_t (by omega) hc]
      | false =>
        simp only [go_sem, Nat.reduceMod, Nat.reduceBNe, Nat.reduceBEq, Nat.reduceEqDiff, Nat.reduceAdd, Int.reduceAdd, Nat.reduceMul, Nat.reduceSub, Int.reduceToNat, Int.reduceLE, Int.reduceLT, Int.reduceEq, Int.reduceNe, reduceCtorEq, Nat.reduceLT, Nat.reduceLeDiff]
        rw [t2, Lat.rtrim_f (by omega) hc]
    · have : t = [] := List.length_eq_zero_iff.1 (by omega)
      rw [t2, this]; rfl
theorem ev_Trim (cs s : List UInt8) (h : ∀ c ∈ cs, c.toNat < 128) (hl : cs.length < 1000000) (h2 : 2 ≤ cs.length) (hs2 : s.length < 9223372036854775807) : Ev X F_strings_Trim [.str s, .str cs] (.str (Lat.trimS cs s)) := by
  by_cases h0 : s = []
  · subst h0
    refine ev_of_wpc hs (A_strings_Trim_ok hX) 0 ?_
    simp only [A_strings_Trim, tb_rep, go_sem, Nat.reduceMod, Nat.reduceBNe, Nat.reduceBEq, Nat.reduceEqDiff, Nat.reduceAdd, Int.reduceAdd, Nat.reduceMul, Nat.reduceSub, Int.reduceToNat, Int.reduceLE, Int.reduceLT, Int.reduceEq, Int.reduceNe, reduceCtorEq, Nat.reduceLT, Nat.reduceLeDiff]
    rfl
  · have hc0 : cs ≠ [] := fun e => by rw [e] at h2; simp at h2
    have h1 : ¬ (cs.length : Int) = 1 := by omega
    refine ev_of_wpc hs (A_strings_Trim_ok hX) 0 ?_
    simp only [A_strings_Trim, tb_rep, go_sem, Nat.reduceMod, Nat.reduceBNe, Nat.reduceBEq, Nat.reduceEqDiff, Nat.reduceAdd, Int.reduceAdd, Nat.reduceMul, Nat.reduceSub, Int.reduceToNat, Int.reduceLE, Int.reduceLT, Int.reduceEq, Int.reduceNe, reduceCtorEq, Nat.reduceLT, Nat.reduceLeDiff, h0, hc0, h1]
    refine call_ev (ev_makeSet hX hs cs h hl) ?_
    simp only [go_sem, Nat.reduceMod, Nat.reduceBNe, Nat.reduceBEq, Nat.reduceEqDiff, Nat.reduceAdd, Int.reduceAdd, Nat.reduceMul, Nat.reduceSub, Int.reduceToNat, Int.reduceLE, Int.reduceLT, Int.reduceEq, Int.reduceNe, reduceCtorEq, Nat.reduceLT, Nat.reduceLeDiff]
    refine call_lend (r := .str (Lat.rtrim cs s)) ?_ rfl ?_
    · have := ev_rtrim hX hs cs s hs2
      simpa only [lendL, lend, List.getElem?_cons_zero, List.drop_zero, tb_dryb] using this
    · simp only [go_sem, Nat.reduceMod, Nat.reduceBNe, Nat.reduceBEq, Nat.reduceEqDiff, Nat.reduceAdd, Int.reduceAdd, Nat.reduceMul, Nat.reduceSub, Int.reduceToNat, Int.reduceLE, Int.reduceLT, Int.reduceEq, Int.reduceNe, reduceCtorEq, Nat.reduceLT, Nat.reduceLeDiff]
      refine call_lend (r := .str (Lat.ltrim cs (Lat.rtrim cs s))) ?_ rfl ?_
      · have := ev_ltrim hX hs cs (Lat.rtrim cs s)
        simpa only [lendL, lend, List.getElem?_cons_zero, List.drop_zero, tb_dryb] using this
      · simp only [go_sem, Nat.reduceMod, Nat.reduceBNe, Nat.reduceBEq, Nat.reduceEqDiff, Nat.reduceAdd, Int.reduceAdd, Nat.reduceMul, Nat.reduceSub, Int.reduceToNat, Int.reduceLE, Int.reduceLT, Int.reduceEq, Int.reduceNe, reduceCtorEq, Nat.reduceLT, Nat.reduceLeDiff]
        rfl
end
theorem ix_idx (s : List UInt8) (c : UInt8) : Lib.indexByte s c = if Lat.idx c s < s.length then (Lat.idx c s : Int) else -1 := by
  induction s with
  | nil => rfl
  | cons b r ih =>
    have hle := Lat.idx_le c r
    simp only [Lib.indexByte, Lat.idx, ih, beq_iff_eq, List.length_cons]
    by_cases h : b = c
    · simp only [if_pos h]; simp
    · simp only [if_neg h]
      by_cases h2 : Lat.idx c r < r.length
      · rw [if_pos h2, if_neg (by omega), if_pos (by omega)]; rfl
      · rw [if_neg h2, if_pos rfl, if_neg (by omega)]

def hasP (s t : List UInt8) : Bool := decide (t.length ≤ s.length) && decide (s.take t.length = t)
theorem hasP1 (s : List UInt8) (c : UInt8) : hasP s [c] = (decide (0 < s.length) && decide (s.getD 0 0 = c)) := by
  cases s with
  | nil => rfl
  | cons x r => simp [hasP]
theorem hxL_take {s : List UInt8} {i : Nat} (hi : i < s.length) : hxL 0 (s.take (i + 1)) = hxL 0 (s.take i) * 16 + (Wo.hexv (s.getD i 0)).getD 0 := by
  rw [List.take_succ_eq_append_getElem hi, hxL_app, List.getD_eq_getElem?_getD, List.getElem?_eq_getElem hi]
  rfl
theorem hexv_lt {c : UInt8} {n : Nat} (h : Wo.hexv c = some n) : n < 16 := (Wo.hexd_hexv h).1
theorem hexv_g (c : UInt8) : (Wo.hexv c).getD 0 < 16 := by
  cases h : Wo.hexv c with
  | none => simp
  | some n => simpa using hexv_lt h
theorem hxL_lt : ∀ (i : Nat) (s : List UInt8), i ≤ s.length → hxL 0 (s.take i) < 16 ^ i
  | 0, s, _ => by simp [hxL]
  | i + 1, s, h => by
    have ih := hxL_lt i s (by omega)
    have := hexv_g (s.getD i 0)
    rw [hxL_take (by omega), Nat.pow_succ]
    omega
theorem hx_cases {c : UInt8} (h : hxB c = true) : (48 ≤ c.toNat ∧ c.toNat ≤ 57 ∧ (Wo.hexv c).getD 0 = c.toNat - 48) ∨ (97 ≤ c.toNat ∧ c.toNat ≤ 102 ∧ (Wo.hexv c).getD 0 = c.toNat - 87) := by
  simp only [hxB, Wo.hexv] at h ⊢
  split at h
  · rename_i h1; rw [if_pos h1]; exact .inl ⟨h1.1, h1.2, rfl⟩
  · rename_i h1
    rw [if_neg h1]
    split at h
    · rename_i h2; rw [if_pos h2]; exact .inr ⟨h2.1, h2.2, rfl⟩
    · cases h
theorem low_tab : ∀ n : Nat, n < 128 → 97 ≤ n → n ≤ 102 → bits .or .u8 (n : Int) 32 = n := by decide +kernel
set_option maxRecDepth 10000
section
variable {X : Cx} (hX : X.P = Go.Proofs.Tryz.prog) (hs : Std X)
include hX hs
theorem ev_Cut (s : List UInt8) (c : UInt8) (hl : s.length < 1000000) : Ev X F_strings_Cut [.str s, .str [c]] (.tuple [.str (if Lat.idx c s < s.length then s.take (Lat.idx c s) else s), .str (if Lat.idx c s < s.length then s.drop (Lat.idx c s + 1) else []), .bool (decide (Lat.idx c s < s.length))]) := by
  have hc : Ev X F_stringslite_Cut [.str s, .str [c]] (.tuple [.str (if Lat.idx c s < s.length then s.take (Lat.idx c s) else s), .str (if Lat.idx c s < s.length then s.drop (Lat.idx c s + 1) else []), .bool (decide (Lat.idx c s < s.length))]) := by
    refine ev_of_wpc hs (A_stringslite_Cut_ok hX) 1 ?_
    simp only [A_stringslite_Cut, go_sem, Nat.reduceMod, Nat.reduceBNe, Nat.reduceBEq, Nat.reduceEqDiff, Nat.reduceAdd, Int.reduceAdd, Nat.reduceMul, Nat.reduceSub, Int.reduceToNat, Int.reduceLE, Int.reduceLT, Int.reduceEq, Int.reduceNe, reduceCtorEq, Nat.reduceLT, Nat.reduceLeDiff]
    refine call_ev (ev_IndexB hX s c) ?_
    rw [ix_idx]
    by_cases h : Lat.idx c s < s.length
    · simp only [h, go_sem, Nat.reduceMod, Nat.reduceBNe, Nat.reduceBEq, Nat.reduceEqDiff, Nat.reduceAdd, Int.reduceAdd, Nat.reduceMul, Nat.reduceSub, Int.reduceToNat, Int.reduceLE, Int.reduceLT, Int.reduceEq, Int.reduceNe, reduceCtorEq, Nat.reduceLT, Nat.reduceLeDiff]
      refine ⟨fun h0 => ⟨by omega, ?_⟩, fun h0 => by omega⟩
      rw [wi64 (by omega)]
      refine ⟨by omega, ?_⟩
      rw [List.take_length, show ((Lat.idx c s : Int) + 1).toNat = Lat.idx c s + 1 by omega]
    · simp only [h, go_sem, Nat.reduceMod, Nat.reduceBNe, Nat.reduceBEq, Nat.reduceEqDiff, Nat.reduceAdd, Int.reduceAdd, Nat.reduceMul, Nat.reduceSub, Int.reduceToNat, Int.reduceLE, Int.reduceLT, Int.reduceEq, Int.reduceNe, reduceCtorEq, Nat.reduceLT, Nat.reduceLeDiff]
  refine ev_of_wpc hs (A_strings_Cut_ok hX) 1 ?_
  simp only [A_strings_Cut, go_sem, Nat.reduceMod, Nat.reduceBNe, Nat.reduceBEq, Nat.reduceEqDiff, Nat.reduceAdd, Int.reduceAdd, Nat.reduceMul, Nat.reduceSub, Int.reduceToNat, Int.reduceLE, Int.reduceLT, Int.reduceEq, Int.reduceNe, reduceCtorEq, Nat.reduceLT, Nat.reduceLeDiff]
  refine call_ev hc ?_
  simp only [go_sem, Nat.reduceMod, Nat.reduceBNe, Nat.reduceBEq, Nat.reduceEqDiff, Nat.reduceAdd, Int.reduceAdd, Nat.reduceMul, Nat.reduceSub, Int.reduceToNat, Int.reduceLE, Int.reduceLT, Int.reduceEq, Int.reduceNe, reduceCtorEq, Nat.reduceLT, Nat.reduceLeDiff]

theorem ev_HasPrefix (s t : List UInt8) (hl : s.length < 1000000) (ht : t.length < 1000000) : Ev X F_strings_HasPrefix [.str s, .str t] (.bool (hasP s t)) := by
  refine ev_of_wpc hs (A_strings_HasPrefix_ok hX) 0 ?_
  simp only [A_strings_HasPrefix, go_sem, Nat.reduceMod, Nat.reduceBNe, Nat.reduceBEq, Nat.reduceEqDiff, Nat.reduceAdd, Int.reduceAdd, Nat.reduceMul, Nat.reduceSub, Int.reduceToNat, Int.reduceLE, Int.reduceLT, Int.reduceEq, Int.reduceNe, reduceCtorEq, Nat.reduceLT, Nat.reduceLeDiff]
  refine call_ev (r := .bool (hasP s t)) ?_ ?_
  · refine ev_of_wpc hs (A_stringslite_HasPrefix_ok hX) 0 ?_
    simp only [A_stringslite_HasPrefix, go_sem, Nat.reduceMod, Nat.reduceBNe, Nat.reduceBEq, Nat.reduceEqDiff, Nat.reduceAdd, Int.reduceAdd, Nat.reduceMul, Nat.reduceSub, Int.reduceToNat, Int.reduceLE, Int.reduceLT, Int.reduceEq, Int.reduceNe, reduceCtorEq, Nat.reduceLT, Nat.reduceLeDiff]
    refine ⟨fun h => ⟨by omega, ?_⟩, fun h => ?_⟩
    · simp only [hasP, AV.bool.injEq, show t.length ≤ s.length by omega, decide_true, Bool.true_and]
    · simp only [hasP, AV.bool.injEq, show ¬ t.length ≤ s.length by omega, decide_false, Bool.false_and]
  · simp only [go_sem, Nat.reduceMod, Nat.reduceBNe, Nat.reduceBEq, Nat.reduceEqDiff, Nat.reduceAdd, Int.reduceAdd, Nat.reduceMul, Nat.reduceSub, Int.reduceToNat, Int.reduceLE, Int.reduceLT, Int.reduceEq, Int.reduceNe, reduceCtorEq, Nat.reduceLT, Nat.reduceLeDiff]
theorem ev_lower (c : UInt8) (h : 97 ≤ c.toNat ∧ c.toNat ≤ 102) : Ev X F_strconv_lower [.int .u8 ((c.toNat : Nat) : Int)] (.int .u8 ((c.toNat : Nat) : Int)) := by
  refine ev_of_wpc hs (A_strconv_lower_ok hX) 0 ?_
  simp only [A_strconv_lower, go_sem, Nat.reduceMod, Nat.reduceBNe, Nat.reduceBEq, Nat.reduceEqDiff, Nat.reduceAdd, Int.reduceAdd, Nat.reduceMul, Nat.reduceSub, Int.reduceToNat, Int.reduceLE, Int.reduceLT, Int.reduceEq, Int.reduceNe, reduceCtorEq, Nat.reduceLT, Nat.reduceLeDiff, low_tab c.toNat (by omega) h.1 h.2]
theorem ev_ParseUint16 (s : List UInt8) (hx : s.all hxB = true) (h0 : s ≠ []) (hl : s.length ≤ 6) : Ev X F_strconv_ParseUint [.str s, .int .i64 16, .int .i64 32] (.tuple [.int .u64 (hxL 0 s : Nat), .nilI]) := by
  refine ev_of_wpc hs (A_strconv_ParseUint_ok hX) 0 ?_
  have k1 : IntKind.u64.wrap 32 = 32 := by decide
  have k2 : IntKind.u64.wrap (IntKind.u64.wrap (1 * 2 ^ min 32 64) - 1) = 4294967295 := by decide
  have k3 : IntKind.u8.wrap 16 = 16 := by decide
  have k4 : IntKind.u64.wrap 16 = 16 := by decide
  have hml : (List.map u8 s).length = s.length := List.length_map ..
  simp only [A_strconv_ParseUint, go_sem, Nat.reduceMod, Nat.reduceBNe, Nat.reduceBEq, Nat.reduceEqDiff, Nat.reduceAdd, Int.reduceAdd, Nat.reduceMul, Nat.reduceSub, Int.reduceToNat, Int.reduceLE, Int.reduceLT, Int.reduceEq, Int.reduceNe, reduceCtorEq, Nat.reduceLT, Nat.reduceLeDiff, h0, k1, k2, hml]
  refine ⟨by omega, ?_⟩
  refine w_loop' hs.hm (ι := Nat) (fun i => i ≤ s.length) (fun i => [(0, .str s), (1, .int .i64 16), (8, .bool false), (9, .str s), (10, .int .u64 1152921504606846976), (11, .int .u64 4294967295), (12, .bool false), (13, .int .u64 (hxL 0 (s.take i) : Nat)), (99, lst u8 .ro s), (100, .int .i64 s.length), (101, .int .i64 i)]) (fun _ => []) (fun i => s.length - i) 0 ?_ fun i hi => ?_
  · simp only [go_sem, Nat.reduceMod, Nat.reduceBNe, Nat.reduceBEq, Nat.reduceEqDiff, Nat.reduceAdd, Int.reduceAdd, Nat.reduceMul, Nat.reduceSub, Int.reduceToNat, Int.reduceLE, Int.reduceLT, Int.reduceEq, Int.reduceNe, reduceCtorEq, Nat.reduceLT, Nat.reduceLeDiff]
    exact ⟨Nat.zero_le _, rfl, rfl⟩
  · have hlt := hxL_lt i s hi
    have hp : 16 ^ i ≤ 16 ^ 6 := Nat.pow_le_pow_right (by decide) (by omega)
    have e6 : 16 ^ 6 = 16777216 := by decide
    have fin : i < s.length → ∀ d : Nat, d = (Wo.hexv (s.getD i 0)).getD 0 → ∃ j, s.length - j < s.length - i ∧ j ≤ s.length ∧ AV.int .u64 ((hxL 0 (s.take i) * 16 + d : Nat) : Int) = AV.int .u64 (hxL 0 (s.take j) : Nat) ∧ AV.int .i64 (IntKind.i64.wrap ((i : Int) + 1)) = AV.int .i64 j := fun h d hd => by
      refine ⟨i + 1, by omega, by omega, ?_, by rw [wi64 (by omega)]; rfl⟩
      rw [hxL_take h, hd]
    by_cases hlt' : i < s.length
    · have hm : s.getD i 0 ∈ s := by
        rw [List.getD_eq_getElem?_getD, List.getElem?_eq_getElem hlt']; exact List.getElem_mem hlt'
      have hc := hx_cases (List.all_eq_true.1 hx _ hm)
      have fin := fin hlt'
      obtain ⟨c, hcd⟩ : ∃ c, s.getD i default = c := ⟨_, rfl⟩
      rw [show s.getD i 0 = c from hcd] at hm hc fin
      have w1 : IntKind.u64.wrap ((hxL 0 (s.take i) : Nat) * 16) = ((hxL 0 (s.take i) * 16 : Nat) : Int) := by rw [wu64 (by omega)]; omega
      have hz : (i : Int) < s.length := by omega
      rcases hc with ⟨a, b, hv⟩ | ⟨a, b, hv⟩
      · have a95 : ¬ ((c.toNat : Nat) : Int) = 95 := by omega
        have a48 : (48 : Int) ≤ ((c.toNat : Nat) : Int) := by omega
        have a57 : ((c.toNat : Nat) : Int) ≤ 57 := by omega
        have w2 : IntKind.u8.wrap (((c.toNat : Nat) : Int) - 48) = ((c.toNat - 48 : Nat) : Int) := by rw [wu8 (by omega)]; omega
        have w3 : IntKind.u64.wrap ((c.toNat - 48 : Nat) : Int) = ((c.toNat - 48 : Nat) : Int) := wu64 (by omega)
        have w4 : IntKind.u64.wrap (((hxL 0 (s.take i) * 16 : Nat) : Int) + ((c.toNat - 48 : Nat) : Int)) = ((hxL 0 (s.take i) * 16 + (c.toNat - 48) : Nat) : Int) := by rw [wu64 (by omega)]; omega
        have g1 : ¬ (16 : Int) ≤ ((c.toNat - 48 : Nat) : Int) := by omega
        have g2 : ¬ (1152921504606846976 : Int) ≤ (hxL 0 (s.take i) : Nat) := by omega
        have g3 : ¬ ((hxL 0 (s.take i) * 16 + (c.toNat - 48) : Nat) : Int) < (hxL 0 (s.take i) * 16 : Nat) := by omega
        have g4 : ¬ (4294967295 : Int) < ((hxL 0 (s.take i) * 16 + (c.toNat - 48) : Nat) : Int) := by omega
        simp only [A_strconv_ParseUintL0, go_sem, Nat.reduceMod, Nat.reduceBNe, Nat.reduceBEq, Nat.reduceEqDiff, Nat.reduceAdd, Int.reduceAdd, Nat.reduceMul, Nat.reduceSub, Int.reduceToNat, Int.reduceLE, Int.reduceLT, Int.reduceEq, Int.reduceNe, reduceCtorEq, Nat.reduceLT, Nat.reduceLeDiff, hz, hcd, a95, a48, a57, w1, w2, w3, w4, g1, g2, g3, g4, k3, k4]
        exact ⟨by omega, fin _ hv.symm⟩
      · have a95 : ¬ ((c.toNat : Nat) : Int) = 95 := by omega
        have a48 : (48 : Int) ≤ ((c.toNat : Nat) : Int) := by omega
        have a57 : ¬ ((c.toNat : Nat) : Int) ≤ 57 := by omega
        have a97 : (97 : Int) ≤ ((c.toNat : Nat) : Int) := by omega
        have a122 : ((c.toNat : Nat) : Int) ≤ 122 := by omega
        have w2 : IntKind.u8.wrap (((c.toNat : Nat) : Int) - 97) = ((c.toNat - 97 : Nat) : Int) := by rw [wu8 (by omega)]; omega
        have w2' : IntKind.u8.wrap (((c.toNat - 97 : Nat) : Int) + 10) = ((c.toNat - 87 : Nat) : Int) := by rw [wu8 (by omega)]; omega
        have w3 : IntKind.u64.wrap ((c.toNat - 87 : Nat) : Int) = ((c.toNat - 87 : Nat) : Int) := wu64 (by omega)
        have w4 : IntKind.u64.wrap (((hxL 0 (s.take i) * 16 : Nat) : Int) + ((c.toNat - 87 : Nat) : Int)) = ((hxL 0 (s.take i) * 16 + (c.toNat - 87) : Nat) : Int) := by rw [wu64 (by omega)]; omega
        have g1 : ¬ (16 : Int) ≤ ((c.toNat - 87 : Nat) : Int) := by omega
        have g2 : ¬ (1152921504606846976 : Int) ≤ (hxL 0 (s.take i) : Nat) := by omega
        have g3 : ¬ ((hxL 0 (s.take i) * 16 + (c.toNat - 87) : Nat) : Int) < (hxL 0 (s.take i) * 16 : Nat) := by omega
        have g4 : ¬ (4294967295 : Int) < ((hxL 0 (s.take i) * 16 + (c.toNat - 87) : Nat) : Int) := by omega
        simp only [A_strconv_ParseUintL0, go_sem, Nat.reduceMod, Nat.reduceBNe, Nat.reduceBEq, Nat.reduceEqDiff, Nat.reduceAdd, Int.reduceAdd, Nat.reduceMul, Nat.reduceSub, Int.reduceToNat, Int.reduceLE, Int.reduceLT, Int.reduceEq, Int.reduceNe, reduceCtorEq, Nat.reduceLT, Nat.reduceLeDiff, hz, hcd, a95, a48, a57]
        refine ⟨by omega, ?_⟩
        refine call_ev (ev_lower hX hs c ⟨a, b⟩) ?_
        simp only [go_sem, Nat.reduceMod, Nat.reduceBNe, Nat.reduceBEq, Nat.reduceEqDiff, Nat.reduceAdd, Int.reduceAdd, Nat.reduceMul, Nat.reduceSub, Int.reduceToNat, Int.reduceLE, Int.reduceLT, Int.reduceEq, Int.reduceNe, reduceCtorEq, Nat.reduceLT, Nat.reduceLeDiff, a97]
        refine call_ev (ev_lower hX hs c ⟨a, b⟩) ?_
        simp only [go_sem, Nat.reduceMod, Nat.reduceBNe, Nat.reduceBEq, Nat.reduceEqDiff, Nat.reduceAdd, Int.reduceAdd, Nat.reduceMul, Nat.reduceSub, Int.reduceToNat, Int.reduceLE, Int.reduceLT, Int.reduceEq, Int.reduceNe, reduceCtorEq, Nat.reduceLT, Nat.reduceLeDiff, a122]
        refine call_ev (ev_lower hX hs c ⟨a, b⟩) ?_
        simp only [go_sem, Nat.reduceMod, Nat.reduceBNe, Nat.reduceBEq, Nat.reduceEqDiff, Nat.reduceAdd, Int.reduceAdd, Nat.reduceMul, Nat.reduceSub, Int.reduceToNat, Int.reduceLE, Int.reduceLT, Int.reduceEq, Int.reduceNe, reduceCtorEq, Nat.reduceLT, Nat.reduceLeDiff, w1, w2, w2', w3, w4, g1, g2, g3, g4, k3, k4]
        exact fin _ hv.symm
    · have hz : ¬ (i : Int) < s.length := by omega
      have ht : s.take i = s := List.take_of_length_le (by omega)
      simp only [A_strconv_ParseUintL0, go_sem, Nat.reduceMod, Nat.reduceBNe, Nat.reduceBEq, Nat.reduceEqDiff, Nat.reduceAdd, Int.reduceAdd, Nat.reduceMul, Nat.reduceSub, Int.reduceToNat, Int.reduceLE, Int.reduceLT, Int.reduceEq, Int.reduceNe, reduceCtorEq, Nat.reduceLT, Nat.reduceLeDiff, hz, ht]
end
end Go.Avm
