/- Quoted forms, as the second writing makes them. -/
import Derived.Test.YtpkgglpiboeogaaDoorAQ6
import Derived.Test.YtpkgglpiboeogaaDoorAR
set_option linter.unusedSectionVars false
set_option linter.unusedSimpArgs false
set_option linter.unusedVariables false

/- Quoted forms, as the second writing makes them. -/
namespace Go.Avm
open Go Go.Rn Go.Lx
set_option maxRecDepth 10000
def rnsV (s : List UInt8) : AV := if okT s then .tuple [lst (AV.int .i64) .ro (runeL s), .bool true] else .tuple [.sl .ro [], .bool false]
def RI (s : List UInt8) (x : QS) : Prop := x.q ≤ s.length ∧ runeL s = x.pre ++ runeL (s.drop x.q) ∧ okT (s.drop x.q) = okT s ∧ x.pre.length ≤ x.q
section
variable {X : Cx} (hX : X.P = Go.Proofs.Tryd.prog) (hs : Std X)
include hX hs
set_option maxHeartbeats 1000000 in
theorem ev_runes (s : List UInt8) (hl : s.length < 1000000) : Ev X F_ref14_runes [.str s] (rnsV s) := by
  refine ev_of_wpcDd hs (A_ref14_runes_ok hX) 0 ?_
  simp only [A_ref14_runes, go_sem, Nat.reduceMod, Nat.reduceBNe, Nat.reduceBEq, Nat.reduceEqDiff, Nat.reduceAdd, Int.reduceAdd, Nat.reduceMul, Nat.reduceSub, Int.reduceToNat, Int.reduceLE, Int.reduceLT, Int.reduceEq, Int.reduceNe, reduceCtorEq, Nat.reduceLT, Nat.reduceLeDiff]
  refine w_loop hs.hm (ι := QS) (RI s) (fun x => [(5, .int .i64 x.q), (4, lst (AV.int .i64) (.tok 1 1) x.pre), (0, .str s)]) (fun x => [.dead, .tok x.pre.length]) (fun x => s.length - x.q) ⟨0, []⟩ ⟨⟨Nat.zero_le _, rfl, rfl, Nat.le_refl _⟩, _, _, wk_tok 4 1 rfl, ⟨by simp only [go_sem, Nat.reduceMod, Nat.reduceBNe, Nat.reduceBEq, Nat.reduceEqDiff, Nat.reduceAdd, Int.reduceAdd, Nat.reduceMul, Nat.reduceSub, Int.reduceToNat, Int.reduceLE, Int.reduceLT, Int.reduceEq, Int.reduceNe, reduceCtorEq, Nat.reduceLT, Nat.reduceLeDiff]; rfl, rfl⟩⟩ fun x hx => ?_
  obtain ⟨q, pre⟩ := x
  obtain ⟨x1, x2, x3, x4⟩ := hx
  dsimp only at x1 x2 x3 x4 ⊢
  by_cases hq : q < s.length
  · have hq' : (q : Int) < s.length := by omega
    simp only [A_ref14_runesL0, go_sem, Nat.reduceMod, Nat.reduceBNe, Nat.reduceBEq, Nat.reduceEqDiff, Nat.reduceAdd, Int.reduceAdd, Nat.reduceMul, Nat.reduceSub, Int.reduceToNat, Int.reduceLE, Int.reduceLT, Int.reduceEq, Int.reduceNe, reduceCtorEq, Nat.reduceLT, Nat.reduceLeDiff, hq']
    refine ⟨by omega, call_ev (ev_refDecode hX hs s q hq (by omega)) ?_⟩
    unfold dcv
    have hne : s.drop q ≠ [] := fun e => by have := congrArg List.length e; rw [List.length_drop] at this; simp at this; omega
    cases hd : dcO (s.drop q) with
    | none =>
      have hf := okT_none hd hne
      rw [x3] at hf
      have hft : ¬ (if more (s.drop q) = true then (370 : Int) else 6) = 0 := by split <;> decide
      simp only [go_sem, Nat.reduceMod, Nat.reduceBNe, Nat.reduceBEq, Nat.reduceEqDiff, Nat.reduceAdd, Int.reduceAdd, Nat.reduceMul, Nat.reduceSub, Int.reduceToNat, Int.reduceLE, Int.reduceLT, Int.reduceEq, Int.reduceNe, reduceCtorEq, Nat.reduceLT, Nat.reduceLeDiff, hft]
      unfold rnsV
      rw [hf]; rfl
    | some y =>
      obtain ⟨r, n⟩ := y
      have hr := dec_rng' hd
      rw [List.length_drop] at hr
      have hw : IntKind.i64.wrap ((q : Int) + n) = ((q + n : Nat) : Int) := by rw [wi64 (by omega)]; omega
      simp only [go_sem, Nat.reduceMod, Nat.reduceBNe, Nat.reduceBEq, Nat.reduceEqDiff, Nat.reduceAdd, Int.reduceAdd, Nat.reduceMul, Nat.reduceSub, Int.reduceToNat, Int.reduceLE, Int.reduceLT, Int.reduceEq, Int.reduceNe, reduceCtorEq, Nat.reduceLT, Nat.reduceLeDiff, hw]
      refine ⟨⟨by omega, by omega⟩, ⟨q + n, pre ++ [r]⟩, by dsimp only; omega, ⟨by dsimp only; omega, ?_, ?_, by dsimp only; rw [List.length_append, List.length_singleton]; omega⟩, ⟨rfl, rfl⟩, by dsimp only; rw [List.length_append, List.length_singleton]⟩
      · dsimp only
        rw [x2, runeL_some hd, List.drop_drop, List.append_assoc]; rfl
      · dsimp only
        rw [← x3, okT_some hd, List.drop_drop]
  · have hq' : ¬ (q : Int) < s.length := by omega
    simp only [A_ref14_runesL0, go_sem, Nat.reduceMod, Nat.reduceBNe, Nat.reduceBEq, Nat.reduceEqDiff, Nat.reduceAdd, Int.reduceAdd, Nat.reduceMul, Nat.reduceSub, Int.reduceToNat, Int.reduceLE, Int.reduceLT, Int.reduceEq, Int.reduceNe, reduceCtorEq, Nat.reduceLT, Nat.reduceLeDiff, hq']
    have hok : okT s = true := by rw [← x3, List.drop_eq_nil_of_le (by omega)]; rfl
    have hrl : runeL s = pre := by rw [x2, List.drop_eq_nil_of_le (by omega), runeL_nil, List.append_nil]
    unfold rnsV
    rw [if_pos hok, hrl]; rfl
theorem ev_code (n : Nat) (hn : n < 9223372036854775808) : Ev X F_ref14_code [.int .i64 (n : Nat)] (.str (hexs n)) := by
  induction n using Nat.strongRecOn with
  | _ n ih =>
    refine ev_of_wpc hs (A_ref14_code_ok hX) 0 ?_
    have hm : (n : Int).tmod 16 = ((n % 16 : Nat) : Int) := by rw [Int.tmod_eq_emod_of_nonneg (by omega)]; omega
    have hd : (n : Int).tdiv 16 = ((n / 16 : Nat) : Int) := by rw [Int.tdiv_eq_ediv_of_nonneg (by omega)]; omega
    have w1 : IntKind.i64.wrap (((n % 16 : Nat) : Int) + 1) = ((n % 16 + 1 : Nat) : Int) := by rw [wi64 (by omega)]; omega
    have w2 : IntKind.i64.wrap ((n / 16 : Nat) : Int) = ((n / 16 : Nat) : Int) := wi64 (by omega)
    have hdg : ∀ k, k < 16 → (48 :: ([49, 50, 51, 52, 53, 54, 55, 56, 57, 97, 98, 99, 100, 101, 102] : List UInt8).take k).drop k = [Wo.hexd k] := by decide
    have hk := hdg (n % 16) (Nat.mod_lt _ (by decide))
    simp only [A_ref14_code, go_sem, Nat.reduceMod, Nat.reduceBNe, Nat.reduceBEq, Nat.reduceEqDiff, Nat.reduceAdd, Int.reduceAdd, Nat.reduceMul, Nat.reduceSub, Int.reduceToNat, Int.reduceLE, Int.reduceLT, Int.reduceEq, Int.reduceNe, reduceCtorEq, Nat.reduceLT, Nat.reduceLeDiff, hm, hd, w1, w2, Int.toNat_natCast, hk]
    refine ⟨⟨⟨⟨by omega, by omega⟩, by omega⟩, by omega⟩, fun h => ?_, fun h => ?_⟩
    · rw [hexs_small (by omega), Nat.mod_eq_of_lt (by omega)]
    · refine call_ev (ih (n / 16) (by omega) (by omega)) ?_
      have e := hexs_big (n := n) (by omega)
      have hln := hexs_len 15 (n / 16) (by omega)
      simp only [go_sem, Nat.reduceMod, Nat.reduceBNe, Nat.reduceBEq, Nat.reduceEqDiff, Nat.reduceAdd, Int.reduceAdd, Nat.reduceMul, Nat.reduceSub, Int.reduceToNat, Int.reduceLE, Int.reduceLT, Int.reduceEq, Int.reduceNe, reduceCtorEq, Nat.reduceLT, Nat.reduceLeDiff, hk]
      rw [e]
      exact ⟨by omega, rfl⟩
omit hX hs in
theorem flat_lenT {l : List Int} (hv : ∀ r ∈ l, valid r = true) (i : Nat) : ((l.take i).flatMap escR).length ≤ 9 * i := by
  have := flat_len (l.take i) fun r hr => hv r (List.mem_of_mem_take hr)
  rw [List.length_take] at this
  omega
def qS (l : List Int) (i : Nat) : List UInt8 := 34 :: (l.take i).flatMap escR
omit hX hs in
theorem qS_len {l : List Int} (hv : ∀ r ∈ l, valid r = true) {i : Nat} (hi : i ≤ l.length) : (qS l i).length ≤ 1 + 9 * l.length := by
  have := flat_lenT hv i
  unfold qS
  rw [List.length_cons]; omega
set_option maxHeartbeats 1000000 in
theorem ev_rquoted (l : List Int) (hv : ∀ r ∈ l, valid r = true) (hl : l.length < 1000000) : Ev X F_ref14_quoted [lst (AV.int .i64) .ro l] (.str (34 :: (l.flatMap escR ++ [34]))) := by
  refine ev_of_wpc hs (A_ref14_quoted_ok hX) 0 ?_
  simp only [A_ref14_quoted, go_sem, Nat.reduceMod, Nat.reduceBNe, Nat.reduceBEq, Nat.reduceEqDiff, Nat.reduceAdd, Int.reduceAdd, Nat.reduceMul, Nat.reduceSub, Int.reduceToNat, Int.reduceLE, Int.reduceLT, Int.reduceEq, Int.reduceNe, reduceCtorEq, Nat.reduceLT, Nat.reduceLeDiff]
  refine w_loop' hs.hm (ι := Nat) (fun i => i ≤ l.length) (fun i => [(4, .int .i64 i), (3, .str (qS l i)), (0, lst (AV.int .i64) .ro l)]) (fun _ => []) (fun i => l.length - i) 0 ?_ fun i hi => ?_
  · simp only [go_sem, Nat.reduceMod, Nat.reduceBNe, Nat.reduceBEq, Nat.reduceEqDiff, Nat.reduceAdd, Int.reduceAdd, Nat.reduceMul, Nat.reduceSub, Int.reduceToNat, Int.reduceLE, Int.reduceLT, Int.reduceEq, Int.reduceNe, reduceCtorEq, Nat.reduceLT, Nat.reduceLeDiff]
    exact ⟨Nat.zero_le _, rfl⟩
  by_cases hi2 : i < l.length
  · have hi' : (i : Int) < l.length := by omega
    have hw : IntKind.i64.wrap ((i : Int) + 1) = ((i + 1 : Nat) : Int) := by rw [wi64 (by omega)]; omega
    have hst : qS l (i + 1) = qS l i ++ escR (l.getD i 0) := by
      unfold qS
      rw [List.take_succ_eq_append_getElem hi2, List.flatMap_append, List.getD_eq_getElem?_getD, List.getElem?_eq_getElem hi2]
      simp
    have hvr : valid (l.getD i 0) = true := hv _ (by rw [List.getD_eq_getElem?_getD, List.getElem?_eq_getElem hi2]; exact List.getElem_mem hi2)
    have hgd : l.getD i default = l.getD i 0 := rfl
    simp only [A_ref14_quotedL0, go_sem, Nat.reduceMod, Nat.reduceBNe, Nat.reduceBEq, Nat.reduceEqDiff, Nat.reduceAdd, Int.reduceAdd, Nat.reduceMul, Nat.reduceSub, Int.reduceToNat, Int.reduceLE, Int.reduceLT, Int.reduceEq, Int.reduceNe, reduceCtorEq, Nat.reduceLT, Nat.reduceLeDiff, hi', hw, hgd]
    generalize l.getD i 0 = r at hst hvr
    have hr := valid_rng hvr
    have hq := qS_len hv hi
    have fin : ∀ bs, bs = qS l i ++ escR r → ∃ j, l.length - j < l.length - i ∧ j ≤ l.length ∧ AV.int IntKind.i64 ((i + 1 : Nat) : Int) = AV.int IntKind.i64 (j : Nat) ∧ AV.str bs = AV.str (qS l j) := fun bs hb => ⟨i + 1, by omega, hi2, rfl, by rw [hst, hb]⟩
    have cr : Ev X F_ref14_code [.int .i64 r] (.str (hexs r.toNat)) := by
      have := ev_code hX hs r.toNat (by omega)
      rwa [show ((r.toNat : Nat) : Int) = r by omega] at this
    have hln := hexs_len 5 r.toNat (by rw [show (16 : Nat) ^ (5 + 1) = 16777216 by rfl]; omega)
    have tl : escR r = 92 :: 117 :: (hexs r.toNat ++ [59]) → (qS l i ++ [92, 117]).length + (hexs r.toNat).length ≤ 9223372036854775807 ∧ (qS l i ++ [92, 117] ++ hexs r.toNat).length ≤ 9223372036854775806 ∧ ∃ j, l.length - j < l.length - i ∧ j ≤ l.length ∧ AV.int IntKind.i64 ((i + 1 : Nat) : Int) = AV.int IntKind.i64 (j : Nat) ∧ AV.str (qS l i ++ [92, 117] ++ hexs r.toNat ++ [59]) = AV.str (qS l j) := fun e => by
      refine ⟨by simp only [List.length_append, List.length_cons, List.length_nil]; omega, by simp only [List.length_append, List.length_cons, List.length_nil]; omega, fin _ ?_⟩
      rw [e]; simp
    by_cases hsm : r < 256
    · have hwu : IntKind.u8.wrap r = r := wu8 (by omega)
      have hbs : b2sX (.sl .ex [.int .u8 r]) = some (true, .str [byteI r], none) := by
        have e : (AV.sl .ex [.int .u8 r]) = lst u8 .ex [byteI r] := by
          simp only [lst, List.map_cons, List.map_nil, u8, byteI_toNat (show 0 ≤ r ∧ r < 256 by omega)]
        rw [e, bs_l]
      have hl9 : (qS l i ++ [92]).length ≤ 10000000 := by rw [List.length_append, List.length_singleton]; omega
      by_cases c34 : r = 34
      · subst c34
        simp only [go_sem, Nat.reduceMod, Nat.reduceBNe, Nat.reduceBEq, Nat.reduceEqDiff, Nat.reduceAdd, Int.reduceAdd, Nat.reduceMul, Nat.reduceSub, Int.reduceToNat, Int.reduceLE, Int.reduceLT, Int.reduceEq, Int.reduceNe, reduceCtorEq, Nat.reduceLT, Nat.reduceLeDiff, hwu, hbs, hw]
        exact ⟨by omega, by omega, by omega, fin _ (by rw [List.append_assoc]; rfl)⟩
      by_cases c92 : r = 92
      · subst c92
        simp only [go_sem, Nat.reduceMod, Nat.reduceBNe, Nat.reduceBEq, Nat.reduceEqDiff, Nat.reduceAdd, Int.reduceAdd, Nat.reduceMul, Nat.reduceSub, Int.reduceToNat, Int.reduceLE, Int.reduceLT, Int.reduceEq, Int.reduceNe, reduceCtorEq, Nat.reduceLT, Nat.reduceLeDiff, hwu, hbs, hw]
        exact ⟨by omega, by omega, by omega, fin _ (by rw [List.append_assoc]; rfl)⟩
      by_cases c10 : r = 10
      · subst c10
        simp only [go_sem, Nat.reduceMod, Nat.reduceBNe, Nat.reduceBEq, Nat.reduceEqDiff, Nat.reduceAdd, Int.reduceAdd, Nat.reduceMul, Nat.reduceSub, Int.reduceToNat, Int.reduceLE, Int.reduceLT, Int.reduceEq, Int.reduceNe, reduceCtorEq, Nat.reduceLT, Nat.reduceLeDiff, hw]
        exact ⟨by omega, by omega, fin _ rfl⟩
      have n1 : ¬ (r = 34 ∨ r = 92) := fun e => e.elim c34 c92
      by_cases c32 : 32 ≤ r
      · by_cases c126 : r ≤ 126
        · have e : escR r = [byteI r] := by unfold escR; rw [if_neg n1, if_neg c10, if_pos ⟨c32, c126⟩, enc_small (by omega)]
          simp only [go_sem, Nat.reduceMod, Nat.reduceBNe, Nat.reduceBEq, Nat.reduceEqDiff, Nat.reduceAdd, Int.reduceAdd, Nat.reduceMul, Nat.reduceSub, Int.reduceToNat, Int.reduceLE, Int.reduceLT, Int.reduceEq, Int.reduceNe, reduceCtorEq, Nat.reduceLT, Nat.reduceLeDiff, c34, c92, c10, c32, c126, hwu, hbs, hw]
          exact ⟨by omega, by omega, fin _ (by rw [e])⟩
        · have e : escR r = 92 :: 117 :: (hexs r.toNat ++ [59]) := by unfold escR; rw [if_neg n1, if_neg c10, if_neg (fun h => c126 h.2)]
          simp only [go_sem, Nat.reduceMod, Nat.reduceBNe, Nat.reduceBEq, Nat.reduceEqDiff, Nat.reduceAdd, Int.reduceAdd, Nat.reduceMul, Nat.reduceSub, Int.reduceToNat, Int.reduceLE, Int.reduceLT, Int.reduceEq, Int.reduceNe, reduceCtorEq, Nat.reduceLT, Nat.reduceLeDiff, c34, c92, c10, c32, c126]
          refine ⟨by omega, by omega, call_ev cr ?_⟩
          simp only [go_sem, Nat.reduceMod, Nat.reduceBNe, Nat.reduceBEq, Nat.reduceEqDiff, Nat.reduceAdd, Int.reduceAdd, Nat.reduceMul, Nat.reduceSub, Int.reduceToNat, Int.reduceLE, Int.reduceLT, Int.reduceEq, Int.reduceNe, reduceCtorEq, Nat.reduceLT, Nat.reduceLeDiff, hw]
          exact tl e
      · have e : escR r = 92 :: 117 :: (hexs r.toNat ++ [59]) := by unfold escR; rw [if_neg n1, if_neg c10, if_neg (fun h => c32 h.1)]
        simp only [go_sem, Nat.reduceMod, Nat.reduceBNe, Nat.reduceBEq, Nat.reduceEqDiff, Nat.reduceAdd, Int.reduceAdd, Nat.reduceMul, Nat.reduceSub, Int.reduceToNat, Int.reduceLE, Int.reduceLT, Int.reduceEq, Int.reduceNe, reduceCtorEq, Nat.reduceLT, Nat.reduceLeDiff, c34, c92, c10, c32]
        refine ⟨by omega, by omega, call_ev cr ?_⟩
        simp only [go_sem, Nat.reduceMod, Nat.reduceBNe, Nat.reduceBEq, Nat.reduceEqDiff, Nat.reduceAdd, Int.reduceAdd, Nat.reduceMul, Nat.reduceSub, Int.reduceToNat, Int.reduceLE, Int.reduceLT, Int.reduceEq, Int.reduceNe, reduceCtorEq, Nat.reduceLT, Nat.reduceLeDiff, hw]
        exact tl e
    · have c34 : ¬ r = 34 := by omega
      have c92 : ¬ r = 92 := by omega
      have c10 : ¬ r = 10 := by omega
      have c32 : 32 ≤ r := by omega
      have c126 : ¬ r ≤ 126 := by omega
      have n1 : ¬ (r = 34 ∨ r = 92) := fun e => e.elim c34 c92
      have e : escR r = 92 :: 117 :: (hexs r.toNat ++ [59]) := by unfold escR; rw [if_neg n1, if_neg c10, if_neg (fun h => c126 h.2)]
      simp only [go_sem, Nat.reduceMod, Nat.reduceBNe, Nat.reduceBEq, Nat.reduceEqDiff, Nat.reduceAdd, Int.reduceAdd, Nat.reduceMul, Nat.reduceSub, Int.reduceToNat, Int.reduceLE, Int.reduceLT, Int.reduceEq, Int.reduceNe, reduceCtorEq, Nat.reduceLT, Nat.reduceLeDiff, c34, c92, c10, c32, c126]
      refine ⟨by omega, by omega, call_ev cr ?_⟩
      simp only [go_sem, Nat.reduceMod, Nat.reduceBNe, Nat.reduceBEq, Nat.reduceEqDiff, Nat.reduceAdd, Int.reduceAdd, Nat.reduceMul, Nat.reduceSub, Int.reduceToNat, Int.reduceLE, Int.reduceLT, Int.reduceEq, Int.reduceNe, reduceCtorEq, Nat.reduceLT, Nat.reduceLeDiff, hw]
      exact tl e
  · have hi' : ¬ (i : Int) < l.length := by omega
    have e : qS l i ++ [34] = 34 :: (l.flatMap escR ++ [34]) := by
      unfold qS; rw [List.take_of_length_le (by omega)]; rfl
    have hq := qS_len hv hi
    simp only [A_ref14_quotedL0, go_sem, Nat.reduceMod, Nat.reduceBNe, Nat.reduceBEq, Nat.reduceEqDiff, Nat.reduceAdd, Int.reduceAdd, Nat.reduceMul, Nat.reduceSub, Int.reduceToNat, Int.reduceLE, Int.reduceLT, Int.reduceEq, Int.reduceNe, reduceCtorEq, Nat.reduceLT, Nat.reduceLeDiff, hi', e]
    omega
theorem ev_rQuote (s : List UInt8) (hl : s.length < 1000000) : Ev X F_ref14_Quote [.str s] (if 2000 < s.length then .tuple [.str [], .int .i64 3] else if okT s = false then .tuple [.str [], .int .i64 6] else .tuple [.str (qt s), .int .i64 0]) := by
  refine ev_of_wpc hs (A_ref14_Quote_ok hX) 0 ?_
  simp only [A_ref14_Quote, go_sem, Nat.reduceMod, Nat.reduceBNe, Nat.reduceBEq, Nat.reduceEqDiff, Nat.reduceAdd, Int.reduceAdd, Nat.reduceMul, Nat.reduceSub, Int.reduceToNat, Int.reduceLE, Int.reduceLT, Int.reduceEq, Int.reduceNe, reduceCtorEq, Nat.reduceLT, Nat.reduceLeDiff]
  refine ⟨fun h => by rw [if_pos (by omega)], fun h => ?_⟩
  rw [if_neg (by omega)]
  refine call_ev (ev_runes hX hs s hl) ?_
  unfold rnsV
  cases hv : okT s with
  | true =>
    simp only [go_sem, Nat.reduceMod, Nat.reduceBNe, Nat.reduceBEq, Nat.reduceEqDiff, Nat.reduceAdd, Int.reduceAdd, Nat.reduceMul, Nat.reduceSub, Int.reduceToNat, Int.reduceLE, Int.reduceLT, Int.reduceEq, Int.reduceNe, reduceCtorEq, Nat.reduceLT, Nat.reduceLeDiff]
    refine call_ev (ev_rquoted hX hs (runeL s) (runeL_valid s) (Nat.lt_of_le_of_lt (runeL_len s) hl)) ?_
    simp only [go_sem, Nat.reduceMod, Nat.reduceBNe, Nat.reduceBEq, Nat.reduceEqDiff, Nat.reduceAdd, Int.reduceAdd, Nat.reduceMul, Nat.reduceSub, Int.reduceToNat, Int.reduceLE, Int.reduceLT, Int.reduceEq, Int.reduceNe, reduceCtorEq, Nat.reduceLT, Nat.reduceLeDiff]
    rfl
  | false =>
    simp only [go_sem, Nat.reduceMod, Nat.reduceBNe, Nat.reduceBEq, Nat.reduceEqDiff, Nat.reduceAdd, Int.reduceAdd, Nat.reduceMul, Nat.reduceSub, Int.reduceToNat, Int.reduceLE, Int.reduceLT, Int.reduceEq, Int.reduceNe, reduceCtorEq, Nat.reduceLT, Nat.reduceLeDiff]
end
end Go.Avm

/- Quotes. -/
namespace Go.Avm
open Go Go.Rn Go.Lx
set_option maxRecDepth 10000
theorem line_qt {s : List UInt8} (h : okT s = true) (hl : (qt s).length ≤ 2000) : lineR (qt s) = ([(⟨3, 0, s⟩, 0, (qt s).length)], 0, 0) := by
  refine lineR_ok hl ?_
  have h1 := text_qt h []
  rw [List.append_nil] at h1
  have e : qt s = 34 :: ((runeL s).flatMap escR ++ [34]) := rfl
  rw [e] at h1 ⊢
  have := Lx.tok (p := 0) (l := []) (by decide) h1 (by rw [List.drop_eq_nil_of_le (Nat.le_refl _)]; exact .nil _)
  rw [Nat.zero_add] at this
  exact this
section
variable {X : Cx} (hX : X.P = Go.Proofs.Tryd.prog) (hs : Std X) (hE : LEnv X)
include hX hs hE
set_option maxHeartbeats 4000000 in
theorem ev_LQuotes (s : List UInt8) : Ev X F_law14_LexerQuotes [.str s] (.bool true) := by
  refine ev_of_wpc hs (A_law14_LexerQuotes_ok hX) 0 ?_
  by_cases hc : (600 < s.length ∧ s.length ≤ 2000) ∨ 2010 < s.length
  · by_cases c1 : s.length ≤ 2000
    · have c0 : (600 : Int) < s.length := by omega
      have c1' : (s.length : Int) ≤ 2000 := by omega
      simp only [A_law14_LexerQuotes, go_sem, Nat.reduceMod, Nat.reduceBNe, Nat.reduceBEq, Nat.reduceEqDiff, Nat.reduceAdd, Int.reduceAdd, Nat.reduceMul, Nat.reduceSub, Int.reduceToNat, Int.reduceLE, Int.reduceLT, Int.reduceEq, Int.reduceNe, reduceCtorEq, Nat.reduceLT, Nat.reduceLeDiff, c0, c1']
      refine call_ev (ev_shown hX hs hE) ?_
      simp only [go_sem, Nat.reduceMod, Nat.reduceBNe, Nat.reduceBEq, Nat.reduceEqDiff, Nat.reduceAdd, Int.reduceAdd, Nat.reduceMul, Nat.reduceSub, Int.reduceToNat, Int.reduceLE, Int.reduceLT, Int.reduceEq, Int.reduceNe, reduceCtorEq, Nat.reduceLT, Nat.reduceLeDiff]
    · have c0 : (600 : Int) < s.length := by omega
      have c1' : ¬ (s.length : Int) ≤ 2000 := by omega
      have c2 : (2010 : Int) < s.length := by omega
      simp only [A_law14_LexerQuotes, go_sem, Nat.reduceMod, Nat.reduceBNe, Nat.reduceBEq, Nat.reduceEqDiff, Nat.reduceAdd, Int.reduceAdd, Nat.reduceMul, Nat.reduceSub, Int.reduceToNat, Int.reduceLE, Int.reduceLT, Int.reduceEq, Int.reduceNe, reduceCtorEq, Nat.reduceLT, Nat.reduceLeDiff, c0, c1', c2]
      refine call_ev (ev_shown hX hs hE) ?_
      simp only [go_sem, Nat.reduceMod, Nat.reduceBNe, Nat.reduceBEq, Nat.reduceEqDiff, Nat.reduceAdd, Int.reduceAdd, Nat.reduceMul, Nat.reduceSub, Int.reduceToNat, Int.reduceLE, Int.reduceLT, Int.reduceEq, Int.reduceNe, reduceCtorEq, Nat.reduceLT, Nat.reduceLeDiff]
  have hl : s.length ≤ 2010 := by omega
  have q1 := ev_Quote hX hs hE.hB hE.h0 hE.h1 s (by omega)
  have q2 := ev_rQuote hX hs s (by omega)
  have c2 : ¬ (2010 : Int) < s.length := by omega
  have rest : ∀ W : AV, W = W := fun _ => rfl
  by_cases h2 : 2000 < s.length
  · rw [if_pos h2] at q1 q2
    have c0 : (600 : Int) < s.length := by omega
    have c1' : ¬ (s.length : Int) ≤ 2000 := by omega
    simp only [A_law14_LexerQuotes, go_sem, Nat.reduceMod, Nat.reduceBNe, Nat.reduceBEq, Nat.reduceEqDiff, Nat.reduceAdd, Int.reduceAdd, Nat.reduceMul, Nat.reduceSub, Int.reduceToNat, Int.reduceLE, Int.reduceLT, Int.reduceEq, Int.reduceNe, reduceCtorEq, Nat.reduceLT, Nat.reduceLeDiff, c0, c1', c2]
    refine call_ev q1 ?_
    simp only [go_sem, Nat.reduceMod, Nat.reduceBNe, Nat.reduceBEq, Nat.reduceEqDiff, Nat.reduceAdd, Int.reduceAdd, Nat.reduceMul, Nat.reduceSub, Int.reduceToNat, Int.reduceLE, Int.reduceLT, Int.reduceEq, Int.reduceNe, reduceCtorEq, Nat.reduceLT, Nat.reduceLeDiff]
    refine call_ev q2 ?_
    simp only [go_sem, Nat.reduceMod, Nat.reduceBNe, Nat.reduceBEq, Nat.reduceEqDiff, Nat.reduceAdd, Int.reduceAdd, Nat.reduceMul, Nat.reduceSub, Int.reduceToNat, Int.reduceLE, Int.reduceLT, Int.reduceEq, Int.reduceNe, reduceCtorEq, Nat.reduceLT, Nat.reduceLeDiff]
    refine call_ev (ev_shown hX hs hE) ?_
    simp only [go_sem, Nat.reduceMod, Nat.reduceBNe, Nat.reduceBEq, Nat.reduceEqDiff, Nat.reduceAdd, Int.reduceAdd, Nat.reduceMul, Nat.reduceSub, Int.reduceToNat, Int.reduceLE, Int.reduceLT, Int.reduceEq, Int.reduceNe, reduceCtorEq, Nat.reduceLT, Nat.reduceLeDiff]
  rw [if_neg h2] at q1 q2
  have c0 : ¬ (600 : Int) < s.length := by omega
  simp only [A_law14_LexerQuotes, go_sem, Nat.reduceMod, Nat.reduceBNe, Nat.reduceBEq, Nat.reduceEqDiff, Nat.reduceAdd, Int.reduceAdd, Nat.reduceMul, Nat.reduceSub, Int.reduceToNat, Int.reduceLE, Int.reduceLT, Int.reduceEq, Int.reduceNe, reduceCtorEq, Nat.reduceLT, Nat.reduceLeDiff, c0, c2]
  cases hv : okT s with
  | false =>
    rw [if_pos hv] at q1 q2
    refine call_ev q1 ?_
    simp only [go_sem, Nat.reduceMod, Nat.reduceBNe, Nat.reduceBEq, Nat.reduceEqDiff, Nat.reduceAdd, Int.reduceAdd, Nat.reduceMul, Nat.reduceSub, Int.reduceToNat, Int.reduceLE, Int.reduceLT, Int.reduceEq, Int.reduceNe, reduceCtorEq, Nat.reduceLT, Nat.reduceLeDiff]
    refine call_ev q2 ?_
    simp only [go_sem, Nat.reduceMod, Nat.reduceBNe, Nat.reduceBEq, Nat.reduceEqDiff, Nat.reduceAdd, Int.reduceAdd, Nat.reduceMul, Nat.reduceSub, Int.reduceToNat, Int.reduceLE, Int.reduceLT, Int.reduceEq, Int.reduceNe, reduceCtorEq, Nat.reduceLT, Nat.reduceLeDiff]
    refine call_ev (ev_shown hX hs hE) ?_
    simp only [go_sem, Nat.reduceMod, Nat.reduceBNe, Nat.reduceBEq, Nat.reduceEqDiff, Nat.reduceAdd, Int.reduceAdd, Nat.reduceMul, Nat.reduceSub, Int.reduceToNat, Int.reduceLE, Int.reduceLT, Int.reduceEq, Int.reduceNe, reduceCtorEq, Nat.reduceLT, Nat.reduceLeDiff]
  | true =>
    rw [if_neg (by rw [hv]; decide)] at q1 q2
    refine call_ev q1 ?_
    simp only [go_sem, Nat.reduceMod, Nat.reduceBNe, Nat.reduceBEq, Nat.reduceEqDiff, Nat.reduceAdd, Int.reduceAdd, Nat.reduceMul, Nat.reduceSub, Int.reduceToNat, Int.reduceLE, Int.reduceLT, Int.reduceEq, Int.reduceNe, reduceCtorEq, Nat.reduceLT, Nat.reduceLeDiff]
    refine call_ev q2 ?_
    simp only [go_sem, Nat.reduceMod, Nat.reduceBNe, Nat.reduceBEq, Nat.reduceEqDiff, Nat.reduceAdd, Int.reduceAdd, Nat.reduceMul, Nat.reduceSub, Int.reduceToNat, Int.reduceLE, Int.reduceLT, Int.reduceEq, Int.reduceNe, reduceCtorEq, Nat.reduceLT, Nat.reduceLeDiff]
    refine ⟨fun h => ?_, fun h => ?_⟩
    · refine call_ev (ev_shown hX hs hE) ?_
      simp only [go_sem, Nat.reduceMod, Nat.reduceBNe, Nat.reduceBEq, Nat.reduceEqDiff, Nat.reduceAdd, Int.reduceAdd, Nat.reduceMul, Nat.reduceSub, Int.reduceToNat, Int.reduceLE, Int.reduceLT, Int.reduceEq, Int.reduceNe, reduceCtorEq, Nat.reduceLT, Nat.reduceLeDiff]
    have hql : (qt s).length ≤ 2000 := by omega
    have l1 := ev_LineE hX hs hE (qt s) (by omega)
    rw [line_qt hv hql] at l1
    have sm := ev_Same hX hs [toT (⟨3, 0, s⟩, 0, (qt s).length)] [(⟨3, 0, s⟩, 0, 0)] false (by simp)
    rw [same_toks (by rfl)] at sm
    refine call_ev l1 ?_
    simp only [go_sem, Nat.reduceMod, Nat.reduceBNe, Nat.reduceBEq, Nat.reduceEqDiff, Nat.reduceAdd, Int.reduceAdd, Nat.reduceMul, Nat.reduceSub, Int.reduceToNat, Int.reduceLE, Int.reduceLT, Int.reduceEq, Int.reduceNe, reduceCtorEq, Nat.reduceLT, Nat.reduceLeDiff]
    refine call_ev sm ?_
    simp only [go_sem, Nat.reduceMod, Nat.reduceBNe, Nat.reduceBEq, Nat.reduceEqDiff, Nat.reduceAdd, Int.reduceAdd, Nat.reduceMul, Nat.reduceSub, Int.reduceToNat, Int.reduceLE, Int.reduceLT, Int.reduceEq, Int.reduceNe, reduceCtorEq, Nat.reduceLT, Nat.reduceLeDiff]
    refine call_ev (ev_shown hX hs hE) ?_
    simp only [go_sem, Nat.reduceMod, Nat.reduceBNe, Nat.reduceBEq, Nat.reduceEqDiff, Nat.reduceAdd, Int.reduceAdd, Nat.reduceMul, Nat.reduceSub, Int.reduceToNat, Int.reduceLE, Int.reduceLT, Int.reduceEq, Int.reduceNe, reduceCtorEq, Nat.reduceLT, Nat.reduceLeDiff]
end
end Go.Avm
