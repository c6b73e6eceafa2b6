/- Quoted forms, as the second writing makes them. -/
import Derived.Test.YtpkgglpiboeogaaGreatDoorAQ5
import Derived.Test.YtpkgglpiboeogaaGreatDoorAR
set_option linter.unusedSectionVars false
set_option linter.unusedSimpArgs false
set_option linter.unusedVariables false

/- Quoted forms, as the second writing makes them. -/
namespace Go.Avm
open Go Go.Rn Go.Lx
set_option maxRecDepth 10000
def rnsV (s : List UInt8) : AV := if okT s then .tuple [lst (AV.int .i64) .ro (runeL s), .bool true] else .tuple [.sl .ro [], .bool false]
def RI (s : List UInt8) (x : QS) : Prop := x.q ≤ s.length ∧ runeL s = x.pre ++ runeL (s.drop x.q) ∧ okT (s.drop x.q) = okT s ∧ x.pre.length ≤ x.q
section
variable {X : Cx} (hX : X.P = Go.Proofs.Tryz.prog) (hs : Std X)
include hX hs
set_option maxHeartbeats 1000000 in
theorem ev_runes (s : List UInt8) (hl : s.length < 1000000) : Ev X F_ref14_runes [.str s] (rnsV s) := by
  refine ev_of_wpcDd hs (A_ref14_runes_ok hX) 0 ?_
  simp only [A_ref14_runes, go_sem, Nat.reduceMod, Nat.reduceBNe, Nat.reduceBEq, Nat.reduceEqDiff, Nat.reduceAdd, Int.reduceAdd, Nat.reduceMul, Nat.reduceSub, Int.reduceToNat, Int.reduceLE, Int.reduceLT, Int.reduceEq, Int.reduceNe, reduceCtorEq, Nat.reduceLT, Nat.reduceLeDiff]
  refine w_loop hs.hm (ι := QS) (RI s) (fun x => [(5, .int .i64 x.q), (4, lst (AV.int .i64) (.tok 1 1) x.pre), (0, .str s)]) (fun x => [.dead, .tok x.pre.length]) (fun x => s.length - x.q) ⟨0, []⟩ ⟨⟨Nat.zero_le _, rfl, rfl, Nat.le_refl _⟩, _, _, wk_tok 4 1 rfl, ⟨by simp only [go_sem, Nat.reduceMod, Nat.reduceBNe, Nat.reduceBEq, Nat.reduceEqDiff, Nat.reduceAdd, Int.reduceAdd, Nat.reduceMul, Nat.reduceSub, Int.reduceToNat, Int.reduceLE, Int.reduceLT, Int.reduceEq, Int.reduceNe, reduceCtorEq, Nat.reduceLT, Nat.reduceLeDiff]; rfl, rfl⟩⟩ fun x hx => ?_
  obtain ⟨q, pre⟩ := x
  obtain ⟨x1, x2, x3, x4⟩ := hx
  dsimp only at x1 x2 x3 x4 ⊢
  by_cases hq : q < s.length
  · have hq' : (q : Int) < s.length := by omega
    simp only [A_ref14_runesL0, go_sem, Nat.reduceMod, Nat.reduceBNe, Nat.reduceBEq, Nat.reduceEqDiff, Nat.reduceAdd, Int.reduceAdd, Nat.reduceMul, Nat.reduceSub, Int.reduceToNat, Int.reduceLE, Int.reduceLT, Int.reduceEq, Int.reduceNe, reduceCtorEq, Nat.reduceLT, Nat.reduceLeDiff, hq']
    refine ⟨by omega, call_ev (ev_refDecode hX hs s q hq (by omega)) ?_⟩
    unfold dcv
    have hne : s.drop q ≠ [] := fun e => by have := congrArg List.length e; rw [List.length_drop] at this; simp at this; omega
    cases hd : dcO (s.drop q) with
    | none =>
      have hf := okT_none hd hne
      rw [x3] at hf
      have hft : ¬ (if more (s.drop q) = true then (370 : Int) else 6) = 0 := by split <;> decide
      simp only [go_sem, Nat.reduceMod, Nat.reduceBNe, Nat.reduceBEq, Nat.reduceEqDiff, Nat.reduceAdd, Int.reduceAdd, Nat.reduceMul, Nat.reduceSub, Int.reduceToNat, Int.reduceLE, Int.reduceLT, Int.reduceEq, Int.reduceNe, reduceCtorEq, Nat.reduceLT, Nat.reduceLeDiff, hft]
      unfold rnsV
      rw [hf]; rfl
    | some y =>
      obtain ⟨r, n⟩ := y
      have hr := dec_rng' hd
      rw [List.length_drop] at hr
      have hw : IntKind.i64.wrap ((q : Int) + n) = ((q + n : Nat) : Int) := by rw [wi64 (by omega)]; omega
      simp only [go_sem, Nat.reduceMod, Nat.reduceBNe, Nat.reduceBEq, Nat.reduceEqDiff, Nat.reduceAdd, Int.reduceAdd, Nat.reduceMul, Nat.reduceSub, Int.reduceToNat, Int.reduceLE, Int.reduceLT, Int.reduceEq, Int.reduceNe, reduceCtorEq, Nat.reduceLT, Nat.reduceLeDiff, hw]
      refine ⟨⟨by omega, by omega⟩, ⟨q + n, pre ++ [r]⟩, by dsimp only; omega, ⟨by dsimp only; omega, ?_, ?_, by dsimp only; rw [List.length_append, List.length_singleton]; omega⟩, ⟨rfl, rfl⟩, by dsimp only; rw [List.length_append, List.length_singleton]⟩
      · dsimp only
        rw [x2, runeL_some hd, List.drop_drop, List.append_assoc]; rfl
      · dsimp only
        rw [← x3, okT_some hd, List.drop_drop]
  · have hq' : ¬ (q : Int) < s.length := by omega
    simp only [A_ref14_runesL0, go_sem, Nat.reduceMod, Nat.reduceBNe, Nat.reduceBEq, Nat.reduceEqDiff, Nat.reduceAdd, Int.reduceAdd, Nat.reduceMul, Nat.reduceSub, Int.reduceToNat, Int.reduceLE, Int.reduceLT, Int.reduceEq, Int.reduceNe, reduceCtorEq, Nat.reduceLT, Nat.reduceLeDiff, hq']
    have hok : okT s = true := by rw [← x3, List.drop_eq_nil_of_le (by omega)]; rfl
    have hrl : runeL s = pre := by rw [x2, List.drop_eq_nil_of_le (by omega), runeL_nil, List.append_nil]
    unfold rnsV
    rw [if_pos hok, hrl]; rfl
theorem ev_code (n : Nat) (hn : n < 9223372036854775808) : Ev X F_ref14_code [.int .i64 (n : Nat)] (.str (hexs n)) := by
  induction n using Nat.strongRecOn with
  | _ n ih =>
    refine ev_of_wpc hs (A_ref14_code_ok hX) 0 ?_
    have hm : (n : Int).tmod 16 = ((n % 16 : Nat) : Int) := by rw [Int.tmod_eq_emod_of_nonneg (by omega)]; omega
    have hd : (n : Int).tdiv 16 = ((n / 16 : Nat) : Int) := by rw [Int.tdiv_eq_ediv_of_nonneg (by omega)]; omega
    have w1 : IntKind.i64.wrap (((n % 16 : Nat) : Int) + 1) = ((n % 16 + 1 : Nat) : Int) := by rw [wi64 (by omega)]; omega
    have w2 : IntKind.i64.wrap ((n / 16 : Nat) : Int) = ((n / 16 : Nat) : Int) := wi64 (by omega)
    have hdg : ∀ k, k < 16 → (48 :: ([49, 50, 51, 52, 53, 54, 55, 56, 57, 97, 98, 99, 100, 101, 102] : List UInt8).take k).drop k = [Wo.hexd k] := by decide
    have hk := hdg (n % 16) (Nat.mod_lt _ (by decide))
    simp only [A_ref14_code, go_sem, Nat.reduceMod, Nat.reduceBNe, Nat.reduceBEq, Nat.reduceEqDiff, Nat.reduceAdd, Int.reduceAdd, Nat.reduceMul, Nat.reduceSub, Int.reduceToNat, Int.reduceLE, Int.reduceLT, Int.reduceEq, Int.reduceNe, reduceCtorEq, Nat.reduceLT, Nat.reduceLeDiff, hm, hd, w1, w2, Int.toNat_natCast, hk]
    refine ⟨⟨⟨⟨by omega, by omega⟩, by omega⟩, by omega⟩, fun h => ?_, fun h => ?_⟩
    · rw [hexs_small (by omega), Nat.mod_eq_of_lt (by omega)]
    · refine call_ev (ih (n / 16) (by omega) (by omega)) ?_
      have e := hexs_big (n := n) (by omega)
      have hln := hexs_len 15 (n / 16) (by omega)
      simp only [go_sem, Nat.reduceMod, Nat.reduceBNe, Nat.reduceBEq, Nat.reduceEqDiff, Nat.reduceAdd, Int.reduceAdd, Nat.reduceMul, Nat.reduceSub, Int.reduceToNat, Int.reduceLE, Int.reduceLT, Int.reduceEq, Int.reduceNe, reduceCtorEq, Nat.reduceLT, Nat.reduceLeDiff, hk]
      rw [e]
      exact ⟨by omega, rfl⟩
omit hX hs in
theorem flat_lenT {l : List Int} (hv : ∀ r ∈ l, valid r = true) (i : Nat) : ((l.take i).flatMap escR).length ≤ 9 * i := by
  have := flat_len (l.take i) fun r hr => hv r (List.mem_of_mem_take hr)
  rw [List.length_take] at this
  omega
def qS (l : List Int) (i : Nat) : List UInt8 := 34 :: (l.take i).flatMap escR
omit hX hs in
theorem qS_len {l : List Int} (hv : ∀ r ∈ l, valid r = true) {i : Nat} (hi : i ≤ l.length) : (qS l i).length ≤ 1 + 9 * l.length := by
  have := flat_lenT hv i
  unfold qS
  rw [List.length_cons]; omega
set_option maxHeartbeats 1000000 in
theorem ev_rquoted (l : List Int) (hv : ∀ r ∈ l, valid r = true) (hl : l.length < 1000000) : Ev X F_ref14_quoted [lst (AV.int .i64) .ro l] (.str (34 :: (l.flatMap escR ++ [34]))) := by
  refine ev_of_wpc hs (A_ref14_quoted_ok hX) 0 ?_
  simp only [A_ref14_quoted, go_sem, Nat.reduceMod, Nat.reduceBNe, Nat.reduceBEq, Nat.reduceEqDiff, Nat.reduceAdd, Int.reduceAdd, Nat.reduceMul, Nat.reduceSub, Int.reduceToNat, Int.reduceLE, Int.reduceLT, Int.reduceEq, Int.reduceNe, reduceCtorEq, Nat.reduceLT, Nat.reduceLeDiff]
  refine w_loop' hs.hm (ι := Nat) (fun i => i ≤ l.length) (fun i => [(4, .int .i64 i), (3, .str (qS l i)), (0, lst (AV.int .i64) .ro l)]) (fun _ => []) (fun i => l.length - i) 0 ?_ fun i hi => ?_
  · simp only [go_sem, Nat.reduceMod, Nat.reduceBNe, Nat.reduceBEq, Nat.reduceEqDiff, Nat.reduceAdd, Int.reduceAdd, Nat.reduceMul, Nat.reduceSub, Int.reduceToNat, Int.reduceLE, Int.reduceLT, Int.reduceEq, Int.reduceNe, reduceCtorEq, Nat.reduceLT, Nat.reduceLeDiff]
    exact ⟨Nat.zero_le _, rfl⟩
  by_cases hi2 : i < l.length
  · have hi' : (i : Int) < l.length := by omega
    have hw : IntKind.i64.wrap ((i : Int) + 1) = ((i + 1 : Nat) : Int) := by rw [wi64 (by omega)]; omega
    have hst : qS l (i + 1) = qS l i ++ escR (l.getD i 0) := by
      unfold qS
      rw [List.take_succ_eq_append_getElem hi2, List.flatMap_append, List.getD_eq_getElem?_getD, List.getElem?_eq_getElem hi2]
      simp
    have hvr : valid (l.getD i 0) = true := hv _ (by rw [List.getD_eq_getElem?_getD, List.getElem?_eq_getElem hi2]; exact List.getElem_mem hi2)
    have hgd : l.getD i default = l.getD i 0 := rfl
    simp only [A_ref14_quotedL0, go_sem, Nat.reduceMod, Nat.reduceBNe, Nat.reduceBEq, Nat.reduceEqDiff, Nat.reduceAdd, Int.reduceAdd, Nat.reduceMul, Nat.reduceSub, Int.reduceToNat, Int.reduceLE, Int.reduceLT, Int.reduceEq, Int.reduceNe, reduceCtorEq, Nat.reduceLT, Nat.reduceLeDiff, hi', hw, hgd]
    generalize l.getD i 0 = r at hst hvr
    have hr := valid_rng hvr
    have hq := qS_len hv hi
    have fin : ∀ bs, bs = qS l i ++ escR r → ∃ j, l.length - j < l.length - i ∧ j ≤ l.length ∧ AV.int IntKind.i64 ((i + 1 : Nat) : Int) = AV.int IntKind.i64 (j : Nat) ∧ AV.str bs = AV.str (qS l j) := fun bs hb => ⟨i + 1, by omega, hi2, rfl, by rw [hst, hb]⟩
    have cr : Ev X F_ref14_code [.int .i64 r] (.str (hexs r.toNat)) := by
      have := ev_code hX hs r.toNat (by omega)
      rwa [show ((r.toNat : Nat) : Int) = r by omega] at this
    have hln := hexs_len 5 r.toNat (by rw [show (16 : Nat) ^ (5 + 1) = 16777216 by rfl]; omega)
    have tl : escR r = 92 :: 117 :: (hexs r.toNat ++ [59]) → (qS l i ++ [92, 117]).length + (hexs r.toNat).length ≤ 9223372036854775807 ∧ (qS l i ++ [92, 117] ++ hexs r.toNat).length ≤ 9223372036854775806 ∧ ∃ j, l.length - j < l.length - i ∧ j ≤ l.length ∧ AV.int IntKind.i64 ((i + 1 : Nat) : Int) = AV.int IntKind.i64 (j : Nat) ∧ AV.str (qS l i ++ [92, 117] ++ hexs r.toNat ++ [59]) = AV.str (qS l j) := fun e => by
      refine ⟨by simp only [List.length_append, List.length_cons, List.length_nil]; omega, by simp only [List.length_append, List.length_cons, List.length_nil]; omega, fin _ ?_⟩
      rw [e]; simp
    by_cases hsm : r < 256
    · have hwu : IntKind.u8.wrap r = r := wu8 (by omega)
      have hbs : b2sX (.sl .ex [.int .u8 r]) = some (true, .str [byteI r], none) := by
        have e : (AV.sl .ex [.int .u8 r]) = lst u8 .ex [byteI r] := by
          simp only [lst, List.map_cons, List.map_nil, u8, byteI_toNat (show 0 ≤ r ∧ r < 256 by omega)]
        rw [e, bs_l]
      have hl9 : (qS l i ++ [92]).length ≤ 10000000 := by rw [List.length_append, List.length_singleton]; omega
      by_cases c34 : r = 34
      · subst c34
        simp only [go_sem, Nat.reduceMod, Nat.reduceBNe, Nat.reduceBEq, Nat.reduceEqDiff, Nat.reduceAdd, Int.reduceAdd, Nat.reduceMul, Nat.reduceSub, Int.reduceToNat, Int.reduceLE, Int.reduceLT, Int.reduceEq, Int.reduceNe, reduceCtorEq, Nat.reduceLT, Nat.reduceLeDiff, hwu, hbs, hw]
        exact ⟨by omega, by omega, by omega, fin _ (by rw [List.append_assoc]; rfl)⟩
      by_cases c92 : r = 92
      · subst c92
        simp only [go_sem, Nat.reduceMod, Nat.reduceBNe, Nat.reduceBEq, Nat.reduceEqDiff, Nat.reduceAdd, Int.reduceAdd, Nat.reduceMul, Nat.reduceSub, Int.reduceToNat, Int.reduceLE, Int.reduceLT, Int.reduceEq, Int.reduceNe, reduceCtorEq, Nat.reduceLT, Nat.reduceLeDiff, hwu, hbs, hw]
        exact ⟨by omega, by omega, by omega, fin _ (by rw [List.append_assoc]; rfl)⟩
      by_cases c10 : r = 10
      · subst c10
        simp only [go_sem, Nat.reduceMod, Nat.reduceBNe, Nat.reduceBEq, Nat.reduceEqDiff, Nat.reduceAdd, Int.reduceAdd, Nat.reduceMul, Nat.reduceSub, Int.reduceToNat, Int.reduceLE, Int.reduceLT, Int.reduceEq, Int.reduceNe, reduceCtorEq, Nat.reduceLT, Nat.reduceLeDiff, hw]
        exact ⟨by omega, by omega, fin _ rfl⟩
      have n1 : ¬ (r = 34 ∨ r = 92) := fun e => e.elim c34 c92
      by_cases c32 : 32 ≤ r
      · by_cases c126 : r ≤ 126
        · have e : escR r = [byteI r] := by unfold escR; rw [if_neg n1, if_neg c10, if_pos ⟨c32, c126⟩, enc_small (by omega)]
          simp only [go_sem, Nat.reduceMod, Nat.reduceBNe, Nat.reduceBEq, Nat.reduceEqDiff, Nat.reduceAdd, Int.reduceAdd, Nat.reduceMul, Nat.reduceSub, Int.reduceToNat, Int.reduceLE, Int.reduceLT, Int.reduceEq, Int.reduceNe, reduceCtorEq, Nat.reduceLT, Nat.reduceLeDiff, c34, c92, c10, c32, c126, hwu, hbs, hw]
          exact ⟨by omega, by omega, fin _ (by rw [e])⟩
        · have e : escR r = 92 :: 117 :: (hexs r.toNat ++ [59]) := by unfold escR; rw [if_neg n1, if_neg c10, if_neg (fun h => c126 h.2)]
          simp only [go_sem, Nat.reduceMod, Nat.reduceBNe, Nat.reduceBEq, Nat.reduceEqDiff, Nat.reduceAdd, Int.reduceAdd, Nat.reduceMul, Nat.reduceSub, Int.reduceToNat, Int.reduceLE, Int.reduceLT, Int.reduceEq, Int.reduceNe, reduceCtorEq, Nat.reduceLT, Nat.reduceLeDiff, c34, c92, c10, c32, c126]
          refine ⟨by omega, by omega, call_ev cr ?_⟩
          simp only [go_sem, Nat.reduceMod, Nat.reduceBNe, Nat.reduceBEq, Nat.reduceEqDiff, Nat.reduceAdd, Int.reduceAdd, Nat.reduceMul, Nat.reduceSub, Int.reduceToNat, Int.reduceLE, Int.reduceLT, Int.reduceEq, Int.reduceNe, reduceCtorEq, Nat.reduceLT, Nat.reduceLeDiff, hw]
          exact tl e
      · have e : escR r = 92 :: 117 :: (hexs r.toNat ++ [59]) := by unfold escR; rw [if_neg n1, if_neg c10, if_neg (fun h => c32 h.1)]
        simp only [go_sem, Nat.reduceMod, Nat.reduceBNe, Nat.reduceBEq, Nat.reduceEqDiff, Nat.reduceAdd, Int.reduceAdd, Nat.reduceMul, Nat.reduceSub, Int.reduceToNat, Int.reduceLE, Int.reduceLT, Int.reduceEq, Int.reduceNe, reduceCtorEq, Nat.reduceLT, Nat.reduceLeDiff, c34, c92, c10, c32]
        refine ⟨by omega, by omega, call_ev cr ?_⟩
        simp only [go_sem, Nat.reduceMod, Nat.reduceBNe, Nat.reduceBEq, Nat.reduceEqDiff, Nat.reduceAdd, Int.reduceAdd, Nat.reduceMul, Nat.reduceSub, Int.reduceToNat, Int.reduceLE, Int.reduceLT, Int.reduceEq, Int.reduceNe, reduceCtorEq, Nat.reduceLT, Nat.reduceLeDiff, hw]
        exact tl e
    · have c34 : ¬ r = 34 := by omega
      have c92 : ¬ r = 92 := by omega
      have c10 : ¬ r = 10 := by omega
      have c32 : 32 ≤ r := by omega
      have c126 : ¬ r ≤ 126 := by omega
      have n1 : ¬ (r = 34 ∨ r = 92) := fun e => e.elim c34 c92
      have e : escR r = 92 :: 117 :: (hexs r.toNat ++ [59]) := by unfold escR; rw [if_neg n1, if_neg c10, if_neg (fun h => c126 h.2)]
      simp only [go_sem, Nat.reduceMod, Nat.reduceBNe, Nat.reduceBEq, Nat.reduceEqDiff, Nat.reduceAdd, Int.reduceAdd, Nat.reduceMul, Nat.reduceSub, Int.reduceToNat, Int.reduceLE, Int.reduceLT, Int.reduceEq, Int.reduceNe, reduceCtorEq, Nat.reduceLT, Nat.reduceLeDiff, c34, c92, c10, c32, c126]
      refine ⟨by omega, by omega, call_ev cr ?_⟩
      simp only [go_sem, Nat.reduceMod, Nat.reduceBNe, Nat.reduceBEq, Nat.reduceEqDiff, Nat.reduceAdd, Int.reduceAdd, Nat.reduceMul, Nat.reduceSub, Int.reduceToNat, Int.reduceLE, Int.reduceLT, Int.reduceEq, Int.reduceNe, reduceCtorEq, Nat.reduceLT, Nat.reduceLeDiff, hw]
      exact tl e
  · have hi' : ¬ (i : Int) < l.length := by omega
    have e : qS l i ++ [34] = 34 :: (l.flatMap escR ++ [34]) := by
      unfold qS; rw [List.take_of_length_le (by omega)]; rfl
    have hq := qS_len hv hi
    simp only [A_ref14_quotedL0, go_sem, Nat.reduceMod, Nat.reduceBNe, Nat.reduceBEq, Nat.reduceEqDiff, Nat.reduceAdd, Int.reduceAdd, Nat.reduceMul, Nat.reduceSub, Int.reduceToNat, Int.reduceLE, Int.reduceLT, Int.reduceEq, Int.reduceNe, reduceCtorEq, Nat.reduceLT, Nat.reduceLeDiff, hi', e]
    omega
end
end Go.Avm

/- Numerals, names, marks: the second writing. -/
namespace Go.Avm
open Go Go.Rn Go.Lx
set_option maxRecDepth 10000
theorem dig1 {a : Nat} (h : a < 10) : ([.int .u8 (IntKind.u8.wrap (48 + (a : Int)))] : List AV) = [u8 (UInt8.ofNat (48 + a))] := by
  rw [wu8 (by omega)]
  simp only [u8, UInt8.toNat_ofNat']
  congr 2
  omega
theorem bs_1 (p : Perm) (b : UInt8) : b2sX (.sl p [u8 b]) = some (true, .str [b], none) := bs_l p [b]
section
variable {X : Cx} (hX : X.P = Go.Proofs.Tryz.prog) (hs : Std X)
include hX hs
theorem ev_rDigits (n : Int) (h : -9223372036854775808 ≤ n ∧ n ≤ 9223372036854775807) : Ev X F_ref01_Digits [.int .i64 n] (.str (Lib.itoa n)) := by
  generalize hk : n.natAbs * 2 + (if n < 0 then 1 else 0) = k
  induction k using Nat.strongRecOn generalizing n with
  | _ k ih =>
    subst hk
    refine ev_of_wpc hs (A_ref01_Digits_ok hX) 0 ?_
    by_cases hb : 9 < n ∨ n < -9
    · have hq : (n.tdiv 10).natAbs = n.natAbs / 10 ∧ (n < 0 ∨ ¬ n.tdiv 10 < 0) := by
        rcases Int.lt_or_le n 0 with h0 | h0
        · obtain ⟨m, rfl⟩ : ∃ m : Nat, n = -(m : Int) := ⟨n.natAbs, by omega⟩
          rw [Int.neg_tdiv, Int.tdiv_eq_ediv_of_nonneg (by omega)]; omega
        · rw [Int.tdiv_eq_ediv_of_nonneg (by omega)]; omega
      have hm : n.tmod 10 = if n < 0 then -((n.natAbs % 10 : Nat) : Int) else ((n.natAbs % 10 : Nat) : Int) := by
        rcases Int.lt_or_le n 0 with h0 | h0
        · obtain ⟨m, rfl⟩ : ∃ m : Nat, n = -(m : Int) := ⟨n.natAbs, by omega⟩
          rw [if_pos h0, Int.neg_tmod, Int.tmod_eq_emod_of_nonneg (by omega)]; omega
        · rw [if_neg (by omega), Int.tmod_eq_emod_of_nonneg (by omega)]; omega
      have hr : Ev X F_ref01_Digits [.int .i64 (n.tdiv 10)] (.str (Lib.itoa (n.tdiv 10))) := ih _ (by
        have h1 := hq.1
        split <;> split <;> omega) _ (by omega) rfl
      have ew : IntKind.i64.wrap (n.tdiv 10) = n.tdiv 10 := wi64 (by omega)
      have hst := Wo.itoa_step hb
      have hd := dig1 (a := n.natAbs % 10) (Nat.mod_lt _ (by decide))
      have hlen := Wo.itoa_len (n := n.tdiv 10) (by omega)
      have hq1 := hq.1
      have hfin : ∀ t : Int, t = ((n.natAbs % 10 : Nat) : Int) → b2sX (.sl .ex [.int .u8 (IntKind.u8.wrap (IntKind.i64.wrap (48 + t)))]) = some (true, .str [UInt8.ofNat (48 + n.natAbs % 10)], none) := fun t ht => by
        subst ht
        have hlt : n.natAbs % 10 < 10 := Nat.mod_lt _ (by decide)
        rw [wi64 (by omega), hd]
        exact bs_1 .ex _
      have c9 : decide (9 < n) = decide (¬ n < -9) := by
        congr 1
        rw [eq_iff_iff]
        omega
      have w0 : IntKind.i64.wrap (0 - n.tmod 10) = -n.tmod 10 := by
        rw [wi64 (by split at hm <;> omega)]; omega
      by_cases c1 : 9 < n
      · rw [if_neg (by omega)] at hm
        simp only [A_ref01_Digits, go_sem, Nat.reduceMod, Nat.reduceBNe, Nat.reduceBEq, Nat.reduceEqDiff, Nat.reduceAdd, Int.reduceAdd, Nat.reduceMul, Nat.reduceSub, Int.reduceToNat, Int.reduceLE, Int.reduceLT, Int.reduceEq, Int.reduceNe, reduceCtorEq, Nat.reduceLT, Nat.reduceLeDiff, c1, ew, w0]
        refine ⟨fun e => by omega, fun e => callq_ev hr ?_⟩
        simp only [go_sem, Nat.reduceMod, Nat.reduceBNe, Nat.reduceBEq, Nat.reduceEqDiff, Nat.reduceAdd, Int.reduceAdd, Nat.reduceMul, Nat.reduceSub, Int.reduceToNat, Int.reduceLE, Int.reduceLT, Int.reduceEq, Int.reduceNe, reduceCtorEq, Nat.reduceLT, Nat.reduceLeDiff, hfin _ hm]
        exact ⟨by omega, by rw [hst]⟩
      · have c2 : n < -9 := by omega
        rw [if_pos (by omega)] at hm
        simp only [A_ref01_Digits, go_sem, Nat.reduceMod, Nat.reduceBNe, Nat.reduceBEq, Nat.reduceEqDiff, Nat.reduceAdd, Int.reduceAdd, Nat.reduceMul, Nat.reduceSub, Int.reduceToNat, Int.reduceLE, Int.reduceLT, Int.reduceEq, Int.reduceNe, reduceCtorEq, Nat.reduceLT, Nat.reduceLeDiff, c1, c2, ew, w0]
        refine ⟨fun e => callq_ev hr ?_, fun e => callq_ev hr ?_⟩
        · simp only [go_sem, Nat.reduceMod, Nat.reduceBNe, Nat.reduceBEq, Nat.reduceEqDiff, Nat.reduceAdd, Int.reduceAdd, Nat.reduceMul, Nat.reduceSub, Int.reduceToNat, Int.reduceLE, Int.reduceLT, Int.reduceEq, Int.reduceNe, reduceCtorEq, Nat.reduceLT, Nat.reduceLeDiff, hfin (-n.tmod 10) (by omega)]
          exact ⟨by omega, by rw [hst]⟩
        · simp only [go_sem, Nat.reduceMod, Nat.reduceBNe, Nat.reduceBEq, Nat.reduceEqDiff, Nat.reduceAdd, Int.reduceAdd, Nat.reduceMul, Nat.reduceSub, Int.reduceToNat, Int.reduceLE, Int.reduceLT, Int.reduceEq, Int.reduceNe, reduceCtorEq, Nat.reduceLT, Nat.reduceLeDiff, hfin (n.tmod 10) (by omega)]
          exact ⟨by omega, by rw [hst]⟩
    · by_cases h0 : n < 0
      · have hr : Ev X F_ref01_Digits [.int .i64 (-n)] (.str (Lib.itoa (-n))) := ih _ (by
          rw [if_pos h0, if_neg (by omega)]; omega) _ (by omega) rfl
        have hlen := Wo.itoa_len (n := -n) (by omega)
        have w0 : IntKind.i64.wrap (0 - n) = -n := by rw [wi64 (by omega)]; omega
        simp only [A_ref01_Digits, go_sem, Nat.reduceMod, Nat.reduceBNe, Nat.reduceBEq, Nat.reduceEqDiff, Nat.reduceAdd, Int.reduceAdd, Nat.reduceMul, Nat.reduceSub, Int.reduceToNat, Int.reduceLE, Int.reduceLT, Int.reduceEq, Int.reduceNe, reduceCtorEq, Nat.reduceLT, Nat.reduceLeDiff, show ¬ 9 < n by omega, show ¬ n < -9 by omega, h0, w0]
        refine call_ev hr ?_
        simp only [go_sem, Nat.reduceMod, Nat.reduceBNe, Nat.reduceBEq, Nat.reduceEqDiff, Nat.reduceAdd, Int.reduceAdd, Nat.reduceMul, Nat.reduceSub, Int.reduceToNat, Int.reduceLE, Int.reduceLT, Int.reduceEq, Int.reduceNe, reduceCtorEq, Nat.reduceLT, Nat.reduceLeDiff]
        exact ⟨by omega, by rw [Wo.itoa_neg h0]⟩
      · have hd := dig1 (a := n.natAbs) (by omega)
        have e0 : ((n.natAbs : Nat) : Int) = n := by omega
        rw [e0] at hd
        simp only [A_ref01_Digits, go_sem, Nat.reduceMod, Nat.reduceBNe, Nat.reduceBEq, Nat.reduceEqDiff, Nat.reduceAdd, Int.reduceAdd, Nat.reduceMul, Nat.reduceSub, Int.reduceToNat, Int.reduceLE, Int.reduceLT, Int.reduceEq, Int.reduceNe, reduceCtorEq, Nat.reduceLT, Nat.reduceLeDiff, show ¬ 9 < n by omega, show ¬ n < -9 by omega, h0]
        rw [wi64 (n := 48 + n) (by omega), hd]
        have := bs_1 .ex (UInt8.ofNat (48 + n.natAbs))
        simp only [u8] at this ⊢
        simp only [this, go_sem, Nat.reduceMod, Nat.reduceBNe, Nat.reduceBEq, Nat.reduceEqDiff, Nat.reduceAdd, Int.reduceAdd, Nat.reduceMul, Nat.reduceSub, Int.reduceToNat, Int.reduceLE, Int.reduceLT, Int.reduceEq, Int.reduceNe, reduceCtorEq, Nat.reduceLT, Nat.reduceLeDiff]
        rw [Wo.itoa_one (by omega) (by omega)]
theorem ev_letter (c : UInt8) : Ev X F_ref14_letter [u8 c] (.bool (ltr c)) := by
  refine ev_of_wpc hs (A_ref14_letter_ok hX) 0 ?_
  have h1 : ((97 : Int) ≤ (c.toNat : Int)) ↔ 97 ≤ c.toNat := by omega
  have h2 : ((c.toNat : Int) ≤ 122) ↔ c.toNat ≤ 122 := by omega
  by_cases c1 : 97 ≤ c.toNat <;> by_cases c2 : c.toNat ≤ 122 <;> simp only [A_ref14_letter, u8, go_sem, Nat.reduceMod, Nat.reduceBNe, Nat.reduceBEq, Nat.reduceEqDiff, Nat.reduceAdd, Int.reduceAdd, Nat.reduceMul, Nat.reduceSub, Int.reduceToNat, Int.reduceLE, Int.reduceLT, Int.reduceEq, Int.reduceNe, reduceCtorEq, Nat.reduceLT, Nat.reduceLeDiff, h1, h2, c1, c2, ltr]
theorem ev_digit (c : UInt8) : Ev X F_ref14_digit [u8 c] (.bool (dg c)) := by
  refine ev_of_wpc hs (A_ref14_digit_ok hX) 0 ?_
  have h1 : ((48 : Int) ≤ (c.toNat : Int)) ↔ 48 ≤ c.toNat := by omega
  have h2 : ((c.toNat : Int) ≤ 57) ↔ c.toNat ≤ 57 := by omega
  by_cases c1 : 48 ≤ c.toNat <;> by_cases c2 : c.toNat ≤ 57 <;> simp only [A_ref14_digit, u8, go_sem, Nat.reduceMod, Nat.reduceBNe, Nat.reduceBEq, Nat.reduceEqDiff, Nat.reduceAdd, Int.reduceAdd, Nat.reduceMul, Nat.reduceSub, Int.reduceToNat, Int.reduceLE, Int.reduceLT, Int.reduceEq, Int.reduceNe, reduceCtorEq, Nat.reduceLT, Nat.reduceLeDiff, h1, h2, c1, c2, dg]
def mkL : List (List UInt8) := [[40], [41], [91], [93], [60, 45], [61]]
theorem ev_mark14 (k : Int) (hk : 4 ≤ k ∧ k ≤ 9) : Ev X F_ref14_mark [.int .i64 k] (.str (mk k)) := by
  refine ev_of_wpc hs (A_ref14_mark_ok hX) 0 ?_
  have hm : AV.sl .ex [.str [40], .str [41], .str [91], .str [93], .str [60, 45], .str [61]] = lst AV.str .ex mkL := rfl
  have hw : IntKind.i64.wrap (k - 4) = k - 4 := wi64 (by omega)
  have hl : mkL.length = 6 := rfl
  simp only [A_ref14_mark, go_sem, Nat.reduceMod, Nat.reduceBNe, Nat.reduceBEq, Nat.reduceEqDiff, Nat.reduceAdd, Int.reduceAdd, Nat.reduceMul, Nat.reduceSub, Int.reduceToNat, Int.reduceLE, Int.reduceLT, Int.reduceEq, Int.reduceNe, reduceCtorEq, Nat.reduceLT, Nat.reduceLeDiff, hm, hw, hl]
  refine ⟨⟨by omega, by omega⟩, ?_⟩
  rcases (by omega : k = 4 ∨ k = 5 ∨ k = 6 ∨ k = 7 ∨ k = 8 ∨ k = 9) with rfl | rfl | rfl | rfl | rfl | rfl <;> rfl
theorem ev_named (s : List UInt8) (hl : s.length < 1000000) : Ev X F_ref14_named [.str s] (.bool (nmd s)) := by
  refine ev_of_wpc hs (A_ref14_named_ok hX) 0 ?_
  by_cases h0 : s = []
  · subst h0
    simp only [A_ref14_named, go_sem, Nat.reduceMod, Nat.reduceBNe, Nat.reduceBEq, Nat.reduceEqDiff, Nat.reduceAdd, Int.reduceAdd, Nat.reduceMul, Nat.reduceSub, Int.reduceToNat, Int.reduceLE, Int.reduceLT, Int.reduceEq, Int.reduceNe, reduceCtorEq, Nat.reduceLT, Nat.reduceLeDiff]
    rfl
  have hpos : 0 < s.length := List.length_pos_iff.2 h0
  have all_no : ∀ i, i < s.length → al (s.getD i 0) = false → nmd s = false := fun i hi ha => by
    unfold nmd
    have : s.all al = false := by
      rw [List.all_eq_false]
      refine ⟨s.getD i 0, ?_, by rw [ha]; decide⟩
      rw [List.getD_eq_getElem?_getD, List.getElem?_eq_getElem hi]
      exact List.getElem_mem hi
    rw [this, Bool.and_false]
  simp only [A_ref14_named, go_sem, Nat.reduceMod, Nat.reduceBNe, Nat.reduceBEq, Nat.reduceEqDiff, Nat.reduceAdd, Int.reduceAdd, Nat.reduceMul, Nat.reduceSub, Int.reduceToNat, Int.reduceLE, Int.reduceLT, Int.reduceEq, Int.reduceNe, reduceCtorEq, Nat.reduceLT, Nat.reduceLeDiff, h0]
  refine ⟨by omega, call_ev (ev_letter hX hs (s.getD 0 0)) ?_⟩
  cases hlt : ltr (s.getD 0 0) with
  | false =>
    simp only [go_sem, Nat.reduceMod, Nat.reduceBNe, Nat.reduceBEq, Nat.reduceEqDiff, Nat.reduceAdd, Int.reduceAdd, Nat.reduceMul, Nat.reduceSub, Int.reduceToNat, Int.reduceLE, Int.reduceLT, Int.reduceEq, Int.reduceNe, reduceCtorEq, Nat.reduceLT, Nat.reduceLeDiff]
    unfold nmd
    rw [hlt]; rfl
  | true =>
    simp only [go_sem, Nat.reduceMod, Nat.reduceBNe, Nat.reduceBEq, Nat.reduceEqDiff, Nat.reduceAdd, Int.reduceAdd, Nat.reduceMul, Nat.reduceSub, Int.reduceToNat, Int.reduceLE, Int.reduceLT, Int.reduceEq, Int.reduceNe, reduceCtorEq, Nat.reduceLT, Nat.reduceLeDiff]
    refine w_loop' hs.hm (ι := Nat) (fun i => i ≤ s.length ∧ ∀ j, j < i → al (s.getD j 0) = true) (fun i => [(3, .int .i64 i), (0, .str s)]) (fun _ => []) (fun i => s.length - i) 0 ?_ fun i hx => ?_
    · simp only [go_sem, Nat.reduceMod, Nat.reduceBNe, Nat.reduceBEq, Nat.reduceEqDiff, Nat.reduceAdd, Int.reduceAdd, Nat.reduceMul, Nat.reduceSub, Int.reduceToNat, Int.reduceLE, Int.reduceLT, Int.reduceEq, Int.reduceNe, reduceCtorEq, Nat.reduceLT, Nat.reduceLeDiff]
      exact ⟨Nat.zero_le _, fun j hj => absurd hj (Nat.not_lt_zero _)⟩
    obtain ⟨x1, x2⟩ := hx
    by_cases hi : i < s.length
    · have hi' : (i : Int) < s.length := by omega
      have hw : IntKind.i64.wrap ((i : Int) + 1) = ((i + 1 : Nat) : Int) := by rw [wi64 (by omega)]; omega
      have hno := all_no i hi
      have nextI : al (s.getD i 0) = true → ∃ j, s.length - j < s.length - i ∧ (j ≤ s.length ∧ ∀ k, k < j → al (s.getD k 0) = true) ∧ AV.int IntKind.i64 ((i + 1 : Nat) : Int) = AV.int IntKind.i64 (j : Nat) := fun h => by
        refine ⟨i + 1, by omega, ⟨hi, fun k hk => ?_⟩, rfl⟩
        rcases (by omega : k = i ∨ k < i) with rfl | h2
        · exact h
        · exact x2 k h2
      simp only [A_ref14_namedL0, go_sem, Nat.reduceMod, Nat.reduceBNe, Nat.reduceBEq, Nat.reduceEqDiff, Nat.reduceAdd, Int.reduceAdd, Nat.reduceMul, Nat.reduceSub, Int.reduceToNat, Int.reduceLE, Int.reduceLT, Int.reduceEq, Int.reduceNe, reduceCtorEq, Nat.reduceLT, Nat.reduceLeDiff, hi']
      refine ⟨by omega, call_ev (ev_letter hX hs (s.getD i 0)) ?_⟩
      cases hc : ltr (s.getD i 0) with
      | true =>
        simp only [go_sem, Nat.reduceMod, Nat.reduceBNe, Nat.reduceBEq, Nat.reduceEqDiff, Nat.reduceAdd, Int.reduceAdd, Nat.reduceMul, Nat.reduceSub, Int.reduceToNat, Int.reduceLE, Int.reduceLT, Int.reduceEq, Int.reduceNe, reduceCtorEq, Nat.reduceLT, Nat.reduceLeDiff, hw]
        exact nextI (by unfold al; rw [hc, Bool.true_or])
      | false =>
        simp only [go_sem, Nat.reduceMod, Nat.reduceBNe, Nat.reduceBEq, Nat.reduceEqDiff, Nat.reduceAdd, Int.reduceAdd, Nat.reduceMul, Nat.reduceSub, Int.reduceToNat, Int.reduceLE, Int.reduceLT, Int.reduceEq, Int.reduceNe, reduceCtorEq, Nat.reduceLT, Nat.reduceLeDiff]
        refine ⟨by omega, call_ev (ev_digit hX hs (s.getD i 0)) ?_⟩
        cases hd : dg (s.getD i 0) with
        | true =>
          simp only [go_sem, Nat.reduceMod, Nat.reduceBNe, Nat.reduceBEq, Nat.reduceEqDiff, Nat.reduceAdd, Int.reduceAdd, Nat.reduceMul, Nat.reduceSub, Int.reduceToNat, Int.reduceLE, Int.reduceLT, Int.reduceEq, Int.reduceNe, reduceCtorEq, Nat.reduceLT, Nat.reduceLeDiff, hw]
          exact nextI (by unfold al; rw [hd, Bool.or_true])
        | false =>
          simp only [go_sem, Nat.reduceMod, Nat.reduceBNe, Nat.reduceBEq, Nat.reduceEqDiff, Nat.reduceAdd, Int.reduceAdd, Nat.reduceMul, Nat.reduceSub, Int.reduceToNat, Int.reduceLE, Int.reduceLT, Int.reduceEq, Int.reduceNe, reduceCtorEq, Nat.reduceLT, Nat.reduceLeDiff]
          rw [hno (by unfold al; rw [hc, hd]; rfl)]
    · have hi' : ¬ (i : Int) < s.length := by omega
      have ha : s.all al = true := by
        rw [List.all_eq_true]
        intro c hc
        obtain ⟨j, hj, rfl⟩ := List.getElem_of_mem hc
        have := x2 j (by omega)
        rw [List.getD_eq_getElem?_getD, List.getElem?_eq_getElem hj] at this
        exact this
      simp only [A_ref14_namedL0, go_sem, Nat.reduceMod, Nat.reduceBNe, Nat.reduceBEq, Nat.reduceEqDiff, Nat.reduceAdd, Int.reduceAdd, Nat.reduceMul, Nat.reduceSub, Int.reduceToNat, Int.reduceLE, Int.reduceLT, Int.reduceEq, Int.reduceNe, reduceCtorEq, Nat.reduceLT, Nat.reduceLeDiff, hi']
      unfold nmd
      rw [hlt, ha]; rfl
end
end Go.Avm

/- Check, joined, written, Print: the second writing. -/
namespace Go.Avm
open Go Go.Rn Go.Lx
set_option maxRecDepth 10000
section
variable {X : Cx} (hX : X.P = Go.Proofs.Tryz.prog) (hs : Std X)
include hX hs
set_option maxHeartbeats 2000000 in
theorem ev_rCheck (t : Tok) (a b : Int) (hl : t.s.length < 1000000) : Ev X F_ref14_Check [tkV t a b] (.int .i64 (chk t)) := by
  obtain ⟨k, n, s⟩ := t
  dsimp only at hl
  refine ev_of_wpc hs (A_ref14_Check_ok hX) 0 ?_
  by_cases hk1 : k < 1
  · have e : chk ⟨k, n, s⟩ = 2 := by unfold chk; rw [if_pos (.inl hk1)]
    rw [e]
    have k1 : ¬ k = 1 := by omega
    have k2 : ¬ k = 2 := by omega
    have k3 : ¬ k = 3 := by omega
    simp only [A_ref14_Check, tkV, go_sem, Nat.reduceMod, Nat.reduceBNe, Nat.reduceBEq, Nat.reduceEqDiff, Nat.reduceAdd, Int.reduceAdd, Nat.reduceMul, Nat.reduceSub, Int.reduceToNat, Int.reduceLE, Int.reduceLT, Int.reduceEq, Int.reduceNe, reduceCtorEq, Nat.reduceLT, Nat.reduceLeDiff, k1, k2, k3, hk1]
  by_cases hk9 : 9 < k
  · have e : chk ⟨k, n, s⟩ = 2 := by unfold chk; rw [if_pos (.inr (.inl hk9))]
    rw [e]
    have k1 : ¬ k = 1 := by omega
    have k2 : ¬ k = 2 := by omega
    have k3 : ¬ k = 3 := by omega
    simp only [A_ref14_Check, tkV, go_sem, Nat.reduceMod, Nat.reduceBNe, Nat.reduceBEq, Nat.reduceEqDiff, Nat.reduceAdd, Int.reduceAdd, Nat.reduceMul, Nat.reduceSub, Int.reduceToNat, Int.reduceLE, Int.reduceLT, Int.reduceEq, Int.reduceNe, reduceCtorEq, Nat.reduceLT, Nat.reduceLeDiff, k1, k2, k3, hk1, hk9]
  rcases (by omega : k = 1 ∨ k = 2 ∨ k = 3 ∨ k = 4 ∨ k = 5 ∨ k = 6 ∨ k = 7 ∨ k = 8 ∨ k = 9) with rfl | rfl | rfl | rfl | rfl | rfl | rfl | rfl | rfl
  · rw [chk_1]
    by_cases hn : n = 0
    · rw [if_neg (by simpa using hn)]
      simp only [A_ref14_Check, tkV, go_sem, Nat.reduceMod, Nat.reduceBNe, Nat.reduceBEq, Nat.reduceEqDiff, Nat.reduceAdd, Int.reduceAdd, Nat.reduceMul, Nat.reduceSub, Int.reduceToNat, Int.reduceLE, Int.reduceLT, Int.reduceEq, Int.reduceNe, reduceCtorEq, Nat.reduceLT, Nat.reduceLeDiff, hn]
      refine call_ev (ev_named hX hs s hl) ?_
      cases hv : nmd s with
      | true =>
        simp only [go_sem, Nat.reduceMod, Nat.reduceBNe, Nat.reduceBEq, Nat.reduceEqDiff, Nat.reduceAdd, Int.reduceAdd, Nat.reduceMul, Nat.reduceSub, Int.reduceToNat, Int.reduceLE, Int.reduceLT, Int.reduceEq, Int.reduceNe, reduceCtorEq, Nat.reduceLT, Nat.reduceLeDiff]
        refine ⟨fun h => ?_, fun h => ?_⟩
        · rw [if_pos (by omega)]
        · rw [if_neg (by omega)]
      | false =>
        simp only [go_sem, Nat.reduceMod, Nat.reduceBNe, Nat.reduceBEq, Nat.reduceEqDiff, Nat.reduceAdd, Int.reduceAdd, Nat.reduceMul, Nat.reduceSub, Int.reduceToNat, Int.reduceLE, Int.reduceLT, Int.reduceEq, Int.reduceNe, reduceCtorEq, Nat.reduceLT, Nat.reduceLeDiff]
    · rw [if_pos hn]
      simp only [A_ref14_Check, tkV, go_sem, Nat.reduceMod, Nat.reduceBNe, Nat.reduceBEq, Nat.reduceEqDiff, Nat.reduceAdd, Int.reduceAdd, Nat.reduceMul, Nat.reduceSub, Int.reduceToNat, Int.reduceLE, Int.reduceLT, Int.reduceEq, Int.reduceNe, reduceCtorEq, Nat.reduceLT, Nat.reduceLeDiff, hn]
  · rw [chk_2]
    by_cases hs0 : s = [] <;> simp only [A_ref14_Check, tkV, go_sem, Nat.reduceMod, Nat.reduceBNe, Nat.reduceBEq, Nat.reduceEqDiff, Nat.reduceAdd, Int.reduceAdd, Nat.reduceMul, Nat.reduceSub, Int.reduceToNat, Int.reduceLE, Int.reduceLT, Int.reduceEq, Int.reduceNe, reduceCtorEq, Nat.reduceLT, Nat.reduceLeDiff, hs0]
  · rw [chk_3]
    by_cases hn : n = 0
    · rw [if_neg (by simpa using hn)]
      simp only [A_ref14_Check, tkV, go_sem, Nat.reduceMod, Nat.reduceBNe, Nat.reduceBEq, Nat.reduceEqDiff, Nat.reduceAdd, Int.reduceAdd, Nat.reduceMul, Nat.reduceSub, Int.reduceToNat, Int.reduceLE, Int.reduceLT, Int.reduceEq, Int.reduceNe, reduceCtorEq, Nat.reduceLT, Nat.reduceLeDiff, hn]
      refine call_ev (ev_runes hX hs s hl) ?_
      unfold rnsV
      cases hv : okT s with
      | true =>
        simp only [go_sem, Nat.reduceMod, Nat.reduceBNe, Nat.reduceBEq, Nat.reduceEqDiff, Nat.reduceAdd, Int.reduceAdd, Nat.reduceMul, Nat.reduceSub, Int.reduceToNat, Int.reduceLE, Int.reduceLT, Int.reduceEq, Int.reduceNe, reduceCtorEq, Nat.reduceLT, Nat.reduceLeDiff]
        refine ⟨fun h => ?_, fun h => ?_⟩
        · rw [if_pos (by omega)]
        · rw [if_neg (by omega)]
      | false =>
        simp only [go_sem, Nat.reduceMod, Nat.reduceBNe, Nat.reduceBEq, Nat.reduceEqDiff, Nat.reduceAdd, Int.reduceAdd, Nat.reduceMul, Nat.reduceSub, Int.reduceToNat, Int.reduceLE, Int.reduceLT, Int.reduceEq, Int.reduceNe, reduceCtorEq, Nat.reduceLT, Nat.reduceLeDiff]
    · rw [if_pos hn]
      simp only [A_ref14_Check, tkV, go_sem, Nat.reduceMod, Nat.reduceBNe, Nat.reduceBEq, Nat.reduceEqDiff, Nat.reduceAdd, Int.reduceAdd, Nat.reduceMul, Nat.reduceSub, Int.reduceToNat, Int.reduceLE, Int.reduceLT, Int.reduceEq, Int.reduceNe, reduceCtorEq, Nat.reduceLT, Nat.reduceLeDiff, hn]
  all_goals
    rw [chk_k (by decide)]
    by_cases hn : n = 0 <;> by_cases hs0 : s = [] <;> simp only [A_ref14_Check, tkV, go_sem, Nat.reduceMod, Nat.reduceBNe, Nat.reduceBEq, Nat.reduceEqDiff, Nat.reduceAdd, Int.reduceAdd, Nat.reduceMul, Nat.reduceSub, Int.reduceToNat, Int.reduceLE, Int.reduceLT, Int.reduceEq, Int.reduceNe, reduceCtorEq, Nat.reduceLT, Nat.reduceLeDiff, hn, hs0, and_self, if_false, if_true]
set_option maxHeartbeats 2000000 in
theorem ev_joined (x y : TT) : Ev X F_ref14_joined [itV x, itV y] (.bool (isOp x.1 || isCl y.1)) := by
  obtain ⟨⟨k, n, s⟩, a, b⟩ := x
  obtain ⟨⟨k', n', s'⟩, a', b'⟩ := y
  refine ev_of_wpc hs (A_ref14_joined_ok hX) 0 ?_
  by_cases k4 : k = 4 <;> by_cases k6 : k = 6 <;> by_cases k5 : k' = 5 <;> by_cases k7 : k' = 7 <;> simp only [A_ref14_joined, itV, tkV, go_sem, Nat.reduceMod, Nat.reduceBNe, Nat.reduceBEq, Nat.reduceEqDiff, Nat.reduceAdd, Int.reduceAdd, Nat.reduceMul, Nat.reduceSub, Int.reduceToNat, Int.reduceLE, Int.reduceLT, Int.reduceEq, Int.reduceNe, reduceCtorEq, Nat.reduceLT, Nat.reduceLeDiff, k4, k5, k6, k7, isOp, isCl]
theorem ev_rwritten (t : Tok) (a b : Int) (hk : 1 ≤ t.kind ∧ t.kind ≤ 9) (hn : I64 t.n) (ht : t.kind = 3 → okT t.s = true) (hl : t.s.length < 1000000) : Ev X F_ref14_written [tkV t a b] (.str (wr t)) := by
  obtain ⟨k, n, s⟩ := t
  dsimp only at hk hn ht hl
  refine ev_of_wpc hs (A_ref14_written_ok hX) 0 ?_
  rcases (by omega : k = 1 ∨ k = 2 ∨ k = 3 ∨ k = 4 ∨ k = 5 ∨ k = 6 ∨ k = 7 ∨ k = 8 ∨ k = 9) with rfl | rfl | rfl | rfl | rfl | rfl | rfl | rfl | rfl
  · simp only [A_ref14_written, tkV, go_sem, Nat.reduceMod, Nat.reduceBNe, Nat.reduceBEq, Nat.reduceEqDiff, Nat.reduceAdd, Int.reduceAdd, Nat.reduceMul, Nat.reduceSub, Int.reduceToNat, Int.reduceLE, Int.reduceLT, Int.reduceEq, Int.reduceNe, reduceCtorEq, Nat.reduceLT, Nat.reduceLeDiff]
    rfl
  · simp only [A_ref14_written, tkV, go_sem, Nat.reduceMod, Nat.reduceBNe, Nat.reduceBEq, Nat.reduceEqDiff, Nat.reduceAdd, Int.reduceAdd, Nat.reduceMul, Nat.reduceSub, Int.reduceToNat, Int.reduceLE, Int.reduceLT, Int.reduceEq, Int.reduceNe, reduceCtorEq, Nat.reduceLT, Nat.reduceLeDiff]
    refine call_ev (ev_rDigits hX hs n hn) ?_
    simp only [go_sem, Nat.reduceMod, Nat.reduceBNe, Nat.reduceBEq, Nat.reduceEqDiff, Nat.reduceAdd, Int.reduceAdd, Nat.reduceMul, Nat.reduceSub, Int.reduceToNat, Int.reduceLE, Int.reduceLT, Int.reduceEq, Int.reduceNe, reduceCtorEq, Nat.reduceLT, Nat.reduceLeDiff]
    rfl
  · simp only [A_ref14_written, tkV, go_sem, Nat.reduceMod, Nat.reduceBNe, Nat.reduceBEq, Nat.reduceEqDiff, Nat.reduceAdd, Int.reduceAdd, Nat.reduceMul, Nat.reduceSub, Int.reduceToNat, Int.reduceLE, Int.reduceLT, Int.reduceEq, Int.reduceNe, reduceCtorEq, Nat.reduceLT, Nat.reduceLeDiff]
    refine call_ev (ev_runes hX hs s hl) ?_
    unfold rnsV
    rw [if_pos (ht rfl)]
    simp only [go_sem, Nat.reduceMod, Nat.reduceBNe, Nat.reduceBEq, Nat.reduceEqDiff, Nat.reduceAdd, Int.reduceAdd, Nat.reduceMul, Nat.reduceSub, Int.reduceToNat, Int.reduceLE, Int.reduceLT, Int.reduceEq, Int.reduceNe, reduceCtorEq, Nat.reduceLT, Nat.reduceLeDiff]
    refine call_ev (ev_rquoted hX hs (runeL s) (runeL_valid s) (Nat.lt_of_le_of_lt (runeL_len s) hl)) ?_
    simp only [go_sem, Nat.reduceMod, Nat.reduceBNe, Nat.reduceBEq, Nat.reduceEqDiff, Nat.reduceAdd, Int.reduceAdd, Nat.reduceMul, Nat.reduceSub, Int.reduceToNat, Int.reduceLE, Int.reduceLT, Int.reduceEq, Int.reduceNe, reduceCtorEq, Nat.reduceLT, Nat.reduceLeDiff]
    rfl
  all_goals
    simp only [A_ref14_written, tkV, go_sem, Nat.reduceMod, Nat.reduceBNe, Nat.reduceBEq, Nat.reduceEqDiff, Nat.reduceAdd, Int.reduceAdd, Nat.reduceMul, Nat.reduceSub, Int.reduceToNat, Int.reduceLE, Int.reduceLT, Int.reduceEq, Int.reduceNe, reduceCtorEq, Nat.reduceLT, Nat.reduceLeDiff]
    refine call_ev (ev_mark14 hX hs _ (by decide)) ?_
    simp only [go_sem, Nat.reduceMod, Nat.reduceBNe, Nat.reduceBEq, Nat.reduceEqDiff, Nat.reduceAdd, Int.reduceAdd, Nat.reduceMul, Nat.reduceSub, Int.reduceToNat, Int.reduceLE, Int.reduceLT, Int.reduceEq, Int.reduceNe, reduceCtorEq, Nat.reduceLT, Nat.reduceLeDiff]
    rfl
end
end Go.Avm
