/- Quoted forms, as the second writing makes them. -/
import Derived.Test.YtcldomkahgaplaaGreatDoorAR4
import Derived.Test.YtcldomkahgaplaaGreatDoorML2
import Derived.Test.YtcldomkahgaplaaGreatDoorAR1
import Derived.Test.YtcldomkahgaplaaGreatDoorAJ
import Derived.Test.YtcldomkahgaplaaGreatDoorM2
set_option linter.all false
namespace Go.Avm
open Go Go.Rn Go.Lx
set_option maxRecDepth 10000
def rnsV (s : List UInt8) : AV := if okT s then .tuple [lst (AV.int .i64) .ro (runeL s), .bool true] else .tuple [.sl .ro [], .bool false]
def RI (s : List UInt8) (x : QS) : Prop := x.q ≤ s.length ∧ runeL s = x.pre ++ runeL (s.drop x.q) ∧ okT (s.drop x.q) = okT s ∧ x.pre.length ≤ x.q
section
variable {X : Cx} (hX : X.P = Go.Proofs.Tryz.prog) (hs : Std X)
include hX hs
set_option maxHeartbeats 1000000 in
theorem ev_runes (s : List UInt8) (hl : s.length < 1000000) : Ev X F_ref14_runes [.str s] (rnsV s) := by
  refine ev_of_wpcDd hs (A_ref14_runes_ok hX) 0 ?_
  simp only [A_ref14_runes, go_sem]
  refine w_loop hs.hm (ι := QS) (RI s) (fun x => [(5, .int .i64 x.q), (4, lst (AV.int .i64) (.tok 1 1) x.pre), (0, .str s)]) (fun x => [.dead, .tok x.pre.length]) (fun x => s.length - x.q) ⟨0, []⟩ ⟨⟨Nat.zero_le _, rfl, rfl, Nat.le_refl _⟩, _, _, wk_tok 4 1 rfl, ⟨by simp only [go_sem, Nat.reduceEqDiff, reduceCtorEq]; rfl, rfl⟩⟩ fun x hx => ?_
  obtain ⟨q, pre⟩ := x
  obtain ⟨x1, x2, x3, x4⟩ := hx
  dsimp only at x1 x2 x3 x4 ⊢
  by_cases hq : q < s.length
  · have hq' : (q : Int) < s.length := by omega
    simp only [A_ref14_runesL0, go_sem, Nat.reduceEqDiff, reduceCtorEq, hq']
    refine ⟨by omega, call_ev (ev_refDecode hX hs s q hq (by omega)) ?_⟩
    unfold dcv
    have hne : s.drop q ≠ [] := fun e => by have := congrArg List.length e; rw [List.length_drop] at this; simp at this; omega
    cases hd : dcO (s.drop q) with
    | none =>
      have hf := okT_none hd hne
      rw [x3] at hf
      have hft : ¬ (if more (s.drop q) = true then (370 : Int) else 6) = 0 := by split <;> decide
      simp only [go_sem, Nat.reduceEqDiff, Nat.reduceAdd, reduceCtorEq, Nat.reduceLT, hft]
      unfold rnsV
      rw [hf]; rfl
    | some y =>
      obtain ⟨r, n⟩ := y
      have hr := dec_rng' hd
      rw [List.length_drop] at hr
      have hw : IntKind.i64.wrap ((q : Int) + n) = ((q + n : Nat) : Int) := by rw [wi64 (by omega)]; omega
      simp only [go_sem, Nat.reduceEqDiff, Nat.reduceAdd, reduceCtorEq, Nat.reduceLT, Nat.reduceLeDiff, hw]
      refine ⟨⟨by omega, by omega⟩, ⟨q + n, pre ++ [r]⟩, by dsimp only; omega, ⟨by dsimp only; omega, ?_, ?_, by dsimp only; rw [List.length_append, List.length_singleton]; omega⟩, ⟨rfl, rfl⟩, by dsimp only; rw [List.length_append, List.length_singleton]⟩
      · dsimp only
        rw [x2, runeL_some hd, List.drop_drop, List.append_assoc]; rfl
      · dsimp only
        rw [← x3, okT_some hd, List.drop_drop]
  · have hq' : ¬ (q : Int) < s.length := by omega
    simp only [A_ref14_runesL0, go_sem, Nat.reduceEqDiff, reduceCtorEq, hq']
    have hok : okT s = true := by rw [← x3, List.drop_eq_nil_of_le (by omega)]; rfl
    have hrl : runeL s = pre := by rw [x2, List.drop_eq_nil_of_le (by omega), runeL_nil, List.append_nil]
    unfold rnsV
    rw [if_pos hok, hrl]; rfl
theorem ev_code (n : Nat) (hn : n < 9223372036854775808) : Ev X F_ref14_code [.int .i64 (n : Nat)] (.str (Lx.hexs n)) := by
  induction n using Nat.strongRecOn with
  | _ n ih =>
    refine ev_of_wpc hs (A_ref14_code_ok hX) 0 ?_
    have hm : (n : Int).tmod 16 = ((n % 16 : Nat) : Int) := by rw [Int.tmod_eq_emod_of_nonneg (by omega)]; omega
    have hd : (n : Int).tdiv 16 = ((n / 16 : Nat) : Int) := by rw [Int.tdiv_eq_ediv_of_nonneg (by omega)]; omega
    have w1 : IntKind.i64.wrap (((n % 16 : Nat) : Int) + 1) = ((n % 16 + 1 : Nat) : Int) := by rw [wi64 (by omega)]; omega
    have w2 : IntKind.i64.wrap ((n / 16 : Nat) : Int) = ((n / 16 : Nat) : Int) := wi64 (by omega)
    have hdg : ∀ k, k < 16 → (48 :: ([49, 50, 51, 52, 53, 54, 55, 56, 57, 97, 98, 99, 100, 101, 102] : List UInt8).take k).drop k = [Wo.hexd k] := by decide
    have hk := hdg (n % 16) (Nat.mod_lt _ (by decide))
    simp only [A_ref14_code, go_sem, Nat.reduceEqDiff, Nat.reduceAdd, Int.reduceNe, reduceCtorEq, hm, hd, w1, w2, Int.toNat_natCast, hk]
    refine ⟨⟨⟨⟨by omega, by omega⟩, by omega⟩, by omega⟩, fun h => ?_, fun h => ?_⟩
    · rw [hexs_small (by omega), Nat.mod_eq_of_lt (by omega)]
    · refine call_ev (ih (n / 16) (by omega) (by omega)) ?_
      have e := hexs_big (n := n) (by omega)
      have hln := hexs_len 15 (n / 16) (by omega)
      simp only [go_sem, Nat.reduceEqDiff, reduceCtorEq, Nat.reduceLeDiff]
      rw [e]
      exact ⟨by omega, rfl⟩
omit hX hs in
theorem flat_lenT {l : List Int} (hv : ∀ r ∈ l, valid r = true) (i : Nat) : ((l.take i).flatMap escR).length ≤ 9 * i := by
  have := flat_len (l.take i) fun r hr => hv r (List.mem_of_mem_take hr)
  rw [List.length_take] at this
  omega
def qS (l : List Int) (i : Nat) : List UInt8 := 34 :: (l.take i).flatMap escR
omit hX hs in
theorem qS_len {l : List Int} (hv : ∀ r ∈ l, valid r = true) {i : Nat} (hi : i ≤ l.length) : (qS l i).length ≤ 1 + 9 * l.length := by
  have := flat_lenT hv i
  unfold qS
  rw [List.length_cons]; omega
set_option maxHeartbeats 1000000 in
theorem ev_rquoted (l : List Int) (hv : ∀ r ∈ l, valid r = true) (hl : l.length < 1000000) : Ev X F_ref14_quoted [lst (AV.int .i64) .ro l] (.str (34 :: (l.flatMap escR ++ [34]))) := by
  refine ev_of_wpc hs (A_ref14_quoted_ok hX) 0 ?_
  simp only [A_ref14_quoted, go_sem]
  refine w_loop' hs.hm (ι := Nat) (fun i => i ≤ l.length) (fun i => [(4, .int .i64 i), (3, .str (qS l i)), (0, lst (AV.int .i64) .ro l)]) (fun _ => []) (fun i => l.length - i) 0 ?_ fun i hi => ?_
  · simp only [go_sem, Nat.reduceEqDiff, reduceCtorEq]
    exact ⟨Nat.zero_le _, rfl⟩
  by_cases hi2 : i < l.length
  · have hi' : (i : Int) < l.length := by omega
    have hw : IntKind.i64.wrap ((i : Int) + 1) = ((i + 1 : Nat) : Int) := by rw [wi64 (by omega)]; omega
    have hst : qS l (i + 1) = qS l i ++ escR (l.getD i 0) := by
      unfold qS
      rw [List.take_succ_eq_append_getElem hi2, List.flatMap_append, List.getD_eq_getElem?_getD, List.getElem?_eq_getElem hi2]
      simp
    have hvr : valid (l.getD i 0) = true := hv _ (by rw [List.getD_eq_getElem?_getD, List.getElem?_eq_getElem hi2]; exact List.getElem_mem hi2)
    have hgd : l.getD i default = l.getD i 0 := rfl
    simp only [A_ref14_quotedL0, go_sem, Nat.reduceEqDiff, Nat.reduceAdd, reduceCtorEq, Nat.reduceLT, Nat.reduceLeDiff, hi', hw, hgd]
    generalize l.getD i 0 = r at hst hvr
    have hr := valid_rng hvr
    have hq := qS_len hv hi
    have fin : ∀ bs, bs = qS l i ++ escR r → ∃ j, l.length - j < l.length - i ∧ j ≤ l.length ∧ AV.int IntKind.i64 ((i + 1 : Nat) : Int) = AV.int IntKind.i64 (j : Nat) ∧ AV.str bs = AV.str (qS l j) := fun bs hb => ⟨i + 1, by omega, hi2, rfl, by rw [hst, hb]⟩
    have cr : Ev X F_ref14_code [.int .i64 r] (.str (Lx.hexs r.toNat)) := by
      have := ev_code hX hs r.toNat (by omega)
      rwa [show ((r.toNat : Nat) : Int) = r by omega] at this
    have hln := hexs_len 5 r.toNat (by rw [show (16 : Nat) ^ (5 + 1) = 16777216 by rfl]; omega)
    have tl : escR r = 92 :: 117 :: (Lx.hexs r.toNat ++ [59]) → (qS l i ++ [92, 117]).length + (Lx.hexs r.toNat).length ≤ 9223372036854775807 ∧ (qS l i ++ [92, 117] ++ Lx.hexs r.toNat).length ≤ 9223372036854775806 ∧ ∃ j, l.length - j < l.length - i ∧ j ≤ l.length ∧ AV.int IntKind.i64 ((i + 1 : Nat) : Int) = AV.int IntKind.i64 (j : Nat) ∧ AV.str (qS l i ++ [92, 117] ++ Lx.hexs r.toNat ++ [59]) = AV.str (qS l j) := fun e => by
      refine ⟨by simp only [List.length_append, List.length_cons, List.length_nil]; omega, by simp only [List.length_append, List.length_cons, List.length_nil]; omega, fin _ ?_⟩
      rw [e]; simp
    by_cases hsm : r < 256
    · have hwu : IntKind.u8.wrap r = r := wu8 (by omega)
      have hbs : b2sX (.sl .ex [.int .u8 r]) = some (true, .str [byteI r], none) := by
        have e : (AV.sl .ex [.int .u8 r]) = lst u8 .ex [byteI r] := by
          simp only [lst, List.map_cons, List.map_nil, u8, byteI_toNat (show 0 ≤ r ∧ r < 256 by omega)]
        rw [e, bs_l]
      have hl9 : (qS l i ++ [92]).length ≤ 10000000 := by rw [List.length_append, List.length_singleton]; omega
      by_cases c34 : r = 34
      · subst c34
        simp only [go_sem, Nat.reduceEqDiff, Int.reduceLE, Int.reduceEq, reduceCtorEq, Nat.reduceLeDiff, hwu, hbs, hw]
        exact ⟨by omega, by omega, by omega, fin _ (by rw [List.append_assoc]; rfl)⟩
      by_cases c92 : r = 92
      · subst c92
        simp only [go_sem, Nat.reduceEqDiff, Int.reduceLE, Int.reduceEq, reduceCtorEq, Nat.reduceLeDiff, hwu, hbs, hw]
        exact ⟨by omega, by omega, by omega, fin _ (by rw [List.append_assoc]; rfl)⟩
      by_cases c10 : r = 10
      · subst c10
        simp only [go_sem, Int.reduceLE, Int.reduceEq]
        exact ⟨by omega, by omega, fin _ rfl⟩
      have n1 : ¬ (r = 34 ∨ r = 92) := fun e => e.elim c34 c92
      by_cases c32 : 32 ≤ r
      · by_cases c126 : r ≤ 126
        · have e : escR r = [byteI r] := by unfold escR; rw [if_neg n1, if_neg c10, if_pos ⟨c32, c126⟩, enc_small (by omega)]
          simp only [go_sem, Nat.reduceEqDiff, reduceCtorEq, Nat.reduceLeDiff, c34, c92, c10, c32, c126, hwu, hbs, hw]
          exact ⟨by omega, by omega, fin _ (by rw [e])⟩
        · have e : escR r = 92 :: 117 :: (Lx.hexs r.toNat ++ [59]) := by unfold escR; rw [if_neg n1, if_neg c10, if_neg (fun h => c126 h.2)]
          simp only [go_sem, c34, c92, c10, c32, c126]
          refine ⟨by omega, by omega, call_ev cr ?_⟩
          simp only [go_sem, Nat.reduceEqDiff, reduceCtorEq, Nat.reduceLeDiff, hw]
          exact tl e
      · have e : escR r = 92 :: 117 :: (Lx.hexs r.toNat ++ [59]) := by unfold escR; rw [if_neg n1, if_neg c10, if_neg (fun h => c32 h.1)]
        simp only [go_sem, c34, c92, c10, c32]
        refine ⟨by omega, by omega, call_ev cr ?_⟩
        simp only [go_sem, Nat.reduceEqDiff, reduceCtorEq, Nat.reduceLeDiff, hw]
        exact tl e
    · have c34 : ¬ r = 34 := by omega
      have c92 : ¬ r = 92 := by omega
      have c10 : ¬ r = 10 := by omega
      have c32 : 32 ≤ r := by omega
      have c126 : ¬ r ≤ 126 := by omega
      have n1 : ¬ (r = 34 ∨ r = 92) := fun e => e.elim c34 c92
      have e : escR r = 92 :: 117 :: (Lx.hexs r.toNat ++ [59]) := by unfold escR; rw [if_neg n1, if_neg c10, if_neg (fun h => c126 h.2)]
      simp only [go_sem, c34, c92, c10, c32, c126]
      refine ⟨by omega, by omega, call_ev cr ?_⟩
      simp only [go_sem, Nat.reduceEqDiff, reduceCtorEq, Nat.reduceLeDiff, hw]
      exact tl e
  · have hi' : ¬ (i : Int) < l.length := by omega
    have e : qS l i ++ [34] = 34 :: (l.flatMap escR ++ [34]) := by
      unfold qS; rw [List.take_of_length_le (by omega)]; rfl
    have hq := qS_len hv hi
    simp only [A_ref14_quotedL0, go_sem, Nat.reduceEqDiff, reduceCtorEq, Nat.reduceLeDiff, hi', e]
    omega
theorem ev_rQuote (s : List UInt8) (hl : s.length < 1000000) : Ev X F_ref14_Quote [.str s] (if 2000 < s.length then .tuple [.str [], .int .i64 3] else if okT s = false then .tuple [.str [], .int .i64 6] else .tuple [.str (qt s), .int .i64 0]) := by
  refine ev_of_wpc hs (A_ref14_Quote_ok hX) 0 ?_
  simp only [A_ref14_Quote, go_sem, Nat.reduceEqDiff, reduceCtorEq]
  refine ⟨fun h => by rw [if_pos (by omega)], fun h => ?_⟩
  rw [if_neg (by omega)]
  refine call_ev (ev_runes hX hs s hl) ?_
  unfold rnsV
  cases hv : okT s with
  | true =>
    simp only [go_sem, Nat.reduceEqDiff, Nat.reduceAdd, reduceCtorEq, Nat.reduceLT]
    refine call_ev (ev_rquoted hX hs (runeL s) (runeL_valid s) (Nat.lt_of_le_of_lt (runeL_len s) hl)) ?_
    simp only [go_sem, Nat.reduceEqDiff, reduceCtorEq]
    rfl
  | false =>
    simp only [go_sem, Nat.reduceEqDiff, Nat.reduceAdd, reduceCtorEq, Nat.reduceLT]
end
end Go.Avm
namespace Go.Avm
open Go Go.Fm Go.Rn Go.Lx
set_option maxRecDepth 10000
theorem nums_take {l : List Int} {i : Nat} (h : i < l.length) : nums (l.take (i + 1)) = (if 0 < i then nums (l.take i) ++ [32] else nums (l.take i)) ++ Lib.itoa (l.getD i 0) := by
 have h1 := Fm.join_take (l := l.map Lib.itoa) (i := i) (by rw [List.length_map]; exact h) [32]
 unfold nums
 rw [List.map_take, List.map_take, h1]
 congr 1
 rw [List.getD_eq_getElem?_getD, List.getElem?_map, List.getElem?_eq_getElem h, List.getD_eq_getElem?_getD, List.getElem?_eq_getElem h]
 rfl
section
variable {X : Cx} (hX : X.P = Go.Proofs.Tryz.prog) (hs : Std X)
include hX hs
theorem ev_r33numbers (l : List Int) (hv : R64 l) (hl : l.length < 1000000) : Ev X F_ref33_numbers [lst (AV.int .i64) .ro l] (.str (nums l)) := by
 refine ev_of_wpc hs (A_ref33_numbers_ok hX) 0 ?_
 simp only [A_ref33_numbers, go_sem]
 refine w_loop' hs.hm (ι := Nat) (fun i => i ≤ l.length) (fun i => [(4, .int .i64 i), (0, lst (AV.int .i64) .ro l), (3, .str (nums (l.take i)))]) (fun _ => []) (fun i => l.length - i) 0 ⟨Nat.zero_le _, ⟨rfl, rfl, rfl, trivial⟩, rfl⟩ fun i hi => ?_
 by_cases hi' : i < l.length
 ·have h1 : (i : Int) < l.length := by omega
  have hw : IntKind.i64.wrap ((i : Int) + 1) = ((i + 1 : Nat) : Int) := by rw [wi64 (by omega)]; omega
  have hr := hv (l.getD i 0) (by rw [List.getD_eq_getElem?_getD, List.getElem?_eq_getElem hi']; exact List.getElem_mem _)
  have hi21 := Lib.itoa_length_le _ hr.1 hr.2
  have hnl := nums_len (l := l.take i) fun v h => hv v (List.mem_of_mem_take h)
  rw [List.length_take] at hnl
  have ent := nums_take hi'
  have ed : l.getD i default = l.getD i 0 := rfl
  simp only [A_ref33_numbersL0, go_sem, Nat.reduceEqDiff, reduceCtorEq, Nat.reduceLeDiff, h1]
  by_cases h0 : i = 0
  ·subst h0
   simp only [go_sem, Int.reduceLE, Int.reduceLT]
   rw [ed]
   refine call_ev (ev_r33digits hX hs _ hr) ?_
   simp only [go_sem, Nat.reduceEqDiff, Int.reduceAdd, reduceCtorEq]
   refine ⟨by simp only [nums, List.map_nil, Lib.join_nil, List.length_nil]; omega, 1, by omega, hi', rfl, ?_⟩
   rw [show 1 = 0 + 1 from rfl, ent]
   rfl
  ·have h0' : (0 : Int) < (i : Nat) := by omega
   simp only [go_sem, h0']
   rw [ed]
   refine ⟨by omega, by omega, call_ev (ev_r33digits hX hs _ hr) ?_⟩
   simp only [go_sem, Nat.reduceEqDiff, reduceCtorEq, hw]
   refine ⟨by simp only [List.length_append, List.length_singleton]; omega, i + 1, by omega, hi', rfl, ?_⟩
   rw [ent, if_pos (by omega)]
 ·have h1 : ¬ (i : Int) < l.length := by omega
  simp only [A_ref33_numbersL0, go_sem, Nat.reduceEqDiff, reduceCtorEq, h1]
  rw [List.take_of_length_le (by omega)]
theorem ev_r33text (l : List Int) (hl : l.length ≤ 20) : Ev X F_ref33_text [lst (AV.int .i64) .ro l] (.str (flatE l)) := by
 refine ev_of_k (evK_of_wpc hs (A_ref33_text_ok hX) ?_)
 simp only [A_ref33_text, go_sem]
 refine w_loop hs.hm (ι := Nat) (fun i => i ≤ l.length) (fun i => [(4, .int .i64 i), (0, lst (AV.int .i64) .ro l), (3, lst u8 (.tok 0 1) (flatE (l.take i)))]) (fun i => [.tok (flatE (l.take i)).length]) (fun i => l.length - i) 0 ⟨Nat.zero_le _, _, _, wk_tok 3 1 rfl, ⟨rfl, rfl, rfl, trivial⟩, rfl⟩ fun i hi => ?_
 by_cases hi' : i < l.length
 ·have h1 : (i : Int) < l.length := by omega
  have hw : IntKind.i64.wrap ((i : Int) + 1) = ((i + 1 : Nat) : Int) := by rw [wi64 (by omega)]; omega
  have ht := flatE_take l i hi'
  have h4 := enc_le4 (l.getD i default)
  have hfl := flatE_ge (l.take i)
  rw [List.length_take] at hfl
  simp only [A_ref33_textL0, go_sem, Nat.reduceEqDiff, reduceCtorEq, h1]
  refine ⟨by omega, call_ev (ev_refEncode hX hs _) ?_⟩
  simp only [go_sem, Nat.reduceEqDiff, Nat.reduceAdd, reduceCtorEq, Nat.reduceLT, hw]
  exact ⟨⟨by omega, by omega⟩, i + 1, by omega, hi', ⟨rfl, by rw [ht]⟩, by rw [ht, List.length_append]⟩
 ·have h1 : ¬ (i : Int) < l.length := by omega
  simp only [A_ref33_textL0, go_sem, Nat.reduceEqDiff, reduceCtorEq, h1]
  rw [List.take_of_length_le (by omega)]
  exact ⟨⟨_, rfl⟩, rfl⟩
theorem ev_r33piece (k : Int) (l : List Int) (hv : R64 l) (hl : l.length ≤ 20) (hr : k ≠ 1 → ∀ r ∈ l, valid r = true) : Ev X F_ref33_piece [.int .i64 k, lst (AV.int .i64) .ro l] (.str (pcK k l)) := by
 refine ev_of_wpc hs (A_ref33_piece_ok hX) 0 ?_
 unfold pcK
 by_cases hk : k = 1
 ·subst hk
  simp only [A_ref33_piece, go_sem, Nat.reduceEqDiff, Nat.reduceAdd, reduceCtorEq]
  refine call_ev (ev_r33numbers hX hs l hv (by omega)) ?_
  simp only [go_sem, Nat.reduceEqDiff, reduceCtorEq]
 ·have h2 := byB_len l
  have hq := ev_rQuote hX hs (byB l) (by omega)
  rw [if_neg (by omega), byB_ok, if_neg (by decide)] at hq
  have ht := ev_r33text hX hs l hl
  rw [← byB_rns l (hr hk) hl] at ht
  simp only [A_ref33_piece, go_sem, Nat.reduceEqDiff, Nat.reduceAdd, reduceCtorEq, hk]
  refine call_ev ht ?_
  simp only [go_sem, Nat.reduceEqDiff, reduceCtorEq]
  refine call_ev hq ?_
  simp only [go_sem, Nat.reduceEqDiff, Nat.reduceAdd, reduceCtorEq, Nat.reduceLT]
theorem ev_r33head (a : Lat.Arr) (h : Lat.arrE a = 0) : Ev X F_ref33_head [arrV a] (.str ((if a.k = 2 then [99, 104, 97, 114, 32] else [105, 110, 116, 32]) ++ nums ([a.r, a.l0, a.l1].take (a.r.toNat + 1)))) := by
 obtain ⟨gr, g0, g1, gc, gk⟩ := arrG h
 obtain ⟨k, r, l0, l1, c⟩ := a
 dsimp only at *
 refine ev_of_k (evK_of_wpc hs (A_ref33_head_ok hX) ?_)
 have hin : R64 ([r, l0, l1].take (r.toNat + 1)) := fun v hv => by
  have := List.mem_of_mem_take hv
  simp only [List.mem_cons, List.not_mem_nil, or_false] at this
  omega
 have htl : ([r, l0, l1].take (r.toNat + 1)).length ≤ 3 := by rw [List.length_take]; simp only [List.length_cons, List.length_nil]; omega
 have hn := ev_r33numbers hX hs ([r, l0, l1].take (r.toNat + 1)) hin (by omega)
 have hnl := nums_len hin
 obtain ⟨kw, hkw⟩ : ∃ w : List UInt8, w = if k = 2 then [99, 104, 97, 114, 32] else [105, 110, 116, 32] := ⟨_, rfl⟩
 have hkl : kw.length ≤ 5 := by rw [hkw]; split <;> decide
 rw [← hkw]
 simp only [A_ref33_head, arrV, go_sem, Nat.reduceEqDiff, Nat.reduceAdd, reduceCtorEq, Nat.reduceLT]
 have e1 : ∀ x : Int, AV.sl Perm.ex [.int .i64 x] = lst (AV.int .i64) .ex [x] := fun _ => rfl
 have ax : ∀ (H : Heap) (x y : Int), appX H 1 8 (lst (AV.int .i64) .ex [x]) (some [.int .i64 y]) = some (true, lst (AV.int .i64) (.tok H.length 1) [x, y], some (H ++ [.tok 2])) := fun H x y => by
  have := ax_ex (H := H) (sz := 1) (by' := 8) (f := AV.int .i64) (l := [x]) (m := [y])
  simpa using this
 have w1 : IntKind.i64.wrap 1 = 1 := by decide
 have w2 : IntKind.i64.wrap 2 = 2 := by decide
 rcases gk with rfl | rfl
 ·simp only [go_sem, Int.reduceEq] at hkw ⊢
  subst hkw
  rw [e1]
  refine w_loop' hs.hm (ι := Nat) (fun i => (i : Int) ≤ r) (fun i => [(5, .int .i64 i), (4, if i = 0 then lst (AV.int .i64) .ex [r] else lst (AV.int .i64) (.tok 1 1) ([r, l0, l1].take (i + 1))), (3, .str [105, 110, 116, 32]), (1, .ptr 0 0)]) (fun i => if i = 0 then [.box [.int .i64 1, .int .i64 r, .int .i64 l0, .int .i64 l1, lst (AV.int .i64) .ro c]] else [.box [.int .i64 1, .int .i64 r, .int .i64 l0, .int .i64 l1, lst (AV.int .i64) .ro c], .tok (i + 1)]) (fun i => r.toNat - i) 0 ⟨by omega, ⟨rfl, rfl, rfl, rfl, trivial⟩, rfl⟩ fun i hi => ?_
  by_cases hi' : (i : Int) < r
  ·rcases (by omega : i = 0 ∨ i = 1) with rfl | rfl
   ·have h0 : (0 : Int) < r := hi'
    simp only [A_ref33_headL0, go_sem, Nat.reduceEqDiff, Nat.reduceAdd, Int.reduceAdd, Nat.reduceMul, Int.reduceToNat, Int.reduceLE, Int.reduceLT, Nat.reduceLT, h0, ax, w1]
    exact ⟨1, by omega, by omega, ⟨rfl, rfl⟩, rfl⟩
   ·have h0 : (1 : Int) < r := hi'
    simp only [A_ref33_headL0, go_sem, Nat.reduceEqDiff, Nat.reduceAdd, Int.reduceAdd, Nat.reduceMul, Int.reduceToNat, Int.reduceLE, Int.reduceLT, reduceCtorEq, Nat.reduceLT, Nat.reduceLeDiff, h0, w2]
    exact ⟨2, by omega, by omega, ⟨rfl, rfl⟩, rfl⟩
  ·have ei : r = i := by omega
   rcases (by omega : i = 0 ∨ i = 1 ∨ i = 2) with rfl | rfl | rfl
   all_goals
    subst ei
    simp only [A_ref33_headL0, go_sem, Nat.reduceEqDiff, Nat.reduceAdd, Nat.reduceMul, Int.reduceToNat, Int.reduceLT, reduceCtorEq, Nat.reduceLT, Nat.reduceLeDiff] at hn hnl htl ⊢
    refine call_ev hn ?_
    simp only [go_sem, Nat.reduceEqDiff, Nat.reduceAdd]
    exact ⟨by omega, ⟨_, rfl⟩, rfl⟩
 ·simp only [go_sem] at hkw ⊢
  subst hkw
  rw [e1]
  refine w_loop' hs.hm (ι := Nat) (fun i => (i : Int) ≤ r) (fun i => [(5, .int .i64 i), (4, if i = 0 then lst (AV.int .i64) .ex [r] else lst (AV.int .i64) (.tok 1 1) ([r, l0, l1].take (i + 1))), (3, .str [99, 104, 97, 114, 32]), (1, .ptr 0 0)]) (fun i => if i = 0 then [.box [.int .i64 2, .int .i64 r, .int .i64 l0, .int .i64 l1, lst (AV.int .i64) .ro c]] else [.box [.int .i64 2, .int .i64 r, .int .i64 l0, .int .i64 l1, lst (AV.int .i64) .ro c], .tok (i + 1)]) (fun i => r.toNat - i) 0 ⟨by omega, ⟨rfl, rfl, rfl, rfl, trivial⟩, rfl⟩ fun i hi => ?_
  by_cases hi' : (i : Int) < r
  ·rcases (by omega : i = 0 ∨ i = 1) with rfl | rfl
   ·have h0 : (0 : Int) < r := hi'
    simp only [A_ref33_headL0, go_sem, Nat.reduceEqDiff, Nat.reduceAdd, Int.reduceAdd, Nat.reduceMul, Int.reduceToNat, Int.reduceLE, Int.reduceLT, Nat.reduceLT, h0, ax, w1]
    exact ⟨1, by omega, by omega, ⟨rfl, rfl⟩, rfl⟩
   ·have h0 : (1 : Int) < r := hi'
    simp only [A_ref33_headL0, go_sem, Nat.reduceEqDiff, Nat.reduceAdd, Int.reduceAdd, Nat.reduceMul, Int.reduceToNat, Int.reduceLE, Int.reduceLT, reduceCtorEq, Nat.reduceLT, Nat.reduceLeDiff, h0, w2]
    exact ⟨2, by omega, by omega, ⟨rfl, rfl⟩, rfl⟩
  ·have ei : r = i := by omega
   rcases (by omega : i = 0 ∨ i = 1 ∨ i = 2) with rfl | rfl | rfl
   all_goals
    subst ei
    simp only [A_ref33_headL0, go_sem, Nat.reduceEqDiff, Nat.reduceAdd, Nat.reduceMul, Int.reduceToNat, Int.reduceLT, reduceCtorEq, Nat.reduceLT, Nat.reduceLeDiff] at hn hnl htl ⊢
    refine call_ev hn ?_
    simp only [go_sem, Nat.reduceEqDiff, Nat.reduceAdd]
    exact ⟨by omega, ⟨_, rfl⟩, rfl⟩
theorem ev_r33Array (a : Lat.Arr) (hv : R64 a.c) (hl : a.c.length < 1000000) : Ev X F_ref33_Array [arrV a] (.tuple [.str (arrayR (pcK a.k) a).1, .int .i64 (arrayR (pcK a.k) a).2]) := by
 refine ev_of_k (evK_of_wpc hs (A_ref33_Array_ok hX) ?_)
 have hck := ev_r6Check hX hs a hl
 by_cases h : Lat.arrE a = 0
 ·have e0 : arrayR (pcK a.k) a = (arrT (pcK a.k) a, 0) := if_neg (by omega)
  rw [e0]
  have hh := ev_r33head hX hs a h
  obtain ⟨gr, g0, g1, gc, gk⟩ := arrG h
  have hr : ∀ j, R64 ((a.c.drop (j * 20)).take 20) := fun j v h => hv v (List.mem_of_mem_drop (List.mem_of_mem_take h))
  have hl20 : ∀ j, ((a.c.drop (j * 20)).take 20).length ≤ 20 := fun j => by rw [List.length_take]; exact Nat.min_le_left _ _
  have hval : a.k ≠ 1 → ∀ j, ∀ r ∈ (a.c.drop (j * 20)).take 20, valid r = true := fun hk j r hr => arr_valid h hk r (List.mem_of_mem_drop (List.mem_of_mem_take hr))
  have hpl : ∀ j, (pcK a.k ((a.c.drop (j * 20)).take 20)).length ≤ 2000 := fun j => pcK_len (hr j) (hl20 j)
  have hpc : ∀ j, Ev X F_ref33_piece [.int .i64 a.k, lst (AV.int .i64) .ro ((a.c.drop (j * 20)).take 20)] (.str (pcK a.k ((a.c.drop (j * 20)).take 20))) := fun j => ev_r33piece hX hs a.k _ (hr j) (hl20 j) fun hk => hval hk j
  generalize pcK a.k = pc at hpl hpc
  have hhl : ((if a.k = 2 then [99, 104, 97, 114, 32] else [105, 110, 116, 32]) ++ nums ([a.r, a.l0, a.l1].take (a.r.toNat + 1))).length ≤ 100 := by
   have hin : R64 ([a.r, a.l0, a.l1].take (a.r.toNat + 1)) := fun v hv => by
    have := List.mem_of_mem_take hv
    simp only [List.mem_cons, List.not_mem_nil, or_false] at this
    omega
   have htl : ([a.r, a.l0, a.l1].take (a.r.toNat + 1)).length ≤ 3 := by rw [List.length_take]; simp only [List.length_cons, List.length_nil]; omega
   have hnl := nums_len hin
   rw [List.length_append]
   split
   ·simp only [List.length_cons, List.length_nil]; omega
   ·simp only [List.length_cons, List.length_nil]; omega
  have eT : arrT pc a = ((if a.k = 2 then [99, 104, 97, 114, 32] else [105, 110, 116, 32]) ++ nums ([a.r, a.l0, a.l1].take (a.r.toNat + 1))) ++ [10] ++ pcsA pc a.c (nch a.c.length) := by
   unfold arrT headA
   simp only [List.append_assoc]
  rw [eT]
  generalize ((if a.k = 2 then [99, 104, 97, 114, 32] else [105, 110, 116, 32]) ++ nums ([a.r, a.l0, a.l1].take (a.r.toNat + 1))) = hd at hh hhl
  obtain ⟨k, r, l0, l1, c⟩ := a
  simp only [arrV] at hck hh
  dsimp only at *
  have hq : ∀ p, lst (AV.int .i64) p c = .sl p (c.map (AV.int .i64)) := fun _ => rfl
  simp only [A_ref33_Array, arrV, go_sem, Nat.reduceEqDiff, Nat.reduceAdd, reduceCtorEq]
  refine call_ev hck ?_
  simp only [h, go_sem, Nat.reduceEqDiff, Nat.reduceAdd, reduceCtorEq]
  refine call_ev hh ?_
  simp only [go_sem, Nat.reduceEqDiff, reduceCtorEq, Nat.reduceLeDiff]
  refine ⟨by omega, ?_⟩
  refine w_loop' hs.hm (ι := Nat) (fun j => j ≤ nch c.length) (fun j => [(6, .int .i64 ((j * 20 : Nat) : Int)), (5, .str (hd ++ [10] ++ pcsA pc c j)), (1, .ptr 0 0)]) (fun _ => [.box [.int .i64 k, .int .i64 r, .int .i64 l0, .int .i64 l1, lst (AV.int .i64) .ro c]]) (fun j => nch c.length - j) 0 ⟨Nat.zero_le _, ⟨rfl, by simp only [pcsA, List.range_zero, List.flatMap_nil, List.append_nil]; rfl, rfl, trivial⟩, rfl⟩ fun j hj => ?_
  by_cases hj' : j < nch c.length
  ·have h0 := nch_lt.1 hj'
   have h1 : ((j * 20 : Nat) : Int) < c.length := by omega
   have hw : IntKind.i64.wrap (((j * 20 : Nat) : Int) + 20) = (((j + 1) * 20 : Nat) : Int) := by rw [wi64 (by omega)]; omega
   have hpj := hpl j
   have hpp := pcsA_len hpl j
   have hjn : j ≤ 21 := by omega
   have eP := pcsA_succ pc c j
   have hLl : (hd ++ [10] ++ pcsA pc c j).length ≤ 50000 := by rw [List.length_append, List.length_append, List.length_singleton]; omega
   have eS : hd ++ [10] ++ pcsA pc c (j + 1) = hd ++ [10] ++ pcsA pc c j ++ pc ((c.drop (j * 20)).take 20) ++ [10] := by rw [eP]; simp only [List.append_assoc]
   have hcj := hpc j
   generalize hd ++ [10] ++ pcsA pc c j = S at hLl eS
   simp only [A_ref33_ArrayL0, go_sem, Nat.reduceEqDiff, Nat.reduceAdd, Nat.reduceLT, h1, hw]
   refine ⟨fun h2 => ⟨by omega, ?_⟩, fun h2 => ⟨by omega, ?_⟩⟩
   ·have el : (c.take c.length).drop (j * 20) = (c.drop (j * 20)).take 20 := by
     rw [List.take_length, List.take_of_length_le (by rw [List.length_drop]; omega)]
    rw [el]
    refine callq_ev hcj ?_
    simp only [go_sem, Nat.reduceEqDiff, Nat.reduceLeDiff, hw]
    exact ⟨by omega, by rw [List.length_append]; omega, j + 1, by omega, hj', rfl, by rw [eS]⟩
   ·have el : (c.take ((j + 1) * 20)).drop (j * 20) = (c.drop (j * 20)).take 20 := by
     rw [List.drop_take]
     congr 1
     omega
    rw [el]
    refine callq_ev hcj ?_
    simp only [go_sem, Nat.reduceEqDiff, Nat.reduceLeDiff, hw]
    exact ⟨by omega, by rw [List.length_append]; omega, j + 1, by omega, hj', rfl, by rw [eS]⟩
  ·have h1 : ¬ ((j * 20 : Nat) : Int) < c.length := fun hc => hj' (nch_lt.2 (by omega))
   have ej : j = nch c.length := by omega
   subst ej
   simp only [A_ref33_ArrayL0, go_sem, Nat.reduceEqDiff, Nat.reduceAdd, Nat.reduceLT, h1]
   exact ⟨⟨_, rfl⟩, rfl⟩
 ·have e0 : arrayR (pcK a.k) a = ([], Lat.arrE a) := if_pos h
  rw [e0]
  obtain ⟨k, r, l0, l1, c⟩ := a
  simp only [arrV] at hck
  simp only [A_ref33_Array, arrV, go_sem, Nat.reduceEqDiff, Nat.reduceAdd, reduceCtorEq]
  refine call_ev hck ?_
  simp only [h, go_sem, Nat.reduceEqDiff, reduceCtorEq]
  exact ⟨⟨_, rfl⟩, rfl⟩
variable (he : CEnv X)
include he
theorem ev_FormatArrays (a : Lat.Arr) (hv : R64 a.c) : Ev X F_law33_FormatArrays [arrV a] (.bool true) := by
 obtain ⟨te, hR⟩ := he.rng
 refine ev_of_k (evK_of_wpc hs (A_law33_FormatArrays_ok hX) ?_)
 have hf := ev_Far33 hX hs a
 cases hfar : farA a with
 | true =>
  rw [hfar] at hf
  obtain ⟨k, r, l0, l1, c⟩ := a
  simp only [A_law33_FormatArrays, arrV, go_sem, Nat.reduceEqDiff, Nat.reduceAdd, reduceCtorEq]
  refine call_ev hf ?_
  simp only [go_sem, Nat.reduceEqDiff, reduceCtorEq]
  refine call_ev (ev_shown hX hs he.pow hR) ?_
  simp only [go_sem, Nat.reduceEqDiff, reduceCtorEq]
  exact ⟨⟨_, rfl⟩, rfl⟩
 | false =>
  rw [hfar] at hf
  have hl : a.c.length < 1000000 := by
   unfold farA at hfar
   simp only [Bool.or_eq_false_iff, decide_eq_false_iff_not] at hfar
   omega
  have h1 := ev_ArrayK hX hs he a hv hl
  have h2 := ev_r33Array hX hs a hv hl
  generalize arrayR (pcK a.k) a = T at h1 h2
  obtain ⟨s, f⟩ := T
  obtain ⟨k, r, l0, l1, c⟩ := a
  simp only [arrV] at hf h1 h2
  simp only [A_law33_FormatArrays, arrV, go_sem, Nat.reduceEqDiff, Nat.reduceAdd, reduceCtorEq]
  refine call_ev hf ?_
  simp only [go_sem, Nat.reduceEqDiff, Nat.reduceAdd, reduceCtorEq]
  refine call_ev h1 ?_
  simp only [go_sem, Nat.reduceEqDiff, Nat.reduceAdd, reduceCtorEq, Nat.reduceLT]
  refine call_ev h2 ?_
  simp only [go_sem, Nat.reduceEqDiff, Nat.reduceAdd, reduceCtorEq, Nat.reduceLT]
  refine call_ev (ev_shown hX hs he.pow hR) ?_
  simp only [go_sem, Nat.reduceEqDiff, reduceCtorEq]
  exact ⟨⟨_, rfl⟩, rfl⟩
end
theorem ev_LArrays {X : Cx} (hX : X.P = Go.Proofs.Tryz.prog) (hs : Std X) (he : CEnv X) (a : Lat.Arr) (hv : ∀ v ∈ a.c, -9223372036854775808 ≤ v ∧ v ≤ 9223372036854775807) : Ev X F_law33_FormatArrays [arrV a] (.bool true) := ev_FormatArrays hX hs he a hv
end Go.Avm
