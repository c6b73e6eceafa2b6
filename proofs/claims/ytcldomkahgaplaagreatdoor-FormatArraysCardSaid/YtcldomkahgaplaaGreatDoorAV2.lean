/- Numerals and quoted forms. -/
import Derived.Test.YtcldomkahgaplaaGreatDoorAV1
import Derived.Test.YtcldomkahgaplaaGreatDoorM1
set_option linter.all false
namespace Go.Avm
open Go
theorem dig1 {a : Nat} (h : a < 10) : ([.int .u8 (IntKind.u8.wrap (48 + (a : Int)))] : List AV) = [u8 (UInt8.ofNat (48 + a))] := by
  rw [wu8 (by omega)]
  simp only [u8, UInt8.toNat_ofNat']
  congr 2
  omega
set_option maxRecDepth 10000
section
variable {X : Cx} (hX : X.P = Go.Proofs.Tryz.prog) (hs : Std X)
include hX hs
theorem ev_rDigits (n : Int) (h : -9223372036854775808 ≤ n ∧ n ≤ 9223372036854775807) : Ev X F_ref01_Digits [.int .i64 n] (.str (Lib.itoa n)) := by
  generalize hk : n.natAbs * 2 + (if n < 0 then 1 else 0) = k
  induction k using Nat.strongRecOn generalizing n with
  | _ k ih =>
    subst hk
    refine ev_of_wpc hs (A_ref01_Digits_ok hX) 0 ?_
    by_cases hb : 9 < n ∨ n < -9
    · have hq : (n.tdiv 10).natAbs = n.natAbs / 10 ∧ (n < 0 ∨ ¬ n.tdiv 10 < 0) := by
        rcases Int.lt_or_le n 0 with h0 | h0
        · obtain ⟨m, rfl⟩ : ∃ m : Nat, n = -(m : Int) := ⟨n.natAbs, by omega⟩
          rw [Int.neg_tdiv, Int.tdiv_eq_ediv_of_nonneg (by omega)]; omega
        · rw [Int.tdiv_eq_ediv_of_nonneg (by omega)]; omega
      have hm : n.tmod 10 = if n < 0 then -((n.natAbs % 10 : Nat) : Int) else ((n.natAbs % 10 : Nat) : Int) := by
        rcases Int.lt_or_le n 0 with h0 | h0
        · obtain ⟨m, rfl⟩ : ∃ m : Nat, n = -(m : Int) := ⟨n.natAbs, by omega⟩
          rw [if_pos h0, Int.neg_tmod, Int.tmod_eq_emod_of_nonneg (by omega)]; omega
        · rw [if_neg (by omega), Int.tmod_eq_emod_of_nonneg (by omega)]; omega
      have hr : Ev X F_ref01_Digits [.int .i64 (n.tdiv 10)] (.str (Lib.itoa (n.tdiv 10))) := ih _ (by
        have h1 := hq.1
        split <;> split <;> omega) _ (by omega) rfl
      have ew : IntKind.i64.wrap (n.tdiv 10) = n.tdiv 10 := wi64 (by omega)
      have hst := Wo.itoa_step hb
      have hd := dig1 (a := n.natAbs % 10) (Nat.mod_lt _ (by decide))
      have hlen := Wo.itoa_len (n := n.tdiv 10) (by omega)
      have hq1 := hq.1
      have hfin : ∀ t : Int, t = ((n.natAbs % 10 : Nat) : Int) → b2sX (.sl .ex [.int .u8 (IntKind.u8.wrap (IntKind.i64.wrap (48 + t)))]) = some (true, .str [UInt8.ofNat (48 + n.natAbs % 10)], none) := fun t ht => by
        subst ht
        have hlt : n.natAbs % 10 < 10 := Nat.mod_lt _ (by decide)
        rw [wi64 (by omega), hd]
        exact bs_1 .ex _
      have c9 : decide (9 < n) = decide (¬ n < -9) := by
        congr 1
        rw [eq_iff_iff]
        omega
      have w0 : IntKind.i64.wrap (0 - n.tmod 10) = -n.tmod 10 := by
        rw [wi64 (by split at hm <;> omega)]; omega
      by_cases c1 : 9 < n
      · rw [if_neg (by omega)] at hm
        simp only [A_ref01_Digits, go_sem, Nat.reduceEqDiff, Int.reduceNe, reduceCtorEq, c1, ew, w0]
        refine ⟨fun e => by omega, fun e => callq_ev hr ?_⟩
        simp only [go_sem, Nat.reduceEqDiff, reduceCtorEq, Nat.reduceLT, Nat.reduceLeDiff, hfin _ hm]
        exact ⟨by omega, by rw [hst]⟩
      · have c2 : n < -9 := by omega
        rw [if_pos (by omega)] at hm
        simp only [A_ref01_Digits, go_sem, Nat.reduceEqDiff, Int.reduceNe, reduceCtorEq, c1, c2, ew, w0]
        refine ⟨fun e => callq_ev hr ?_, fun e => callq_ev hr ?_⟩
        · simp only [go_sem, Nat.reduceEqDiff, reduceCtorEq, Nat.reduceLT, Nat.reduceLeDiff, hfin (-n.tmod 10) (by omega)]
          exact ⟨by omega, by rw [hst]⟩
        · simp only [go_sem, Nat.reduceEqDiff, reduceCtorEq, Nat.reduceLT, Nat.reduceLeDiff, hfin (n.tmod 10) (by omega)]
          exact ⟨by omega, by rw [hst]⟩
    · by_cases h0 : n < 0
      · have hr : Ev X F_ref01_Digits [.int .i64 (-n)] (.str (Lib.itoa (-n))) := ih _ (by
          rw [if_pos h0, if_neg (by omega)]; omega) _ (by omega) rfl
        have hlen := Wo.itoa_len (n := -n) (by omega)
        have w0 : IntKind.i64.wrap (0 - n) = -n := by rw [wi64 (by omega)]; omega
        simp only [A_ref01_Digits, go_sem, Nat.reduceEqDiff, reduceCtorEq, show ¬ 9 < n by omega, show ¬ n < -9 by omega, h0, w0]
        refine call_ev hr ?_
        simp only [go_sem, Nat.reduceEqDiff, reduceCtorEq]
        exact ⟨by omega, by rw [Wo.itoa_neg h0]⟩
      · have hd := dig1 (a := n.natAbs) (by omega)
        have e0 : ((n.natAbs : Nat) : Int) = n := by omega
        rw [e0] at hd
        simp only [A_ref01_Digits, go_sem, Nat.reduceEqDiff, reduceCtorEq, Nat.reduceLT, show ¬ 9 < n by omega, show ¬ n < -9 by omega, h0]
        rw [wi64 (n := 48 + n) (by omega), hd]
        have := bs_1 .ex (UInt8.ofNat (48 + n.natAbs))
        simp only [u8] at this ⊢
        simp only [this, go_sem, Nat.reduceEqDiff, reduceCtorEq]
        rw [Wo.itoa_one (by omega) (by omega)]
end
end Go.Avm
namespace Go.Avm
open Go
set_option maxRecDepth 10000
section
variable {X : Cx} (hX : X.P = Go.Proofs.Tryz.prog) (hs : Std X)
include hX hs
end
end Go.Avm
namespace Go.Avm
open Go
theorem tb_map {α : Type} (f : α → AV) (d : α) (l : List α) : tb l.length (fun k => f (l.getD k d)) = l.map f := by
  refine List.ext_getElem (by rw [tb_len, List.length_map]) fun k h1 h2 => ?_
  have hk : k < l.length := by rw [tb_len] at h1; exact h1
  have := tb_getD (n := l.length) (fun k => f (l.getD k d)) .undef hk
  rw [List.getD_eq_getElem?_getD, List.getElem?_eq_getElem h1] at this
  simp only [Option.getD_some] at this
  rw [this]
  simp [List.getD_eq_getElem?_getD, hk]
theorem ss_r {k : IntKind} (id off n cap : Nat) (b : Int) : slsX 1 (.rsl id off n cap 1) none (some (.int k b)) = some (decide (0 ≤ b) && decide (b ≤ cap), .rsl id off b.toNat cap 1, none) := by
  simp [slsX]
def linesV (s : List UInt8) : AV := .tuple [lst AV.str .ro (Wo.linesS s).1, .int .i64 (Wo.linesS s).2]
theorem linesV_eq {s : List UInt8} {l : List (List UInt8)} {e : Int} (h : Wo.linesS s = (l, e)) : AV.tuple [lst AV.str .ro l, .int .i64 e] = linesV s := by rw [linesV, h]
theorem linesV_nil {s : List UInt8} {e : Int} (h : Wo.linesS s = ([], e)) : AV.tuple [.sl .ro [], .int .i64 e] = linesV s := by rw [linesV, h]; rfl
set_option maxRecDepth 10000
section
variable {X : Cx} (hX : X.P = Go.Proofs.Tryz.prog) (hs : Std X)
include hX hs
theorem ev_IndexS (s : List UInt8) (c : UInt8) : Ev X F_strings_Index [.str s, .str [c]] (.int .i64 (if Lat.idx c s < s.length then (Lat.idx c s : Int) else -1)) := by
  refine ev_of_wpc hs (A_strings_Index_ok hX) 1 ?_
  simp only [A_strings_Index, go_sem, Nat.reduceEqDiff, Nat.reduceAdd, reduceCtorEq]
  refine call_ev (ev_IndexB hX s c) ?_
  rw [ixB]
  simp only [go_sem, Nat.reduceEqDiff, reduceCtorEq]
theorem ev_HasSuffix (s : List UInt8) (c : UInt8) (hl : s.length < 4000000) : Ev X F_strings_HasSuffix [.str s, .str [c]] (.bool (decide (0 < s.length) && (s.drop (s.length - 1) == [c]))) := by
  have hc : Ev X F_stringslite_HasSuffix [.str s, .str [c]] (.bool (decide (0 < s.length) && (s.drop (s.length - 1) == [c]))) := by
    refine ev_of_wpc hs (A_stringslite_HasSuffix_ok hX) 1 ?_
    simp only [A_stringslite_HasSuffix, go_sem, Nat.reduceEqDiff, Nat.reduceAdd, reduceCtorEq]
    refine ⟨fun h => ?_, fun h => ?_⟩
    · rw [wi64 (by omega)]
      refine ⟨by omega, ?_⟩
      rw [List.take_length, show ((s.length : Int) - 1).toNat = s.length - 1 by omega]
      simp only [show 0 < s.length by omega, decide_true, Bool.true_and]
      congr 1
      rw [Bool.eq_iff_iff, decide_eq_true_eq, beq_iff_eq]
    · simp only [show ¬ 0 < s.length by omega, decide_false, Bool.false_and]
  refine ev_of_wpc hs (A_strings_HasSuffix_ok hX) 1 ?_
  simp only [A_strings_HasSuffix, go_sem, Nat.reduceEqDiff, Nat.reduceAdd, reduceCtorEq]
  refine call_ev hc ?_
  simp only [go_sem, Nat.reduceEqDiff, reduceCtorEq]
theorem ev_sSplit (s : List UInt8) (c : UInt8) (hl : s.length < 4000000) : Ev X F_strings_Split [.str s, .str [c]] (lst AV.str .ro (Wo.splC c s)) := by
  have hc : Ev X F_strings_genSplit [.str s, .str [c], .int .i64 0, .int .i64 (-1)] (lst AV.str .ro (Wo.splC c s)) := by
    have hcl : s.count c ≤ s.length := List.count_le_length
    refine ev_of_wpc hs (A_strings_genSplit_ok hX) 1 ?_
    simp only [A_strings_genSplit, go_sem, Nat.reduceEqDiff, Nat.reduceAdd, Int.reduceLT, reduceCtorEq]
    refine call_ev (ev_CountB hX s c) ?_
    have e1 : IntKind.i64.wrap ((s.count c : Int) + 1) = ((s.count c + 1 : Nat) : Int) := by rw [wi64 (by omega)]; rfl
    have e2 : IntKind.i64.wrap ((s.length : Int) + 1) = ((s.length + 1 : Nat) : Int) := by rw [wi64 (by omega)]; rfl
    have e3 : IntKind.i64.wrap (((s.count c + 1 : Nat) : Int) - 1) = (s.count c : Int) := by rw [wi64 (by omega)]; omega
    have e4 : ¬ ((s.length + 1 : Nat) : Int) < ((s.count c + 1 : Nat) : Int) := by omega
    simp only [go_sem, Nat.reduceEqDiff, reduceCtorEq, e1, e2, if_neg e4, e3]
    refine ⟨by omega, ?_⟩
    have hLl := Wo.splC_count c s
    generalize hL : Wo.splC c s = L at *
    refine w_loop' hs.hm (ι := Nat × List UInt8) (fun x => x.1 + x.2.count c = s.count c ∧ L.drop x.1 = Wo.splC c x.2 ∧ x.2.length ≤ s.length) (fun x => [(10, .int .i64 x.1), (9, .rsl 0 0 (s.count c + 1) (s.count c + 1) 1), (3, .int .i64 (s.count c : Nat)), (2, .int .i64 0), (1, .str [c]), (0, .str x.2)]) (fun x => [.box (tb (s.count c + 1) fun k => .str (if k < x.1 then L.getD k [] else []))]) (fun x => s.count c - x.1) (0, s) ?_ fun x hx => ?_
    · simp only [go_sem, Nat.reduceEqDiff, reduceCtorEq]
      exact ⟨hL.symm, rfl⟩
    obtain ⟨i, r⟩ := x
    obtain ⟨x1, x2, x3⟩ := hx
    simp only at x1 x2 x3
    by_cases hi : i < s.count c
    · have hix : Lat.idx c r < r.length := Wo.idxC_cnt (by omega)
      have hsp := Wo.splC_idx hix
      have hcn := Wo.cntC_idx hix
      have hLi : i < L.length := by omega
      have hd : L.getD i [] = r.take (Lat.idx c r) ∧ L.drop (i + 1) = Wo.splC c (r.drop (Lat.idx c r + 1)) := by
        rw [List.drop_eq_getElem_cons hLi, hsp] at x2
        injection x2 with y1 y2
        exact ⟨by rw [List.getD_eq_getElem?_getD, List.getElem?_eq_getElem hLi]; exact y1, y2⟩
      simp only [A_strings_genSplitL0, go_sem, Nat.reduceEqDiff, reduceCtorEq, Nat.reduceLeDiff]
      refine ⟨fun ci => ?_, fun ci => by omega⟩
      refine call_ev (ev_IndexS hX hs r c) ?_
      simp only [hix, go_sem, Nat.reduceBEq, Nat.reduceEqDiff, Int.reduceToNat, Int.reduceLE, reduceCtorEq, Nat.reduceLeDiff]
      refine ⟨fun hneg => by omega, fun hneg => ?_⟩
      rw [wi64 (by omega), wi64 (by omega)]
      refine ⟨by omega, by omega, by omega, by omega, (i + 1, r.drop (Lat.idx c r + 1)), by simp only; omega, ⟨by simp only; omega, hd.2, by simp only [List.length_drop]; omega⟩, ⟨by simp only; rw [wi64 (by omega)]; rfl, ?_⟩, ?_⟩
      · rw [List.take_length, show ((Lat.idx c r : Int) + 1).toNat = Lat.idx c r + 1 by omega]
      · rw [Nat.mul_one, tb_set]
        congr 2
        refine tb_congr fun k hk => ?_
        by_cases e : k = i
        · subst e
          rw [if_pos rfl, if_pos (by omega), hd.1, show ((Lat.idx c r : Int) + 0).toNat = Lat.idx c r by omega]
        · rw [if_neg e]
          by_cases e2 : k < i
          · rw [if_pos e2, if_pos (by omega)]
          · rw [if_neg e2, if_neg (by omega)]
    · have hi : i = s.count c := by omega
      subst hi
      have hn : ¬ ((s.count c : Nat) : Int) < (s.count c : Nat) := by omega
      have hr0 : r.count c = 0 := by omega
      have hd : L.getD (s.count c) [] = r := by
        rw [Wo.splC_one hr0, List.drop_eq_getElem_cons (by omega)] at x2
        injection x2 with y1 y2
        rw [List.getD_eq_getElem?_getD, List.getElem?_eq_getElem (by omega)]
        exact y1
      have hb : (tb (s.count c + 1) fun k => AV.str (if k < s.count c then L.getD k [] else [])).set (s.count c) (.str r) = L.map AV.str := by
        rw [tb_set, ← tb_map AV.str [] L, hLl]
        refine tb_congr fun k hk => ?_
        by_cases e : k = s.count c
        · rw [if_pos e, e, hd]
        · rw [if_neg e, if_pos (by omega)]
      simp only [A_strings_genSplitL0, go_sem, Nat.reduceEqDiff, reduceCtorEq, hn, Nat.mul_one, hb, ss_r, e1, fi_rsl]
      have hsc : (L.map AV.str).all scalarB = true := by
        rw [List.all_eq_true]
        intro x hx
        obtain ⟨y, _, rfl⟩ := List.mem_map.1 hx
        rfl
      refine ⟨by omega, by omega, ?_⟩
      rw [hsc, List.length_map, hLl, decide_eq_true (Nat.le_refl _)]
      simp only [Bool.true_and, Bool.true_or, cond_true]
      rw [List.take_of_length_le (by rw [List.length_map]; omega), List.map_map]
      rfl
  refine ev_of_wpc hs (A_strings_Split_ok hX) 1 ?_
  simp only [A_strings_Split, go_sem, Nat.reduceEqDiff, Nat.reduceAdd, reduceCtorEq]
  refine call_ev hc ?_
  simp only [go_sem, Nat.reduceEqDiff, reduceCtorEq]
theorem ev_Lines (s : List UInt8) (hl : s.length < 4000000) : Ev X F_words_Lines [.str s] (linesV s) := by
  refine ev_of_wpcd hs (A_words_Lines_ok hX) 1 ?_
  simp only [A_words_Lines, go_sem, Nat.reduceEqDiff, reduceCtorEq]
  refine ⟨fun h => linesV_nil (by rw [Wo.linesS, if_pos (by omega)]), fun h1 => ⟨fun h => linesV_nil (by rw [Wo.linesS, if_neg (by omega), if_pos h]), fun h0 => ?_⟩⟩
  have hp : 0 < s.length := List.length_pos_iff.2 h0
  refine call_ev (ev_HasSuffix hX hs s 10 hl) ?_
  have hsn := Wo.snoc_eq hp
  have hd : s.drop (s.length - 1) = [s.getD (s.length - 1) 0] := by
    rw [List.drop_eq_getElem_cons (by omega), List.drop_of_length_le (by omega), List.getD_eq_getElem?_getD, List.getElem?_eq_getElem (by omega)]
    rfl
  have hsf : (decide (0 < s.length) && (s.drop (s.length - 1) == [10])) = decide (s.getD (s.length - 1) 0 = 10) := by
    rw [hd, decide_eq_true hp, Bool.true_and, Bool.eq_iff_iff, beq_iff_eq, decide_eq_true_eq]
    simp
  rw [hsf]
  by_cases hc : s.getD (s.length - 1) 0 = 10
  · have hL : Wo.linesS s = if 5000 < (Wo.splC 10 (s.take (s.length - 1))).length then ([], 3) else (Wo.splC 10 (s.take (s.length - 1)), 0) := by
      rw [Wo.linesS, if_neg (by omega), if_neg h0, if_neg (fun h => h hc)]
    simp only [hc, go_sem, Nat.reduceEqDiff, Int.reduceToNat, Int.reduceLE, reduceCtorEq]
    rw [wi64 (by omega), show ((s.length : Int) - 1).toNat = s.length - 1 by omega]
    refine ⟨by omega, call_ev (ev_sSplit hX hs _ 10 (by rw [List.length_take]; omega)) ?_⟩
    simp only [go_sem, Nat.reduceEqDiff, reduceCtorEq]
    exact ⟨fun h => linesV_nil (by rw [hL, if_pos (by omega)]), fun h => linesV_eq (by rw [hL, if_neg (by omega)])⟩
  · simp only [hc, go_sem, Nat.reduceEqDiff, reduceCtorEq]
    exact linesV_nil (by rw [Wo.linesS, if_neg (by omega), if_neg h0, if_pos hc])
end
end Go.Avm
