/- Numerals and quoted forms. -/
import Derived.Test.YtcldomkahgaplaaGreatDoorAV1
import Derived.Test.YtcldomkahgaplaaGreatDoorM1
set_option linter.all false
namespace Go.Avm
open Go
set_option maxRecDepth 10000
section
variable {X : Cx} (hX : X.P = Go.Proofs.Tryz.prog) (hs : Std X)
include hX hs
end
end Go.Avm
namespace Go.Avm
open Go
set_option maxRecDepth 10000
section
variable {X : Cx} (hX : X.P = Go.Proofs.Tryz.prog) (hs : Std X)
include hX hs
end
end Go.Avm
namespace Go.Avm
open Go
theorem tb_map {α : Type} (f : α → AV) (d : α) (l : List α) : tb l.length (fun k => f (l.getD k d)) = l.map f := by
 refine List.ext_getElem (by rw [tb_len, List.length_map]) fun k h1 h2 => ?_
 have hk : k < l.length := by rw [tb_len] at h1; exact h1
 have := tb_getD (n := l.length) (fun k => f (l.getD k d)) .undef hk
 rw [List.getD_eq_getElem?_getD, List.getElem?_eq_getElem h1] at this
 simp only [Option.getD_some] at this
 rw [this]
 simp [List.getD_eq_getElem?_getD, hk]
theorem ss_r {k : IntKind} (id off n cap : Nat) (b : Int) : slsX 1 (.rsl id off n cap 1) none (some (.int k b)) = some (decide (0 ≤ b) && decide (b ≤ cap), .rsl id off b.toNat cap 1, none) := by
 simp [slsX]
def linesV (s : List UInt8) : AV := .tuple [lst AV.str .ro (Wo.linesS s).1, .int .i64 (Wo.linesS s).2]
theorem linesV_eq {s : List UInt8} {l : List (List UInt8)} {e : Int} (h : Wo.linesS s = (l, e)) : AV.tuple [lst AV.str .ro l, .int .i64 e] = linesV s := by rw [linesV, h]
theorem linesV_nil {s : List UInt8} {e : Int} (h : Wo.linesS s = ([], e)) : AV.tuple [.sl .ro [], .int .i64 e] = linesV s := by rw [linesV, h]; rfl
set_option maxRecDepth 10000
section
variable {X : Cx} (hX : X.P = Go.Proofs.Tryz.prog) (hs : Std X)
include hX hs
theorem ev_IndexS (s : List UInt8) (c : UInt8) : Ev X F_st_Index [.str s, .str [c]] (.int .i64 (if Lat.idx c s < s.length then (Lat.idx c s : Int) else -1)) := by
 refine ev_of_wpc hs (A_st_Index_ok hX) 1 ?_
 simp only [A_st_Index, go_sem, Nat.reduceEqDiff, Nat.reduceAdd, reduceCtorEq]
 refine call_ev (ev_IndexB hX s c) ?_
 rw [ixB]
 simp only [go_sem, Nat.reduceEqDiff, reduceCtorEq]
theorem ev_HasSuffix (s : List UInt8) (c : UInt8) (hl : s.length < 4000000) : Ev X F_st_HasSuffix [.str s, .str [c]] (.bool (decide (0 < s.length) && (s.drop (s.length - 1) == [c]))) := by
 have hc : Ev X F_sl_HasSuffix [.str s, .str [c]] (.bool (decide (0 < s.length) && (s.drop (s.length - 1) == [c]))) := by
  refine ev_of_wpc hs (A_sl_HasSuffix_ok hX) 1 ?_
  simp only [A_sl_HasSuffix, go_sem, Nat.reduceEqDiff, Nat.reduceAdd, reduceCtorEq]
  refine ⟨fun h => ?_, fun h => ?_⟩
  ·rw [wi64 (by omega)]
   refine ⟨by omega, ?_⟩
   rw [List.take_length, show ((s.length : Int) - 1).toNat = s.length - 1 by omega]
   simp only [show 0 < s.length by omega, decide_true, Bool.true_and]
   congr 1
   rw [Bool.eq_iff_iff, decide_eq_true_eq, beq_iff_eq]
  ·simp only [show ¬ 0 < s.length by omega, decide_false, Bool.false_and]
 refine ev_of_wpc hs (A_st_HasSuffix_ok hX) 1 ?_
 simp only [A_st_HasSuffix, go_sem, Nat.reduceEqDiff, Nat.reduceAdd, reduceCtorEq]
 refine call_ev hc ?_
 simp only [go_sem, Nat.reduceEqDiff, reduceCtorEq]
theorem ev_sSplit (s : List UInt8) (c : UInt8) (hl : s.length < 4000000) : Ev X F_st_Split [.str s, .str [c]] (lst AV.str .ro (Wo.splC c s)) := by
 have hc : Ev X F_st_genSplit [.str s, .str [c], .int .i64 0, .int .i64 (-1)] (lst AV.str .ro (Wo.splC c s)) := by
  have hcl : s.count c ≤ s.length := List.count_le_length
  refine ev_of_wpc hs (A_st_genSplit_ok hX) 1 ?_
  simp only [A_st_genSplit, go_sem, Nat.reduceEqDiff, Nat.reduceAdd, Int.reduceLT, reduceCtorEq]
  refine call_ev (ev_CountB hX s c) ?_
  have e1 : IntKind.i64.wrap ((s.count c : Int) + 1) = ((s.count c + 1 : Nat) : Int) := by rw [wi64 (by omega)]; rfl
  have e2 : IntKind.i64.wrap ((s.length : Int) + 1) = ((s.length + 1 : Nat) : Int) := by rw [wi64 (by omega)]; rfl
  have e3 : IntKind.i64.wrap (((s.count c + 1 : Nat) : Int) - 1) = (s.count c : Int) := by rw [wi64 (by omega)]; omega
  have e4 : ¬ ((s.length + 1 : Nat) : Int) < ((s.count c + 1 : Nat) : Int) := by omega
  simp only [go_sem, Nat.reduceEqDiff, reduceCtorEq, e1, e2, if_neg e4, e3]
  refine ⟨by omega, ?_⟩
  have hLl := Wo.splC_count c s
  generalize hL : Wo.splC c s = L at *
  refine w_loop' hs.hm (ι := Nat × List UInt8) (fun x => x.1 + x.2.count c = s.count c ∧ L.drop x.1 = Wo.splC c x.2 ∧ x.2.length ≤ s.length) (fun x => [(10, .int .i64 x.1), (9, .rsl 0 0 (s.count c + 1) (s.count c + 1) 1), (3, .int .i64 (s.count c : Nat)), (2, .int .i64 0), (1, .str [c]), (0, .str x.2)]) (fun x => [.box (tb (s.count c + 1) fun k => .str (if k < x.1 then L.getD k [] else []))]) (fun x => s.count c - x.1) (0, s) ?_ fun x hx => ?_
  ·simp only [go_sem, Nat.reduceEqDiff, reduceCtorEq]
   exact ⟨hL.symm, rfl⟩
  obtain ⟨i, r⟩ := x
  obtain ⟨x1, x2, x3⟩ := hx
  simp only at x1 x2 x3
  by_cases hi : i < s.count c
  ·have hix : Lat.idx c r < r.length := Wo.idxC_cnt (by omega)
   have hsp := Wo.splC_idx hix
   have hcn := Wo.cntC_idx hix
   have hLi : i < L.length := by omega
   have hd : L.getD i [] = r.take (Lat.idx c r) ∧ L.drop (i + 1) = Wo.splC c (r.drop (Lat.idx c r + 1)) := by
    rw [List.drop_eq_getElem_cons hLi, hsp] at x2
    injection x2 with y1 y2
    exact ⟨by rw [List.getD_eq_getElem?_getD, List.getElem?_eq_getElem hLi]; exact y1, y2⟩
   simp only [A_st_genSplitL0, go_sem, Nat.reduceEqDiff, reduceCtorEq, Nat.reduceLeDiff]
   refine ⟨fun ci => ?_, fun ci => by omega⟩
   refine call_ev (ev_IndexS hX hs r c) ?_
   simp only [hix, go_sem, Nat.reduceBEq, Nat.reduceEqDiff, Int.reduceToNat, Int.reduceLE, reduceCtorEq, Nat.reduceLeDiff]
   refine ⟨fun hneg => by omega, fun hneg => ?_⟩
   rw [wi64 (by omega), wi64 (by omega)]
   refine ⟨by omega, by omega, by omega, by omega, (i + 1, r.drop (Lat.idx c r + 1)), by simp only; omega, ⟨by simp only; omega, hd.2, by simp only [List.length_drop]; omega⟩, ⟨by simp only; rw [wi64 (by omega)]; rfl, ?_⟩, ?_⟩
   ·rw [List.take_length, show ((Lat.idx c r : Int) + 1).toNat = Lat.idx c r + 1 by omega]
   ·rw [Nat.mul_one, tb_set]
    congr 2
    refine tb_congr fun k hk => ?_
    by_cases e : k = i
    ·subst e
     rw [if_pos rfl, if_pos (by omega), hd.1, show ((Lat.idx c r : Int) + 0).toNat = Lat.idx c r by omega]
    ·rw [if_neg e]
     by_cases e2 : k < i
     ·rw [if_pos e2, if_pos (by omega)]
     ·rw [if_neg e2, if_neg (by omega)]
  ·have hi : i = s.count c := by omega
   subst hi
   have hn : ¬ ((s.count c : Nat) : Int) < (s.count c : Nat) := by omega
   have hr0 : r.count c = 0 := by omega
   have hd : L.getD (s.count c) [] = r := by
    rw [Wo.splC_one hr0, List.drop_eq_getElem_cons (by omega)] at x2
    injection x2 with y1 y2
    rw [List.getD_eq_getElem?_getD, List.getElem?_eq_getElem (by omega)]
    exact y1
   have hb : (tb (s.count c + 1) fun k => AV.str (if k < s.count c then L.getD k [] else [])).set (s.count c) (.str r) = L.map AV.str := by
    rw [tb_set, ← tb_map AV.str [] L, hLl]
    refine tb_congr fun k hk => ?_
    by_cases e : k = s.count c
    ·rw [if_pos e, e, hd]
    ·rw [if_neg e, if_pos (by omega)]
   simp only [A_st_genSplitL0, go_sem, Nat.reduceEqDiff, reduceCtorEq, hn, Nat.mul_one, hb, ss_r, e1, fi_rsl]
   have hsc : (L.map AV.str).all scalarB = true := by
    rw [List.all_eq_true]
    intro x hx
    obtain ⟨y, _, rfl⟩ := List.mem_map.1 hx
    rfl
   refine ⟨by omega, by omega, ?_⟩
   rw [hsc, List.length_map, hLl, decide_eq_true (Nat.le_refl _)]
   simp only [Bool.true_and, Bool.true_or, cond_true]
   rw [List.take_of_length_le (by rw [List.length_map]; omega), List.map_map]
   rfl
 refine ev_of_wpc hs (A_st_Split_ok hX) 1 ?_
 simp only [A_st_Split, go_sem, Nat.reduceEqDiff, Nat.reduceAdd, reduceCtorEq]
 refine call_ev hc ?_
 simp only [go_sem, Nat.reduceEqDiff, reduceCtorEq]
theorem ev_Lines (s : List UInt8) (hl : s.length < 4000000) : Ev X F_wo_Lines [.str s] (linesV s) := by
 refine ev_of_wpcd hs (A_wo_Lines_ok hX) 1 ?_
 simp only [A_wo_Lines, go_sem, Nat.reduceEqDiff, reduceCtorEq]
 refine ⟨fun h => linesV_nil (by rw [Wo.linesS, if_pos (by omega)]), fun h1 => ⟨fun h => linesV_nil (by rw [Wo.linesS, if_neg (by omega), if_pos h]), fun h0 => ?_⟩⟩
 have hp : 0 < s.length := List.length_pos_iff.2 h0
 refine call_ev (ev_HasSuffix hX hs s 10 hl) ?_
 have hsn := Wo.snoc_eq hp
 have hd : s.drop (s.length - 1) = [s.getD (s.length - 1) 0] := by
  rw [List.drop_eq_getElem_cons (by omega), List.drop_of_length_le (by omega), List.getD_eq_getElem?_getD, List.getElem?_eq_getElem (by omega)]
  rfl
 have hsf : (decide (0 < s.length) && (s.drop (s.length - 1) == [10])) = decide (s.getD (s.length - 1) 0 = 10) := by
  rw [hd, decide_eq_true hp, Bool.true_and, Bool.eq_iff_iff, beq_iff_eq, decide_eq_true_eq]
  simp
 rw [hsf]
 by_cases hc : s.getD (s.length - 1) 0 = 10
 ·have hL : Wo.linesS s = if 5000 < (Wo.splC 10 (s.take (s.length - 1))).length then ([], 3) else (Wo.splC 10 (s.take (s.length - 1)), 0) := by
   rw [Wo.linesS, if_neg (by omega), if_neg h0, if_neg (fun h => h hc)]
  simp only [hc, go_sem, Nat.reduceEqDiff, Int.reduceToNat, Int.reduceLE, reduceCtorEq]
  rw [wi64 (by omega), show ((s.length : Int) - 1).toNat = s.length - 1 by omega]
  refine ⟨by omega, call_ev (ev_sSplit hX hs _ 10 (by rw [List.length_take]; omega)) ?_⟩
  simp only [go_sem, Nat.reduceEqDiff, reduceCtorEq]
  exact ⟨fun h => linesV_nil (by rw [hL, if_pos (by omega)]), fun h => linesV_eq (by rw [hL, if_neg (by omega)])⟩
 ·simp only [hc, go_sem, Nat.reduceEqDiff, reduceCtorEq]
  exact linesV_nil (by rw [Wo.linesS, if_neg (by omega), if_neg h0, if_pos hc])
end
end Go.Avm
