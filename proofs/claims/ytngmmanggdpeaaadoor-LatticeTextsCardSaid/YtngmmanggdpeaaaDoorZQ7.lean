/- Cut, Split, HasSuffix of a byte. -/
import Derived.Test.YtngmmanggdpeaaaDoorZQ6
import Derived.Test.YtngmmanggdpeaaaDoorN6
set_option linter.unusedSectionVars false
set_option linter.unusedSimpArgs false
set_option linter.unusedVariables false

/- Cut, Split, HasSuffix of a byte. -/
namespace Go.Avm
open Go
theorem ixB (s : List UInt8) (c : UInt8) : Lib.indexByte s c = if Lat.idx c s < s.length then (Lat.idx c s : Int) else -1 := by
  induction s with
  | nil => rfl
  | cons b r ih =>
    have hle := Lat.idx_le c r
    simp only [Lib.indexByte, Lat.idx, ih, beq_iff_eq, List.length_cons]
    by_cases h : b = c
    · simp only [if_pos h]; simp
    · simp only [if_neg h]
      by_cases h2 : Lat.idx c r < r.length
      · rw [if_pos h2, if_neg (by omega), if_pos (by omega)]; rfl
      · rw [if_neg h2, if_pos rfl, if_neg (by omega)]
theorem tb_map {α : Type} (f : α → AV) (d : α) (l : List α) : tb l.length (fun k => f (l.getD k d)) = l.map f := by
  refine List.ext_getElem (by rw [tb_len, List.length_map]) fun k h1 h2 => ?_
  have hk : k < l.length := by rw [tb_len] at h1; exact h1
  have := tb_getD (n := l.length) (fun k => f (l.getD k d)) .undef hk
  rw [List.getD_eq_getElem?_getD, List.getElem?_eq_getElem h1] at this
  simp only [Option.getD_some] at this
  rw [this]
  simp [List.getD_eq_getElem?_getD, hk]
theorem ss_r {k : IntKind} (id off n cap : Nat) (b : Int) : slsX 1 (.rsl id off n cap 1) none (some (.int k b)) = some (decide (0 ≤ b) && decide (b ≤ cap), .rsl id off b.toNat cap 1, none) := by
  simp [slsX]
theorem cnt_idx {r : List UInt8} (h : Lat.idx 10 r < r.length) : r.count 10 = (r.drop (Lat.idx 10 r + 1)).count 10 + 1 := by
  have h1 := Lat.spl_count r
  rw [Lat.spl_idx h, List.length_cons, Lat.spl_count] at h1
  omega
theorem idx_cnt {r : List UInt8} (h : 0 < r.count 10) : Lat.idx 10 r < r.length := by
  rcases Nat.lt_or_ge (Lat.idx 10 r) r.length with h' | h'
  · exact h'
  · exfalso
    have hm : (10 : UInt8) ∈ r := List.count_pos_iff.1 h
    obtain ⟨k, hk, e⟩ := List.getElem_of_mem hm
    exact Lat.idx_no (c := 10) (s := r) (k := k) (by omega) (by rw [List.getD_eq_getElem?_getD, List.getElem?_eq_getElem hk]; exact e)
theorem spl_one {r : List UInt8} (h : r.count 10 = 0) : Lat.spl r = [r] := Lat.spl_no fun hm => by
  have := List.count_pos_iff.2 hm
  omega
set_option maxRecDepth 10000
section
variable {X : Cx} (hX : X.P = Go.Proofs.Tryd.prog) (hs : Std X)
include hX hs
theorem ev_IndexS (s : List UInt8) (c : UInt8) : Ev X F_strings_Index [.str s, .str [c]] (.int .i64 (if Lat.idx c s < s.length then (Lat.idx c s : Int) else -1)) := by
  refine ev_of_wpc hs (A_strings_Index_ok hX) 1 ?_
  simp only [A_strings_Index, go_sem, Nat.reduceMod, Nat.reduceBNe, Nat.reduceBEq, Nat.reduceEqDiff, Nat.reduceAdd, Int.reduceAdd, Nat.reduceMul, Nat.reduceSub, Int.reduceToNat, Int.reduceLE, Int.reduceLT, Int.reduceEq, Int.reduceNe, reduceCtorEq, Nat.reduceLT, Nat.reduceLeDiff]
  refine call_ev (ev_IndexB hX s c) ?_
  rw [ixB]
  simp only [go_sem, Nat.reduceMod, Nat.reduceBNe, Nat.reduceBEq, Nat.reduceEqDiff, Nat.reduceAdd, Int.reduceAdd, Nat.reduceMul, Nat.reduceSub, Int.reduceToNat, Int.reduceLE, Int.reduceLT, Int.reduceEq, Int.reduceNe, reduceCtorEq, Nat.reduceLT, Nat.reduceLeDiff]
theorem ev_Cut (s : List UInt8) (c : UInt8) (hl : s.length < 1000000) : Ev X F_strings_Cut [.str s, .str [c]] (.tuple [.str (if Lat.idx c s < s.length then s.take (Lat.idx c s) else s), .str (if Lat.idx c s < s.length then s.drop (Lat.idx c s + 1) else []), .bool (decide (Lat.idx c s < s.length))]) := by
  have hc : Ev X F_stringslite_Cut [.str s, .str [c]] (.tuple [.str (if Lat.idx c s < s.length then s.take (Lat.idx c s) else s), .str (if Lat.idx c s < s.length then s.drop (Lat.idx c s + 1) else []), .bool (decide (Lat.idx c s < s.length))]) := by
    refine ev_of_wpc hs (A_stringslite_Cut_ok hX) 1 ?_
    simp only [A_stringslite_Cut, go_sem, Nat.reduceMod, Nat.reduceBNe, Nat.reduceBEq, Nat.reduceEqDiff, Nat.reduceAdd, Int.reduceAdd, Nat.reduceMul, Nat.reduceSub, Int.reduceToNat, Int.reduceLE, Int.reduceLT, Int.reduceEq, Int.reduceNe, reduceCtorEq, Nat.reduceLT, Nat.reduceLeDiff]
    refine call_ev (ev_IndexB hX s c) ?_
    rw [ixB]
    by_cases h : Lat.idx c s < s.length
    · simp only [h, go_sem, Nat.reduceMod, Nat.reduceBNe, Nat.reduceBEq, Nat.reduceEqDiff, Nat.reduceAdd, Int.reduceAdd, Nat.reduceMul, Nat.reduceSub, Int.reduceToNat, Int.reduceLE, Int.reduceLT, Int.reduceEq, Int.reduceNe, reduceCtorEq, Nat.reduceLT, Nat.reduceLeDiff]
      refine ⟨fun h0 => ⟨by omega, ?_⟩, fun h0 => by omega⟩
      rw [wi64 (by omega)]
      refine ⟨by omega, ?_⟩
      rw [List.take_length, show ((Lat.idx c s : Int) + 1).toNat = Lat.idx c s + 1 by omega]
    · simp only [h, go_sem, Nat.reduceMod, Nat.reduceBNe, Nat.reduceBEq, Nat.reduceEqDiff, Nat.reduceAdd, Int.reduceAdd, Nat.reduceMul, Nat.reduceSub, Int.reduceToNat, Int.reduceLE, Int.reduceLT, Int.reduceEq, Int.reduceNe, reduceCtorEq, Nat.reduceLT, Nat.reduceLeDiff]
  refine ev_of_wpc hs (A_strings_Cut_ok hX) 1 ?_
  simp only [A_strings_Cut, go_sem, Nat.reduceMod, Nat.reduceBNe, Nat.reduceBEq, Nat.reduceEqDiff, Nat.reduceAdd, Int.reduceAdd, Nat.reduceMul, Nat.reduceSub, Int.reduceToNat, Int.reduceLE, Int.reduceLT, Int.reduceEq, Int.reduceNe, reduceCtorEq, Nat.reduceLT, Nat.reduceLeDiff]
  refine call_ev hc ?_
  simp only [go_sem, Nat.reduceMod, Nat.reduceBNe, Nat.reduceBEq, Nat.reduceEqDiff, Nat.reduceAdd, Int.reduceAdd, Nat.reduceMul, Nat.reduceSub, Int.reduceToNat, Int.reduceLE, Int.reduceLT, Int.reduceEq, Int.reduceNe, reduceCtorEq, Nat.reduceLT, Nat.reduceLeDiff]
theorem ev_HasSuffix (s : List UInt8) (c : UInt8) (hl : s.length < 1000000) : Ev X F_strings_HasSuffix [.str s, .str [c]] (.bool (decide (0 < s.length) && (s.drop (s.length - 1) == [c]))) := by
  have hc : Ev X F_stringslite_HasSuffix [.str s, .str [c]] (.bool (decide (0 < s.length) && (s.drop (s.length - 1) == [c]))) := by
    refine ev_of_wpc hs (A_stringslite_HasSuffix_ok hX) 1 ?_
    simp only [A_stringslite_HasSuffix, go_sem, Nat.reduceMod, Nat.reduceBNe, Nat.reduceBEq, Nat.reduceEqDiff, Nat.reduceAdd, Int.reduceAdd, Nat.reduceMul, Nat.reduceSub, Int.reduceToNat, Int.reduceLE, Int.reduceLT, Int.reduceEq, Int.reduceNe, reduceCtorEq, Nat.reduceLT, Nat.reduceLeDiff]
    refine ⟨fun h => ?_, fun h => ?_⟩
    · rw [wi64 (by omega)]
      refine ⟨by omega, ?_⟩
      rw [List.take_length, show ((s.length : Int) - 1).toNat = s.length - 1 by omega]
      simp only [show 0 < s.length by omega, decide_true, Bool.true_and]
      congr 1
      rw [Bool.eq_iff_iff, decide_eq_true_eq, beq_iff_eq]
    · simp only [show ¬ 0 < s.length by omega, decide_false, Bool.false_and]
  refine ev_of_wpc hs (A_strings_HasSuffix_ok hX) 1 ?_
  simp only [A_strings_HasSuffix, go_sem, Nat.reduceMod, Nat.reduceBNe, Nat.reduceBEq, Nat.reduceEqDiff, Nat.reduceAdd, Int.reduceAdd, Nat.reduceMul, Nat.reduceSub, Int.reduceToNat, Int.reduceLE, Int.reduceLT, Int.reduceEq, Int.reduceNe, reduceCtorEq, Nat.reduceLT, Nat.reduceLeDiff]
  refine call_ev hc ?_
  simp only [go_sem, Nat.reduceMod, Nat.reduceBNe, Nat.reduceBEq, Nat.reduceEqDiff, Nat.reduceAdd, Int.reduceAdd, Nat.reduceMul, Nat.reduceSub, Int.reduceToNat, Int.reduceLE, Int.reduceLT, Int.reduceEq, Int.reduceNe, reduceCtorEq, Nat.reduceLT, Nat.reduceLeDiff]
theorem ev_Split (s : List UInt8) (hl : s.length < 1000000) : Ev X F_strings_Split [.str s, .str [10]] (lst AV.str .ro (Lat.spl s)) := by
  have hc : Ev X F_strings_genSplit [.str s, .str [10], .int .i64 0, .int .i64 (-1)] (lst AV.str .ro (Lat.spl s)) := by
    have hcl : s.count 10 ≤ s.length := List.count_le_length
    refine ev_of_wpc hs (A_strings_genSplit_ok hX) 1 ?_
    simp only [A_strings_genSplit, go_sem, Nat.reduceMod, Nat.reduceBNe, Nat.reduceBEq, Nat.reduceEqDiff, Nat.reduceAdd, Int.reduceAdd, Nat.reduceMul, Nat.reduceSub, Int.reduceToNat, Int.reduceLE, Int.reduceLT, Int.reduceEq, Int.reduceNe, reduceCtorEq, Nat.reduceLT, Nat.reduceLeDiff]
    refine call_ev (ev_CountB hX s 10) ?_
    have e1 : IntKind.i64.wrap ((s.count 10 : Int) + 1) = ((s.count 10 + 1 : Nat) : Int) := by rw [wi64 (by omega)]; rfl
    have e2 : IntKind.i64.wrap ((s.length : Int) + 1) = ((s.length + 1 : Nat) : Int) := by rw [wi64 (by omega)]; rfl
    have e3 : IntKind.i64.wrap (((s.count 10 + 1 : Nat) : Int) - 1) = (s.count 10 : Int) := by rw [wi64 (by omega)]; omega
    have e4 : ¬ ((s.length + 1 : Nat) : Int) < ((s.count 10 + 1 : Nat) : Int) := by omega
    simp only [go_sem, Nat.reduceMod, Nat.reduceBNe, Nat.reduceBEq, Nat.reduceEqDiff, Nat.reduceAdd, Int.reduceAdd, Nat.reduceMul, Nat.reduceSub, Int.reduceToNat, Int.reduceLE, Int.reduceLT, Int.reduceEq, Int.reduceNe, reduceCtorEq, Nat.reduceLT, Nat.reduceLeDiff, e1, e2, if_neg e4, e3]
    refine ⟨by omega, ?_⟩
    have hLl := Lat.spl_count s
    generalize hL : Lat.spl s = L at *
    refine w_loop' hs.hm (ι := Nat × List UInt8) (fun x => x.1 + x.2.count 10 = s.count 10 ∧ L.drop x.1 = Lat.spl x.2 ∧ x.2.length ≤ s.length) (fun x => [(10, .int .i64 x.1), (9, .rsl 0 0 (s.count 10 + 1) (s.count 10 + 1) 1), (3, .int .i64 (s.count 10 : Nat)), (2, .int .i64 0), (1, .str [10]), (0, .str x.2)]) (fun x => [.box (tb (s.count 10 + 1) fun k => .str (if k < x.1 then L.getD k [] else []))]) (fun x => s.count 10 - x.1) (0, s) ?_ fun x hx => ?_
    · simp only [go_sem, Nat.reduceMod, Nat.reduceBNe, Nat.reduceBEq, Nat.reduceEqDiff, Nat.reduceAdd, Int.reduceAdd, Nat.reduceMul, Nat.reduceSub, Int.reduceToNat, Int.reduceLE, Int.reduceLT, Int.reduceEq, Int.reduceNe, reduceCtorEq, Nat.reduceLT, Nat.reduceLeDiff]
      exact ⟨hL.symm, rfl⟩
    obtain ⟨i, r⟩ := x
    obtain ⟨x1, x2, x3⟩ := hx
    simp only at x1 x2 x3
    by_cases hi : i < s.count 10
    · have hix : Lat.idx 10 r < r.length := idx_cnt (by omega)
      have hsp := Lat.spl_idx hix
      have hcn := cnt_idx hix
      have hLi : i < L.length := by omega
      have hd : L.getD i [] = r.take (Lat.idx 10 r) ∧ L.drop (i + 1) = Lat.spl (r.drop (Lat.idx 10 r + 1)) := by
        rw [List.drop_eq_getElem_cons hLi, hsp] at x2
        injection x2 with y1 y2
        exact ⟨by rw [List.getD_eq_getElem?_getD, List.getElem?_eq_getElem hLi]; exact y1, y2⟩
      simp only [A_strings_genSplitL0, go_sem, Nat.reduceMod, Nat.reduceBNe, Nat.reduceBEq, Nat.reduceEqDiff, Nat.reduceAdd, Int.reduceAdd, Nat.reduceMul, Nat.reduceSub, Int.reduceToNat, Int.reduceLE, Int.reduceLT, Int.reduceEq, Int.reduceNe, reduceCtorEq, Nat.reduceLT, Nat.reduceLeDiff]
      refine ⟨fun ci => ?_, fun ci => by omega⟩
      refine call_ev (ev_IndexS hX hs r 10) ?_
      simp only [hix, go_sem, Nat.reduceMod, Nat.reduceBNe, Nat.reduceBEq, Nat.reduceEqDiff, Nat.reduceAdd, Int.reduceAdd, Nat.reduceMul, Nat.reduceSub, Int.reduceToNat, Int.reduceLE, Int.reduceLT, Int.reduceEq, Int.reduceNe, reduceCtorEq, Nat.reduceLT, Nat.reduceLeDiff]
      refine ⟨fun hneg => by omega, fun hneg => ?_⟩
      rw [wi64 (by omega), wi64 (by omega)]
      refine ⟨by omega, by omega, by omega, by omega, (i + 1, r.drop (Lat.idx 10 r + 1)), by simp only; omega, ⟨by simp only; omega, hd.2, by simp only [List.length_drop]; omega⟩, ⟨by simp only; rw [wi64 (by omega)]; rfl, ?_⟩, ?_⟩
      · rw [List.take_length, show ((Lat.idx 10 r : Int) + 1).toNat = Lat.idx 10 r + 1 by omega]
      · rw [Nat.mul_one, tb_set]
        congr 2
        refine tb_congr fun k hk => ?_
        by_cases e : k = i
        · subst e
          rw [if_pos rfl, if_pos (by omega), hd.1, show ((Lat.idx 10 r : Int) + 0).toNat = Lat.idx 10 r by omega]
        · rw [if_neg e]
          by_cases e2 : k < i
          · rw [if_pos e2, if_pos (by omega)]
          · rw [if_neg e2, if_neg (by omega)]
    · have hi : i = s.count 10 := by omega
      subst hi
      have hn : ¬ ((s.count 10 : Nat) : Int) < (s.count 10 : Nat) := by omega
      have hr0 : r.count 10 = 0 := by omega
      have hd : L.getD (s.count 10) [] = r := by
        rw [spl_one hr0, List.drop_eq_getElem_cons (by omega)] at x2
        injection x2 with y1 y2
        rw [List.getD_eq_getElem?_getD, List.getElem?_eq_getElem (by omega)]
        exact y1
      have hb : (tb (s.count 10 + 1) fun k => AV.str (if k < s.count 10 then L.getD k [] else [])).set (s.count 10) (.str r) = L.map AV.str := by
        rw [tb_set, ← tb_map AV.str [] L, hLl]
        refine tb_congr fun k hk => ?_
        by_cases e : k = s.count 10
        · rw [if_pos e, e, hd]
        · rw [if_neg e, if_pos (by omega)]
      simp only [A_strings_genSplitL0, go_sem, Nat.reduceMod, Nat.reduceBNe, Nat.reduceBEq, Nat.reduceEqDiff, Nat.reduceAdd, Int.reduceAdd, Nat.reduceMul, Nat.reduceSub, Int.reduceToNat, Int.reduceLE, Int.reduceLT, Int.reduceEq, Int.reduceNe, reduceCtorEq, Nat.reduceLT, Nat.reduceLeDiff, hn, Nat.mul_one, hb, ss_r, e1, fi_rsl]
      have hsc : (L.map AV.str).all scalarB = true := by
        rw [List.all_eq_true]
        intro x hx
        obtain ⟨y, _, rfl⟩ := List.mem_map.1 hx
        rfl
      refine ⟨by omega, by omega, ?_⟩
      rw [hsc, List.length_map, hLl, decide_eq_true (Nat.le_refl _), Bool.and_true, cond_true, List.take_of_length_le (by rw [List.length_map]; omega), List.map_map]
      rfl
  refine ev_of_wpc hs (A_strings_Split_ok hX) 1 ?_
  simp only [A_strings_Split, go_sem, Nat.reduceMod, Nat.reduceBNe, Nat.reduceBEq, Nat.reduceEqDiff, Nat.reduceAdd, Int.reduceAdd, Nat.reduceMul, Nat.reduceSub, Int.reduceToNat, Int.reduceLE, Int.reduceLT, Int.reduceEq, Int.reduceNe, reduceCtorEq, Nat.reduceLT, Nat.reduceLeDiff]
  refine call_ev hc ?_
  simp only [go_sem, Nat.reduceMod, Nat.reduceBNe, Nat.reduceBEq, Nat.reduceEqDiff, Nat.reduceAdd, Int.reduceAdd, Nat.reduceMul, Nat.reduceSub, Int.reduceToNat, Int.reduceLE, Int.reduceLT, Int.reduceEq, Int.reduceNe, reduceCtorEq, Nat.reduceLT, Nat.reduceLeDiff]
theorem ev_rPrint (ns : List (List UInt8)) (up : List UInt8) : Ev X F_ref03_Print [latV ns up] (.tuple [.str (if (Lat.checkS ns up).2 = 0 then Lat.prt ns up ns.length else []), .int .i64 (Lat.checkS ns up).2]) := by
  refine ev_of_wpc hs (A_ref03_Print_ok hX) 1 ?_
  simp only [A_ref03_Print, latV, go_sem, Nat.reduceMod, Nat.reduceBNe, Nat.reduceBEq, Nat.reduceEqDiff, Nat.reduceAdd, Int.reduceAdd, Nat.reduceMul, Nat.reduceSub, Int.reduceToNat, Int.reduceLE, Int.reduceLT, Int.reduceEq, Int.reduceNe, reduceCtorEq, Nat.reduceLT, Nat.reduceLeDiff]
  refine call_ev (ev_rCheck hX hs ns up) ?_
  by_cases h : (Lat.checkS ns up).2 = 0
  · have hv := chk_val h
    have h8 := hv.le8
    have n0 := hv.pos
    have hnm := Lat.names_nm (Lat.checkS_val h).1
    have pl : ∀ a, a ≤ ns.length → (Lat.prt ns up a).length ≤ 208 := fun a ha => by
      have := Lat.prt_len up h8 (fun i hi => Lat.isNm_len (hnm i hi)) a ha
      have : a * 26 ≤ 8 * 26 := Nat.mul_le_mul_right _ (by omega)
      omega
    simp only [h, if_true, go_sem, Nat.reduceMod, Nat.reduceBNe, Nat.reduceBEq, Nat.reduceEqDiff, Nat.reduceAdd, Int.reduceAdd, Nat.reduceMul, Nat.reduceSub, Int.reduceToNat, Int.reduceLE, Int.reduceLT, Int.reduceEq, Int.reduceNe, reduceCtorEq, Nat.reduceLT, Nat.reduceLeDiff]
    refine w_loop' hs.hm (ι := Nat) (fun a => a ≤ ns.length) (fun a => [(7, .int .i64 a), (6, .str (Lat.prt ns up a)), (1, .ptr 0 0)]) (fun a => [.box [lst AV.str .ro ns, lst u8 .ro up]]) (fun a => ns.length - a) 0 ?_ fun a ha => ?_
    · simp only [Lat.prt, go_sem, Nat.reduceMod, Nat.reduceBNe, Nat.reduceBEq, Nat.reduceEqDiff, Nat.reduceAdd, Int.reduceAdd, Nat.reduceMul, Nat.reduceSub, Int.reduceToNat, Int.reduceLE, Int.reduceLT, Int.reduceEq, Int.reduceNe, reduceCtorEq, Nat.reduceLT, Nat.reduceLeDiff]
      exact Nat.zero_le _
    by_cases han : a < ns.length
    · have hpa := pl a ha
      have hna := Lat.isNm_len (hnm a han)
      simp only [A_ref03_PrintL0, go_sem, Nat.reduceMod, Nat.reduceBNe, Nat.reduceBEq, Nat.reduceEqDiff, Nat.reduceAdd, Int.reduceAdd, Nat.reduceMul, Nat.reduceSub, Int.reduceToNat, Int.reduceLE, Int.reduceLT, Int.reduceEq, Int.reduceNe, reduceCtorEq, Nat.reduceLT, Nat.reduceLeDiff]
      refine ⟨fun ca => ⟨by omega, ?_⟩, fun ca => by omega⟩
      have hdd : ns.getD a default = ns.getD a [] := rfl
      rw [hdd]
      refine ⟨by omega, by rw [List.length_append]; omega, ?_⟩
      refine w_loop' hs.hm (ι := Nat) (fun b => b ≤ ns.length) (fun b => [(8, .int .i64 b), (7, .int .i64 a), (6, .str (Lat.prt ns up a ++ ns.getD a [] ++ [32] ++ Lat.rowT up a b)), (1, .ptr 0 0)]) (fun a => [.box [lst AV.str .ro ns, lst u8 .ro up]]) (fun b => ns.length - b) 0 ?_ fun b hb => ?_
      · simp only [Lat.rowT, go_sem, Nat.reduceMod, Nat.reduceBNe, Nat.reduceBEq, Nat.reduceEqDiff, Nat.reduceAdd, Int.reduceAdd, Nat.reduceMul, Nat.reduceSub, Int.reduceToNat, Int.reduceLE, Int.reduceLT, Int.reduceEq, Int.reduceNe, reduceCtorEq, Nat.reduceLT, Nat.reduceLeDiff]
        exact Nat.zero_le _
      have hrl := Lat.rowT_len up a b
      by_cases hbn : b < ns.length
      · simp only [A_ref03_PrintL1, go_sem, Nat.reduceMod, Nat.reduceBNe, Nat.reduceBEq, Nat.reduceEqDiff, Nat.reduceAdd, Int.reduceAdd, Nat.reduceMul, Nat.reduceSub, Int.reduceToNat, Int.reduceLE, Int.reduceLT, Int.reduceEq, Int.reduceNe, reduceCtorEq, Nat.reduceLT, Nat.reduceLeDiff]
        refine ⟨fun cb => ?_, fun cb => by omega⟩
        refine call_ev (ev_Below hX hs ns up a b) ?_
        rw [below_nat up a b (by have := hv.len; omega)]
        have hs1 : (Lat.prt ns up a ++ ns.getD a [] ++ [32] ++ Lat.rowT up a b).length ≤ 300 := by
          simp only [List.length_append, List.length_cons, List.length_nil, hrl]
          omega
        cases hl : Lat.le up a b with
        | true =>
          simp only [go_sem, Nat.reduceMod, Nat.reduceBNe, Nat.reduceBEq, Nat.reduceEqDiff, Nat.reduceAdd, Int.reduceAdd, Nat.reduceMul, Nat.reduceSub, Int.reduceToNat, Int.reduceLE, Int.reduceLT, Int.reduceEq, Int.reduceNe, reduceCtorEq, Nat.reduceLT, Nat.reduceLeDiff]
          refine ⟨by omega, b + 1, by omega, by omega, by rw [wi64 (by omega)]; rfl, ?_⟩
          simp only [Lat.rowT, hl, Lat.dg, if_true, List.append_assoc]
        | false =>
          simp only [go_sem, Nat.reduceMod, Nat.reduceBNe, Nat.reduceBEq, Nat.reduceEqDiff, Nat.reduceAdd, Int.reduceAdd, Nat.reduceMul, Nat.reduceSub, Int.reduceToNat, Int.reduceLE, Int.reduceLT, Int.reduceEq, Int.reduceNe, reduceCtorEq, Nat.reduceLT, Nat.reduceLeDiff]
          refine ⟨by omega, b + 1, by omega, by omega, by rw [wi64 (by omega)]; rfl, ?_⟩
          simp only [Lat.rowT, hl, Lat.dg, Bool.false_eq_true, if_false, List.append_assoc]
      · obtain rfl : b = ns.length := by omega
        have hn : ¬ (ns.length : Int) < ns.length := by omega
        simp only [A_ref03_PrintL1, go_sem, Nat.reduceMod, Nat.reduceBNe, Nat.reduceBEq, Nat.reduceEqDiff, Nat.reduceAdd, Int.reduceAdd, Nat.reduceMul, Nat.reduceSub, Int.reduceToNat, Int.reduceLE, Int.reduceLT, Int.reduceEq, Int.reduceNe, reduceCtorEq, Nat.reduceLT, Nat.reduceLeDiff, hn]
        refine ⟨by simp only [List.length_append, List.length_cons, List.length_nil, hrl]; omega, a + 1, by omega, by omega, by rw [wi64 (by omega)]; rfl, ?_⟩
        simp only [Lat.prt, List.append_assoc]
    · obtain rfl : a = ns.length := by omega
      have hn : ¬ (ns.length : Int) < ns.length := by omega
      simp only [A_ref03_PrintL0, go_sem, Nat.reduceMod, Nat.reduceBNe, Nat.reduceBEq, Nat.reduceEqDiff, Nat.reduceAdd, Int.reduceAdd, Nat.reduceMul, Nat.reduceSub, Int.reduceToNat, Int.reduceLE, Int.reduceLT, Int.reduceEq, Int.reduceNe, reduceCtorEq, Nat.reduceLT, Nat.reduceLeDiff, hn]
  · simp only [h, if_false, go_sem, Nat.reduceMod, Nat.reduceBNe, Nat.reduceBEq, Nat.reduceEqDiff, Nat.reduceAdd, Int.reduceAdd, Nat.reduceMul, Nat.reduceSub, Int.reduceToNat, Int.reduceLE, Int.reduceLT, Int.reduceEq, Int.reduceNe, reduceCtorEq, Nat.reduceLT, Nat.reduceLeDiff]
end
end Go.Avm

/- Parse. -/
namespace Go.Avm
open Go
def prsV (t : List UInt8) : AV := .tuple [latV (if (Lat.prsE t).2 = 0 then Lat.nms (Lat.lns t) else []) (if (Lat.prsE t).2 = 0 then Lat.rws (Lat.lns t) (t.count 10) else []), .int .i64 (Lat.prsE t).1, .int .i64 (Lat.prsE t).2]
theorem prsV_no {t : List UInt8} {a b : Int} (h : Lat.prsE t = (a, b)) (hb : b ≠ 0) : AV.tuple [.agg [.sl .ro [], .sl .ro []], .int .i64 a, .int .i64 b] = prsV t := by
  simp only [prsV, h, if_neg hb]
  rfl
theorem prsV_ok {t : List UInt8} {N : List (List UInt8)} {U : List UInt8} (h : Lat.prsE t = (0, 0)) (hN : N = Lat.nms (Lat.lns t)) (hU : U = Lat.rws (Lat.lns t) (t.count 10)) : AV.tuple [.agg [lst AV.str .ro N, lst u8 .ro U], .int .i64 0, .int .i64 0] = prsV t := by
  simp only [prsV, h, if_true, hN, hU]
  rfl
theorem nms_take {L : List (List UInt8)} {i : Nat} (hi : i < L.length) : Lat.nms (L.take i) ++ [Lat.lnN (L.getD i [])] = Lat.nms (L.take (i + 1)) := by
  rw [List.take_add_one, List.getElem?_eq_getElem hi, List.getD_eq_getElem?_getD, List.getElem?_eq_getElem hi]
  simp only [Lat.nms, List.map_append, Option.toList_some, List.map_cons, List.map_nil, Option.getD_some]
theorem rws_take {L : List (List UInt8)} {i n : Nat} (hi : i < L.length) : Lat.rws (L.take i) n ++ [UInt8.ofNat (Lat.rowV (Lat.lnR (L.getD i [])) n)] = Lat.rws (L.take (i + 1)) n := by
  rw [List.take_add_one, List.getElem?_eq_getElem hi, List.getD_eq_getElem?_getD, List.getElem?_eq_getElem hi]
  simp only [Lat.rws, List.map_append, Option.toList_some, List.map_cons, List.map_nil, Option.getD_some]
theorem suf10 {t : List UInt8} (h : 0 < t.length) : (decide (0 < t.length) && (t.drop (t.length - 1) == [10])) = decide (t.getD (t.length - 1) 0 = 10) := by
  have h1 : t.length - 1 < t.length := by omega
  rw [List.drop_eq_getElem_cons h1, List.drop_of_length_le (by omega), List.getD_eq_getElem?_getD, List.getElem?_eq_getElem h1]
  simp only [h, decide_true, Bool.true_and, Option.getD_some]
  rw [Bool.eq_iff_iff]
  simp
theorem spl_len {s : List UInt8} : ∀ l ∈ Lat.spl s, l.length ≤ s.length := by
  induction s with
  | nil => simp [Lat.spl]
  | cons b r ih =>
    intro l hl
    simp only [Lat.spl] at hl
    split at hl
    · rcases List.mem_cons.1 hl with rfl | hl
      · simp
      · have := ih l hl; simp; omega
    · cases h : Lat.spl r with
      | nil => exact absurd h (Lat.spl_ne r)
      | cons y t =>
        rw [h] at hl ih
        rcases List.mem_cons.1 hl with rfl | hl
        · have := ih y (by simp); simp; omega
        · have := ih l (by simp [hl]); simp; omega
theorem chk_rng (l : List (List UInt8)) (up : List UInt8) : -1 ≤ (Lat.checkS l up).1 ∧ (Lat.checkS l up).1 ≤ 8 := by
  have hn : -1 ≤ (Lat.namesS l).1 ∧ (Lat.namesS l).1 ≤ 8 := by
    unfold Lat.namesS
    split
    · simp
    · rename_i hl
      split
      · rename_i i hi
        have := (Lat.ff_eq_some.1 hi).1
        simp only
        omega
      · simp
  unfold Lat.checkS
  split
  · exact hn
  · rename_i h0
    have h8 := (Lat.names_8 (l := l) (by simpa using h0)).2
    unfold Lat.rowsS
    split
    · simp
    · split
      · rename_i i hi
        have := (Lat.ff_eq_some.1 hi).1
        simp only
        omega
      · split
        · rename_i i hi
          have := (Lat.ff_eq_some.1 hi).1
          simp only
          omega
        · simp
/-- the lines that are whole, and what is behind them -/
def dnL (t : List UInt8) (i : Nat) : List (List UInt8) := (Lat.spl (t.take i)).dropLast
def dnP (t : List UInt8) (i : Nat) : List UInt8 := (Lat.spl (t.take i)).getLastD []
theorem spl_two (s : List UInt8) : Lat.spl s = (Lat.spl s).dropLast ++ [(Lat.spl s).getLastD []] := by
  have h := Lat.spl_ne s
  conv => lhs; rw [← List.dropLast_concat_getLast h]
  rw [List.getLastD_eq_getLast?, List.getLast?_eq_some_getLast h]
  rfl
theorem spl_snoc {s : List UInt8} {b : UInt8} (hb : b ≠ 10) : Lat.spl (s ++ [b]) = (Lat.spl s).dropLast ++ [(Lat.spl s).getLastD [] ++ [b]] := by
  induction s with
  | nil => simp [Lat.spl, hb]
  | cons x s ih =>
    simp only [List.cons_append, Lat.spl]
    rw [ih]
    cases h : Lat.spl s with
    | nil => exact absurd h (Lat.spl_ne s)
    | cons y r =>
      split
      · simp [List.getLastD]
      · cases r with
        | nil => simp [List.getLastD]
        | cons z r => simp [List.getLastD]
theorem spl_suf (s : List UInt8) : ∃ p, s = p ++ (Lat.spl s).getLastD [] := by
  have h := Lat.jn10_spl s
  rw [spl_two s, Lat.jn10_app] at h
  simp only [Lat.jn10] at h
  refine ⟨Lat.jn10 (Lat.spl s).dropLast, ?_⟩
  rw [show Lat.jn10 (Lat.spl s).dropLast ++ ((Lat.spl s).getLastD [] ++ [10]) = (Lat.jn10 (Lat.spl s).dropLast ++ (Lat.spl s).getLastD []) ++ [10] by simp] at h
  exact (List.append_cancel_right h).symm
theorem take_s {t : List UInt8} {i : Nat} (hi : i < t.length) : t.take (i + 1) = t.take i ++ [t.getD i 0] := by
  rw [List.take_add_one, List.getElem?_eq_getElem hi, List.getD_eq_getElem?_getD, List.getElem?_eq_getElem hi]
  rfl
theorem dn_no {t : List UInt8} {i : Nat} (hi : i < t.length) (hb : t.getD i 0 ≠ 10) : dnL t (i + 1) = dnL t i ∧ dnP t (i + 1) = dnP t i ++ [t.getD i 0] := by
  unfold dnL dnP
  rw [take_s hi, spl_snoc hb]
  refine ⟨List.dropLast_concat, ?_⟩
  simp [List.getLastD_eq_getLast?]
theorem dn_yes {t : List UInt8} {i : Nat} (hi : i < t.length) (hb : t.getD i 0 = 10) : dnL t (i + 1) = dnL t i ++ [dnP t i] ∧ dnP t (i + 1) = [] := by
  unfold dnL dnP
  rw [take_s hi, hb, Lat.spl_app, Lat.spl]
  refine ⟨?_, ?_⟩
  · rw [List.dropLast_concat]
    exact spl_two _
  · simp [List.getLastD_eq_getLast?]
theorem dnP_suf (t : List UInt8) {i : Nat} (hi : i ≤ t.length) : (dnP t i).length ≤ i ∧ (t.take i).drop (i - (dnP t i).length) = dnP t i := by
  obtain ⟨p, hp⟩ := spl_suf (t.take i)
  have hl : (t.take i).length = i := by rw [List.length_take]; omega
  have hp' : t.take i = p ++ dnP t i := hp
  have h2 := congrArg List.length hp'
  rw [hl, List.length_append] at h2
  refine ⟨by omega, ?_⟩
  conv => lhs; rw [hp']
  rw [show i - (dnP t i).length = p.length by omega, List.drop_left']
  rfl
/-- The line that ends here is one of the text's. -/
theorem dn_line {t : List UInt8} {i : Nat} (hi : i < t.length) (hb : t.getD i 0 = 10) (h10 : t.getD (t.length - 1) 0 = 10) : ∃ R, Lat.lns t = dnL t i ++ dnP t i :: R := by
  have e : Lat.spl (t.take i) = dnL t i ++ [dnP t i] := spl_two _
  by_cases hl : i = t.length - 1
  · refine ⟨[], ?_⟩
    rw [Lat.lns, ← hl, e]
  · have e2 : t.take (t.length - 1) = t.take i ++ 10 :: (t.take (t.length - 1)).drop (i + 1) := by
      conv => lhs; rw [← List.take_append_drop (i + 1) (t.take (t.length - 1))]
      rw [List.take_take, Nat.min_eq_left (by omega), take_s hi, hb]
      simp
    refine ⟨Lat.spl ((t.take (t.length - 1)).drop (i + 1)), ?_⟩
    rw [Lat.lns, e2, Lat.spl_app, e, List.append_assoc]
    have e3 : (t.take i ++ 10 :: (t.take (t.length - 1)).drop (i + 1)).drop (i + 1) = (t.take (t.length - 1)).drop (i + 1) := by rw [← e2]
    rw [e3]
    rfl
theorem dn_end {t : List UInt8} (h10 : t.getD (t.length - 1) 0 = 10) : dnL t t.length = Lat.lns t := by
  have e : Lat.spl t = Lat.lns t ++ [[]] := by
    conv => lhs; rw [Lat.last10 h10]
    rw [Lat.spl_app]
    rfl
  rw [dnL, List.take_length, e, List.dropLast_concat]
theorem dn_0 (t : List UInt8) : dnL t 0 = [] ∧ dnP t 0 = [] := ⟨rfl, rfl⟩
theorem nms_snoc (L : List (List UInt8)) (s : List UInt8) : Lat.nms L ++ [Lat.lnN s] = Lat.nms (L ++ [s]) := by simp [Lat.nms]
theorem rws_snoc (L : List (List UInt8)) (s : List UInt8) (n : Nat) : Lat.rws L n ++ [UInt8.ofNat (Lat.rowV (Lat.lnR s) n)] = Lat.rws (L ++ [s]) n := by simp [Lat.rws]
set_option maxRecDepth 10000
section
variable {X : Cx} (hX : X.P = Go.Proofs.Tryd.prog) (hs : Std X)
include hX hs
set_option maxHeartbeats 1000000 in
theorem ev_Parse (t : List UInt8) (hl : t.length < 1000000) : Ev X F_lattice_Parse [.str t] (prsV t) := by
  refine ev_of_wpcd hs (A_lattice_Parse_ok hX) 1 ?_
  simp only [A_lattice_Parse, go_sem, Nat.reduceMod, Nat.reduceBNe, Nat.reduceBEq, Nat.reduceEqDiff, Nat.reduceAdd, Int.reduceAdd, Nat.reduceMul, Nat.reduceSub, Int.reduceToNat, Int.reduceLE, Int.reduceLT, Int.reduceEq, Int.reduceNe, reduceCtorEq, Nat.reduceLT, Nat.reduceLeDiff]
  refine call_ev (ev_CountB hX t 10) ?_
  simp only [go_sem, Nat.reduceMod, Nat.reduceBNe, Nat.reduceBEq, Nat.reduceEqDiff, Nat.reduceAdd, Int.reduceAdd, Nat.reduceMul, Nat.reduceSub, Int.reduceToNat, Int.reduceLE, Int.reduceLT, Int.reduceEq, Int.reduceNe, reduceCtorEq, Nat.reduceLT, Nat.reduceLeDiff]
  have e1 : (300 < t.length ∨ t.count 10 < 1 ∨ 8 < t.count 10) → AV.tuple [.agg [.sl .ro [], .sl .ro []], .int .i64 0, .int .i64 3] = prsV t := fun h => prsV_no (Lat.prsE_1 h) (by decide)
  refine ⟨fun h => e1 (by omega), fun h1 => ⟨fun h => e1 (by omega), fun h2 => ⟨fun h => e1 (by omega), fun h3 => ?_⟩⟩⟩
  have hok : ¬ (300 < t.length ∨ t.count 10 < 1 ∨ 8 < t.count 10) := by omega
  have hcl : t.count 10 ≤ t.length := List.count_le_length
  refine call_ev (ev_HasSuffix hX hs t 10 hl) ?_
  rw [suf10 (by omega)]
  by_cases h10 : t.getD (t.length - 1) 0 = 10
  · simp only [h10, go_sem, Nat.reduceMod, Nat.reduceBNe, Nat.reduceBEq, Nat.reduceEqDiff, Nat.reduceAdd, Int.reduceAdd, Nat.reduceMul, Nat.reduceSub, Int.reduceToNat, Int.reduceLE, Int.reduceLT, Int.reduceEq, Int.reduceNe, reduceCtorEq, Nat.reduceLT, Nat.reduceLeDiff]
    rw [wi64 (by omega)]
    refine ⟨by omega, ?_⟩
    rw [show ((t.length : Int) - 1).toNat = t.length - 1 by omega]
    refine call_ev (r := lst AV.str .ro (Lat.lns t)) (ev_Split hX hs (t.take (t.length - 1)) (by rw [List.length_take]; omega)) ?_
    have hLl := Lat.lns_len h10
    have hLs : ∀ i, i < (Lat.lns t).length → ((Lat.lns t).getD i []).length ≤ 300 := fun i hi => by
      have := spl_len ((Lat.lns t).getD i []) (by rw [List.getD_eq_getElem?_getD, List.getElem?_eq_getElem hi]; exact List.getElem_mem _)
      rw [List.length_take] at this
      omega
    simp only [go_sem, Nat.reduceMod, Nat.reduceBNe, Nat.reduceBEq, Nat.reduceEqDiff, Nat.reduceAdd, Int.reduceAdd, Nat.reduceMul, Nat.reduceSub, Int.reduceToNat, Int.reduceLE, Int.reduceLT, Int.reduceEq, Int.reduceNe, reduceCtorEq, Nat.reduceLT, Nat.reduceLeDiff]
    refine w_loop hs.hm (ι := Nat) (fun i => i ≤ (Lat.lns t).length ∧ ∀ j, j < i → Lat.lnOk (t.count 10) ((Lat.lns t).getD j []) = true) (fun i => [(42, .int .i64 i), (41, .int .i64 (Lat.lns t).length), (40, lst AV.str .ro (Lat.lns t)), (5, .int .i64 (t.count 10 : Nat)), (2, .ptr 0 0)]) (fun i => [.box [lst AV.str (.tok 1 1) (Lat.nms ((Lat.lns t).take i)), lst u8 (.tok 2 1) (Lat.rws ((Lat.lns t).take i) (t.count 10))], .tok i, .tok i]) (fun i => (Lat.lns t).length - i) 0 ⟨⟨Nat.zero_le _, no_lt0⟩, _, _, fun n => (wk_tokb 0 0 1 rfl rfl n).trans (wk_tokb 0 1 1 rfl rfl n), ⟨by simp only [go_sem, Nat.reduceMod, Nat.reduceBNe, Nat.reduceBEq, Nat.reduceEqDiff, Nat.reduceAdd, Int.reduceAdd, Nat.reduceMul, Nat.reduceSub, Int.reduceToNat, Int.reduceLE, Int.reduceLT, Int.reduceEq, Int.reduceNe, reduceCtorEq, Nat.reduceLT, Nat.reduceLeDiff], rfl⟩⟩ fun i hi => ?_
    obtain ⟨i1, i2⟩ := hi
    by_cases hi : i < (Lat.lns t).length
    · simp only [A_lattice_ParseL0, go_sem, Nat.reduceMod, Nat.reduceBNe, Nat.reduceBEq, Nat.reduceEqDiff, Nat.reduceAdd, Int.reduceAdd, Nat.reduceMul, Nat.reduceSub, Int.reduceToNat, Int.reduceLE, Int.reduceLT, Int.reduceEq, Int.reduceNe, reduceCtorEq, Nat.reduceLT, Nat.reduceLeDiff]
      refine ⟨fun ci => ⟨by omega, ?_⟩, fun ci => by omega⟩
      have hsl := hLs i hi
      have en := nms_take hi
      have eu := rws_take (n := t.count 10) hi
      have hdd : (Lat.lns t).getD i default = (Lat.lns t).getD i [] := rfl
      rw [hdd]
      have ln : (Lat.nms ((Lat.lns t).take i)).length = i := by simp only [Lat.nms, List.length_map, List.length_take]; omega
      have lu : (Lat.rws ((Lat.lns t).take i) (t.count 10)).length = i := by simp only [Lat.rws, List.length_map, List.length_take]; omega
      have hbad : Lat.lnOk (t.count 10) ((Lat.lns t).getD i []) = false → AV.tuple [.agg [.sl .ro [], .sl .ro []], .int .i64 (IntKind.i64.wrap (i + 1)), .int .i64 6] = prsV t := fun hb => by
        rw [wi64 (by omega)]
        exact prsV_no (Lat.prsE_3 hok h10 hi hb i2) (by decide)
      have hgood := lt1 (P := fun j => Lat.lnOk (t.count 10) ((Lat.lns t).getD j []) = true) i2
      generalize (Lat.lns t).getD i [] = s at *
      refine call_ev (ev_Cut hX hs s 32 (by omega)) ?_
      by_cases hx : Lat.idx 32 s < s.length
      · simp only [hx, go_sem, Nat.reduceMod, Nat.reduceBNe, Nat.reduceBEq, Nat.reduceEqDiff, Nat.reduceAdd, Int.reduceAdd, Nat.reduceMul, Nat.reduceSub, Int.reduceToNat, Int.reduceLE, Int.reduceLT, Int.reduceEq, Int.reduceNe, reduceCtorEq, Nat.reduceLT, Nat.reduceLeDiff]
        have eN : s.take (Lat.idx 32 s) = Lat.lnN s := rfl
        have eR : s.drop (Lat.idx 32 s + 1) = Lat.lnR s := rfl
        rw [eN, eR]
        have hRl : (Lat.lnR s).length ≤ 300 := by rw [Lat.lnR, List.length_drop]; omega
        refine call_ev (ev_row hX hs (Lat.lnR s) (t.count 10) (by omega) (by omega)) ?_
        cases hro : Lat.rowOk (Lat.lnR s) (t.count 10) with
        | false =>
          simp only [go_sem, Nat.reduceMod, Nat.reduceBNe, Nat.reduceBEq, Nat.reduceEqDiff, Nat.reduceAdd, Int.reduceAdd, Nat.reduceMul, Nat.reduceSub, Int.reduceToNat, Int.reduceLE, Int.reduceLT, Int.reduceEq, Int.reduceNe, reduceCtorEq, Nat.reduceLT, Nat.reduceLeDiff]
          exact hbad (by simp only [Lat.lnOk, hro, Bool.and_false])
        | true =>
          simp only [go_sem, Nat.reduceMod, Nat.reduceBNe, Nat.reduceBEq, Nat.reduceEqDiff, Nat.reduceAdd, Int.reduceAdd, Nat.reduceMul, Nat.reduceSub, Int.reduceToNat, Int.reduceLE, Int.reduceLT, Int.reduceEq, Int.reduceNe, reduceCtorEq, Nat.reduceLT, Nat.reduceLeDiff]
          refine call_ev (ev_Name hX hs (Lat.lnN s)) ?_
          cases hnm : Lat.isNm (Lat.lnN s) with
          | false =>
            simp only [go_sem, Nat.reduceMod, Nat.reduceBNe, Nat.reduceBEq, Nat.reduceEqDiff, Nat.reduceAdd, Int.reduceAdd, Nat.reduceMul, Nat.reduceSub, Int.reduceToNat, Int.reduceLE, Int.reduceLT, Int.reduceEq, Int.reduceNe, reduceCtorEq, Nat.reduceLT, Nat.reduceLeDiff]
            exact hbad (by simp only [Lat.lnOk, hnm, Bool.and_false, Bool.false_and])
          | true =>
            have hu : ((Lat.rowV (Lat.lnR s) (t.count 10) : Nat) : Int) = (((UInt8.ofNat (Lat.rowV (Lat.lnR s) (t.count 10))).toNat : Nat) : Int) := by rw [UInt8.toNat_ofNat', Nat.mod_eq_of_lt (Lat.rowV_lt8 _ (by omega))]
            rw [rowW_ok hro]
            simp only [go_sem, Nat.reduceMod, Nat.reduceBNe, Nat.reduceBEq, Nat.reduceEqDiff, Nat.reduceAdd, Int.reduceAdd, Nat.reduceMul, Nat.reduceSub, Int.reduceToNat, Int.reduceLE, Int.reduceLT, Int.reduceEq, Int.reduceNe, reduceCtorEq, Nat.reduceLT, Nat.reduceLeDiff, hu, ln, lu, en, eu]
            exact ⟨by omega, by omega, i + 1, by omega, ⟨by omega, hgood (by simp only [Lat.lnOk, hro, hnm, hx, decide_true, Bool.and_self])⟩, by rw [wi64 (by omega)]; rfl, rfl⟩
      · simp only [hx, go_sem, Nat.reduceMod, Nat.reduceBNe, Nat.reduceBEq, Nat.reduceEqDiff, Nat.reduceAdd, Int.reduceAdd, Nat.reduceMul, Nat.reduceSub, Int.reduceToNat, Int.reduceLE, Int.reduceLT, Int.reduceEq, Int.reduceNe, reduceCtorEq, Nat.reduceLT, Nat.reduceLeDiff]
        refine call_ev (ev_row hX hs [] (t.count 10) (by omega) (by decide)) ?_
        simp only [go_sem, Nat.reduceMod, Nat.reduceBNe, Nat.reduceBEq, Nat.reduceEqDiff, Nat.reduceAdd, Int.reduceAdd, Nat.reduceMul, Nat.reduceSub, Int.reduceToNat, Int.reduceLE, Int.reduceLT, Int.reduceEq, Int.reduceNe, reduceCtorEq, Nat.reduceLT, Nat.reduceLeDiff]
        exact hbad (by simp only [Lat.lnOk, hx, decide_false, Bool.false_and])
    · obtain rfl : i = (Lat.lns t).length := by omega
      have hn : ¬ ((Lat.lns t).length : Int) < (Lat.lns t).length := by omega
      rw [List.take_length]
      simp only [A_lattice_ParseL0, go_sem, Nat.reduceMod, Nat.reduceBNe, Nat.reduceBEq, Nat.reduceEqDiff, Nat.reduceAdd, Int.reduceAdd, Nat.reduceMul, Nat.reduceSub, Int.reduceToNat, Int.reduceLE, Int.reduceLT, Int.reduceEq, Int.reduceNe, reduceCtorEq, Nat.reduceLT, Nat.reduceLeDiff, hn]
      refine call_ev (ev_Check hX hs (Lat.nms (Lat.lns t)) (Lat.rws (Lat.lns t) (t.count 10))) ?_
      have hk := Lat.prsE_4 hok h10 i2
      have hr := chk_rng (Lat.nms (Lat.lns t)) (Lat.rws (Lat.lns t) (t.count 10))
      by_cases h : (Lat.checkS (Lat.nms (Lat.lns t)) (Lat.rws (Lat.lns t) (t.count 10))).2 = 0
      · rw [if_pos h] at hk
        simp only [h, go_sem, Nat.reduceMod, Nat.reduceBNe, Nat.reduceBEq, Nat.reduceEqDiff, Nat.reduceAdd, Int.reduceAdd, Nat.reduceMul, Nat.reduceSub, Int.reduceToNat, Int.reduceLE, Int.reduceLT, Int.reduceEq, Int.reduceNe, reduceCtorEq, Nat.reduceLT, Nat.reduceLeDiff]
        exact prsV_ok hk rfl rfl
      · rw [if_neg h] at hk
        simp only [h, go_sem, Nat.reduceMod, Nat.reduceBNe, Nat.reduceBEq, Nat.reduceEqDiff, Nat.reduceAdd, Int.reduceAdd, Nat.reduceMul, Nat.reduceSub, Int.reduceToNat, Int.reduceLE, Int.reduceLT, Int.reduceEq, Int.reduceNe, reduceCtorEq, Nat.reduceLT, Nat.reduceLeDiff]
        rw [wi64 (by omega)]
        exact prsV_no hk h
  · simp only [h10, go_sem, Nat.reduceMod, Nat.reduceBNe, Nat.reduceBEq, Nat.reduceEqDiff, Nat.reduceAdd, Int.reduceAdd, Nat.reduceMul, Nat.reduceSub, Int.reduceToNat, Int.reduceLE, Int.reduceLT, Int.reduceEq, Int.reduceNe, reduceCtorEq, Nat.reduceLT, Nat.reduceLeDiff]
    exact prsV_no (Lat.prsE_2 hok h10) (by decide)
set_option maxHeartbeats 1000000 in
theorem ev_rParse (t : List UInt8) (hl : t.length < 1000000) : Ev X F_ref03_Parse [.str t] (prsV t) := by
  refine ev_of_wpcd hs (A_ref03_Parse_ok hX) 1 ?_
  simp only [A_ref03_Parse, go_sem, Nat.reduceMod, Nat.reduceBNe, Nat.reduceBEq, Nat.reduceEqDiff, Nat.reduceAdd, Int.reduceAdd, Nat.reduceMul, Nat.reduceSub, Int.reduceToNat, Int.reduceLE, Int.reduceLT, Int.reduceEq, Int.reduceNe, reduceCtorEq, Nat.reduceLT, Nat.reduceLeDiff]
  have hcl : t.count 10 ≤ t.length := List.count_le_length
  refine w_loop' hs.hm (ι := Nat) (fun i => i ≤ t.length) (fun i => [(6, .int .i64 i), (5, .int .i64 ((t.take i).count 10 : Nat)), (2, .ptr 0 0), (0, .str t)]) (fun _ => [.box [.sl .ex [], .sl .ex []]]) (fun i => t.length - i) 0 ?_ fun i hi => ?_
  · simp only [go_sem, Nat.reduceMod, Nat.reduceBNe, Nat.reduceBEq, Nat.reduceEqDiff, Nat.reduceAdd, Int.reduceAdd, Nat.reduceMul, Nat.reduceSub, Int.reduceToNat, Int.reduceLE, Int.reduceLT, Int.reduceEq, Int.reduceNe, reduceCtorEq, Nat.reduceLT, Nat.reduceLeDiff]
    exact ⟨Nat.zero_le _, rfl⟩
  by_cases hit : i < t.length
  · have hcc : (t.take i).count 10 ≤ t.length := Nat.le_trans List.count_le_length (by rw [List.length_take]; omega)
    have hct : (t.take (i + 1)).count 10 = (t.take i).count 10 + if t.getD i 0 = 10 then 1 else 0 := by
      rw [take_s hit, List.count_append, List.count_singleton]
      simp
    have hii : ¬ t.length ≤ i := by omega
    by_cases hb : t.getD i 0 = 10
    · rw [if_pos hb] at hct
      have hbI : ((t.getD i 0).toNat : Int) = 10 := by rw [hb]; rfl
      simp only [A_ref03_ParseL0, go_sem, Nat.reduceMod, Nat.reduceBNe, Nat.reduceBEq, Nat.reduceEqDiff, Nat.reduceAdd, Int.reduceAdd, Nat.reduceMul, Nat.reduceSub, Int.reduceToNat, Int.reduceLE, Int.reduceLT, Int.reduceEq, Int.reduceNe, reduceCtorEq, Nat.reduceLT, Nat.reduceLeDiff, hbI]
      refine ⟨fun ci => ⟨by omega, i + 1, by omega, by omega, by rw [wi64 (by omega)]; rfl, ?_⟩, fun ci => by omega⟩
      rw [hct, wi64 (by omega)]
      rfl
    · rw [if_neg hb] at hct
      have hb' : ¬ ((t.getD i 0).toNat : Int) = 10 := fun e => hb (UInt8.toNat_inj.1 (by rw [show (t.getD i 0).toNat = 10 by omega]; rfl))
      simp only [A_ref03_ParseL0, go_sem, Nat.reduceMod, Nat.reduceBNe, Nat.reduceBEq, Nat.reduceEqDiff, Nat.reduceAdd, Int.reduceAdd, Nat.reduceMul, Nat.reduceSub, Int.reduceToNat, Int.reduceLE, Int.reduceLT, Int.reduceEq, Int.reduceNe, reduceCtorEq, Nat.reduceLT, Nat.reduceLeDiff, hb']
      refine ⟨fun ci => ⟨by omega, i + 1, by omega, by omega, by rw [wi64 (by omega)]; rfl, ?_⟩, fun ci => by omega⟩
      rw [hct]
      rfl
  obtain rfl : i = t.length := by omega
  have hn : ¬ (t.length : Int) < t.length := by omega
  rw [List.take_length]
  simp only [A_ref03_ParseL0, go_sem, Nat.reduceMod, Nat.reduceBNe, Nat.reduceBEq, Nat.reduceEqDiff, Nat.reduceAdd, Int.reduceAdd, Nat.reduceMul, Nat.reduceSub, Int.reduceToNat, Int.reduceLE, Int.reduceLT, Int.reduceEq, Int.reduceNe, reduceCtorEq, Nat.reduceLT, Nat.reduceLeDiff, hn]
  have e1 : (300 < t.length ∨ t.count 10 < 1 ∨ 8 < t.count 10) → AV.tuple [.agg [.sl .ro [], .sl .ro []], .int .i64 0, .int .i64 3] = prsV t := fun h => prsV_no (Lat.prsE_1 h) (by decide)
  refine ⟨fun h => e1 (by omega), fun h1 => ⟨fun h => e1 (by omega), fun h2 => ⟨fun h => e1 (by omega), fun h3 => ?_⟩⟩⟩
  have hok : ¬ (300 < t.length ∨ t.count 10 < 1 ∨ 8 < t.count 10) := by omega
  rw [wi64 (by omega), show ((t.length : Int) - 1).toNat = t.length - 1 by omega]
  refine ⟨by omega, fun hne => prsV_no (Lat.prsE_2 hok fun e => hne (by rw [e]; rfl)) (by decide), fun heq => ?_⟩
  have h10 : t.getD (t.length - 1) 0 = 10 := UInt8.toNat_inj.1 (by rw [show (t.getD (t.length - 1) 0).toNat = 10 by omega]; rfl)
  have hLl := Lat.lns_len h10
  clear heq e1
  refine w_loop hs.hm (ι := Nat) (fun i => i ≤ t.length ∧ ∀ s ∈ dnL t i, Lat.lnOk (t.count 10) s = true) (fun i => [(9, .int .i64 i), (8, .int .i64 ((i - (dnP t i).length : Nat) : Int)), (7, .ptr 1 0), (5, .int .i64 (t.count 10 : Nat)), (2, .ptr 0 0), (0, .str t)]) (fun i => [.box [.sl .ex [], .sl .ex []], .box [lst AV.str (.tok 3 1) (Lat.nms (dnL t i)), lst u8 (.tok 2 1) (Lat.rws (dnL t i) (t.count 10))], .tok (dnL t i).length, .tok (dnL t i).length]) (fun i => t.length - i) 0 ⟨⟨Nat.zero_le _, fun s hs => by rw [(dn_0 t).1] at hs; cases hs⟩, _, _, fun n => (wk_tokb 1 1 1 rfl rfl n).trans (wk_tokb 1 0 1 rfl rfl n), ⟨by simp only [go_sem, Nat.reduceMod, Nat.reduceBNe, Nat.reduceBEq, Nat.reduceEqDiff, Nat.reduceAdd, Int.reduceAdd, Nat.reduceMul, Nat.reduceSub, Int.reduceToNat, Int.reduceLE, Int.reduceLT, Int.reduceEq, Int.reduceNe, reduceCtorEq, Nat.reduceLT, Nat.reduceLeDiff]; rfl, rfl⟩⟩ fun i hi => ?_
  obtain ⟨i1, i2⟩ := hi
  by_cases hit : i < t.length
  · by_cases hb : t.getD i 0 = 10
    · obtain ⟨R, hR⟩ := dn_line hit hb h10
      obtain ⟨hd1, hd2⟩ := dn_yes hit hb
      obtain ⟨hf, hsuf⟩ := dnP_suf t (i := i) (by omega)
      have hjl : (dnL t i).length < (Lat.lns t).length := by rw [hR, List.length_append, List.length_cons]; omega
      have hgetj : (Lat.lns t).getD (dnL t i).length [] = dnP t i := by
        rw [hR, List.getD_eq_getElem?_getD, List.getElem?_append_right (Nat.le_refl _)]
        simp
      have hbef : ∀ j, j < (dnL t i).length → Lat.lnOk (t.count 10) ((Lat.lns t).getD j []) = true := fun j hj => by
        refine i2 _ ?_
        rw [hR, List.getD_eq_getElem?_getD, List.getElem?_append_left hj, List.getElem?_eq_getElem hj]
        exact List.getElem_mem _
      have hbad : Lat.lnOk (t.count 10) (dnP t i) = false → AV.tuple [.agg [.sl .ro [], .sl .ro []], .int .i64 (IntKind.i64.wrap ((dnL t i).length + 1)), .int .i64 6] = prsV t := fun h => by
        rw [wi64 (by omega)]
        exact prsV_no (Lat.prsE_3 hok h10 hjl (by rw [hgetj]; exact h) hbef) (by decide)
      have hbI : ((t.getD i 0).toNat : Int) = 10 := by rw [hb]; rfl
      have ew : IntKind.i64.wrap ((i : Int) + 1) = ((i + 1 : Nat) : Int) := by rw [wi64 (by omega)]; rfl
      have ln : (Lat.nms (dnL t i)).length = (dnL t i).length := by simp only [Lat.nms, List.length_map]
      have lu : (Lat.rws (dnL t i) (t.count 10)).length = (dnL t i).length := by simp only [Lat.rws, List.length_map]
      have lnx : (Lat.nms (dnL t i) ++ [Lat.lnN (dnP t i)]) = Lat.nms (dnL t (i + 1)) := by rw [hd1, nms_snoc]
      have lux : Lat.rws (dnL t i) (t.count 10) ++ [UInt8.ofNat (Lat.rowV (Lat.lnR (dnP t i)) (t.count 10))] = Lat.rws (dnL t (i + 1)) (t.count 10) := by rw [hd1, rws_snoc]
      have llx : (dnL t (i + 1)).length = (dnL t i).length + 1 := by rw [hd1, List.length_append]; rfl
      have hgood : Lat.lnOk (t.count 10) (dnP t i) = true → ∀ s ∈ dnL t (i + 1), Lat.lnOk (t.count 10) s = true := fun h s hs => by
        rw [hd1, List.mem_append, List.mem_singleton] at hs
        rcases hs with hs | rfl
        · exact i2 s hs
        · exact h
      have hf1 : i + 1 - (dnP t (i + 1)).length = i + 1 := by rw [hd2]; rfl
      simp only [A_ref03_ParseL1, go_sem, Nat.reduceMod, Nat.reduceBNe, Nat.reduceBEq, Nat.reduceEqDiff, Nat.reduceAdd, Int.reduceAdd, Nat.reduceMul, Nat.reduceSub, Int.reduceToNat, Int.reduceLE, Int.reduceLT, Int.reduceEq, Int.reduceNe, reduceCtorEq, Nat.reduceLT, Nat.reduceLeDiff, hbI, ew, hsuf]
      refine ⟨fun ci => ⟨by omega, by omega, ?_⟩, fun ci => by omega⟩
      have hle := Lat.idx_le 32 (dnP t i)
      refine w_loop' hs.hm (ι := Nat) (fun b => b ≤ Lat.idx 32 (dnP t i)) (fun b => [(11, .int .i64 b), (10, .str (dnP t i)), (9, .int .i64 i), (8, .int .i64 ((i + 1 : Nat) : Int)), (7, .ptr 1 0), (5, .int .i64 (t.count 10 : Nat)), (2, .ptr 0 0), (0, .str t)]) (fun _ => [.box [.sl .ex [], .sl .ex []], .box [lst AV.str (.tok 3 1) (Lat.nms (dnL t i)), lst u8 (.tok 2 1) (Lat.rws (dnL t i) (t.count 10))], .tok (dnL t i).length, .tok (dnL t i).length]) (fun b => Lat.idx 32 (dnP t i) - b) 0 ?_ fun b hbb => ?_
      · simp only [go_sem, Nat.reduceMod, Nat.reduceBNe, Nat.reduceBEq, Nat.reduceEqDiff, Nat.reduceAdd, Int.reduceAdd, Nat.reduceMul, Nat.reduceSub, Int.reduceToNat, Int.reduceLE, Int.reduceLT, Int.reduceEq, Int.reduceNe, reduceCtorEq, Nat.reduceLT, Nat.reduceLeDiff]
        exact Nat.zero_le _
      by_cases hbi : b < Lat.idx 32 (dnP t i)
      · have hne := Lat.idx_no hbi
        have hne' : ¬ (((dnP t i).getD b 0).toNat : Int) = 32 := fun e => hne (UInt8.toNat_inj.1 (by rw [show ((dnP t i).getD b 0).toNat = 32 by omega]; rfl))
        have hbl : (b : Int) < (dnP t i).length := by omega
        simp only [A_ref03_ParseL2, go_sem, Nat.reduceMod, Nat.reduceBNe, Nat.reduceBEq, Nat.reduceEqDiff, Nat.reduceAdd, Int.reduceAdd, Nat.reduceMul, Nat.reduceSub, Int.reduceToNat, Int.reduceLE, Int.reduceLT, Int.reduceEq, Int.reduceNe, reduceCtorEq, Nat.reduceLT, Nat.reduceLeDiff, hne', hbl]
        exact ⟨by omega, b + 1, by omega, by omega, by rw [wi64 (by omega)]; rfl⟩
      obtain rfl : b = Lat.idx 32 (dnP t i) := by omega
      by_cases hx : Lat.idx 32 (dnP t i) < (dnP t i).length
      · have h32 := Lat.idx_at hx
        have h32' : (((dnP t i).getD (Lat.idx 32 (dnP t i)) 0).toNat : Int) = 32 := by rw [h32]; rfl
        have hbl : (Lat.idx 32 (dnP t i) : Int) < (dnP t i).length := by omega
        have hbe : ¬ (Lat.idx 32 (dnP t i) : Int) = (dnP t i).length := by omega
        simp only [A_ref03_ParseL2, go_sem, Nat.reduceMod, Nat.reduceBNe, Nat.reduceBEq, Nat.reduceEqDiff, Nat.reduceAdd, Int.reduceAdd, Nat.reduceMul, Nat.reduceSub, Int.reduceToNat, Int.reduceLE, Int.reduceLT, Int.reduceEq, Int.reduceNe, reduceCtorEq, Nat.reduceLT, Nat.reduceLeDiff, h32', hbl, hbe]
        refine ⟨by omega, by omega, ?_⟩
        have eN : (dnP t i).take (Lat.idx 32 (dnP t i)) = Lat.lnN (dnP t i) := rfl
        have eR : (dnP t i).drop (Lat.idx 32 (dnP t i) + 1) = Lat.lnR (dnP t i) := rfl
        rw [eN]
        refine call_ev (ev_rName hX hs (Lat.lnN (dnP t i))) ?_
        cases hnm : Lat.isNm (Lat.lnN (dnP t i)) with
        | false =>
          simp only [go_sem, Nat.reduceMod, Nat.reduceBNe, Nat.reduceBEq, Nat.reduceEqDiff, Nat.reduceAdd, Int.reduceAdd, Nat.reduceMul, Nat.reduceSub, Int.reduceToNat, Int.reduceLE, Int.reduceLT, Int.reduceEq, Int.reduceNe, reduceCtorEq, Nat.reduceLT, Nat.reduceLeDiff, ln]
          exact hbad (by simp only [Lat.lnOk, hnm, Bool.and_false, Bool.false_and])
        | true =>
          have ew2 : IntKind.i64.wrap ((Lat.idx 32 (dnP t i) : Int) + 1) = ((Lat.idx 32 (dnP t i) + 1 : Nat) : Int) := by rw [wi64 (by omega)]; rfl
          simp only [go_sem, Nat.reduceMod, Nat.reduceBNe, Nat.reduceBEq, Nat.reduceEqDiff, Nat.reduceAdd, Int.reduceAdd, Nat.reduceMul, Nat.reduceSub, Int.reduceToNat, Int.reduceLE, Int.reduceLT, Int.reduceEq, Int.reduceNe, reduceCtorEq, Nat.reduceLT, Nat.reduceLeDiff, ew2, List.take_length, eN, eR]
          refine ⟨by omega, ?_⟩
          refine call_ev (ev_rrow hX hs (Lat.lnR (dnP t i)) (t.count 10) (by omega)) ?_
          cases hro : Lat.rowOk (Lat.lnR (dnP t i)) (t.count 10) with
          | false =>
            simp only [go_sem, Nat.reduceMod, Nat.reduceBNe, Nat.reduceBEq, Nat.reduceEqDiff, Nat.reduceAdd, Int.reduceAdd, Nat.reduceMul, Nat.reduceSub, Int.reduceToNat, Int.reduceLE, Int.reduceLT, Int.reduceEq, Int.reduceNe, reduceCtorEq, Nat.reduceLT, Nat.reduceLeDiff, ln]
            exact hbad (by simp only [Lat.lnOk, hro, Bool.and_false])
          | true =>
            have hu : ((Lat.rowV (Lat.lnR (dnP t i)) (t.count 10) : Nat) : Int) = (((UInt8.ofNat (Lat.rowV (Lat.lnR (dnP t i)) (t.count 10))).toNat : Nat) : Int) := by rw [UInt8.toNat_ofNat', Nat.mod_eq_of_lt (Lat.rowV_lt8 _ (by omega))]
            simp only [go_sem, Nat.reduceMod, Nat.reduceBNe, Nat.reduceBEq, Nat.reduceEqDiff, Nat.reduceAdd, Int.reduceAdd, Nat.reduceMul, Nat.reduceSub, Int.reduceToNat, Int.reduceLE, Int.reduceLT, Int.reduceEq, Int.reduceNe, reduceCtorEq, Nat.reduceLT, Nat.reduceLeDiff, hu, ln, lu, lnx, lux, eN]
            exact ⟨by omega, by omega, by omega, i + 1, by omega, ⟨by omega, hgood (by simp only [Lat.lnOk, hro, hnm, hx, decide_true, Bool.and_self])⟩, ⟨by rw [wi64 (by omega)]; rfl, by rw [hf1]⟩, by rw [llx]⟩
      · have hbl : ¬ (Lat.idx 32 (dnP t i) : Int) < (dnP t i).length := by omega
        have hbe : (Lat.idx 32 (dnP t i) : Int) = (dnP t i).length := by omega
        have hll : ¬ ((dnP t i).length : Int) < (dnP t i).length := by omega
        simp only [A_ref03_ParseL2, go_sem, Nat.reduceMod, Nat.reduceBNe, Nat.reduceBEq, Nat.reduceEqDiff, Nat.reduceAdd, Int.reduceAdd, Nat.reduceMul, Nat.reduceSub, Int.reduceToNat, Int.reduceLE, Int.reduceLT, Int.reduceEq, Int.reduceNe, reduceCtorEq, Nat.reduceLT, Nat.reduceLeDiff, hbl, hbe, hll, ln]
        exact hbad (by simp only [Lat.lnOk, hx, decide_false, Bool.false_and])
    · obtain ⟨hd1, hd2⟩ := dn_no hit hb
      obtain ⟨hf, _⟩ := dnP_suf t (i := i) (by omega)
      have hb' : ¬ ((t.getD i 0).toNat : Int) = 10 := fun e => hb (UInt8.toNat_inj.1 (by rw [show (t.getD i 0).toNat = 10 by omega]; rfl))
      have hii : (i : Int) < t.length := by omega
      simp only [A_ref03_ParseL1, go_sem, Nat.reduceMod, Nat.reduceBNe, Nat.reduceBEq, Nat.reduceEqDiff, Nat.reduceAdd, Int.reduceAdd, Nat.reduceMul, Nat.reduceSub, Int.reduceToNat, Int.reduceLE, Int.reduceLT, Int.reduceEq, Int.reduceNe, reduceCtorEq, Nat.reduceLT, Nat.reduceLeDiff, hb', hii]
      refine ⟨by omega, i + 1, by omega, ⟨by omega, by rw [hd1]; exact i2⟩, ⟨by rw [wi64 (by omega)]; rfl, ?_⟩, by rw [hd1]⟩
      rw [hd2, List.length_append, List.length_singleton, show i + 1 - ((dnP t i).length + 1) = i - (dnP t i).length by omega]
  · obtain rfl : i = t.length := by omega
    have hn : ¬ (t.length : Int) < t.length := by omega
    rw [dn_end h10] at i2 ⊢
    simp only [A_ref03_ParseL1, go_sem, Nat.reduceMod, Nat.reduceBNe, Nat.reduceBEq, Nat.reduceEqDiff, Nat.reduceAdd, Int.reduceAdd, Nat.reduceMul, Nat.reduceSub, Int.reduceToNat, Int.reduceLE, Int.reduceLT, Int.reduceEq, Int.reduceNe, reduceCtorEq, Nat.reduceLT, Nat.reduceLeDiff, hn]
    have i3 : ∀ j, j < (Lat.lns t).length → Lat.lnOk (t.count 10) ((Lat.lns t).getD j []) = true := fun j hj => i2 _ (by rw [List.getD_eq_getElem?_getD, List.getElem?_eq_getElem hj]; exact List.getElem_mem _)
    refine call_ev (ev_rCheck hX hs (Lat.nms (Lat.lns t)) (Lat.rws (Lat.lns t) (t.count 10))) ?_
    have hk := Lat.prsE_4 hok h10 i3
    have hr := chk_rng (Lat.nms (Lat.lns t)) (Lat.rws (Lat.lns t) (t.count 10))
    by_cases h : (Lat.checkS (Lat.nms (Lat.lns t)) (Lat.rws (Lat.lns t) (t.count 10))).2 = 0
    · rw [if_pos h] at hk
      simp only [h, go_sem, Nat.reduceMod, Nat.reduceBNe, Nat.reduceBEq, Nat.reduceEqDiff, Nat.reduceAdd, Int.reduceAdd, Nat.reduceMul, Nat.reduceSub, Int.reduceToNat, Int.reduceLE, Int.reduceLT, Int.reduceEq, Int.reduceNe, reduceCtorEq, Nat.reduceLT, Nat.reduceLeDiff]
      exact prsV_ok hk rfl rfl
    · rw [if_neg h] at hk
      simp only [h, go_sem, Nat.reduceMod, Nat.reduceBNe, Nat.reduceBEq, Nat.reduceEqDiff, Nat.reduceAdd, Int.reduceAdd, Nat.reduceMul, Nat.reduceSub, Int.reduceToNat, Int.reduceLE, Int.reduceLT, Int.reduceEq, Int.reduceNe, reduceCtorEq, Nat.reduceLT, Nat.reduceLeDiff]
      rw [wi64 (by omega)]
      exact prsV_no hk h
end
end Go.Avm
