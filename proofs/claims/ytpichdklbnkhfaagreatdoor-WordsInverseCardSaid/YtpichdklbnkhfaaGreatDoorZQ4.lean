/- Split at a byte, lines. -/
import Derived.Test.YtpichdklbnkhfaaGreatDoorZQ3
import Derived.Test.YtpichdklbnkhfaaGreatDoorN2
set_option linter.unusedSectionVars false
set_option linter.unusedSimpArgs false
set_option linter.unusedVariables false

/- Split at a byte, lines. -/
namespace Go.Avm
open Go
theorem tb_map {α : Type} (f : α → AV) (d : α) (l : List α) : tb l.length (fun k => f (l.getD k d)) = l.map f := by
  refine List.ext_getElem (by rw [tb_len, List.length_map]) fun k h1 h2 => ?_
  have hk : k < l.length := by rw [tb_len] at h1; exact h1
  have := tb_getD (n := l.length) (fun k => f (l.getD k d)) .undef hk
  rw [List.getD_eq_getElem?_getD, List.getElem?_eq_getElem h1] at this
  simp only [Option.getD_some] at this
  rw [this]
  simp [List.getD_eq_getElem?_getD, hk]
theorem ss_r {k : IntKind} (id off n cap : Nat) (b : Int) : slsX 1 (.rsl id off n cap 1) none (some (.int k b)) = some (decide (0 ≤ b) && decide (b ≤ cap), .rsl id off b.toNat cap 1, none) := by
  simp [slsX]
def linesV (s : List UInt8) : AV := .tuple [lst AV.str .ro (Wo.linesS s).1, .int .i64 (Wo.linesS s).2]
theorem linesV_eq {s : List UInt8} {l : List (List UInt8)} {e : Int} (h : Wo.linesS s = (l, e)) : AV.tuple [lst AV.str .ro l, .int .i64 e] = linesV s := by rw [linesV, h]
theorem linesV_nil {s : List UInt8} {e : Int} (h : Wo.linesS s = ([], e)) : AV.tuple [.sl .ro [], .int .i64 e] = linesV s := by rw [linesV, h]; rfl
set_option maxRecDepth 10000
section
variable {X : Cx} (hX : X.P = Go.Proofs.Tryz.prog) (hs : Std X)
include hX hs
theorem ev_IndexS (s : List UInt8) (c : UInt8) : Ev X F_strings_Index [.str s, .str [c]] (.int .i64 (if Lat.idx c s < s.length then (Lat.idx c s : Int) else -1)) := by
  refine ev_of_wpc hs (A_strings_Index_ok hX) 1 ?_
  simp only [A_strings_Index, go_sem, Nat.reduceMod, Nat.reduceBNe, Nat.reduceBEq, Nat.reduceEqDiff, Nat.reduceAdd, Int.reduceAdd, Nat.reduceMul, Nat.reduceSub, Int.reduceToNat, Int.reduceLE, Int.reduceLT, Int.reduceEq, Int.reduceNe, reduceCtorEq, Nat.reduceLT, Nat.reduceLeDiff]
  refine call_ev (ev_IndexB hX s c) ?_
  rw [ixB]
  simp only [go_sem, Nat.reduceMod, Nat.reduceBNe, Nat.reduceBEq, Nat.reduceEqDiff, Nat.reduceAdd, Int.reduceAdd, Nat.reduceMul, Nat.reduceSub, Int.reduceToNat, Int.reduceLE, Int.reduceLT, Int.reduceEq, Int.reduceNe, reduceCtorEq, Nat.reduceLT, Nat.reduceLeDiff]
theorem ev_sSplit (s : List UInt8) (c : UInt8) (hl : s.length < 4000000) : Ev X F_strings_Split [.str s, .str [c]] (lst AV.str .ro (Wo.splC c s)) := by
  have hc : Ev X F_strings_genSplit [.str s, .str [c], .int .i64 0, .int .i64 (-1)] (lst AV.str .ro (Wo.splC c s)) := by
    have hcl : s.count c ≤ s.length := List.count_le_length
    refine ev_of_wpc hs (A_strings_genSplit_ok hX) 1 ?_
    simp only [A_strings_genSplit, go_sem, Nat.reduceMod, Nat.reduceBNe, Nat.reduceBEq, Nat.reduceEqDiff, Nat.reduceAdd, Int.reduceAdd, Nat.reduceMul, Nat.reduceSub, Int.reduceToNat, Int.reduceLE, Int.reduceLT, Int.reduceEq, Int.reduceNe, reduceCtorEq, Nat.reduceLT, Nat.reduceLeDiff]
    refine call_ev (ev_CountB hX s c) ?_
    have e1 : IntKind.i64.wrap ((s.count c : Int) + 1) = ((s.count c + 1 : Nat) : Int) := by rw [wi64 (by omega)]; rfl
    have e2 : IntKind.i64.wrap ((s.length : Int) + 1) = ((s.length + 1 : Nat) : Int) := by rw [wi64 (by omega)]; rfl
    have e3 : IntKind.i64.wrap (((s.count c + 1 : Nat) : Int) - 1) = (s.count c : Int) := by rw [wi64 (by omega)]; omega
    have e4 : ¬ ((s.length + 1 : Nat) : Int) < ((s.count c + 1 : Nat) : Int) := by omega
    simp only [go_sem, Nat.reduceMod, Nat.reduceBNe, Nat.reduceBEq, Nat.reduceEqDiff, Nat.reduceAdd, Int.reduceAdd, Nat.reduceMul, Nat.reduceSub, Int.reduceToNat, Int.reduceLE, Int.reduceLT, Int.reduceEq, Int.reduceNe, reduceCtorEq, Nat.reduceLT, Nat.reduceLeDiff, e1, e2, if_neg e4, e3]
    refine ⟨by omega, ?_⟩
    have hLl := Wo.splC_count c s
    generalize hL : Wo.splC c s = L at *
    refine w_loop' hs.hm (ι := Nat × List UInt8) (fun x => x.1 + x.2.count c = s.count c ∧ L.drop x.1 = Wo.splC c x.2 ∧ x.2.length ≤ s.length) (fun x => [(10, .int .i64 x.1), (9, .rsl 0 0 (s.count c + 1) (s.count c + 1) 1), (3, .int .i64 (s.count c : Nat)), (2, .int .i64 0), (1, .str [c]), (0, .str x.2)]) (fun x => [.box (tb (s.count c + 1) fun k => .str (if k < x.1 then L.getD k [] else []))]) (fun x => s.count c - x.1) (0, s) ?_ fun x hx => ?_
    · simp only [go_sem, Nat.reduceMod, Nat.reduceBNe, Nat.reduceBEq, Nat.reduceEqDiff, Nat.reduceAdd, Int.reduceAdd, Nat.reduceMul, Nat.reduceSub, Int.reduceToNat, Int.reduceLE, Int.reduceLT, Int.reduceEq, Int.reduceNe, reduceCtorEq, Nat.reduceLT, Nat.reduceLeDiff]
      exact ⟨hL.symm, rfl⟩
    obtain ⟨i, r⟩ := x
    obtain ⟨x1, x2, x3⟩ := hx
    simp only at x1 x2 x3
    by_cases hi : i < s.count c
    · have hix : Lat.idx c r < r.length := Wo.idxC_cnt (by omega)
      have hsp := Wo.splC_idx hix
      have hcn := Wo.cntC_idx hix
      have hLi : i < L.length := by omega
      have hd : L.getD i [] = r.take (Lat.idx c r) ∧ L.drop (i + 1) = Wo.splC c (r.drop (Lat.idx c r + 1)) := by
        rw [List.drop_eq_getElem_cons hLi, hsp] at x2
        injection x2 with y1 y2
        exact ⟨by rw [List.getD_eq_getElem?_getD, List.getElem?_eq_getElem hLi]; exact y1, y2⟩
      simp only [A_strings_genSplitL0, go_sem, Nat.reduceMod, Nat.reduceBNe, Nat.reduceBEq, Nat.reduceEqDiff, Nat.reduceAdd, Int.reduceAdd, Nat.reduceMul, Nat.reduceSub, Int.reduceToNat, Int.reduceLE, Int.reduceLT, Int.reduceEq, Int.reduceNe, reduceCtorEq, Nat.reduceLT, Nat.reduceLeDiff]
      refine ⟨fun ci => ?_, fun ci => by omega⟩
      refine call_ev (ev_IndexS hX hs r c) ?_
      simp only [hix, go_sem, Nat.reduceMod, Nat.reduceBNe, Nat.reduceBEq, Nat.reduceEqDiff, Nat.reduceAdd, Int.reduceAdd, Nat.reduceMul, Nat.reduceSub, Int.reduceToNat, Int.reduceLE, Int.reduceLT, Int.reduceEq, Int.reduceNe, reduceCtorEq, Nat.reduceLT, Nat.reduceLeDiff]
      refine ⟨fun hneg => by omega, fun hneg => ?_⟩
      rw [wi64 (by omega), wi64 (by omega)]
      refine ⟨by omega, by omega, by omega, by omega, (i + 1, r.drop (Lat.idx c r + 1)), by simp only; omega, ⟨by simp only; omega, hd.2, by simp only [List.length_drop]; omega⟩, ⟨by simp only; rw [wi64 (by omega)]; rfl, ?_⟩, ?_⟩
      · rw [List.take_length, show ((Lat.idx c r : Int) + 1).toNat = Lat.idx c r + 1 by omega]
      · rw [Nat.mul_one, tb_set]
        congr 2
        refine tb_congr fun k hk => ?_
        by_cases e : k = i
        · subst e
          rw [if_pos rfl, if_pos (by omega), hd.1, show ((Lat.idx c r : Int) + 0).toNat = Lat.idx c r by omega]
        · rw [if_neg e]
          by_cases e2 : k < i
          · rw [if_pos e2, if_pos (by omega)]
          · rw [if_neg e2, if_neg (by omega)]
    · have hi : i = s.count c := by omega
      subst hi
      have hn : ¬ ((s.count c : Nat) : Int) < (s.count c : Nat) := by omega
      have hr0 : r.count c = 0 := by omega
      have hd : L.getD (s.count c) [] = r := by
        rw [Wo.splC_one hr0, List.drop_eq_getElem_cons (by omega)] at x2
        injection x2 with y1 y2
        rw [List.getD_eq_getElem?_getD, List.getElem?_eq_getElem (by omega)]
        exact y1
      have hb : (tb (s.count c + 1) fun k => AV.str (if k < s.count c then L.getD k [] else [])).set (s.count c) (.str r) = L.map AV.str := by
        rw [tb_set, ← tb_map AV.str [] L, hLl]
        refine tb_congr fun k hk => ?_
        by_cases e : k = s.count c
        · rw [if_pos e, e, hd]
        · rw [if_neg e, if_pos (by omega)]
      simp only [A_strings_genSplitL0, go_sem, Nat.reduceMod, Nat.reduceBNe, Nat.reduceBEq, Nat.reduceEqDiff, Nat.reduceAdd, Int.reduceAdd, Nat.reduceMul, Nat.reduceSub, Int.reduceToNat, Int.reduceLE, Int.reduceLT, Int.reduceEq, Int.reduceNe, reduceCtorEq, Nat.reduceLT, Nat.reduceLeDiff, hn, Nat.mul_one, hb, ss_r, e1, fi_rsl]
      have hsc : (L.map AV.str).all scalarB = true := by
        rw [List.all_eq_true]
        intro x hx
        obtain ⟨y, _, rfl⟩ := List.mem_map.1 hx
        rfl
      refine ⟨by omega, by omega, ?_⟩
      rw [hsc, List.length_map, hLl, decide_eq_true (Nat.le_refl _), Bool.and_true, cond_true, List.take_of_length_le (by rw [List.length_map]; omega), List.map_map]
      rfl
  refine ev_of_wpc hs (A_strings_Split_ok hX) 1 ?_
  simp only [A_strings_Split, go_sem, Nat.reduceMod, Nat.reduceBNe, Nat.reduceBEq, Nat.reduceEqDiff, Nat.reduceAdd, Int.reduceAdd, Nat.reduceMul, Nat.reduceSub, Int.reduceToNat, Int.reduceLE, Int.reduceLT, Int.reduceEq, Int.reduceNe, reduceCtorEq, Nat.reduceLT, Nat.reduceLeDiff]
  refine call_ev hc ?_
  simp only [go_sem, Nat.reduceMod, Nat.reduceBNe, Nat.reduceBEq, Nat.reduceEqDiff, Nat.reduceAdd, Int.reduceAdd, Nat.reduceMul, Nat.reduceSub, Int.reduceToNat, Int.reduceLE, Int.reduceLT, Int.reduceEq, Int.reduceNe, reduceCtorEq, Nat.reduceLT, Nat.reduceLeDiff]
end
end Go.Avm

/- List. -/
namespace Go.Avm
open Go
def listV (l : List Int) : AV := .tuple [.str (Wo.listS l).1, .int .i64 (Wo.listS l).2]
theorem listV_eq {l : List Int} {t : List UInt8} {e : Int} (h : Wo.listS l = (t, e)) : AV.tuple [.str t, .int .i64 e] = listV l := by rw [listV, h]
theorem dflt (l : List Int) (k : Nat) : l.getD k default = l.getD k 0 := rfl
set_option maxRecDepth 10000
section
variable {X : Cx} (hX : X.P = Go.Proofs.Tryz.prog) (hs : Std X)
include hX hs
set_option maxHeartbeats 1000000 in
theorem ev_List (hP : X.G (sRen.g 17) = some tabP) (l : List Int) : Ev X F_words_List [lst (AV.int .i64) .ro l] (listV l) := by
  refine ev_of_wpc hs (A_words_List_ok hX) 0 ?_
  simp only [A_words_List, go_sem, Nat.reduceMod, Nat.reduceBNe, Nat.reduceBEq, Nat.reduceEqDiff, Nat.reduceAdd, Int.reduceAdd, Nat.reduceMul, Nat.reduceSub, Int.reduceToNat, Int.reduceLE, Int.reduceLT, Int.reduceEq, Int.reduceNe, reduceCtorEq, Nat.reduceLT, Nat.reduceLeDiff]
  refine ⟨fun h => listV_eq (by rw [Wo.listS, if_pos (by omega)]), fun h5 => ?_⟩
  have rng : ∀ i, i ≤ l.length → (∀ k, k < i → ¬ (l.getD k 0 < 0 ∨ 1000000000 < l.getD k 0)) → True := fun _ _ _ => trivial
  refine w_loop' hs.hm (ι := Nat) (fun i => i ≤ l.length ∧ ∀ k, k < i → ¬ (l.getD k 0 < 0 ∨ 1000000000 < l.getD k 0)) (fun i => [(6, .int .i64 i), (5, .ptr 0 0), (4, .int .i64 (if Wo.ascB (l.take i) then 0 else 6)), (0, lst (AV.int .i64) .ro l)]) (fun _ => [.bld 51 5 []]) (fun i => l.length - i) 0 ?_ fun i hi => ?_
  · simp only [go_sem, Nat.reduceMod, Nat.reduceBNe, Nat.reduceBEq, Nat.reduceEqDiff, Nat.reduceAdd, Int.reduceAdd, Nat.reduceMul, Nat.reduceSub, Int.reduceToNat, Int.reduceLE, Int.reduceLT, Int.reduceEq, Int.reduceNe, reduceCtorEq, Nat.reduceLT, Nat.reduceLeDiff]
    exact ⟨⟨Nat.zero_le _, no_lt0⟩, rfl⟩
  obtain ⟨i1, i2⟩ := hi
  by_cases hlt : i < l.length
  · have hlt' : (i : Int) < l.length := by omega
    have hat := Wo.asc_take hlt
    have nx : ∀ (h : ¬ (l.getD i 0 < 0 ∨ 1000000000 < l.getD i 0)) (e : Int), e = (if Wo.ascB (l.take (i + 1)) then 0 else 6) → ∃ j, l.length - j < l.length - i ∧ (j ≤ l.length ∧ ∀ k, k < j → ¬ (l.getD k 0 < 0 ∨ 1000000000 < l.getD k 0)) ∧ AV.int .i64 (IntKind.i64.wrap ((i : Int) + 1)) = AV.int .i64 j ∧ AV.int .i64 e = AV.int .i64 (if Wo.ascB (l.take j) then 0 else 6) := fun h e he =>
      ⟨i + 1, by omega, ⟨by omega, fun k hk => by
        rcases Nat.lt_or_ge k i with h' | h'
        · exact i2 k h'
        · rw [show k = i by omega]; exact h⟩, by rw [wi64 (by omega)]; rfl, by rw [he]⟩
    simp only [A_words_ListL0, go_sem, Nat.reduceMod, Nat.reduceBNe, Nat.reduceBEq, Nat.reduceEqDiff, Nat.reduceAdd, Int.reduceAdd, Nat.reduceMul, Nat.reduceSub, Int.reduceToNat, Int.reduceLE, Int.reduceLT, Int.reduceEq, Int.reduceNe, reduceCtorEq, Nat.reduceLT, Nat.reduceLeDiff, hlt', dflt]
    have hbad : (l.getD i 0 < 0 ∨ 1000000000 < l.getD i 0) → AV.tuple [.str [], .int .i64 7] = listV l := fun h => listV_eq (by rw [Wo.listS, if_neg (by omega), if_pos (Wo.out_yes hlt h)])
    refine ⟨by omega, fun h => hbad (.inl h), fun h1 => ⟨fun h => hbad (.inr h), fun h2 => ⟨fun h3 => ?_, fun h3 => nx (by omega) _ ?_⟩⟩⟩
    · rw [wi64 (by omega), show ((i : Int) - 1).toNat = i - 1 by omega]
      refine ⟨by omega, fun h4 => nx (by omega) _ ?_, fun h4 => nx (by omega) _ ?_⟩
      · rw [hat, decide_eq_false (show ¬ i = 0 by omega), decide_eq_false (show ¬ l.getD (i - 1) 0 < l.getD i 0 by omega), Bool.or_false, Bool.and_false]
        rfl
      · rw [hat, decide_eq_true (show l.getD (i - 1) 0 < l.getD i 0 by omega), Bool.or_true, Bool.and_true]
    · rw [hat, decide_eq_true (show i = 0 by omega), Bool.true_or, Bool.and_true]
  · have hlt' : ¬ (i : Int) < l.length := by omega
    obtain rfl : i = l.length := by omega
    simp only [List.take_length]
    have ho := Wo.out_no i2
    have hL : Wo.listS l = if Wo.ascB l then (if l = [] then ([45], 0) else (Wo.tx [] (Wo.runs l), 0)) else ([], 6) := by rw [Wo.listS, if_neg (by omega), if_neg (by rw [ho]; decide)]
    simp only [A_words_ListL0, go_sem, Nat.reduceMod, Nat.reduceBNe, Nat.reduceBEq, Nat.reduceEqDiff, Nat.reduceAdd, Int.reduceAdd, Nat.reduceMul, Nat.reduceSub, Int.reduceToNat, Int.reduceLE, Int.reduceLT, Int.reduceEq, Int.reduceNe, reduceCtorEq, Nat.reduceLT, Nat.reduceLeDiff, hlt']
    cases ha : Wo.ascB l with
    | false =>
      rw [ha, if_neg (by decide)] at hL
      refine w_loop' hs.hm (ι := Unit) (fun _ => True) (fun _ => [(8, .int .i64 0), (5, .ptr 0 0), (4, .int .i64 6), (0, lst (AV.int .i64) .ro l)]) (fun _ => [.bld 51 5 []]) (fun _ => 0) () ?_ fun _ _ => ?_
      · simp only [go_sem, Nat.reduceMod, Nat.reduceBNe, Nat.reduceBEq, Nat.reduceEqDiff, Nat.reduceAdd, Int.reduceAdd, Nat.reduceMul, Nat.reduceSub, Int.reduceToNat, Int.reduceLE, Int.reduceLT, Int.reduceEq, Int.reduceNe, reduceCtorEq, Nat.reduceLT, Nat.reduceLeDiff, Bool.false_eq_true, if_false]
      · simp only [A_words_ListL1, go_sem, Nat.reduceMod, Nat.reduceBNe, Nat.reduceBEq, Nat.reduceEqDiff, Nat.reduceAdd, Int.reduceAdd, Nat.reduceMul, Nat.reduceSub, Int.reduceToNat, Int.reduceLE, Int.reduceLT, Int.reduceEq, Int.reduceNe, reduceCtorEq, Nat.reduceLT, Nat.reduceLeDiff]
        exact ⟨fun _ => listV_eq hL, fun _ => listV_eq hL⟩
    | true =>
      rw [ha, if_pos rfl] at hL
      refine w_loop' hs.hm (ι := Nat × List UInt8) (fun x => Wo.Tx l x.1 x.2) (fun x => [(8, .int .i64 x.1), (5, .ptr 0 0), (4, .int .i64 0), (0, lst (AV.int .i64) .ro l)]) (fun x => [.bld 51 5 x.2]) (fun x => l.length - x.1) (0, []) ?_ fun x hx => ?_
      · simp only [go_sem, Nat.reduceMod, Nat.reduceBNe, Nat.reduceBEq, Nat.reduceEqDiff, Nat.reduceAdd, Int.reduceAdd, Nat.reduceMul, Nat.reduceSub, Int.reduceToNat, Int.reduceLE, Int.reduceLT, Int.reduceEq, Int.reduceNe, reduceCtorEq, Nat.reduceLT, Nat.reduceLeDiff, if_true]
        exact Wo.tx_0 l
      obtain ⟨i, b⟩ := x
      simp only at hx
      obtain ⟨x1, x2, x3, x4⟩ := hx
      by_cases hi : i < l.length
      · have hi' : (i : Int) < l.length := by omega
        simp only [A_words_ListL1, go_sem, Nat.reduceMod, Nat.reduceBNe, Nat.reduceBEq, Nat.reduceEqDiff, Nat.reduceAdd, Int.reduceAdd, Nat.reduceMul, Nat.reduceSub, Int.reduceToNat, Int.reduceLE, Int.reduceLT, Int.reduceEq, Int.reduceNe, reduceCtorEq, Nat.reduceLT, Nat.reduceLeDiff, hi', dflt]
        refine ⟨by omega, ?_⟩
        refine w_loop' hs.hm (ι := Nat) (fun m => Wo.Ch l i m) (fun m => [(9, .int .i64 (l.getD i 0)), (8, .int .i64 (i + m : Nat)), (5, .ptr 0 0), (4, .int .i64 0), (0, lst (AV.int .i64) .ro l)]) (fun _ => [.bld 51 5 b]) (fun m => l.length - m) 0 ?_ fun m hm => ?_
        · simp only [go_sem, Nat.reduceMod, Nat.reduceBNe, Nat.reduceBEq, Nat.reduceEqDiff, Nat.reduceAdd, Int.reduceAdd, Nat.reduceMul, Nat.reduceSub, Int.reduceToNat, Int.reduceLE, Int.reduceLT, Int.reduceEq, Int.reduceNe, reduceCtorEq, Nat.reduceLT, Nat.reduceLeDiff]
          exact ⟨⟨by omega, fun j h1 h2 => by omega⟩, rfl⟩
        have hml := hm.1
        have r1 := i2 (i + m) hml
        have r0 := i2 i hi
        have wn : IntKind.i64.wrap (((i + m : Nat) : Int) + 1) = ((i + m + 1 : Nat) : Int) := by rw [wi64 (by omega)]; rfl
        have w1 : IntKind.i64.wrap (l.getD (i + m) 0 + 1) = l.getD (i + m) 0 + 1 := wi64 (by omega)
        simp only [A_words_ListL2, go_sem, Nat.reduceMod, Nat.reduceBNe, Nat.reduceBEq, Nat.reduceEqDiff, Nat.reduceAdd, Int.reduceAdd, Nat.reduceMul, Nat.reduceSub, Int.reduceToNat, Int.reduceLE, Int.reduceLT, Int.reduceEq, Int.reduceNe, reduceCtorEq, Nat.reduceLT, Nat.reduceLeDiff, wn, dflt, w1]
        refine ⟨fun c1 => ⟨by omega, by omega, fun e => ⟨m + 1, by omega, Wo.ch_next hm (by omega) e, rfl⟩, fun e => ?_⟩, fun c1 => ?_⟩
        · have hend : i + m + 1 = l.length ∨ l.getD (i + m + 1) 0 ≠ l.getD (i + m) 0 + 1 := .inr e
          have hn := Wo.tx_next ⟨x1, x2, x3, x4⟩ i2 hm hend
          have l1 := Wo.itoa_len11 (n := l.getD i 0) (by omega)
          have l2 := Wo.itoa_len11 (n := l.getD (i + m) 0) (by omega)
          have wn2 : IntKind.i64.wrap (((i + m : Nat) : Int) + 1) = ((i + m + 1 : Nat) : Int) := wn
          refine call_evm (ev_bLen hX rfl) ?_
          rintro r H' ⟨rfl, rfl⟩
          have nx : ∀ t : List UInt8, t = b ++ (if b = [] then [] else [44]) ++ Wo.rt (l.getD i 0, l.getD (i + m) 0) → ∃ j : Nat × List UInt8, l.length - j.1 < l.length - i ∧ Wo.Tx l j.1 j.2 ∧ AV.int .i64 ((i + m + 1 : Nat) : Int) = AV.int .i64 (j.1 : Int) ∧ [Blk.bld 51 5 t] = [Blk.bld 51 5 j.2] := fun t ht => ⟨(i + m + 1, t), by simp only; omega, by rw [ht]; exact hn, rfl, rfl⟩
          by_cases hb : b = []
          · subst hb
            simp only [go_sem, Nat.reduceMod, Nat.reduceBNe, Nat.reduceBEq, Nat.reduceEqDiff, Nat.reduceAdd, Int.reduceAdd, Nat.reduceMul, Nat.reduceSub, Int.reduceToNat, Int.reduceLE, Int.reduceLT, Int.reduceEq, Int.reduceNe, reduceCtorEq, Nat.reduceLT, Nat.reduceLeDiff]
            refine call_ev (ev_Itoa hX hP _ (by omega)) ?_
            simp only [go_sem, Nat.reduceMod, Nat.reduceBNe, Nat.reduceBEq, Nat.reduceEqDiff, Nat.reduceAdd, Int.reduceAdd, Nat.reduceMul, Nat.reduceSub, Int.reduceToNat, Int.reduceLE, Int.reduceLT, Int.reduceEq, Int.reduceNe, reduceCtorEq, Nat.reduceLT, Nat.reduceLeDiff]
            refine call_evm (ev_bWS hX (l := []) (Lib.itoa (l.getD i 0)) rfl (by rw [List.length_nil]; omega)) ?_
            rintro r H' ⟨rfl, rfl⟩
            simp only [go_sem, Nat.reduceMod, Nat.reduceBNe, Nat.reduceBEq, Nat.reduceEqDiff, Nat.reduceAdd, Int.reduceAdd, Nat.reduceMul, Nat.reduceSub, Int.reduceToNat, Int.reduceLE, Int.reduceLT, Int.reduceEq, Int.reduceNe, reduceCtorEq, Nat.reduceLT, Nat.reduceLeDiff, dflt]
            refine ⟨by omega, fun hg => ⟨by omega, ?_⟩, fun hg => ?_⟩
            · refine call_ev (ev_Itoa hX hP _ (by omega)) ?_
              simp only [go_sem, Nat.reduceMod, Nat.reduceBNe, Nat.reduceBEq, Nat.reduceEqDiff, Nat.reduceAdd, Int.reduceAdd, Nat.reduceMul, Nat.reduceSub, Int.reduceToNat, Int.reduceLE, Int.reduceLT, Int.reduceEq, Int.reduceNe, reduceCtorEq, Nat.reduceLT, Nat.reduceLeDiff]
              refine ⟨by omega, call_evm (ev_bWS hX (l := Lib.itoa (l.getD i 0)) (45 :: Lib.itoa (l.getD (i + m) 0)) rfl (by rw [List.length_cons]; omega)) ?_⟩
              rintro r H' ⟨rfl, rfl⟩
              simp only [go_sem, Nat.reduceMod, Nat.reduceBNe, Nat.reduceBEq, Nat.reduceEqDiff, Nat.reduceAdd, Int.reduceAdd, Nat.reduceMul, Nat.reduceSub, Int.reduceToNat, Int.reduceLE, Int.reduceLT, Int.reduceEq, Int.reduceNe, reduceCtorEq, Nat.reduceLT, Nat.reduceLeDiff, wn2]
              exact nx _ (by rw [Wo.rt, if_pos hg]; rfl)
            · simp only [wn2]
              exact nx _ (by rw [Wo.rt, if_neg hg, List.append_nil]; rfl)
          · have hbl : 0 < b.length := List.length_pos_iff.2 hb
            simp only [go_sem, Nat.reduceMod, Nat.reduceBNe, Nat.reduceBEq, Nat.reduceEqDiff, Nat.reduceAdd, Int.reduceAdd, Nat.reduceMul, Nat.reduceSub, Int.reduceToNat, Int.reduceLE, Int.reduceLT, Int.reduceEq, Int.reduceNe, reduceCtorEq, Nat.reduceLT, Nat.reduceLeDiff, show (0 : Int) < (b.length : Int) by omega]
            refine call_evm (ev_bWB hX (l := b) 44 rfl (by omega)) ?_
            rintro r H' ⟨rfl, rfl⟩
            simp only [go_sem, Nat.reduceMod, Nat.reduceBNe, Nat.reduceBEq, Nat.reduceEqDiff, Nat.reduceAdd, Int.reduceAdd, Nat.reduceMul, Nat.reduceSub, Int.reduceToNat, Int.reduceLE, Int.reduceLT, Int.reduceEq, Int.reduceNe, reduceCtorEq, Nat.reduceLT, Nat.reduceLeDiff]
            refine call_ev (ev_Itoa hX hP _ (by omega)) ?_
            simp only [go_sem, Nat.reduceMod, Nat.reduceBNe, Nat.reduceBEq, Nat.reduceEqDiff, Nat.reduceAdd, Int.reduceAdd, Nat.reduceMul, Nat.reduceSub, Int.reduceToNat, Int.reduceLE, Int.reduceLT, Int.reduceEq, Int.reduceNe, reduceCtorEq, Nat.reduceLT, Nat.reduceLeDiff]
            refine call_evm (ev_bWS hX (l := b ++ [44]) (Lib.itoa (l.getD i 0)) rfl (by rw [List.length_append, List.length_singleton]; omega)) ?_
            rintro r H' ⟨rfl, rfl⟩
            simp only [go_sem, Nat.reduceMod, Nat.reduceBNe, Nat.reduceBEq, Nat.reduceEqDiff, Nat.reduceAdd, Int.reduceAdd, Nat.reduceMul, Nat.reduceSub, Int.reduceToNat, Int.reduceLE, Int.reduceLT, Int.reduceEq, Int.reduceNe, reduceCtorEq, Nat.reduceLT, Nat.reduceLeDiff, dflt]
            refine ⟨by omega, fun hg => ⟨by omega, ?_⟩, fun hg => ?_⟩
            · refine call_ev (ev_Itoa hX hP _ (by omega)) ?_
              simp only [go_sem, Nat.reduceMod, Nat.reduceBNe, Nat.reduceBEq, Nat.reduceEqDiff, Nat.reduceAdd, Int.reduceAdd, Nat.reduceMul, Nat.reduceSub, Int.reduceToNat, Int.reduceLE, Int.reduceLT, Int.reduceEq, Int.reduceNe, reduceCtorEq, Nat.reduceLT, Nat.reduceLeDiff]
              refine ⟨by omega, call_evm (ev_bWS hX (l := b ++ [44] ++ Lib.itoa (l.getD i 0)) (45 :: Lib.itoa (l.getD (i + m) 0)) rfl (by simp only [List.length_append, List.length_cons, List.length_nil]; omega)) ?_⟩
              rintro r H' ⟨rfl, rfl⟩
              simp only [go_sem, Nat.reduceMod, Nat.reduceBNe, Nat.reduceBEq, Nat.reduceEqDiff, Nat.reduceAdd, Int.reduceAdd, Nat.reduceMul, Nat.reduceSub, Int.reduceToNat, Int.reduceLE, Int.reduceLT, Int.reduceEq, Int.reduceNe, reduceCtorEq, Nat.reduceLT, Nat.reduceLeDiff, wn2]
              exact nx _ (by rw [Wo.rt, if_pos hg, if_neg hb, List.append_assoc _ _ (45 :: _)])
            · simp only [wn2]
              exact nx _ (by rw [Wo.rt, if_neg hg, if_neg hb, List.append_nil])
        · have hend : i + m + 1 = l.length ∨ l.getD (i + m + 1) 0 ≠ l.getD (i + m) 0 + 1 := .inl (by omega)
          have hn := Wo.tx_next ⟨x1, x2, x3, x4⟩ i2 hm hend
          have l1 := Wo.itoa_len11 (n := l.getD i 0) (by omega)
          have l2 := Wo.itoa_len11 (n := l.getD (i + m) 0) (by omega)
          have wn2 : IntKind.i64.wrap (((i + m : Nat) : Int) + 1) = ((i + m + 1 : Nat) : Int) := wn
          refine call_evm (ev_bLen hX rfl) ?_
          rintro r H' ⟨rfl, rfl⟩
          have nx : ∀ t : List UInt8, t = b ++ (if b = [] then [] else [44]) ++ Wo.rt (l.getD i 0, l.getD (i + m) 0) → ∃ j : Nat × List UInt8, l.length - j.1 < l.length - i ∧ Wo.Tx l j.1 j.2 ∧ AV.int .i64 ((i + m + 1 : Nat) : Int) = AV.int .i64 (j.1 : Int) ∧ [Blk.bld 51 5 t] = [Blk.bld 51 5 j.2] := fun t ht => ⟨(i + m + 1, t), by simp only; omega, by rw [ht]; exact hn, rfl, rfl⟩
          by_cases hb : b = []
          · subst hb
            simp only [go_sem, Nat.reduceMod, Nat.reduceBNe, Nat.reduceBEq, Nat.reduceEqDiff, Nat.reduceAdd, Int.reduceAdd, Nat.reduceMul, Nat.reduceSub, Int.reduceToNat, Int.reduceLE, Int.reduceLT, Int.reduceEq, Int.reduceNe, reduceCtorEq, Nat.reduceLT, Nat.reduceLeDiff]
            refine call_ev (ev_Itoa hX hP _ (by omega)) ?_
            simp only [go_sem, Nat.reduceMod, Nat.reduceBNe, Nat.reduceBEq, Nat.reduceEqDiff, Nat.reduceAdd, Int.reduceAdd, Nat.reduceMul, Nat.reduceSub, Int.reduceToNat, Int.reduceLE, Int.reduceLT, Int.reduceEq, Int.reduceNe, reduceCtorEq, Nat.reduceLT, Nat.reduceLeDiff]
            refine call_evm (ev_bWS hX (l := []) (Lib.itoa (l.getD i 0)) rfl (by rw [List.length_nil]; omega)) ?_
            rintro r H' ⟨rfl, rfl⟩
            simp only [go_sem, Nat.reduceMod, Nat.reduceBNe, Nat.reduceBEq, Nat.reduceEqDiff, Nat.reduceAdd, Int.reduceAdd, Nat.reduceMul, Nat.reduceSub, Int.reduceToNat, Int.reduceLE, Int.reduceLT, Int.reduceEq, Int.reduceNe, reduceCtorEq, Nat.reduceLT, Nat.reduceLeDiff, dflt]
            refine ⟨by omega, fun hg => ⟨by omega, ?_⟩, fun hg => ?_⟩
            · refine call_ev (ev_Itoa hX hP _ (by omega)) ?_
              simp only [go_sem, Nat.reduceMod, Nat.reduceBNe, Nat.reduceBEq, Nat.reduceEqDiff, Nat.reduceAdd, Int.reduceAdd, Nat.reduceMul, Nat.reduceSub, Int.reduceToNat, Int.reduceLE, Int.reduceLT, Int.reduceEq, Int.reduceNe, reduceCtorEq, Nat.reduceLT, Nat.reduceLeDiff]
              refine ⟨by omega, call_evm (ev_bWS hX (l := Lib.itoa (l.getD i 0)) (45 :: Lib.itoa (l.getD (i + m) 0)) rfl (by rw [List.length_cons]; omega)) ?_⟩
              rintro r H' ⟨rfl, rfl⟩
              simp only [go_sem, Nat.reduceMod, Nat.reduceBNe, Nat.reduceBEq, Nat.reduceEqDiff, Nat.reduceAdd, Int.reduceAdd, Nat.reduceMul, Nat.reduceSub, Int.reduceToNat, Int.reduceLE, Int.reduceLT, Int.reduceEq, Int.reduceNe, reduceCtorEq, Nat.reduceLT, Nat.reduceLeDiff, wn2]
              exact nx _ (by rw [Wo.rt, if_pos hg]; rfl)
            · simp only [wn2]
              exact nx _ (by rw [Wo.rt, if_neg hg, List.append_nil]; rfl)
          · have hbl : 0 < b.length := List.length_pos_iff.2 hb
            simp only [go_sem, Nat.reduceMod, Nat.reduceBNe, Nat.reduceBEq, Nat.reduceEqDiff, Nat.reduceAdd, Int.reduceAdd, Nat.reduceMul, Nat.reduceSub, Int.reduceToNat, Int.reduceLE, Int.reduceLT, Int.reduceEq, Int.reduceNe, reduceCtorEq, Nat.reduceLT, Nat.reduceLeDiff, show (0 : Int) < (b.length : Int) by omega]
            refine call_evm (ev_bWB hX (l := b) 44 rfl (by omega)) ?_
            rintro r H' ⟨rfl, rfl⟩
            simp only [go_sem, Nat.reduceMod, Nat.reduceBNe, Nat.reduceBEq, Nat.reduceEqDiff, Nat.reduceAdd, Int.reduceAdd, Nat.reduceMul, Nat.reduceSub, Int.reduceToNat, Int.reduceLE, Int.reduceLT, Int.reduceEq, Int.reduceNe, reduceCtorEq, Nat.reduceLT, Nat.reduceLeDiff]
            refine call_ev (ev_Itoa hX hP _ (by omega)) ?_
            simp only [go_sem, Nat.reduceMod, Nat.reduceBNe, Nat.reduceBEq, Nat.reduceEqDiff, Nat.reduceAdd, Int.reduceAdd, Nat.reduceMul, Nat.reduceSub, Int.reduceToNat, Int.reduceLE, Int.reduceLT, Int.reduceEq, Int.reduceNe, reduceCtorEq, Nat.reduceLT, Nat.reduceLeDiff]
            refine call_evm (ev_bWS hX (l := b ++ [44]) (Lib.itoa (l.getD i 0)) rfl (by rw [List.length_append, List.length_singleton]; omega)) ?_
            rintro r H' ⟨rfl, rfl⟩
            simp only [go_sem, Nat.reduceMod, Nat.reduceBNe, Nat.reduceBEq, Nat.reduceEqDiff, Nat.reduceAdd, Int.reduceAdd, Nat.reduceMul, Nat.reduceSub, Int.reduceToNat, Int.reduceLE, Int.reduceLT, Int.reduceEq, Int.reduceNe, reduceCtorEq, Nat.reduceLT, Nat.reduceLeDiff, dflt]
            refine ⟨by omega, fun hg => ⟨by omega, ?_⟩, fun hg => ?_⟩
            · refine call_ev (ev_Itoa hX hP _ (by omega)) ?_
              simp only [go_sem, Nat.reduceMod, Nat.reduceBNe, Nat.reduceBEq, Nat.reduceEqDiff, Nat.reduceAdd, Int.reduceAdd, Nat.reduceMul, Nat.reduceSub, Int.reduceToNat, Int.reduceLE, Int.reduceLT, Int.reduceEq, Int.reduceNe, reduceCtorEq, Nat.reduceLT, Nat.reduceLeDiff]
              refine ⟨by omega, call_evm (ev_bWS hX (l := b ++ [44] ++ Lib.itoa (l.getD i 0)) (45 :: Lib.itoa (l.getD (i + m) 0)) rfl (by simp only [List.length_append, List.length_cons, List.length_nil]; omega)) ?_⟩
              rintro r H' ⟨rfl, rfl⟩
              simp only [go_sem, Nat.reduceMod, Nat.reduceBNe, Nat.reduceBEq, Nat.reduceEqDiff, Nat.reduceAdd, Int.reduceAdd, Nat.reduceMul, Nat.reduceSub, Int.reduceToNat, Int.reduceLE, Int.reduceLT, Int.reduceEq, Int.reduceNe, reduceCtorEq, Nat.reduceLT, Nat.reduceLeDiff, wn2]
              exact nx _ (by rw [Wo.rt, if_pos hg, if_neg hb, List.append_assoc _ _ (45 :: _)])
            · simp only [wn2]
              exact nx _ (by rw [Wo.rt, if_neg hg, if_neg hb, List.append_nil])
      · have hi' : ¬ (i : Int) < l.length := by omega
        obtain rfl : i = l.length := by omega
        have hte := Wo.tx_end ⟨x1, x2, x3, x4⟩
        simp only [A_words_ListL1, go_sem, Nat.reduceMod, Nat.reduceBNe, Nat.reduceBEq, Nat.reduceEqDiff, Nat.reduceAdd, Int.reduceAdd, Nat.reduceMul, Nat.reduceSub, Int.reduceToNat, Int.reduceLE, Int.reduceLT, Int.reduceEq, Int.reduceNe, reduceCtorEq, Nat.reduceLT, Nat.reduceLeDiff, hi']
        refine ⟨fun h => listV_eq (by rw [hL, if_pos (List.length_eq_zero_iff.1 (by omega))]), fun h => ?_⟩
        have hne : b ≠ [] := fun e => h (by have := x4.1 e; omega)
        refine call_evm (ev_bString hX rfl hne) ?_
        rintro r H' ⟨rfl, rfl⟩
        simp only [go_sem, Nat.reduceMod, Nat.reduceBNe, Nat.reduceBEq, Nat.reduceEqDiff, Nat.reduceAdd, Int.reduceAdd, Nat.reduceMul, Nat.reduceSub, Int.reduceToNat, Int.reduceLE, Int.reduceLT, Int.reduceEq, Int.reduceNe, reduceCtorEq, Nat.reduceLT, Nat.reduceLeDiff]
        exact listV_eq (by rw [hL, if_neg (fun e => by subst e; exact h rfl), hte])
end
end Go.Avm

/- What the laws reach: lists of fields held against each other, what is shown. -/
namespace Go.Avm
open Go
/-- What is laid. -/
structure WEnv (X : Cx) : Prop where
  esc : X.G gEsc = some tabE
  pow : X.G (sRen.g 17) = some tabP
  rng : ∃ te, X.G (sRen.g 16) = some [.ifc te .undef]
theorem eq_all {α : Type} [Inhabited α] {a b : List α} (hl : a.length = b.length) (h : ∀ k, k < a.length → a.getD k default = b.getD k default) : a = b := by
  refine List.ext_getElem hl fun k h1 h2 => ?_
  have := h k h1
  rw [List.getD_eq_getElem?_getD, List.getElem?_eq_getElem h1, List.getD_eq_getElem?_getD, List.getElem?_eq_getElem h2] at this
  exact this
def farB (l : List Wo.Fd) : Bool := decide (70 < l.length) || l.any (fun f => decide (2100 < f.1.length)) || decide (12000 < (l.map fun f => f.1.length).sum)
set_option maxRecDepth 10000
section
variable {X : Cx} (hX : X.P = Go.Proofs.Tryz.prog) (hs : Std X)
include hX hs
theorem ev_rSame (a b : List Wo.Fd) (hl : a.length < 1000000) : Ev X F_ref01_Same [lst fdV .ro a, lst fdV .ro b] (.bool (decide (a = b))) := by
  refine ev_of_wpc hs (A_ref01_Same_ok hX) 0 ?_
  simp only [A_ref01_Same, go_sem, Nat.reduceMod, Nat.reduceBNe, Nat.reduceBEq, Nat.reduceEqDiff, Nat.reduceAdd, Int.reduceAdd, Nat.reduceMul, Nat.reduceSub, Int.reduceToNat, Int.reduceLE, Int.reduceLT, Int.reduceEq, Int.reduceNe, reduceCtorEq, Nat.reduceLT, Nat.reduceLeDiff]
  refine ⟨fun h => ?_, fun h => ?_⟩
  · rw [decide_eq_false (fun e => h (by rw [e]))]
  have hle : a.length = b.length := by omega
  refine w_loop' hs.hm (ι := Nat) (fun i => i ≤ a.length ∧ ∀ k, k < i → a.getD k default = b.getD k default) (fun i => [(5, .int .i64 i), (1, lst fdV .ro b), (0, lst fdV .ro a)]) (fun _ => []) (fun i => a.length - i) 0 ?_ fun i hi => ?_
  · simp only [go_sem, Nat.reduceMod, Nat.reduceBNe, Nat.reduceBEq, Nat.reduceEqDiff, Nat.reduceAdd, Int.reduceAdd, Nat.reduceMul, Nat.reduceSub, Int.reduceToNat, Int.reduceLE, Int.reduceLT, Int.reduceEq, Int.reduceNe, reduceCtorEq, Nat.reduceLT, Nat.reduceLeDiff]
    exact ⟨Nat.zero_le _, no_lt0⟩
  obtain ⟨i1, i2⟩ := hi
  by_cases hlt : i < a.length
  · have hlt' : (i : Int) < a.length := by omega
    simp only [A_ref01_SameL0, go_sem, Nat.reduceMod, Nat.reduceBNe, Nat.reduceBEq, Nat.reduceEqDiff, Nat.reduceAdd, Int.reduceAdd, Nat.reduceMul, Nat.reduceSub, Int.reduceToNat, Int.reduceLE, Int.reduceLT, Int.reduceEq, Int.reduceNe, reduceCtorEq, Nat.reduceLT, Nat.reduceLeDiff, hlt', ce_fd]
    refine ⟨by omega, by omega, fun e => ?_, fun e => nxt1 (by omega) i2 ?_ (by omega)⟩
    · rw [decide_eq_false]
      intro h
      subst h
      simp at e
    · simp only [Bool.and_eq_true, beq_iff_eq] at e
      generalize a.getD i default = f at *
      generalize b.getD i default = g at *
      obtain ⟨f1, f2⟩ := f
      obtain ⟨g1, g2⟩ := g
      simp only at e
      obtain ⟨rfl, rfl⟩ := e
      rfl
  · have hlt' : ¬ (i : Int) < a.length := by omega
    obtain rfl : i = a.length := by omega
    simp only [A_ref01_SameL0, go_sem, Nat.reduceMod, Nat.reduceBNe, Nat.reduceBEq, Nat.reduceEqDiff, Nat.reduceAdd, Int.reduceAdd, Nat.reduceMul, Nat.reduceSub, Int.reduceToNat, Int.reduceLE, Int.reduceLT, Int.reduceEq, Int.reduceNe, reduceCtorEq, Nat.reduceLT, Nat.reduceLeDiff, hlt']
    rw [decide_eq_true (eq_all hle i2)]
theorem ev_shown (he : WEnv X) : Ev X F_law01_shown [] (.bool true) := by
  obtain ⟨hE, hP, te, hR⟩ := he
  refine ev_of_wpc hs (A_law01_shown_ok hX) 0 ?_
  simp only [A_law01_shown, go_sem, Nat.reduceMod, Nat.reduceBNe, Nat.reduceBEq, Nat.reduceEqDiff, Nat.reduceAdd, Int.reduceAdd, Nat.reduceMul, Nat.reduceSub, Int.reduceToNat, Int.reduceLE, Int.reduceLT, Int.reduceEq, Int.reduceNe, reduceCtorEq, Nat.reduceLT, Nat.reduceLeDiff]
  refine call_ev (ev_Split hX hs hE _ (by decide)) ?_
  have e1 : splV [103, 101, 116, 32, 47, 32, 34, 97, 32, 98, 34] = .tuple [lst fdV .ro [([103, 101, 116], false), ([47], false), ([97, 32, 98], true)], .int .i64 0] := splV_eq (by decide +kernel) |>.symm
  rw [e1]
  simp only [go_sem, Nat.reduceMod, Nat.reduceBNe, Nat.reduceBEq, Nat.reduceEqDiff, Nat.reduceAdd, Int.reduceAdd, Nat.reduceMul, Nat.reduceSub, Int.reduceToNat, Int.reduceLE, Int.reduceLT, Int.reduceEq, Int.reduceNe, reduceCtorEq, Nat.reduceLT, Nat.reduceLeDiff]
  refine call_ev (ev_Int hX hs hR _ _ _ (by decide)) ?_
  have e2 : intV [45, 49, 50] (-20) 20 = .tuple [.int .i64 (-12), .int .i64 0] := by
    rw [intV]; congr 1
  rw [e2]
  simp only [go_sem, Nat.reduceMod, Nat.reduceBNe, Nat.reduceBEq, Nat.reduceEqDiff, Nat.reduceAdd, Int.reduceAdd, Nat.reduceMul, Nat.reduceSub, Int.reduceToNat, Int.reduceLE, Int.reduceLT, Int.reduceEq, Int.reduceNe, reduceCtorEq, Nat.reduceLT, Nat.reduceLeDiff]
  refine call_ev (ev_List hX hs hP [1, 2, 3, 5, 8, 9]) ?_
  have e3 : listV [1, 2, 3, 5, 8, 9] = .tuple [.str [49, 45, 51, 44, 53, 44, 56, 45, 57], .int .i64 0] := (listV_eq (by decide +kernel)).symm
  rw [e3]
  simp only [go_sem, Nat.reduceMod, Nat.reduceBNe, Nat.reduceBEq, Nat.reduceEqDiff, Nat.reduceAdd, Int.reduceAdd, Nat.reduceMul, Nat.reduceSub, Int.reduceToNat, Int.reduceLE, Int.reduceLT, Int.reduceEq, Int.reduceNe, reduceCtorEq, Nat.reduceLT, Nat.reduceLeDiff]
  refine call_ev (ev_Unquote hX hs hE _ (by decide)) ?_
  have e4 : Wo.unqV [34, 97, 92, 110, 92, 120, 48, 48, 92, 34, 34] = ([97, 10, 0, 34], 0) := by decide +kernel
  rw [e4]
  simp only [go_sem, Nat.reduceMod, Nat.reduceBNe, Nat.reduceBEq, Nat.reduceEqDiff, Nat.reduceAdd, Int.reduceAdd, Nat.reduceMul, Nat.reduceSub, Int.reduceToNat, Int.reduceLE, Int.reduceLT, Int.reduceEq, Int.reduceNe, reduceCtorEq, Nat.reduceLT, Nat.reduceLeDiff]
  refine call_ev (ev_rSame hX hs [([103, 101, 116], false), ([47], false), ([97, 32, 98], true)] [([103, 101, 116], false), ([47], false), ([97, 32, 98], true)] (by decide)) ?_
  simp only [go_sem, Nat.reduceMod, Nat.reduceBNe, Nat.reduceBEq, Nat.reduceEqDiff, Nat.reduceAdd, Int.reduceAdd, Nat.reduceMul, Nat.reduceSub, Int.reduceToNat, Int.reduceLE, Int.reduceLT, Int.reduceEq, Int.reduceNe, reduceCtorEq, Nat.reduceLT, Nat.reduceLeDiff]
  refine call_ev (ev_Name hX hs _) ?_
  rw [show Lat.isNm [119, 101, 98, 45, 49] = true by decide +kernel]
  simp only [go_sem, Nat.reduceMod, Nat.reduceBNe, Nat.reduceBEq, Nat.reduceEqDiff, Nat.reduceAdd, Int.reduceAdd, Nat.reduceMul, Nat.reduceSub, Int.reduceToNat, Int.reduceLE, Int.reduceLT, Int.reduceEq, Int.reduceNe, reduceCtorEq, Nat.reduceLT, Nat.reduceLeDiff]
theorem ev_far (l : List Wo.Fd) : Ev X F_law01_far [lst fdV .ro l] (.bool (farB l)) := by
  refine ev_of_wpc hs (A_law01_far_ok hX) 0 ?_
  simp only [A_law01_far, go_sem, Nat.reduceMod, Nat.reduceBNe, Nat.reduceBEq, Nat.reduceEqDiff, Nat.reduceAdd, Int.reduceAdd, Nat.reduceMul, Nat.reduceSub, Int.reduceToNat, Int.reduceLE, Int.reduceLT, Int.reduceEq, Int.reduceNe, reduceCtorEq, Nat.reduceLT, Nat.reduceLeDiff]
  refine ⟨fun h => by rw [farB, decide_eq_true (show 70 < l.length by omega)]; rfl, fun h => ?_⟩
  have h70 := decide_eq_false (show ¬ 70 < l.length by omega)
  have hsum : ∀ i, i < l.length → ((l.take (i + 1)).map fun f => f.1.length).sum = ((l.take i).map fun f => f.1.length).sum + (l.getD i default).1.length := fun i hi => by
    rw [List.take_add_one, List.getElem?_eq_getElem hi, List.getD_eq_getElem?_getD, List.getElem?_eq_getElem hi, List.map_append, List.sum_append]
    simp
  refine w_loop' hs.hm (ι := Nat) (fun i => (i ≤ l.length ∧ ∀ k, k < i → decide (2100 < (l.getD k default).1.length) = false) ∧ ((l.take i).map fun f => f.1.length).sum ≤ 2100 * i) (fun i => [(4, .int .i64 i), (3, .int .i64 (((l.take i).map fun f => f.1.length).sum : Nat)), (0, lst fdV .ro l)]) (fun _ => []) (fun i => l.length - i) 0 ?_ fun i hi => ?_
  · simp only [go_sem, Nat.reduceMod, Nat.reduceBNe, Nat.reduceBEq, Nat.reduceEqDiff, Nat.reduceAdd, Int.reduceAdd, Nat.reduceMul, Nat.reduceSub, Int.reduceToNat, Int.reduceLE, Int.reduceLT, Int.reduceEq, Int.reduceNe, reduceCtorEq, Nat.reduceLT, Nat.reduceLeDiff]
    exact ⟨⟨⟨Nat.zero_le _, no_lt0⟩, Nat.le_refl _⟩, rfl⟩
  obtain ⟨⟨i1, i2⟩, i3⟩ := hi
  by_cases hlt : i < l.length
  · have hlt' : (i : Int) < l.length := by omega
    have hsi := hsum i hlt
    simp only [A_law01_farL0, go_sem, Nat.reduceMod, Nat.reduceBNe, Nat.reduceBEq, Nat.reduceEqDiff, Nat.reduceAdd, Int.reduceAdd, Nat.reduceMul, Nat.reduceSub, Int.reduceToNat, Int.reduceLE, Int.reduceLT, Int.reduceEq, Int.reduceNe, reduceCtorEq, Nat.reduceLT, Nat.reduceLeDiff, hlt', ce_fd]
    refine ⟨by omega, fun e => ?_, fun e => ⟨by omega, i + 1, by omega, ⟨⟨by omega, fun k hk => ?_⟩, by omega⟩, by rw [wi64 (by omega)]; rfl, ?_⟩⟩
    · rw [farB, Wo.any_yes (p := fun f => decide (2100 < f.1.length)) hlt (by simp only [decide_eq_true_eq]; omega), Bool.or_true, Bool.true_or]
    · rcases Nat.lt_or_ge k i with h' | h'
      · exact of_decide_eq_false (i2 k h')
      · rw [show k = i by omega]; omega
    · rw [wi64 (by omega), hsi]; rfl
  · have hlt' : ¬ (i : Int) < l.length := by omega
    obtain rfl : i = l.length := by omega
    simp only [A_law01_farL0, go_sem, Nat.reduceMod, Nat.reduceBNe, Nat.reduceBEq, Nat.reduceEqDiff, Nat.reduceAdd, Int.reduceAdd, Nat.reduceMul, Nat.reduceSub, Int.reduceToNat, Int.reduceLE, Int.reduceLT, Int.reduceEq, Int.reduceNe, reduceCtorEq, Nat.reduceLT, Nat.reduceLeDiff, hlt', List.take_length]
    have hn : l.any (fun f => decide (2100 < f.1.length)) = false := Wo.any_no i2
    rw [farB, h70, hn, Bool.false_or, Bool.false_or]
    congr 1
    rw [Bool.eq_iff_iff, decide_eq_true_eq, decide_eq_true_eq]
    omega
end
end Go.Avm
