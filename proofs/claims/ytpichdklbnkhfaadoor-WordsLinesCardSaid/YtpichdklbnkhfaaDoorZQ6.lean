/- The law of lines. -/
import Derived.Test.YtpichdklbnkhfaaDoorZQ5
set_option linter.unusedSectionVars false
set_option linter.unusedSimpArgs false
set_option linter.unusedVariables false

/- The law of lines. -/
namespace Go.Avm
open Go
theorem b2a_box {H : Heap} {id n cap : Nat} {l : List UInt8} (h : H[id]? = some (.box (l.map u8))) (hn : l.length = n) : b2sA H (.rsl id 0 n cap 1) = lst u8 .ro l := by
  subst hn
  simp only [b2sA, cpySrc, h]
  rw [if_pos (by simp)]
  simp only [List.drop_zero]
  rw [List.take_of_length_le (by simp)]
  rfl
set_option maxRecDepth 10000
section
variable {X : Cx} (hX : X.P = Go.Proofs.Tryd.prog) (hs : Std X) (he : WEnv X)
include hX hs
theorem ev_llines (s : List UInt8) (hl : s.length < 4000000) : Ev X F_law01_lines [.str s] (.bool true) := by
  refine ev_of_wpc hs (A_law01_lines_ok hX) 0 ?_
  simp only [A_law01_lines, go_sem, Nat.reduceMod, Nat.reduceBNe, Nat.reduceBEq, Nat.reduceEqDiff, Nat.reduceAdd, Int.reduceAdd, Nat.reduceMul, Nat.reduceSub, Int.reduceToNat, Int.reduceLE, Int.reduceLT, Int.reduceEq, Int.reduceNe, reduceCtorEq, Nat.reduceLT, Nat.reduceLeDiff]
  refine call_ev (ev_Lines hX hs s hl) ?_
  simp only [linesV, go_sem, Nat.reduceMod, Nat.reduceBNe, Nat.reduceBEq, Nat.reduceEqDiff, Nat.reduceAdd, Int.reduceAdd, Nat.reduceMul, Nat.reduceSub, Int.reduceToNat, Int.reduceLE, Int.reduceLT, Int.reduceEq, Int.reduceNe, reduceCtorEq, Nat.reduceLT, Nat.reduceLeDiff]
  refine call_ev (ev_rLines hX hs s hl) ?_
  simp only [linesV, go_sem, Nat.reduceMod, Nat.reduceBNe, Nat.reduceBEq, Nat.reduceEqDiff, Nat.reduceAdd, Int.reduceAdd, Nat.reduceMul, Nat.reduceSub, Int.reduceToNat, Int.reduceLE, Int.reduceLT, Int.reduceEq, Int.reduceNe, reduceCtorEq, Nat.reduceLT, Nat.reduceLeDiff]
  have hn : (Wo.linesS s).1.length ≤ 5000 := by
    unfold Wo.linesS
    split
    · simp
    · split
      · simp
      · split
        · simp
        · split
          · simp
          · dsimp only; omega
  generalize (Wo.linesS s).1 = l at *
  refine w_loop' hs.hm (ι := Nat) (fun i => i ≤ l.length) (fun i => [(7, .int .i64 i), (5, lst AV.str .ro l), (3, lst AV.str .ro l)]) (fun _ => []) (fun i => l.length - i) 0 ?_ fun i hi => ?_
  · simp only [go_sem, Nat.reduceMod, Nat.reduceBNe, Nat.reduceBEq, Nat.reduceEqDiff, Nat.reduceAdd, Int.reduceAdd, Nat.reduceMul, Nat.reduceSub, Int.reduceToNat, Int.reduceLE, Int.reduceLT, Int.reduceEq, Int.reduceNe, reduceCtorEq, Nat.reduceLT, Nat.reduceLeDiff]
    exact Nat.zero_le _
  by_cases hlt : i < l.length
  · have hlt' : (i : Int) < l.length := by omega
    simp only [A_law01_linesL0, go_sem, Nat.reduceMod, Nat.reduceBNe, Nat.reduceBEq, Nat.reduceEqDiff, Nat.reduceAdd, Int.reduceAdd, Nat.reduceMul, Nat.reduceSub, Int.reduceToNat, Int.reduceLE, Int.reduceLT, Int.reduceEq, Int.reduceNe, reduceCtorEq, Nat.reduceLT, Nat.reduceLeDiff, hlt']
    refine ⟨by omega, by omega, i + 1, by omega, by omega, ?_⟩
    rw [wi64 (by omega)]; rfl
  · have hlt' : ¬ (i : Int) < l.length := by omega
    simp only [A_law01_linesL0, go_sem, Nat.reduceMod, Nat.reduceBNe, Nat.reduceBEq, Nat.reduceEqDiff, Nat.reduceAdd, Int.reduceAdd, Nat.reduceMul, Nat.reduceSub, Int.reduceToNat, Int.reduceLE, Int.reduceLT, Int.reduceEq, Int.reduceNe, reduceCtorEq, Nat.reduceLT, Nat.reduceLeDiff, hlt']
include he
def lnV (long : Bool) (i : Nat) : UInt8 := if long = true ∧ i % 1000 ≠ 0 then 120 else 10
theorem ev_lLines (s tail : List UInt8) (long : Bool) : Ev X F_law01_WordsLines [.str s, .str tail, .bool long] (.bool true) := by
  refine ev_of_wpc hs (A_law01_WordsLines_ok hX) 0 ?_
  have hsh := ev_shown hX hs he
  simp only [A_law01_WordsLines]
  generalize h5 : (5000 : Int) = n5
  generalize h6 : (1048556 : Int) = n6
  by_cases h1 : (12000 : Int) < s.length
  · simp only [go_sem, Nat.reduceMod, Nat.reduceBNe, Nat.reduceBEq, Nat.reduceEqDiff, Nat.reduceAdd, Int.reduceAdd, Nat.reduceMul, Nat.reduceSub, Int.reduceToNat, Int.reduceLE, Int.reduceLT, Int.reduceEq, Int.reduceNe, reduceCtorEq, Nat.reduceLT, Nat.reduceLeDiff, h1]
    refine call_ev hsh ?_
    simp only [go_sem, Nat.reduceMod, Nat.reduceBNe, Nat.reduceBEq, Nat.reduceEqDiff, Nat.reduceAdd, Int.reduceAdd, Nat.reduceMul, Nat.reduceSub, Int.reduceToNat, Int.reduceLE, Int.reduceLT, Int.reduceEq, Int.reduceNe, reduceCtorEq, Nat.reduceLT, Nat.reduceLeDiff]
  by_cases h2 : (100 : Int) < tail.length
  · simp only [go_sem, Nat.reduceMod, Nat.reduceBNe, Nat.reduceBEq, Nat.reduceEqDiff, Nat.reduceAdd, Int.reduceAdd, Nat.reduceMul, Nat.reduceSub, Int.reduceToNat, Int.reduceLE, Int.reduceLT, Int.reduceEq, Int.reduceNe, reduceCtorEq, Nat.reduceLT, Nat.reduceLeDiff, h1, h2]
    refine call_ev hsh ?_
    simp only [go_sem, Nat.reduceMod, Nat.reduceBNe, Nat.reduceBEq, Nat.reduceEqDiff, Nat.reduceAdd, Int.reduceAdd, Nat.reduceMul, Nat.reduceSub, Int.reduceToNat, Int.reduceLE, Int.reduceLT, Int.reduceEq, Int.reduceNe, reduceCtorEq, Nat.reduceLT, Nat.reduceLeDiff]
  simp only [go_sem, Nat.reduceMod, Nat.reduceBNe, Nat.reduceBEq, Nat.reduceEqDiff, Nat.reduceAdd, Int.reduceAdd, Nat.reduceMul, Nat.reduceSub, Int.reduceToNat, Int.reduceLE, Int.reduceLT, Int.reduceEq, Int.reduceNe, reduceCtorEq, Nat.reduceLT, Nat.reduceLeDiff, h1, h2]
  refine ⟨by omega, ?_⟩
  cases long with
  | false =>
    simp only [go_sem, Nat.reduceMod, Nat.reduceBNe, Nat.reduceBEq, Nat.reduceEqDiff, Nat.reduceAdd, Int.reduceAdd, Nat.reduceMul, Nat.reduceSub, Int.reduceToNat, Int.reduceLE, Int.reduceLT, Int.reduceEq, Int.reduceNe, reduceCtorEq, Nat.reduceLT, Nat.reduceLeDiff]
    
    have hm : n5.toNat ≤ 5000 := by omega
    generalize n5.toNat = m at *
    refine w_loop' hs.hm (ι := Nat) (fun i => i ≤ m) (fun i => [(8, .int .i64 i), (7, .rsl 0 0 m m 1), (2, .bool false), (1, .str tail), (0, .str s)]) (fun i => [.box (tb m fun k => .int .u8 (if k < i then ((lnV false k).toNat : Int) else 0))]) (fun i => m - i) 0 ?_ fun i hi => ?_
    · simp only [go_sem, Nat.reduceMod, Nat.reduceBNe, Nat.reduceBEq, Nat.reduceEqDiff, Nat.reduceAdd, Int.reduceAdd, Nat.reduceMul, Nat.reduceSub, Int.reduceToNat, Int.reduceLE, Int.reduceLT, Int.reduceEq, Int.reduceNe, reduceCtorEq, Nat.reduceLT, Nat.reduceLeDiff]
      refine ⟨Nat.zero_le _, ?_⟩
      simp only [Nat.not_lt_zero, if_false]
    by_cases hlt : i < m
    · have hlt' : (i : Int) < m := by omega
      have hw : IntKind.i64.wrap ((i : Int) + 1) = ((i + 1 : Nat) : Int) := by rw [wi64 (by omega)]; rfl
      have hset : ∀ (f : Nat → AV) (v : Int), v = ((lnV false i).toNat : Int) → (∀ k, k ≠ i → f k = .int .u8 (if k < i then ((lnV false k).toNat : Int) else 0)) → (tb m fun k => if k = i then AV.int .u8 v else f k) = tb m fun k => .int .u8 (if k < i + 1 then ((lnV false k).toNat : Int) else 0) := fun f v hv hf => tb_congr fun k hk => by
        by_cases e : k = i
        · subst e; rw [if_pos rfl, if_pos (by omega), hv]
        · rw [if_neg e, hf k e]
          by_cases e2 : k < i
          · rw [if_pos e2, if_pos (by omega)]
          · rw [if_neg e2, if_neg (by omega)]
      simp only [A_law01_WordsLinesL0, go_sem, Nat.reduceMod, Nat.reduceBNe, Nat.reduceBEq, Nat.reduceEqDiff, Nat.reduceAdd, Int.reduceAdd, Nat.reduceMul, Nat.reduceSub, Int.reduceToNat, Int.reduceLE, Int.reduceLT, Int.reduceEq, Int.reduceNe, reduceCtorEq, Nat.reduceLT, Nat.reduceLeDiff, hlt', hw, Nat.mul_one, Int.toNat_natCast, sc_tb]
      refine ⟨by omega, by omega, i + 1, by omega, by omega, rfl, ?_⟩
      rw [hset _ 10 rfl fun k hk => rfl]
    · have hlt' : ¬ (i : Int) < m := by omega
      obtain rfl : i = m := by omega
      have hbx : (tb i fun k => AV.int .u8 (if k < i then ((lnV false k).toNat : Int) else 0)) = ((List.range i).map (lnV false)).map u8 := by
        rw [List.map_map]
        refine List.map_congr_left fun k hk => ?_
        rw [if_pos (List.mem_range.1 hk)]
        rfl
      have hL : ((List.range i).map (lnV false)).length = i := by rw [List.length_map, List.length_range]
      rw [hbx]
      generalize (List.range i).map (lnV false) = L at *
      have hb2 : b2sA ([Blk.box (L.map u8)]) (.rsl 0 0 i i 1) = lst u8 .ro L := b2a_box rfl hL
      simp only [A_law01_WordsLinesL0, go_sem, Nat.reduceMod, Nat.reduceBNe, Nat.reduceBEq, Nat.reduceEqDiff, Nat.reduceAdd, Int.reduceAdd, Nat.reduceMul, Nat.reduceSub, Int.reduceToNat, Int.reduceLE, Int.reduceLT, Int.reduceEq, Int.reduceNe, reduceCtorEq, Nat.reduceLT, Nat.reduceLeDiff, hlt']
      refine call_ev (ev_llines hX hs s (by omega)) ?_
      simp only [go_sem, Nat.reduceMod, Nat.reduceBNe, Nat.reduceBEq, Nat.reduceEqDiff, Nat.reduceAdd, Int.reduceAdd, Nat.reduceMul, Nat.reduceSub, Int.reduceToNat, Int.reduceLE, Int.reduceLT, Int.reduceEq, Int.reduceNe, reduceCtorEq, Nat.reduceLT, Nat.reduceLeDiff, hb2]
      refine ⟨by omega, call_ev (ev_llines hX hs (L ++ tail) (by rw [List.length_append]; omega)) ?_⟩
      simp only [go_sem, Nat.reduceMod, Nat.reduceBNe, Nat.reduceBEq, Nat.reduceEqDiff, Nat.reduceAdd, Int.reduceAdd, Nat.reduceMul, Nat.reduceSub, Int.reduceToNat, Int.reduceLE, Int.reduceLT, Int.reduceEq, Int.reduceNe, reduceCtorEq, Nat.reduceLT, Nat.reduceLeDiff]
      refine call_ev hsh ?_
      simp only [go_sem, Nat.reduceMod, Nat.reduceBNe, Nat.reduceBEq, Nat.reduceEqDiff, Nat.reduceAdd, Int.reduceAdd, Nat.reduceMul, Nat.reduceSub, Int.reduceToNat, Int.reduceLE, Int.reduceLT, Int.reduceEq, Int.reduceNe, reduceCtorEq, Nat.reduceLT, Nat.reduceLeDiff]
  | true =>
    simp only [go_sem, Nat.reduceMod, Nat.reduceBNe, Nat.reduceBEq, Nat.reduceEqDiff, Nat.reduceAdd, Int.reduceAdd, Nat.reduceMul, Nat.reduceSub, Int.reduceToNat, Int.reduceLE, Int.reduceLT, Int.reduceEq, Int.reduceNe, reduceCtorEq, Nat.reduceLT, Nat.reduceLeDiff]
    refine ⟨by omega, ?_⟩
    have hm : n6.toNat ≤ 1048556 := by omega
    generalize n6.toNat = m at *
    refine w_loop' hs.hm (ι := Nat) (fun i => i ≤ m) (fun i => [(8, .int .i64 i), (7, .rsl 1 0 m m 1), (2, .bool true), (1, .str tail), (0, .str s)]) (fun i => .box (tb n5.toNat fun x => AV.int IntKind.u8 0) :: [.box (tb m fun k => .int .u8 (if k < i then ((lnV true k).toNat : Int) else 0))]) (fun i => m - i) 0 ?_ fun i hi => ?_
    · simp only [go_sem, Nat.reduceMod, Nat.reduceBNe, Nat.reduceBEq, Nat.reduceEqDiff, Nat.reduceAdd, Int.reduceAdd, Nat.reduceMul, Nat.reduceSub, Int.reduceToNat, Int.reduceLE, Int.reduceLT, Int.reduceEq, Int.reduceNe, reduceCtorEq, Nat.reduceLT, Nat.reduceLeDiff]
      refine ⟨Nat.zero_le _, ?_⟩
      simp only [Nat.not_lt_zero, if_false]
    by_cases hlt : i < m
    · have hlt' : (i : Int) < m := by omega
      have hw : IntKind.i64.wrap ((i : Int) + 1) = ((i + 1 : Nat) : Int) := by rw [wi64 (by omega)]; rfl
      have hset : ∀ (f : Nat → AV) (v : Int), v = ((lnV true i).toNat : Int) → (∀ k, k ≠ i → f k = .int .u8 (if k < i then ((lnV true k).toNat : Int) else 0)) → (tb m fun k => if k = i then AV.int .u8 v else f k) = tb m fun k => .int .u8 (if k < i + 1 then ((lnV true k).toNat : Int) else 0) := fun f v hv hf => tb_congr fun k hk => by
        by_cases e : k = i
        · subst e; rw [if_pos rfl, if_pos (by omega), hv]
        · rw [if_neg e, hf k e]
          by_cases e2 : k < i
          · rw [if_pos e2, if_pos (by omega)]
          · rw [if_neg e2, if_neg (by omega)]
      simp only [A_law01_WordsLinesL0, go_sem, Nat.reduceMod, Nat.reduceBNe, Nat.reduceBEq, Nat.reduceEqDiff, Nat.reduceAdd, Int.reduceAdd, Nat.reduceMul, Nat.reduceSub, Int.reduceToNat, Int.reduceLE, Int.reduceLT, Int.reduceEq, Int.reduceNe, reduceCtorEq, Nat.reduceLT, Nat.reduceLeDiff, hlt', hw, Nat.mul_one, Int.toNat_natCast, sc_tb]
      refine ⟨by omega, by omega, fun hq => ⟨by omega, by omega, i + 1, by omega, by omega, rfl, ?_⟩, fun hq => ⟨i + 1, by omega, by omega, rfl, ?_⟩⟩
      · rw [hset (fun j => if j = i then AV.int .u8 10 else AV.int .u8 (if j < i then ((lnV true j).toNat : Int) else 0)) 120 ?_ fun k hk => by simp only [if_neg hk]]
        rw [lnV, if_pos ⟨rfl, fun h => hq (by rw [Int.tmod_eq_emod_of_nonneg (by omega)]; omega)⟩]; rfl
      · rw [hset _ 10 ?_ fun k hk => rfl]
        rw [Int.tmod_eq_emod_of_nonneg (by omega)] at hq
        rw [lnV, if_neg (fun h => h.2 (by omega))]; rfl
    · have hlt' : ¬ (i : Int) < m := by omega
      obtain rfl : i = m := by omega
      have hbx : (tb i fun k => AV.int .u8 (if k < i then ((lnV true k).toNat : Int) else 0)) = ((List.range i).map (lnV true)).map u8 := by
        rw [List.map_map]
        refine List.map_congr_left fun k hk => ?_
        rw [if_pos (List.mem_range.1 hk)]
        rfl
      have hL : ((List.range i).map (lnV true)).length = i := by rw [List.length_map, List.length_range]
      rw [hbx]
      generalize (List.range i).map (lnV true) = L at *
      have hb2 : b2sA (.box (tb n5.toNat fun x => AV.int IntKind.u8 0) :: [Blk.box (L.map u8)]) (.rsl 1 0 i i 1) = lst u8 .ro L := b2a_box rfl hL
      simp only [A_law01_WordsLinesL0, go_sem, Nat.reduceMod, Nat.reduceBNe, Nat.reduceBEq, Nat.reduceEqDiff, Nat.reduceAdd, Int.reduceAdd, Nat.reduceMul, Nat.reduceSub, Int.reduceToNat, Int.reduceLE, Int.reduceLT, Int.reduceEq, Int.reduceNe, reduceCtorEq, Nat.reduceLT, Nat.reduceLeDiff, hlt']
      refine call_ev (ev_llines hX hs s (by omega)) ?_
      simp only [go_sem, Nat.reduceMod, Nat.reduceBNe, Nat.reduceBEq, Nat.reduceEqDiff, Nat.reduceAdd, Int.reduceAdd, Nat.reduceMul, Nat.reduceSub, Int.reduceToNat, Int.reduceLE, Int.reduceLT, Int.reduceEq, Int.reduceNe, reduceCtorEq, Nat.reduceLT, Nat.reduceLeDiff, hb2]
      refine ⟨by omega, call_ev (ev_llines hX hs (L ++ tail) (by rw [List.length_append]; omega)) ?_⟩
      simp only [go_sem, Nat.reduceMod, Nat.reduceBNe, Nat.reduceBEq, Nat.reduceEqDiff, Nat.reduceAdd, Int.reduceAdd, Nat.reduceMul, Nat.reduceSub, Int.reduceToNat, Int.reduceLE, Int.reduceLT, Int.reduceEq, Int.reduceNe, reduceCtorEq, Nat.reduceLT, Nat.reduceLeDiff]
      refine call_ev hsh ?_
      simp only [go_sem, Nat.reduceMod, Nat.reduceBNe, Nat.reduceBEq, Nat.reduceEqDiff, Nat.reduceAdd, Int.reduceAdd, Nat.reduceMul, Nat.reduceSub, Int.reduceToNat, Int.reduceLE, Int.reduceLT, Int.reduceEq, Int.reduceNe, reduceCtorEq, Nat.reduceLT, Nat.reduceLeDiff]
end
end Go.Avm
