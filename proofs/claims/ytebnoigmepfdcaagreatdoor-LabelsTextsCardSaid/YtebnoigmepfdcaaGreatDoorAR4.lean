/- strings.Split at commas. -/
import Derived.Test.YtebnoigmepfdcaaGreatDoorAQ3
import Derived.Test.YtebnoigmepfdcaaGreatDoorM3
import Derived.Shelf.Strings.Search1
import Derived.Shelf.Strings.Search2
import Derived.Shelf.Strings.Search3
import Derived.Shelf.Strings.Count
import Derived.Test.YtebnoigmepfdcaaGreatDoorAR2
set_option linter.unusedSectionVars false
set_option linter.unusedSimpArgs false
set_option linter.unusedVariables false

/- strings.Split at commas. -/
namespace Go.Avm
open Go
section
open Go.Proofs Go.Shelf
def zCountL_ren : Go.Shelf.Ren := ⟨fun | 138 => 101 | 195 => 118 | 218 => 120 | 143 => 102 | 219 => 121 | 217 => 135 | 225 => 136 | 224 => 137 | 267 => 138 | 266 => 143 | 314 => 144 | n => n, fun | 9 => 9 | 3 => 3 | 4 => 4 | 5 => 5 | 0 => 0 | 46 => 106 | 146 => 156 | 51 => 122 | n => n, fun | 1 => 0 | n => n⟩
theorem zCountL : Go.Proofs.Lays.n138 Tryz.prog zCountL_ren := {
  mixed := by kernel_rfl
  f138 := Tryz.func101.trans (congrArg some (by kernel_rfl))
  f143 := Tryz.func102.trans (congrArg some (by kernel_rfl))
  f195 := Tryz.func118.trans (congrArg some (by kernel_rfl))
  f217 := Tryz.func135.trans (congrArg some (by kernel_rfl))
  f218 := Tryz.func120.trans (congrArg some (by kernel_rfl))
  f219 := Tryz.func121.trans (congrArg some (by kernel_rfl))
  f224 := Tryz.func137.trans (congrArg some (by kernel_rfl))
  f225 := Tryz.func136.trans (congrArg some (by kernel_rfl))
  f266 := Tryz.func143.trans (congrArg some (by kernel_rfl))
  f267 := Tryz.func138.trans (congrArg some (by kernel_rfl))
  f314 := Tryz.func144.trans (congrArg some (by kernel_rfl))
  t0 := Tryz.underlying0
  a0 := Tryz.isAgg0
  z0 := Tryz.sizeOf0
  v0 := Tryz.zeroValue0
  t3 := Tryz.underlying3
  a3 := Tryz.isAgg3
  z3 := Tryz.sizeOf3
  v3 := Tryz.zeroValue3
  t4 := Tryz.underlying4
  a4 := Tryz.isAgg4
  z4 := Tryz.sizeOf4
  v4 := Tryz.zeroValue4
  t5 := Tryz.underlying5
  a5 := Tryz.isAgg5
  z5 := Tryz.sizeOf5
  v5 := Tryz.zeroValue5
  t9 := Tryz.underlying9
  a9 := Tryz.isAgg9
  z9 := Tryz.sizeOf9
  v9 := Tryz.zeroValue9
  t46 := Tryz.underlying106
  a46 := Tryz.isAgg106
  z46 := Tryz.sizeOf106
  v46 := Tryz.zeroValue106
  t51 := Tryz.underlying122
  a51 := Tryz.isAgg122
  z51 := Tryz.sizeOf122
  v51 := Tryz.zeroValue122
  t146 := Tryz.underlying156
  a146 := Tryz.isAgg156
  z146 := Tryz.sizeOf156
  v146 := Tryz.zeroValue156
  g1 := by kernel_rfl }
def zIndexL_ren : Go.Shelf.Ren := ⟨fun | 219 => 121 | 217 => 135 | 225 => 136 | 224 => 137 | 267 => 138 | 266 => 143 | 314 => 144 | n => n, fun | 9 => 9 | 3 => 3 | 4 => 4 | 5 => 5 | 46 => 106 | 146 => 156 | 51 => 122 | n => n, fun | 1 => 0 | n => n⟩
theorem zIndexL : Go.Proofs.Lays.n219 Tryz.prog zIndexL_ren := {
  mixed := by kernel_rfl
  f217 := Tryz.func135.trans (congrArg some (by kernel_rfl))
  f219 := Tryz.func121.trans (congrArg some (by kernel_rfl))
  f224 := Tryz.func137.trans (congrArg some (by kernel_rfl))
  f225 := Tryz.func136.trans (congrArg some (by kernel_rfl))
  f266 := Tryz.func143.trans (congrArg some (by kernel_rfl))
  f267 := Tryz.func138.trans (congrArg some (by kernel_rfl))
  f314 := Tryz.func144.trans (congrArg some (by kernel_rfl))
  t3 := Tryz.underlying3
  a3 := Tryz.isAgg3
  z3 := Tryz.sizeOf3
  v3 := Tryz.zeroValue3
  t4 := Tryz.underlying4
  a4 := Tryz.isAgg4
  z4 := Tryz.sizeOf4
  v4 := Tryz.zeroValue4
  t5 := Tryz.underlying5
  a5 := Tryz.isAgg5
  z5 := Tryz.sizeOf5
  v5 := Tryz.zeroValue5
  t9 := Tryz.underlying9
  a9 := Tryz.isAgg9
  z9 := Tryz.sizeOf9
  v9 := Tryz.zeroValue9
  t46 := Tryz.underlying106
  a46 := Tryz.isAgg106
  z46 := Tryz.sizeOf106
  v46 := Tryz.zeroValue106
  t51 := Tryz.underlying122
  a51 := Tryz.isAgg122
  z51 := Tryz.sizeOf122
  v51 := Tryz.zeroValue122
  t146 := Tryz.underlying156
  a146 := Tryz.isAgg156
  z146 := Tryz.sizeOf156
  v146 := Tryz.zeroValue156
  g1 := by kernel_rfl }
theorem one_str {s : ByteArray} {c : UInt8} (h : s.data.toList = [c]) : s = ⟨#[c]⟩ := by
  cases s with
  | mk d =>
    congr
    exact Array.toList_inj.1 h
section
variable {X : Cx} (hX : X.P = Go.Proofs.Tryz.prog)
include hX
theorem ev_CountB (s : List UInt8) (c : UInt8) : Ev X F_strings_Count [.str s, .str [c]] (.int .i64 (s.count c : Nat)) := by
  refine ⟨⟨Go.Proofs.Tryz.f101, by rw [hX]; exact Go.Proofs.Tryz.func101, by decide, by kernel_rfl⟩, fun g w vs hwf hhr hvs => ?_⟩
  simp only [RelL, Rel] at hvs
  obtain ⟨v1, r1, rfl, ⟨s1, rfl, h1⟩, v2, r2, rfl, ⟨s2, rfl, h2⟩, rfl⟩ := hvs
  have e2 := one_str h2
  subst e2
  rw [hX]
  refine (Any.strings_Count_one zCountL s1 c w).mono ?_
  rintro e w' ⟨rfl, rfl⟩
  exact ⟨_, _, g, [], rfl, by simp only [Rel, Lib.countByte, h1], hwf, hhr, Ext.refl _ _, rfl, rfl⟩
theorem ev_IndexB (s : List UInt8) (c : UInt8) : Ev X F_stringslite_Index [.str s, .str [c]] (.int .i64 (Lib.indexByte s c)) := by
  refine ⟨⟨Go.Proofs.Tryz.f121, by rw [hX]; exact Go.Proofs.Tryz.func121, by decide, by kernel_rfl⟩, fun g w vs hwf hhr hvs => ?_⟩
  simp only [RelL, Rel] at hvs
  obtain ⟨v1, r1, rfl, ⟨s1, rfl, h1⟩, v2, r2, rfl, ⟨s2, rfl, h2⟩, rfl⟩ := hvs
  have e2 := one_str h2
  subst e2
  rw [hX]
  refine (Any.stringslite_Index_one zIndexL s1 c w).mono ?_
  rintro e w' ⟨rfl, rfl⟩
  exact ⟨_, _, g, [], rfl, by simp only [Rel, h1], hwf, hhr, Ext.refl _ _, rfl, rfl⟩
end
end
theorem ixB (s : List UInt8) (c : UInt8) : Lib.indexByte s c = if Lat.idx c s < s.length then (Lat.idx c s : Int) else -1 := by
  induction s with
  | nil => rfl
  | cons b r ih =>
    have hle := Lat.idx_le c r
    simp only [Lib.indexByte, Lat.idx, ih, beq_iff_eq, List.length_cons]
    by_cases h : b = c
    · simp only [if_pos h]; simp
    · simp only [if_neg h]
      by_cases h2 : Lat.idx c r < r.length
      · rw [if_pos h2, if_neg (by omega), if_pos (by omega)]; rfl
      · rw [if_neg h2, if_pos rfl, if_neg (by omega)]
theorem tb_map {α : Type} (f : α → AV) (d : α) (l : List α) : tb l.length (fun k => f (l.getD k d)) = l.map f := by
  refine List.ext_getElem (by rw [tb_len, List.length_map]) fun k h1 h2 => ?_
  have hk : k < l.length := by rw [tb_len] at h1; exact h1
  have := tb_getD (n := l.length) (fun k => f (l.getD k d)) .undef hk
  rw [List.getD_eq_getElem?_getD, List.getElem?_eq_getElem h1] at this
  simp only [Option.getD_some] at this
  rw [this]
  simp [List.getD_eq_getElem?_getD, hk]
theorem ss_r {k : IntKind} (id off n cap : Nat) (b : Int) : slsX 1 (.rsl id off n cap 1) none (some (.int k b)) = some (decide (0 ≤ b) && decide (b ≤ cap), .rsl id off b.toNat cap 1, none) := by
  simp [slsX]
theorem cnt_idx {r : List UInt8} (h : Lat.idx 44 r < r.length) : r.count 44 = (r.drop (Lat.idx 44 r + 1)).count 44 + 1 := by
  have h1 := Lat.spk_count r
  rw [Lat.spk_idx h, List.length_cons, Lat.spk_count] at h1
  omega
theorem idx_cnt {r : List UInt8} (h : 0 < r.count 44) : Lat.idx 44 r < r.length := by
  rcases Nat.lt_or_ge (Lat.idx 44 r) r.length with h' | h'
  · exact h'
  · exfalso
    have hm : (44 : UInt8) ∈ r := List.count_pos_iff.1 h
    obtain ⟨k, hk, e⟩ := List.getElem_of_mem hm
    exact Lat.idx_no (c := 44) (s := r) (k := k) (by omega) (by rw [List.getD_eq_getElem?_getD, List.getElem?_eq_getElem hk]; exact e)
theorem spl_one {r : List UInt8} (h : r.count 44 = 0) : Lat.spk r = [r] := Lat.spk_no fun hm => by
  have := List.count_pos_iff.2 hm
  omega
set_option maxRecDepth 10000
section
variable {X : Cx} (hX : X.P = Go.Proofs.Tryz.prog) (hs : Std X)
include hX hs
theorem ev_IndexS (s : List UInt8) (c : UInt8) : Ev X F_strings_Index [.str s, .str [c]] (.int .i64 (if Lat.idx c s < s.length then (Lat.idx c s : Int) else -1)) := by
  refine ev_of_wpc hs (A_strings_Index_ok hX) 1 ?_
  simp only [A_strings_Index, go_sem, Nat.reduceMod, Nat.reduceBNe, Nat.reduceBEq, Nat.reduceEqDiff, Nat.reduceAdd, Int.reduceAdd, Nat.reduceMul, Nat.reduceSub, Int.reduceToNat, Int.reduceLE, Int.reduceLT, Int.reduceEq, Int.reduceNe, reduceCtorEq, Nat.reduceLT, Nat.reduceLeDiff]
  refine call_ev (ev_IndexB hX s c) ?_
  rw [ixB]
  simp only [go_sem, Nat.reduceMod, Nat.reduceBNe, Nat.reduceBEq, Nat.reduceEqDiff, Nat.reduceAdd, Int.reduceAdd, Nat.reduceMul, Nat.reduceSub, Int.reduceToNat, Int.reduceLE, Int.reduceLT, Int.reduceEq, Int.reduceNe, reduceCtorEq, Nat.reduceLT, Nat.reduceLeDiff]
theorem ev_Split (s : List UInt8) (hl : s.length < 1000000) : Ev X F_strings_Split [.str s, .str [44]] (lst AV.str .ro (Lat.spk s)) := by
  have hc : Ev X F_strings_genSplit [.str s, .str [44], .int .i64 0, .int .i64 (-1)] (lst AV.str .ro (Lat.spk s)) := by
    have hcl : s.count 44 ≤ s.length := List.count_le_length
    refine ev_of_wpc hs (A_strings_genSplit_ok hX) 1 ?_
    simp only [A_strings_genSplit, go_sem, Nat.reduceMod, Nat.reduceBNe, Nat.reduceBEq, Nat.reduceEqDiff, Nat.reduceAdd, Int.reduceAdd, Nat.reduceMul, Nat.reduceSub, Int.reduceToNat, Int.reduceLE, Int.reduceLT, Int.reduceEq, Int.reduceNe, reduceCtorEq, Nat.reduceLT, Nat.reduceLeDiff]
    refine call_ev (ev_CountB hX s 44) ?_
    have e1 : IntKind.i64.wrap ((s.count 44 : Int) + 1) = ((s.count 44 + 1 : Nat) : Int) := by rw [wi64 (by omega)]; rfl
    have e2 : IntKind.i64.wrap ((s.length : Int) + 1) = ((s.length + 1 : Nat) : Int) := by rw [wi64 (by omega)]; rfl
    have e3 : IntKind.i64.wrap (((s.count 44 + 1 : Nat) : Int) - 1) = (s.count 44 : Int) := by rw [wi64 (by omega)]; omega
    have e4 : ¬ ((s.length + 1 : Nat) : Int) < ((s.count 44 + 1 : Nat) : Int) := by omega
    simp only [go_sem, Nat.reduceMod, Nat.reduceBNe, Nat.reduceBEq, Nat.reduceEqDiff, Nat.reduceAdd, Int.reduceAdd, Nat.reduceMul, Nat.reduceSub, Int.reduceToNat, Int.reduceLE, Int.reduceLT, Int.reduceEq, Int.reduceNe, reduceCtorEq, Nat.reduceLT, Nat.reduceLeDiff, e1, e2, if_neg e4, e3]
    refine ⟨by omega, ?_⟩
    have hLl := Lat.spk_count s
    generalize hL : Lat.spk s = L at *
    refine w_loop' hs.hm (ι := Nat × List UInt8) (fun x => x.1 + x.2.count 44 = s.count 44 ∧ L.drop x.1 = Lat.spk x.2 ∧ x.2.length ≤ s.length) (fun x => [(10, .int .i64 x.1), (9, .rsl 0 0 (s.count 44 + 1) (s.count 44 + 1) 1), (3, .int .i64 (s.count 44 : Nat)), (2, .int .i64 0), (1, .str [44]), (0, .str x.2)]) (fun x => [.box (tb (s.count 44 + 1) fun k => .str (if k < x.1 then L.getD k [] else []))]) (fun x => s.count 44 - x.1) (0, s) ?_ fun x hx => ?_
    · simp only [go_sem, Nat.reduceMod, Nat.reduceBNe, Nat.reduceBEq, Nat.reduceEqDiff, Nat.reduceAdd, Int.reduceAdd, Nat.reduceMul, Nat.reduceSub, Int.reduceToNat, Int.reduceLE, Int.reduceLT, Int.reduceEq, Int.reduceNe, reduceCtorEq, Nat.reduceLT, Nat.reduceLeDiff]
      exact ⟨hL.symm, rfl⟩
    obtain ⟨i, r⟩ := x
    obtain ⟨x1, x2, x3⟩ := hx
    simp only at x1 x2 x3
    by_cases hi : i < s.count 44
    · have hix : Lat.idx 44 r < r.length := idx_cnt (by omega)
      have hsp := Lat.spk_idx hix
      have hcn := cnt_idx hix
      have hLi : i < L.length := by omega
      have hd : L.getD i [] = r.take (Lat.idx 44 r) ∧ L.drop (i + 1) = Lat.spk (r.drop (Lat.idx 44 r + 1)) := by
        rw [List.drop_eq_getElem_cons hLi, hsp] at x2
        injection x2 with y1 y2
        exact ⟨by rw [List.getD_eq_getElem?_getD, List.getElem?_eq_getElem hLi]; exact y1, y2⟩
      simp only [A_strings_genSplitL0, go_sem, Nat.reduceMod, Nat.reduceBNe, Nat.reduceBEq, Nat.reduceEqDiff, Nat.reduceAdd, Int.reduceAdd, Nat.reduceMul, Nat.reduceSub, Int.reduceToNat, Int.reduceLE, Int.reduceLT, Int.reduceEq, Int.reduceNe, reduceCtorEq, Nat.reduceLT, Nat.reduceLeDiff]
      refine ⟨fun ci => ?_, fun ci => by omega⟩
      refine call_ev (ev_IndexS hX hs r 44) ?_
      simp only [hix, go_sem, Nat.reduceMod, Nat.reduceBNe, Nat.reduceBEq, Nat.reduceEqDiff, Nat.reduceAdd, Int.reduceAdd, Nat.reduceMul, Nat.reduceSub, Int.reduceToNat, Int.reduceLE, Int.reduceLT, Int.reduceEq, Int.reduceNe, reduceCtorEq, Nat.reduceLT, Nat.reduceLeDiff]
      refine ⟨fun hneg => by omega, fun hneg => ?_⟩
      rw [wi64 (by omega), wi64 (by omega)]
      refine ⟨by omega, by omega, by omega, by omega, (i + 1, r.drop (Lat.idx 44 r + 1)), by simp only; omega, ⟨by simp only; omega, hd.2, by simp only [List.length_drop]; omega⟩, ⟨by simp only; rw [wi64 (by omega)]; rfl, ?_⟩, ?_⟩
      · rw [List.take_length, show ((Lat.idx 44 r : Int) + 1).toNat = Lat.idx 44 r + 1 by omega]
      · rw [Nat.mul_one, tb_set]
        congr 2
        refine tb_congr fun k hk => ?_
        by_cases e : k = i
        · subst e
          rw [if_pos rfl, if_pos (by omega), hd.1, show ((Lat.idx 44 r : Int) + 0).toNat = Lat.idx 44 r by omega]
        · rw [if_neg e]
          by_cases e2 : k < i
          · rw [if_pos e2, if_pos (by omega)]
          · rw [if_neg e2, if_neg (by omega)]
    · have hi : i = s.count 44 := by omega
      subst hi
      have hn : ¬ ((s.count 44 : Nat) : Int) < (s.count 44 : Nat) := by omega
      have hr0 : r.count 44 = 0 := by omega
      have hd : L.getD (s.count 44) [] = r := by
        rw [spl_one hr0, List.drop_eq_getElem_cons (by omega)] at x2
        injection x2 with y1 y2
        rw [List.getD_eq_getElem?_getD, List.getElem?_eq_getElem (by omega)]
        exact y1
      have hb : (tb (s.count 44 + 1) fun k => AV.str (if k < s.count 44 then L.getD k [] else [])).set (s.count 44) (.str r) = L.map AV.str := by
        rw [tb_set, ← tb_map AV.str [] L, hLl]
        refine tb_congr fun k hk => ?_
        by_cases e : k = s.count 44
        · rw [if_pos e, e, hd]
        · rw [if_neg e, if_pos (by omega)]
      simp only [A_strings_genSplitL0, go_sem, Nat.reduceMod, Nat.reduceBNe, Nat.reduceBEq, Nat.reduceEqDiff, Nat.reduceAdd, Int.reduceAdd, Nat.reduceMul, Nat.reduceSub, Int.reduceToNat, Int.reduceLE, Int.reduceLT, Int.reduceEq, Int.reduceNe, reduceCtorEq, Nat.reduceLT, Nat.reduceLeDiff, hn, Nat.mul_one, hb, ss_r, e1, fi_rsl]
      have hsc : (L.map AV.str).all scalarB = true := by
        rw [List.all_eq_true]
        intro x hx
        obtain ⟨y, _, rfl⟩ := List.mem_map.1 hx
        rfl
      refine ⟨by omega, by omega, ?_⟩
      rw [hsc, List.length_map, hLl, decide_eq_true (Nat.le_refl _), Bool.true_or, Bool.and_self, cond_true, List.take_of_length_le (by rw [List.length_map]; omega), List.map_map]
      rfl
  refine ev_of_wpc hs (A_strings_Split_ok hX) 1 ?_
  simp only [A_strings_Split, go_sem, Nat.reduceMod, Nat.reduceBNe, Nat.reduceBEq, Nat.reduceEqDiff, Nat.reduceAdd, Int.reduceAdd, Nat.reduceMul, Nat.reduceSub, Int.reduceToNat, Int.reduceLE, Int.reduceLT, Int.reduceEq, Int.reduceNe, reduceCtorEq, Nat.reduceLT, Nat.reduceLeDiff]
  refine call_ev hc ?_
  simp only [go_sem, Nat.reduceMod, Nat.reduceBNe, Nat.reduceBEq, Nat.reduceEqDiff, Nat.reduceAdd, Int.reduceAdd, Nat.reduceMul, Nat.reduceSub, Int.reduceToNat, Int.reduceLE, Int.reduceLT, Int.reduceEq, Int.reduceNe, reduceCtorEq, Nat.reduceLT, Nat.reduceLeDiff]
end
end Go.Avm

/- Labels: Read, both. -/
namespace Go.Avm
open Go
theorem dry_sl0 (e : Int) : dry (.tuple [.sl .ex [], .int .i64 e]) = .tuple [lst (AV.int .i64) .ro [], .int .i64 e] := rfl
/-- names, found: the first error, or the labels -/
def fdL (ns : List (List UInt8)) (up : List UInt8) : List (List UInt8) → List Int × Int
  | [] => ([], 0)
  | s :: r => if (Lat.findS ns up s).2 = 0 then (if (fdL ns up r).2 = 0 then ((Lat.findS ns up s).1 :: (fdL ns up r).1, 0) else ([], (fdL ns up r).2)) else ([], (Lat.findS ns up s).2)
/-- what Read returns -/
def rdS (ns : List (List UInt8)) (up : List UInt8) (s : List UInt8) : List Int × Int :=
  if (Lat.checkS ns up).2 = 0 then (if s = [45] then ([], 0) else if 64 < (Lat.spk s).length then ([], 3) else if (Lat.findO (Lat.spk s) []).isSome then ([], 6) else fdL ns up (Lat.spk s)) else ([], (Lat.checkS ns up).2)
/-- the labels of the first names -/
def fdA (ns : List (List UInt8)) (up : List UInt8) (L : List (List UInt8)) : List Int := L.map fun s => (Lat.findS ns up s).1
theorem fdL_ok {ns : List (List UInt8)} {up : List UInt8} : ∀ {L : List (List UInt8)}, (∀ s ∈ L, (Lat.findS ns up s).2 = 0) → fdL ns up L = (fdA ns up L, 0)
  | [], _ => rfl
  | s :: r, h => by
    have h1 := h s (by simp)
    have h2 := fdL_ok (L := r) fun x hx => h x (List.mem_cons_of_mem _ hx)
    rw [fdL, if_pos h1, h2, if_pos rfl]
    rfl
theorem fdL_no {ns : List (List UInt8)} {up : List UInt8} : ∀ {L : List (List UInt8)} {i : Nat}, i < L.length → (∀ j, j < i → (Lat.findS ns up (L.getD j [])).2 = 0) → (Lat.findS ns up (L.getD i [])).2 ≠ 0 → fdL ns up L = ([], (Lat.findS ns up (L.getD i [])).2)
  | [], i, hi, _, _ => absurd hi (by simp)
  | s :: r, 0, _, _, h => by
    have h' : ¬ (Lat.findS ns up s).2 = 0 := h
    rw [fdL, if_neg h']
    rfl
  | s :: r, i + 1, hi, hj, h => by
    have h0 : (Lat.findS ns up s).2 = 0 := hj 0 (by omega)
    have ih := fdL_no (L := r) (i := i) (by simpa using hi) (fun j hji => hj (j + 1) (by omega)) h
    have h' : ¬ (fdL ns up r).2 = 0 := by rw [ih]; exact h
    rw [fdL, if_pos h0, if_neg h', ih]
    rfl
theorem fdA_s (ns : List (List UInt8)) (up : List UInt8) {L : List (List UInt8)} {i : Nat} (h : i < L.length) : fdA ns up (L.take (i + 1)) = fdA ns up (L.take i) ++ [(Lat.findS ns up (L.getD i [])).1] := by
  rw [List.take_succ_eq_append_getElem h, fdA, List.map_append, List.getD_eq_getElem?_getD, List.getElem?_eq_getElem h]
  rfl
theorem fdA_len (ns : List (List UInt8)) (up : List UInt8) (L : List (List UInt8)) : (fdA ns up L).length = L.length := by simp [fdA]
theorem lt1' {P : Nat → Prop} {i : Nat} (h : ∀ j, j < i → P j) (hi : P i) : ∀ j, j < i + 1 → P j := fun j hj => by
  by_cases e : j = i
  · rw [e]; exact hi
  · exact h j (by omega)
set_option maxRecDepth 10000
section
variable {X : Cx} (hX : X.P = Go.Proofs.Tryz.prog) (hs : Std X)
include hX hs
theorem ev_lRead (ns : List (List UInt8)) (up : List UInt8) (s : List UInt8) (hl : s.length < 1000000) : Ev X F_labels_Read [latV ns up, .str s] (.tuple [lst (AV.int .i64) .ro (rdS ns up s).1, .int .i64 (rdS ns up s).2]) := by
  refine ev_of_wpcd hs (A_labels_Read_ok hX) 1 ?_
  simp only [A_labels_Read, latV, go_sem, Nat.reduceMod, Nat.reduceBNe, Nat.reduceBEq, Nat.reduceEqDiff, Nat.reduceAdd, Int.reduceAdd, Nat.reduceMul, Nat.reduceSub, Int.reduceToNat, Int.reduceLE, Int.reduceLT, Int.reduceEq, Int.reduceNe, reduceCtorEq, Nat.reduceLT, Nat.reduceLeDiff]
  refine call_ev (ev_Check hX hs ns up) ?_
  by_cases h : (Lat.checkS ns up).2 = 0
  · simp only [h, go_sem, Nat.reduceMod, Nat.reduceBNe, Nat.reduceBEq, Nat.reduceEqDiff, Nat.reduceAdd, Int.reduceAdd, Nat.reduceMul, Nat.reduceSub, Int.reduceToNat, Int.reduceLE, Int.reduceLT, Int.reduceEq, Int.reduceNe, reduceCtorEq, Nat.reduceLT, Nat.reduceLeDiff]
    refine ⟨fun c => ?_, fun c => ?_⟩
    · rw [dry_sl0, rdS, if_pos h, if_pos c]
    · refine call_ev (ev_Split hX hs s hl) ?_
      have hsp : (Lat.spk s).length ≤ s.length + 1 := by
        rw [Lat.spk_count]
        have := List.count_le_length (a := (44 : UInt8)) (l := s)
        omega
      have er : rdS ns up s = if 64 < (Lat.spk s).length then ([], 3) else if (Lat.findO (Lat.spk s) []).isSome then ([], 6) else fdL ns up (Lat.spk s) := by rw [rdS, if_pos h, if_neg c]
      generalize Lat.spk s = L at hsp er
      simp only [go_sem, Nat.reduceMod, Nat.reduceBNe, Nat.reduceBEq, Nat.reduceEqDiff, Nat.reduceAdd, Int.reduceAdd, Nat.reduceMul, Nat.reduceSub, Int.reduceToNat, Int.reduceLE, Int.reduceLT, Int.reduceEq, Int.reduceNe, reduceCtorEq, Nat.reduceLT, Nat.reduceLeDiff]
      refine ⟨fun c64 => ?_, fun c64 => ?_⟩
      · rw [dry_sl0, er, if_pos (by omega)]
      · rw [if_neg (by omega)] at er
        refine call_ev (ev_Contains hX hs L [] (by omega)) ?_
        cases e0 : (Lat.findO L []).isSome with
        | true =>
          rw [e0, if_pos rfl] at er
          simp only [go_sem, Nat.reduceMod, Nat.reduceBNe, Nat.reduceBEq, Nat.reduceEqDiff, Nat.reduceAdd, Int.reduceAdd, Nat.reduceMul, Nat.reduceSub, Int.reduceToNat, Int.reduceLE, Int.reduceLT, Int.reduceEq, Int.reduceNe, reduceCtorEq, Nat.reduceLT, Nat.reduceLeDiff]
          rw [dry_sl0, er]
        | false =>
          rw [e0, if_neg Bool.false_ne_true] at er
          simp only [go_sem, Nat.reduceMod, Nat.reduceBNe, Nat.reduceBEq, Nat.reduceEqDiff, Nat.reduceAdd, Int.reduceAdd, Nat.reduceMul, Nat.reduceSub, Int.reduceToNat, Int.reduceLE, Int.reduceLT, Int.reduceEq, Int.reduceNe, reduceCtorEq, Nat.reduceLT, Nat.reduceLeDiff]
          refine w_loop hs.hm (ι := Nat) (fun i => i ≤ L.length ∧ ∀ j, j < i → (Lat.findS ns up (L.getD j [])).2 = 0) (fun i => [(35, .int .i64 i), (34, .int .i64 L.length), (33, lst AV.str .ro L), (9, lst (AV.int .i64) (.tok 1 1) (fdA ns up (L.take i))), (2, .ptr 0 0)]) (fun i => [.box [lst AV.str .ro ns, lst u8 .ro up], .tok (fdA ns up (L.take i)).length]) (fun i => L.length - i) 0 ⟨⟨Nat.zero_le _, no_lt0⟩, _, _, wk_tok 9 1 rfl, ⟨by simp only [go_sem, Nat.reduceMod, Nat.reduceBNe, Nat.reduceBEq, Nat.reduceEqDiff, Nat.reduceAdd, Int.reduceAdd, Nat.reduceMul, Nat.reduceSub, Int.reduceToNat, Int.reduceLE, Int.reduceLT, Int.reduceEq, Int.reduceNe, reduceCtorEq, Nat.reduceLT, Nat.reduceLeDiff]; rfl, rfl⟩⟩ fun i hi => ?_
          obtain ⟨i1, i2⟩ := hi
          simp only [A_labels_ReadL0, go_sem, Nat.reduceMod, Nat.reduceBNe, Nat.reduceBEq, Nat.reduceEqDiff, Nat.reduceAdd, Int.reduceAdd, Nat.reduceMul, Nat.reduceSub, Int.reduceToNat, Int.reduceLE, Int.reduceLT, Int.reduceEq, Int.reduceNe, reduceCtorEq, Nat.reduceLT, Nat.reduceLeDiff]
          refine ⟨fun ci => ⟨⟨by omega, ci⟩, ?_⟩, fun ci => ?_⟩
          · have hiL : i < L.length := by omega
            have hlen : (fdA ns up (L.take i)).length ≤ i := by rw [fdA_len, List.length_take]; omega
            refine call_ev (ev_Find hX hs ns up _) ?_
            by_cases hf : (Lat.findS ns up (L.getD i [])).2 = 0
            · have hf' : (Lat.findS ns up (L.getD i default)).2 = 0 := hf
              have h2 := fdA_s ns up hiL
              simp only [hf', go_sem, Nat.reduceMod, Nat.reduceBNe, Nat.reduceBEq, Nat.reduceEqDiff, Nat.reduceAdd, Int.reduceAdd, Nat.reduceMul, Nat.reduceSub, Int.reduceToNat, Int.reduceLE, Int.reduceLT, Int.reduceEq, Int.reduceNe, reduceCtorEq, Nat.reduceLT, Nat.reduceLeDiff]
              refine ⟨⟨by omega, by omega⟩, i + 1, by omega, ⟨by omega, lt1' i2 hf⟩, ⟨by rw [wi64 (by omega)]; rfl, by rw [h2]; rfl⟩, ?_⟩
              rw [h2, List.length_append]
              rfl
            · have hf' : ¬ (Lat.findS ns up (L.getD i default)).2 = 0 := hf
              simp only [hf', go_sem, Nat.reduceMod, Nat.reduceBNe, Nat.reduceBEq, Nat.reduceEqDiff, Nat.reduceAdd, Int.reduceAdd, Nat.reduceMul, Nat.reduceSub, Int.reduceToNat, Int.reduceLE, Int.reduceLT, Int.reduceEq, Int.reduceNe, reduceCtorEq, Nat.reduceLT, Nat.reduceLeDiff]
              rw [dry_sl0, er, fdL_no hiL i2 hf]
              rfl
          · obtain rfl : i = L.length := by omega
            have hall : ∀ x ∈ L, (Lat.findS ns up x).2 = 0 := fun x hx => by
              obtain ⟨j, hj, rfl⟩ := List.getElem_of_mem hx
              have := i2 j hj
              rwa [List.getD_eq_getElem?_getD, List.getElem?_eq_getElem hj] at this
            rw [List.take_length, er, fdL_ok hall, dry_tup]
  · simp only [h, go_sem, Nat.reduceMod, Nat.reduceBNe, Nat.reduceBEq, Nat.reduceEqDiff, Nat.reduceAdd, Int.reduceAdd, Nat.reduceMul, Nat.reduceSub, Int.reduceToNat, Int.reduceLE, Int.reduceLT, Int.reduceEq, Int.reduceNe, reduceCtorEq, Nat.reduceLT, Nat.reduceLeDiff, rdS]
    rfl
end
end Go.Avm
