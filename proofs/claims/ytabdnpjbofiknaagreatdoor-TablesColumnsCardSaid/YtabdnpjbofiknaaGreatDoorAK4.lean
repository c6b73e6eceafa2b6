/- The law Each. -/
import Derived.Test.YtabdnpjbofiknaaGreatDoorAK3
import Derived.Test.YtabdnpjbofiknaaGreatDoorM1
import Derived.Test.YtabdnpjbofiknaaGreatDoorAK2
set_option linter.all false
/- The law Each. -/
namespace Go.Avm
open Go Go.Tb
set_option maxRecDepth 10000
/-- What is asked of a table that comes from without: sizes. -/
structure SzT (t : Tab) : Prop where
  a : ∀ a ∈ t.c, a.c.length ≤ 140737488355328
section
variable {X : Cx} (hX : X.P = Go.Proofs.Tryz.prog) (hs : Std X) (hP : X.G (sRen.g 17) = some tabQ)
include hX hs hP
end
end Go.Avm

/- The reference: names, shapes, arrays. -/
namespace Go.Avm
open Go
set_option maxRecDepth 10000
section
variable {X : Cx} (hX : X.P = Go.Proofs.Tryz.prog) (hs : Std X)
include hX hs
theorem ev_lower (c : UInt8) : Ev X F_ref01_lower [u8 c] (.bool (Lat.lowB c)) := by
  refine ev_of_wpc hs (A_ref01_lower_ok hX) 0 ?_
  simp only [A_ref01_lower, go_sem, Nat.reduceMod, Nat.reduceBNe, Nat.reduceBEq, Nat.reduceEqDiff, Nat.reduceAdd, Int.reduceAdd, Nat.reduceMul, Nat.reduceSub, Int.reduceToNat, Int.reduceLE, Int.reduceLT, Int.reduceEq, Int.reduceNe, reduceCtorEq, Nat.reduceLT, Nat.reduceLeDiff, Lat.lowB]
  refine ⟨fun h => ?_, fun h => ?_⟩
  · simp [show 97 ≤ c.toNat by omega]; omega
  · simp [show ¬ 97 ≤ c.toNat by omega]
theorem ev_digit (c : UInt8) : Ev X F_ref01_digit [u8 c] (.bool (Lat.digB c)) := by
  refine ev_of_wpc hs (A_ref01_digit_ok hX) 0 ?_
  simp only [A_ref01_digit, go_sem, Nat.reduceMod, Nat.reduceBNe, Nat.reduceBEq, Nat.reduceEqDiff, Nat.reduceAdd, Int.reduceAdd, Nat.reduceMul, Nat.reduceSub, Int.reduceToNat, Int.reduceLE, Int.reduceLT, Int.reduceEq, Int.reduceNe, reduceCtorEq, Nat.reduceLT, Nat.reduceLeDiff, Lat.digB]
  refine ⟨fun h => ?_, fun h => ?_⟩
  · simp [show 48 ≤ c.toNat by omega]; omega
  · simp [show ¬ 48 ≤ c.toNat by omega]
theorem ev_rName (s : List UInt8) : Ev X F_ref01_Name [.str s] (.bool (Lat.isNm s)) := by
  refine ev_of_wpc hs (A_ref01_Name_ok hX) 0 ?_
  simp only [A_ref01_Name, go_sem, Nat.reduceMod, Nat.reduceBNe, Nat.reduceBEq, Nat.reduceEqDiff, Nat.reduceAdd, Int.reduceAdd, Nat.reduceMul, Nat.reduceSub, Int.reduceToNat, Int.reduceLE, Int.reduceLT, Int.reduceEq, Int.reduceNe, reduceCtorEq, Nat.reduceLT, Nat.reduceLeDiff]
  refine ⟨fun h => ?_, fun h1 => ⟨fun h => ?_, fun h2 => ⟨by omega, ?_⟩⟩⟩
  · simp [Lat.isNm, show ¬ 1 ≤ s.length by omega]
  · simp [Lat.isNm, show ¬ s.length ≤ 16 by omega]
  · refine call_ev (ev_lower hX hs (s.getD 0 0)) ?_
    cases hlo : Lat.lowB (s.getD 0 0) with
    | false =>
      simp only [go_sem, Nat.reduceMod, Nat.reduceBNe, Nat.reduceBEq, Nat.reduceEqDiff, Nat.reduceAdd, Int.reduceAdd, Nat.reduceMul, Nat.reduceSub, Int.reduceToNat, Int.reduceLE, Int.reduceLT, Int.reduceEq, Int.reduceNe, reduceCtorEq, Nat.reduceLT, Nat.reduceLeDiff, Lat.isNm, hlo]
    | true =>
      simp only [go_sem, Nat.reduceMod, Nat.reduceBNe, Nat.reduceBEq, Nat.reduceEqDiff, Nat.reduceAdd, Int.reduceAdd, Nat.reduceMul, Nat.reduceSub, Int.reduceToNat, Int.reduceLE, Int.reduceLT, Int.reduceEq, Int.reduceNe, reduceCtorEq, Nat.reduceLT, Nat.reduceLeDiff]
      have e0 : Lat.isNm s = s.all Lat.nmB := by simp only [Lat.isNm, hlo, show 1 ≤ s.length by omega, show s.length ≤ 16 by omega, decide_true, Bool.true_and]
      rw [e0]
      refine w_loop' hs.hm (ι := Nat) (fun i => i ≤ s.length ∧ (s.take i).all Lat.nmB = true) (fun i => [(3, .int .i64 i), (0, .str s)]) (fun _ => []) (fun i => s.length - i) 0 ?_ fun i hi => ?_
      · simp only [go_sem, Nat.reduceMod, Nat.reduceBNe, Nat.reduceBEq, Nat.reduceEqDiff, Nat.reduceAdd, Int.reduceAdd, Nat.reduceMul, Nat.reduceSub, Int.reduceToNat, Int.reduceLE, Int.reduceLT, Int.reduceEq, Int.reduceNe, reduceCtorEq, Nat.reduceLT, Nat.reduceLeDiff]
        simp
      · obtain ⟨i1, i2⟩ := hi
        simp only [A_ref01_NameL0, go_sem, Nat.reduceMod, Nat.reduceBNe, Nat.reduceBEq, Nat.reduceEqDiff, Nat.reduceAdd, Int.reduceAdd, Nat.reduceMul, Nat.reduceSub, Int.reduceToNat, Int.reduceLE, Int.reduceLT, Int.reduceEq, Int.reduceNe, reduceCtorEq, Nat.reduceLT, Nat.reduceLeDiff]
        refine ⟨fun c => ⟨⟨by omega, c⟩, call_ev (ev_lower hX hs (s.getD i 0)) ?_⟩, fun c => ?_⟩
        · have hi' : i < s.length := by omega
          cases h3 : Lat.lowB (s.getD i 0) with
          | true =>
            simp only [go_sem, Nat.reduceMod, Nat.reduceBNe, Nat.reduceBEq, Nat.reduceEqDiff, Nat.reduceAdd, Int.reduceAdd, Nat.reduceMul, Nat.reduceSub, Int.reduceToNat, Int.reduceLE, Int.reduceLT, Int.reduceEq, Int.reduceNe, reduceCtorEq, Nat.reduceLT, Nat.reduceLeDiff]
            exact ⟨i + 1, by omega, ⟨by omega, Lat.all_take i2 hi' (by simp only [Lat.nmB, h3, Bool.true_or])⟩, by rw [wi64 (by omega)]; rfl⟩
          | false =>
            simp only [go_sem, Nat.reduceMod, Nat.reduceBNe, Nat.reduceBEq, Nat.reduceEqDiff, Nat.reduceAdd, Int.reduceAdd, Nat.reduceMul, Nat.reduceSub, Int.reduceToNat, Int.reduceLE, Int.reduceLT, Int.reduceEq, Int.reduceNe, reduceCtorEq, Nat.reduceLT, Nat.reduceLeDiff]
            refine ⟨⟨by omega, c⟩, call_ev (ev_digit hX hs (s.getD i 0)) ?_⟩
            cases h4 : Lat.digB (s.getD i 0) with
            | true =>
              simp only [go_sem, Nat.reduceMod, Nat.reduceBNe, Nat.reduceBEq, Nat.reduceEqDiff, Nat.reduceAdd, Int.reduceAdd, Nat.reduceMul, Nat.reduceSub, Int.reduceToNat, Int.reduceLE, Int.reduceLT, Int.reduceEq, Int.reduceNe, reduceCtorEq, Nat.reduceLT, Nat.reduceLeDiff]
              exact ⟨i + 1, by omega, ⟨by omega, Lat.all_take i2 hi' (by simp only [Lat.nmB, h4, Bool.or_true, Bool.true_or])⟩, by rw [wi64 (by omega)]; rfl⟩
            | false =>
              simp only [go_sem, Nat.reduceMod, Nat.reduceBNe, Nat.reduceBEq, Nat.reduceEqDiff, Nat.reduceAdd, Int.reduceAdd, Nat.reduceMul, Nat.reduceSub, Int.reduceToNat, Int.reduceLE, Int.reduceLT, Int.reduceEq, Int.reduceNe, reduceCtorEq, Nat.reduceLT, Nat.reduceLeDiff]
              refine ⟨⟨by omega, c⟩, fun h5 => ?_, fun h5 => ⟨i + 1, by omega, ⟨by omega, Lat.all_take i2 hi' ?_⟩, by rw [wi64 (by omega)]; rfl⟩⟩
              · rw [Lat.all_no hi']
                simp only [Lat.nmB, h3, h4, Bool.false_or, decide_eq_false_iff_not]
                omega
              · simp only [Lat.nmB, h3, h4, Bool.false_or, decide_eq_true_eq]
                omega
        · obtain rfl : i = s.length := by omega
          rw [List.take_length] at i2
          rw [i2]
theorem ev_r5Many (n : Nat) (hn : n ≤ 2) (l0 l1 : Int) (h0 : 0 ≤ l0 ∧ l0 ≤ 400) (h1 : 0 ≤ l1 ∧ l1 ≤ 400) : Ev X F_ref05_Many [.int .i64 n, .agg [.int .i64 l0, .int .i64 l1]] (.int .i64 (Lat.many n l0 l1)) := by
  have hm : 0 ≤ l0 * l1 ∧ l0 * l1 ≤ 400 * 400 := ⟨Int.mul_nonneg h0.1 h1.1, Int.mul_le_mul h0.2 h1.2 h1.1 (by decide)⟩
  refine ev_of_wpc hs (A_ref05_Many_ok hX) 1 ?_
  simp only [A_ref05_Many, go_sem, Nat.reduceMod, Nat.reduceBNe, Nat.reduceBEq, Nat.reduceEqDiff, Nat.reduceAdd, Int.reduceAdd, Nat.reduceMul, Nat.reduceSub, Int.reduceToNat, Int.reduceLE, Int.reduceLT, Int.reduceEq, Int.reduceNe, reduceCtorEq, Nat.reduceLT, Nat.reduceLeDiff]
  refine w_loop' hs.hm (ι := Nat) (fun i => i ≤ n) (fun i => [(6, .int .i64 i), (0, .int .i64 n), (3, .ptr 0 0), (5, .int .i64 (Lat.many i l0 l1))]) (fun _ => [.box [.int .i64 l0, .int .i64 l1]]) (fun i => n - i) 0 ?_ fun i hi => ?_
  · simp only [go_sem, Nat.reduceMod, Nat.reduceBNe, Nat.reduceBEq, Nat.reduceEqDiff, Nat.reduceAdd, Int.reduceAdd, Nat.reduceMul, Nat.reduceSub, Int.reduceToNat, Int.reduceLE, Int.reduceLT, Int.reduceEq, Int.reduceNe, reduceCtorEq, Nat.reduceLT, Nat.reduceLeDiff, Lat.many]
    exact Nat.zero_le _
  · simp only [A_ref05_ManyL0, go_sem, Nat.reduceMod, Nat.reduceBNe, Nat.reduceBEq, Nat.reduceEqDiff, Nat.reduceAdd, Int.reduceAdd, Nat.reduceMul, Nat.reduceSub, Int.reduceToNat, Int.reduceLE, Int.reduceLT, Int.reduceEq, Int.reduceNe, reduceCtorEq, Nat.reduceLT, Nat.reduceLeDiff]
    refine ⟨fun c => ?_, fun c => ?_⟩
    · have : i = 0 ∨ i = 1 := by omega
      rcases this with rfl | rfl
      · simp only [go_sem, Nat.reduceMod, Nat.reduceBNe, Nat.reduceBEq, Nat.reduceEqDiff, Nat.reduceAdd, Int.reduceAdd, Nat.reduceMul, Nat.reduceSub, Int.reduceToNat, Int.reduceLE, Int.reduceLT, Int.reduceEq, Int.reduceNe, reduceCtorEq, Nat.reduceLT, Nat.reduceLeDiff]
        refine ⟨1, by omega, by omega, rfl, ?_⟩
        rw [wi64 (by simp [Lat.many]; omega)]
        simp [Lat.many]
      · simp only [go_sem, Nat.reduceMod, Nat.reduceBNe, Nat.reduceBEq, Nat.reduceEqDiff, Nat.reduceAdd, Int.reduceAdd, Nat.reduceMul, Nat.reduceSub, Int.reduceToNat, Int.reduceLE, Int.reduceLT, Int.reduceEq, Int.reduceNe, reduceCtorEq, Nat.reduceLT, Nat.reduceLeDiff]
        refine ⟨2, by omega, by omega, rfl, ?_⟩
        rw [wi64 (by simp [Lat.many]; omega)]
        simp [Lat.many]
    · obtain rfl : i = n := by omega
      rfl
theorem ev_r5Check (r l0 l1 : Int) : Ev X F_ref05_Check [.int .i64 r, .agg [.int .i64 l0, .int .i64 l1]] (.int .i64 (Lat.shapeE r l0 l1)) := by
  refine ev_of_wpc hs (A_ref05_Check_ok hX) 1 ?_
  by_cases hr : 0 ≤ r ∧ r ≤ 2
  · obtain ⟨n, rfl⟩ : ∃ n : Nat, r = n := ⟨r.toNat, by omega⟩
    have hn : n ≤ 2 := by omega
    have g0 : ((n : Int) < 0) = False := eq_false (by omega)
    have g2 : ((2 : Int) < n) = False := eq_false (by omega)
    simp only [A_ref05_Check, go_sem, Nat.reduceMod, Nat.reduceBNe, Nat.reduceBEq, Nat.reduceEqDiff, Nat.reduceAdd, Int.reduceAdd, Nat.reduceMul, Nat.reduceSub, Int.reduceToNat, Int.reduceLE, Int.reduceLT, Int.reduceEq, Int.reduceNe, reduceCtorEq, Nat.reduceLT, Nat.reduceLeDiff, gt_iff_lt, g0, g2]
    refine w_loop' hs.hm (ι := Nat) (fun i => i ≤ n ∧ (1 ≤ i → 0 ≤ l0) ∧ (2 ≤ i → 0 ≤ l1)) (fun i => [(5, .int .i64 i), (0, .int .i64 n), (3, .ptr 0 0)]) (fun _ => [.box [.int .i64 l0, .int .i64 l1]]) (fun i => n - i) 0 ?_ fun i hi => ?_
    · simp only [go_sem, Nat.reduceMod, Nat.reduceBNe, Nat.reduceBEq, Nat.reduceEqDiff, Nat.reduceAdd, Int.reduceAdd, Nat.reduceMul, Nat.reduceSub, Int.reduceToNat, Int.reduceLE, Int.reduceLT, Int.reduceEq, Int.reduceNe, reduceCtorEq, Nat.reduceLT, Nat.reduceLeDiff]
      exact Nat.zero_le _
    · obtain ⟨i1, i2, i3⟩ := hi
      simp only [A_ref05_CheckL0, go_sem, Nat.reduceMod, Nat.reduceBNe, Nat.reduceBEq, Nat.reduceEqDiff, Nat.reduceAdd, Int.reduceAdd, Nat.reduceMul, Nat.reduceSub, Int.reduceToNat, Int.reduceLE, Int.reduceLT, Int.reduceEq, Int.reduceNe, reduceCtorEq, Nat.reduceLT, Nat.reduceLeDiff]
      refine ⟨fun c => ⟨by omega, by omega, ?_⟩, fun c => ?_⟩
      · have : i = 0 ∨ i = 1 := by omega
        rcases this with rfl | rfl
        · simp only [go_sem, Nat.reduceMod, Nat.reduceBNe, Nat.reduceBEq, Nat.reduceEqDiff, Nat.reduceAdd, Int.reduceAdd, Nat.reduceMul, Nat.reduceSub, Int.reduceToNat, Int.reduceLE, Int.reduceLT, Int.reduceEq, Int.reduceNe, reduceCtorEq, Nat.reduceLT, Nat.reduceLeDiff]
          refine ⟨fun e => ?_, fun e => ⟨1, by omega, ⟨by omega, fun _ => by omega, fun h => absurd h (by omega)⟩, rfl⟩⟩
          simp only [Lat.shapeE]
          rw [if_neg (by omega), if_pos (by omega)]
        · simp only [go_sem, Nat.reduceMod, Nat.reduceBNe, Nat.reduceBEq, Nat.reduceEqDiff, Nat.reduceAdd, Int.reduceAdd, Nat.reduceMul, Nat.reduceSub, Int.reduceToNat, Int.reduceLE, Int.reduceLT, Int.reduceEq, Int.reduceNe, reduceCtorEq, Nat.reduceLT, Nat.reduceLeDiff]
          refine ⟨fun e => ?_, fun e => ⟨2, by omega, ⟨by omega, fun _ => i2 (by omega), fun _ => by omega⟩, rfl⟩⟩
          simp only [Lat.shapeE]
          rw [if_neg (by omega), if_pos (by omega)]
      · obtain rfl : i = n := by omega
        refine w_loop' hs.hm (ι := Nat) (fun j => i ≤ j ∧ j ≤ 2 ∧ (i = 0 → 1 ≤ j → l0 = 0) ∧ (i ≤ 1 → 2 ≤ j → l1 = 0)) (fun j => [(6, .int .i64 j), (0, .int .i64 i), (3, .ptr 0 0)]) (fun _ => [.box [.int .i64 l0, .int .i64 l1]]) (fun j => 2 - j) i ?_ fun j hj => ?_
        · simp only [go_sem, Nat.reduceMod, Nat.reduceBNe, Nat.reduceBEq, Nat.reduceEqDiff, Nat.reduceAdd, Int.reduceAdd, Nat.reduceMul, Nat.reduceSub, Int.reduceToNat, Int.reduceLE, Int.reduceLT, Int.reduceEq, Int.reduceNe, reduceCtorEq, Nat.reduceLT, Nat.reduceLeDiff]
          exact ⟨hn, fun h1 h2 => absurd h2 (by omega), fun h1 h2 => absurd h2 (by omega)⟩
        · obtain ⟨j1, j2, j3, j4⟩ := hj
          simp only [A_ref05_CheckL1, go_sem, Nat.reduceMod, Nat.reduceBNe, Nat.reduceBEq, Nat.reduceEqDiff, Nat.reduceAdd, Int.reduceAdd, Nat.reduceMul, Nat.reduceSub, Int.reduceToNat, Int.reduceLE, Int.reduceLT, Int.reduceEq, Int.reduceNe, reduceCtorEq, Nat.reduceLT, Nat.reduceLeDiff]
          refine ⟨fun c => ⟨by omega, by omega, ?_⟩, fun c => ?_⟩
          · have : j = 0 ∨ j = 1 := by omega
            rcases this with rfl | rfl
            · simp only [go_sem, Nat.reduceMod, Nat.reduceBNe, Nat.reduceBEq, Nat.reduceEqDiff, Nat.reduceAdd, Int.reduceAdd, Nat.reduceMul, Nat.reduceSub, Int.reduceToNat, Int.reduceLE, Int.reduceLT, Int.reduceEq, Int.reduceNe, reduceCtorEq, Nat.reduceLT, Nat.reduceLeDiff]
              refine ⟨fun e => ?_, fun e => ⟨1, by omega, ⟨by omega, by omega, fun _ _ => e, fun _ h => absurd h (by omega)⟩, rfl⟩⟩
              simp only [Lat.shapeE]
              rw [if_neg (by omega), if_neg (by omega), if_pos (by omega)]
            · simp only [go_sem, Nat.reduceMod, Nat.reduceBNe, Nat.reduceBEq, Nat.reduceEqDiff, Nat.reduceAdd, Int.reduceAdd, Nat.reduceMul, Nat.reduceSub, Int.reduceToNat, Int.reduceLE, Int.reduceLT, Int.reduceEq, Int.reduceNe, reduceCtorEq, Nat.reduceLT, Nat.reduceLeDiff]
              refine ⟨fun e => ?_, fun e => ⟨2, by omega, ⟨by omega, by omega, fun h _ => j3 h (by omega), fun _ _ => e⟩, rfl⟩⟩
              simp only [Lat.shapeE]
              rw [if_neg (by omega), if_neg (by omega), if_pos (by omega)]
          · have b0 : i = 0 → l0 = 0 := fun h => j3 h (by omega)
            have b1 : i ≤ 1 → l1 = 0 := fun h => j4 h (by omega)
            have p0 : 0 ≤ l0 := by
              rcases Nat.lt_or_ge i 1 with h | h
              · rw [b0 (by omega)]; decide
              · exact i2 h
            have p1 : 0 ≤ l1 := by
              rcases Nat.lt_or_ge i 2 with h | h
              · rw [b1 (by omega)]; decide
              · exact i3 h
            have e3 : Lat.shapeE i l0 l1 = if 400 < l0 ∨ 400 < l1 ∨ 400 < Lat.many i l0 l1 then 15 else 0 := by
              simp only [Lat.shapeE]
              rw [if_neg (by omega), if_neg (by omega), if_neg]
              rintro (⟨h1, h2⟩ | ⟨h1, h2⟩)
              · exact h2 (b0 (by omega))
              · exact h2 (b1 (by omega))
            rw [e3]
            refine ⟨fun h => ?_, fun h => ⟨fun h' => ?_, fun h' => call_ev (ev_r5Many hX hs i hn l0 l1 (by omega) (by omega)) ?_⟩⟩
            · rw [if_pos (by omega)]
            · rw [if_pos (by omega)]
            · simp only [go_sem, Nat.reduceMod, Nat.reduceBNe, Nat.reduceBEq, Nat.reduceEqDiff, Nat.reduceAdd, Int.reduceAdd, Nat.reduceMul, Nat.reduceSub, Int.reduceToNat, Int.reduceLE, Int.reduceLT, Int.reduceEq, Int.reduceNe, reduceCtorEq, Nat.reduceLT, Nat.reduceLeDiff, gt_iff_lt]
              refine ⟨fun h'' => ?_, fun h'' => ?_⟩
              · rw [if_pos (by omega)]
              · rw [if_neg (by omega)]
  · have e : Lat.shapeE r l0 l1 = 7 := if_pos (by omega)
    rw [e]
    simp only [A_ref05_Check, go_sem, Nat.reduceMod, Nat.reduceBNe, Nat.reduceBEq, Nat.reduceEqDiff, Nat.reduceAdd, Int.reduceAdd, Nat.reduceMul, Nat.reduceSub, Int.reduceToNat, Int.reduceLE, Int.reduceLT, Int.reduceEq, Int.reduceNe, reduceCtorEq, Nat.reduceLT, Nat.reduceLeDiff, gt_iff_lt]
    exact fun h h2 => absurd hr (by omega)
theorem ev_r5Cells (r l0 l1 : Int) : Ev X F_ref05_Cells [.int .i64 r, .agg [.int .i64 l0, .int .i64 l1]] (.tuple [.int .i64 (if Lat.shapeE r l0 l1 = 0 then Lat.many r l0 l1 else 0), .int .i64 (Lat.shapeE r l0 l1)]) := by
  refine ev_of_wpc hs (A_ref05_Cells_ok hX) 1 ?_
  simp only [A_ref05_Cells, go_sem, Nat.reduceMod, Nat.reduceBNe, Nat.reduceBEq, Nat.reduceEqDiff, Nat.reduceAdd, Int.reduceAdd, Nat.reduceMul, Nat.reduceSub, Int.reduceToNat, Int.reduceLE, Int.reduceLT, Int.reduceEq, Int.reduceNe, reduceCtorEq, Nat.reduceLT, Nat.reduceLeDiff]
  refine call_ev (ev_r5Check hX hs r l0 l1) ?_
  by_cases h : Lat.shapeE r l0 l1 = 0
  · obtain ⟨h1, h2, h3⟩ := shapeE_0 h
    obtain ⟨n, rfl⟩ : ∃ n : Nat, r = n := ⟨r.toNat, by omega⟩
    simp only [h, go_sem, Nat.reduceMod, Nat.reduceBNe, Nat.reduceBEq, Nat.reduceEqDiff, Nat.reduceAdd, Int.reduceAdd, Nat.reduceMul, Nat.reduceSub, Int.reduceToNat, Int.reduceLE, Int.reduceLT, Int.reduceEq, Int.reduceNe, reduceCtorEq, Nat.reduceLT, Nat.reduceLeDiff]
    refine call_ev (ev_r5Many hX hs n (by omega) l0 l1 h2 h3) ?_
    simp only [go_sem, Nat.reduceMod, Nat.reduceBNe, Nat.reduceBEq, Nat.reduceEqDiff, Nat.reduceAdd, Int.reduceAdd, Nat.reduceMul, Nat.reduceSub, Int.reduceToNat, Int.reduceLE, Int.reduceLT, Int.reduceEq, Int.reduceNe, reduceCtorEq, Nat.reduceLT, Nat.reduceLeDiff]
  · simp only [h, go_sem, Nat.reduceMod, Nat.reduceBNe, Nat.reduceBEq, Nat.reduceEqDiff, Nat.reduceAdd, Int.reduceAdd, Nat.reduceMul, Nat.reduceSub, Int.reduceToNat, Int.reduceLE, Int.reduceLT, Int.reduceEq, Int.reduceNe, reduceCtorEq, Nat.reduceLT, Nat.reduceLeDiff]
theorem ev_rune64 (c : Int) : Ev X F_ref06_rune64 [.int .i64 c] (.bool (Lat.runeI c)) := by
  refine ev_of_wpc hs (A_ref06_rune64_ok hX) 1 ?_
  simp only [A_ref06_rune64, go_sem, Nat.reduceMod, Nat.reduceBNe, Nat.reduceBEq, Nat.reduceEqDiff, Nat.reduceAdd, Int.reduceAdd, Nat.reduceMul, Nat.reduceSub, Int.reduceToNat, Int.reduceLE, Int.reduceLT, Int.reduceEq, Int.reduceNe, reduceCtorEq, Nat.reduceLT, Nat.reduceLeDiff, Lat.runeI, ge_iff_le, gt_iff_lt]
  refine ⟨fun h1 => ⟨fun h2 => ⟨fun h3 => ?_, fun h3 => ?_⟩, fun h2 => ?_⟩, fun h1 => ?_⟩ <;> simp [*]
def finC (k : Int) (cs : List Int) (E : Int) : Int := if E ≠ 0 then E else if k = 2 ∧ cs.any (fun c => !Lat.runeI c) = true then 7 else 0
theorem r6loop {Q : Exit → Fr → Heap → Prop} {F : FL} {k r l0 l1 : Int} {cs : List Int} (E : Int) (hl : cs.length < 1000000) (hF : FL.has F.get [(5, .int .i64 0), (1, .ptr 0 0), (4, .int .i64 E)])
    (hQ : ∀ F' : FL, FL.has F'.get [(4, .int .i64 (finC k cs E))] → Q (.exit 0) F'.get [.box [.int .i64 k, .int .i64 r, .int .i64 l0, .int .i64 l1, lst (AV.int .i64) .ro cs]]) :
    wpc X 55 (.loop A_ref06_CheckL0) Q F.get [.box [.int .i64 k, .int .i64 r, .int .i64 l0, .int .i64 l1, lst (AV.int .i64) .ro cs]] := by
  refine w_loop' hs.hm (ι := Nat × Int) (fun p => p.1 ≤ cs.length ∧ ((p.2 = 0 ∧ E = 0 ∧ (k = 2 → ∀ j, j < p.1 → Lat.runeI (cs.getD j 0) = true)) ∨ (p.2 = finC k cs E ∧ p.2 ≠ 0))) (fun p => [(5, .int .i64 p.1), (1, .ptr 0 0), (4, .int .i64 p.2)]) (fun _ => [.box [.int .i64 k, .int .i64 r, .int .i64 l0, .int .i64 l1, lst (AV.int .i64) .ro cs]]) (fun p => cs.length - p.1) (0, E) ⟨⟨Nat.zero_le _, ?_⟩, hF, rfl⟩ fun p hi => ?_
  · by_cases h : E = 0
    · exact .inl ⟨h, h, fun _ j hj => absurd hj (by simp)⟩
    · exact .inr ⟨(if_pos h).symm, h⟩
  · obtain ⟨i, e⟩ := p
    simp only at hi
    obtain ⟨i1, hi⟩ := hi
    simp only [A_ref06_CheckL0, go_sem, Nat.reduceMod, Nat.reduceBNe, Nat.reduceBEq, Nat.reduceEqDiff, Nat.reduceAdd, Int.reduceAdd, Nat.reduceMul, Nat.reduceSub, Int.reduceToNat, Int.reduceLE, Int.reduceLT, Int.reduceEq, Int.reduceNe, reduceCtorEq, Nat.reduceLT, Nat.reduceLeDiff]
    have bad : ∀ j, j < cs.length → k = 2 → Lat.runeI (cs.getD j 0) = false → E = 0 → finC k cs E = 7 := fun j hj hk hb hE => by
      have hmem : cs.getD j 0 ∈ cs := by
        rw [List.getD_eq_getElem?_getD, List.getElem?_eq_getElem hj]
        exact List.getElem_mem _
      unfold finC
      rw [if_neg (by omega), if_pos ⟨hk, List.any_eq_true.2 ⟨cs.getD j 0, hmem, by rw [hb]; rfl⟩⟩]
    rcases hi with ⟨rfl, hE, hg⟩ | ⟨he, hne⟩
    · refine ⟨fun c => ?_, fun c => ?_⟩
      · simp only [go_sem, Nat.reduceMod, Nat.reduceBNe, Nat.reduceBEq, Nat.reduceEqDiff, Nat.reduceAdd, Int.reduceAdd, Nat.reduceMul, Nat.reduceSub, Int.reduceToNat, Int.reduceLE, Int.reduceLT, Int.reduceEq, Int.reduceNe, reduceCtorEq, Nat.reduceLT, Nat.reduceLeDiff]
        refine ⟨fun hk => ⟨⟨by omega, c⟩, call_ev (ev_rune64 hX hs _) ?_⟩, fun hk => ?_⟩
        · cases hb : Lat.runeI (cs.getD i 0) with
          | false =>
            simp only [go_sem, Nat.reduceMod, Nat.reduceBNe, Nat.reduceBEq, Nat.reduceEqDiff, Nat.reduceAdd, Int.reduceAdd, Nat.reduceMul, Nat.reduceSub, Int.reduceToNat, Int.reduceLE, Int.reduceLT, Int.reduceEq, Int.reduceNe, reduceCtorEq, Nat.reduceLT, Nat.reduceLeDiff]
            exact ⟨(i + 1, 7), by simp only; omega, ⟨by simp only; omega, .inr ⟨(bad i (by omega) hk hb hE).symm, by simp only; decide⟩⟩, by simp only; rw [wi64 (by omega)]; rfl, rfl⟩
          | true =>
            simp only [go_sem, Nat.reduceMod, Nat.reduceBNe, Nat.reduceBEq, Nat.reduceEqDiff, Nat.reduceAdd, Int.reduceAdd, Nat.reduceMul, Nat.reduceSub, Int.reduceToNat, Int.reduceLE, Int.reduceLT, Int.reduceEq, Int.reduceNe, reduceCtorEq, Nat.reduceLT, Nat.reduceLeDiff]
            exact ⟨(i + 1, 0), by simp only; omega, ⟨by simp only; omega, .inl ⟨rfl, hE, fun _ j hj => by
              rcases Nat.lt_or_eq_of_le (Nat.le_of_lt_succ hj) with h | h
              · exact hg hk j h
              · rw [h]; exact hb⟩⟩, by simp only; rw [wi64 (by omega)]; rfl, rfl⟩
        · exact ⟨(i + 1, 0), by simp only; omega, ⟨by simp only; omega, .inl ⟨rfl, hE, fun h => absurd h hk⟩⟩, by simp only; rw [wi64 (by omega)]; rfl, rfl⟩
      · refine hQ _ ?_
        simp only [go_sem, Nat.reduceMod, Nat.reduceBNe, Nat.reduceBEq, Nat.reduceEqDiff, Nat.reduceAdd, Int.reduceAdd, Nat.reduceMul, Nat.reduceSub, Int.reduceToNat, Int.reduceLE, Int.reduceLT, Int.reduceEq, Int.reduceNe, reduceCtorEq, Nat.reduceLT, Nat.reduceLeDiff]
        rw [AV.int.injEq]
        refine ⟨rfl, ?_⟩
        unfold finC
        rw [if_neg (by omega), if_neg]
        rintro ⟨hk, h⟩
        obtain ⟨x, hx, hb⟩ := List.any_eq_true.1 h
        obtain ⟨j, hj, rfl⟩ := List.getElem_of_mem hx
        have := hg hk j (by omega)
        rw [List.getD_eq_getElem?_getD, List.getElem?_eq_getElem hj, Option.getD_some] at this
        rw [this] at hb
        cases hb
    · have hne' : (e = 0) = False := eq_false hne
      have fin := hQ
      simp only [go_sem, Nat.reduceMod, Nat.reduceBNe, Nat.reduceBEq, Nat.reduceEqDiff, Nat.reduceAdd, Int.reduceAdd, Nat.reduceMul, Nat.reduceSub, Int.reduceToNat, Int.reduceLE, Int.reduceLT, Int.reduceEq, Int.reduceNe, reduceCtorEq, Nat.reduceLT, Nat.reduceLeDiff, hne']
      refine ⟨fun c => hQ _ ?_, fun c => hQ _ ?_⟩
      · simp only [go_sem, Nat.reduceMod, Nat.reduceBNe, Nat.reduceBEq, Nat.reduceEqDiff, Nat.reduceAdd, Int.reduceAdd, Nat.reduceMul, Nat.reduceSub, Int.reduceToNat, Int.reduceLE, Int.reduceLT, Int.reduceEq, Int.reduceNe, reduceCtorEq, Nat.reduceLT, Nat.reduceLeDiff, he]
      · simp only [go_sem, Nat.reduceMod, Nat.reduceBNe, Nat.reduceBEq, Nat.reduceEqDiff, Nat.reduceAdd, Int.reduceAdd, Nat.reduceMul, Nat.reduceSub, Int.reduceToNat, Int.reduceLE, Int.reduceLT, Int.reduceEq, Int.reduceNe, reduceCtorEq, Nat.reduceLT, Nat.reduceLeDiff, he]
theorem ev_r6Check (a : Lat.Arr) (hl : a.c.length < 1000000) : Ev X F_ref06_Check [arrV a] (.int .i64 (Lat.arrE a)) := by
  refine ev_of_wpc hs (A_ref06_Check_ok hX) 1 ?_
  obtain ⟨k, r, l0, l1, cs⟩ := a
  simp only at hl
  by_cases hk : k = 1 ∨ k = 2
  · have e1 : Lat.arrE ⟨k, r, l0, l1, cs⟩ = if Lat.shapeE r l0 l1 ≠ 0 then Lat.shapeE r l0 l1 else if (cs.length : Int) ≠ Lat.many r l0 l1 then 6 else if k = 2 ∧ cs.any (fun c => !Lat.runeI c) = true then 7 else 0 := if_neg (by simp only; omega)
    have e2 : Lat.arrE ⟨k, r, l0, l1, cs⟩ = finC k cs (if Lat.shapeE r l0 l1 ≠ 0 then Lat.shapeE r l0 l1 else if (cs.length : Int) ≠ Lat.many r l0 l1 then 6 else 0) := by
      rw [e1]
      unfold finC
      by_cases h1 : Lat.shapeE r l0 l1 = 0
      · by_cases h2 : (cs.length : Int) = Lat.many r l0 l1
        · simp [h1, h2]
        · simp [h1, h2]
      · simp [h1]
    rw [e2]
    rcases hk with rfl | rfl
    all_goals
      simp only [A_ref06_Check, arrV, go_sem, Nat.reduceMod, Nat.reduceBNe, Nat.reduceBEq, Nat.reduceEqDiff, Nat.reduceAdd, Int.reduceAdd, Nat.reduceMul, Nat.reduceSub, Int.reduceToNat, Int.reduceLE, Int.reduceLT, Int.reduceEq, Int.reduceNe, reduceCtorEq, Nat.reduceLT, Nat.reduceLeDiff]
      refine call_ev (ev_r5Cells hX hs r l0 l1) ?_
      by_cases h1 : Lat.shapeE r l0 l1 = 0
      · by_cases h2 : (cs.length : Int) = Lat.many r l0 l1
        · simp only [h1, h2, go_sem, Nat.reduceMod, Nat.reduceBNe, Nat.reduceBEq, Nat.reduceEqDiff, Nat.reduceAdd, Int.reduceAdd, Nat.reduceMul, Nat.reduceSub, Int.reduceToNat, Int.reduceLE, Int.reduceLT, Int.reduceEq, Int.reduceNe, reduceCtorEq, Nat.reduceLT, Nat.reduceLeDiff, ne_eq]
          refine r6loop hX hs 0 hl ⟨rfl, rfl, rfl, trivial⟩ fun F' hF' => ?_
          simp only [go_sem, Nat.reduceMod, Nat.reduceBNe, Nat.reduceBEq, Nat.reduceEqDiff, Nat.reduceAdd, Int.reduceAdd, Nat.reduceMul, Nat.reduceSub, Int.reduceToNat, Int.reduceLE, Int.reduceLT, Int.reduceEq, Int.reduceNe, reduceCtorEq, Nat.reduceLT, Nat.reduceLeDiff] at hF' ⊢
          simp only [go_sem, Nat.reduceMod, Nat.reduceBNe, Nat.reduceBEq, Nat.reduceEqDiff, Nat.reduceAdd, Int.reduceAdd, Nat.reduceMul, Nat.reduceSub, Int.reduceToNat, Int.reduceLE, Int.reduceLT, Int.reduceEq, Int.reduceNe, reduceCtorEq, Nat.reduceLT, Nat.reduceLeDiff, hF']
        · simp only [h1, h2, go_sem, Nat.reduceMod, Nat.reduceBNe, Nat.reduceBEq, Nat.reduceEqDiff, Nat.reduceAdd, Int.reduceAdd, Nat.reduceMul, Nat.reduceSub, Int.reduceToNat, Int.reduceLE, Int.reduceLT, Int.reduceEq, Int.reduceNe, reduceCtorEq, Nat.reduceLT, Nat.reduceLeDiff, ne_eq]
          refine r6loop hX hs 6 hl ⟨rfl, rfl, rfl, trivial⟩ fun F' hF' => ?_
          simp only [go_sem, Nat.reduceMod, Nat.reduceBNe, Nat.reduceBEq, Nat.reduceEqDiff, Nat.reduceAdd, Int.reduceAdd, Nat.reduceMul, Nat.reduceSub, Int.reduceToNat, Int.reduceLE, Int.reduceLT, Int.reduceEq, Int.reduceNe, reduceCtorEq, Nat.reduceLT, Nat.reduceLeDiff] at hF' ⊢
          simp only [go_sem, Nat.reduceMod, Nat.reduceBNe, Nat.reduceBEq, Nat.reduceEqDiff, Nat.reduceAdd, Int.reduceAdd, Nat.reduceMul, Nat.reduceSub, Int.reduceToNat, Int.reduceLE, Int.reduceLT, Int.reduceEq, Int.reduceNe, reduceCtorEq, Nat.reduceLT, Nat.reduceLeDiff, hF']
      · simp only [h1, go_sem, Nat.reduceMod, Nat.reduceBNe, Nat.reduceBEq, Nat.reduceEqDiff, Nat.reduceAdd, Int.reduceAdd, Nat.reduceMul, Nat.reduceSub, Int.reduceToNat, Int.reduceLE, Int.reduceLT, Int.reduceEq, Int.reduceNe, reduceCtorEq, Nat.reduceLT, Nat.reduceLeDiff, ne_eq]
        refine r6loop hX hs (Lat.shapeE r l0 l1) hl ⟨rfl, rfl, rfl, trivial⟩ fun F' hF' => ?_
        simp only [go_sem, Nat.reduceMod, Nat.reduceBNe, Nat.reduceBEq, Nat.reduceEqDiff, Nat.reduceAdd, Int.reduceAdd, Nat.reduceMul, Nat.reduceSub, Int.reduceToNat, Int.reduceLE, Int.reduceLT, Int.reduceEq, Int.reduceNe, reduceCtorEq, Nat.reduceLT, Nat.reduceLeDiff] at hF' ⊢
        simp only [go_sem, Nat.reduceMod, Nat.reduceBNe, Nat.reduceBEq, Nat.reduceEqDiff, Nat.reduceAdd, Int.reduceAdd, Nat.reduceMul, Nat.reduceSub, Int.reduceToNat, Int.reduceLE, Int.reduceLT, Int.reduceEq, Int.reduceNe, reduceCtorEq, Nat.reduceLT, Nat.reduceLeDiff, hF']
  · have e : Lat.arrE ⟨k, r, l0, l1, cs⟩ = 2 := if_pos (by simp only; omega)
    have h1 : (k = 1) = False := eq_false (by omega)
    have h2 : (k = 2) = False := eq_false (by omega)
    rw [e]
    simp only [A_ref06_Check, arrV, go_sem, Nat.reduceMod, Nat.reduceBNe, Nat.reduceBEq, Nat.reduceEqDiff, Nat.reduceAdd, Int.reduceAdd, Nat.reduceMul, Nat.reduceSub, Int.reduceToNat, Int.reduceLE, Int.reduceLT, Int.reduceEq, Int.reduceNe, reduceCtorEq, Nat.reduceLT, Nat.reduceLeDiff, h1, h2]
end
end Go.Avm

/- The reference: Check, Rows, at, Column, Find. -/
namespace Go.Avm
open Go Go.Tb
set_option maxRecDepth 10000
theorem contains_take {l : List (List UInt8)} {i : Nat} (s : List UInt8) : (∃ k, k < i ∧ k < l.length ∧ l.getD k [] = s) ↔ (l.take i).contains s = true := by
  rw [List.contains_iff_mem]
  constructor
  · rintro ⟨k, h1, h2, e⟩
    rw [List.getD_eq_getElem?_getD, List.getElem?_eq_getElem h2, Option.getD_some] at e
    rw [← e]
    exact List.mem_iff_getElem.2 ⟨k, by rw [List.length_take]; omega, by rw [List.getElem_take]⟩
  · intro h
    obtain ⟨k, hk, e⟩ := List.getElem_of_mem h
    rw [List.length_take] at hk
    refine ⟨k, by omega, by omega, ?_⟩
    rw [List.getElem_take] at e
    rw [List.getD_eq_getElem?_getD, List.getElem?_eq_getElem (by omega), Option.getD_some, e]
section
variable {X : Cx} (hX : X.P = Go.Proofs.Tryz.prog) (hs : Std X)
include hX hs
set_option maxHeartbeats 1000000 in
theorem ev_r13Check (t : Tab) (hl : ∀ a ∈ t.c, a.c.length < 1000000) : Ev X F_ref13_Check [tabV t] (.tuple [.int .i64 (chk t).1, .int .i64 (chk t).2]) := by
  refine ev_of_wpc hs (A_ref13_Check_ok hX) 0 ?_
  simp only [A_ref13_Check, tabV, go_sem, Nat.reduceMod, Nat.reduceBNe, Nat.reduceBEq, Nat.reduceEqDiff, Nat.reduceAdd, Int.reduceAdd, Nat.reduceMul, Nat.reduceSub, Int.reduceToNat, Int.reduceLE, Int.reduceLT, Int.reduceEq, Int.reduceNe, reduceCtorEq, Nat.reduceLT, Nat.reduceLeDiff]
  refine ⟨fun h => ?_, fun h => ⟨fun h2 => ?_, fun h2 => ?_⟩⟩
  · rw [chk_long (by omega)]
  · rw [chk_form (by omega) (by omega)]
  have hlen : t.n.length ≤ 16 := by omega
  have heq : t.c.length = t.n.length := by omega
  refine w_loop' hs.hm (ι := Nat × Heap) (fun x => x.1 ≤ t.n.length ∧ ∀ j, j < x.1 → colE t j = 0) (fun x => [(4, .int .i64 x.1), (1, .ptr 0 0)]) (fun x => .box [lst AV.str .ro t.n, lst arrV .ro t.c] :: x.2) (fun x => t.n.length - x.1) (0, []) ?_ fun x hx => ?_
  · simp only [go_sem, Nat.reduceMod, Nat.reduceBNe, Nat.reduceBEq, Nat.reduceEqDiff, Nat.reduceAdd, Int.reduceAdd, Nat.reduceMul, Nat.reduceSub, Int.reduceToNat, Int.reduceLE, Int.reduceLT, Int.reduceEq, Int.reduceNe, reduceCtorEq, Nat.reduceLT, Nat.reduceLeDiff]
    exact ⟨Nat.zero_le _, no_lt0⟩
  obtain ⟨i, G⟩ := x
  obtain ⟨i1, i2⟩ := hx
  dsimp only at i1 i2 ⊢
  by_cases hi : i < t.n.length
  · have hi' : (i : Int) < t.n.length := by omega
    have hic : (i : Int) < t.c.length := by omega
    have hic0 : (0 : Int) < t.c.length := by omega
    have hw : IntKind.i64.wrap ((i : Int) + 1) = ((i + 1 : Nat) : Int) := by rw [wi64 (by omega)]; omega
    have hcE : colE t i ≠ 0 → ∀ k : Int, k = colE t i → AV.tuple [.int .i64 i, .int .i64 k] = AV.tuple [.int .i64 (chk t).1, .int .i64 (chk t).2] := fun h k hk => by rw [chk_col hlen heq hi i2 h, hk]
    simp only [A_ref13_CheckL0, go_sem, Nat.reduceMod, Nat.reduceBNe, Nat.reduceBEq, Nat.reduceEqDiff, Nat.reduceAdd, Int.reduceAdd, Nat.reduceMul, Nat.reduceSub, Int.reduceToNat, Int.reduceLE, Int.reduceLT, Int.reduceEq, Int.reduceNe, reduceCtorEq, Nat.reduceLT, Nat.reduceLeDiff, hi']
    rw [nm_eq t i hi]
    refine ⟨by omega, call_ev (ev_rName hX hs (t.nm i)) ?_⟩
    cases hN : Lat.isNm (t.nm i) with
    | false =>
      simp only [go_sem, Nat.reduceMod, Nat.reduceBNe, Nat.reduceBEq, Nat.reduceEqDiff, Nat.reduceAdd, Int.reduceAdd, Nat.reduceMul, Nat.reduceSub, Int.reduceToNat, Int.reduceLE, Int.reduceLT, Int.reduceEq, Int.reduceNe, reduceCtorEq, Nat.reduceLT, Nat.reduceLeDiff]
      have e : colE t i = 6 := if_pos hN
      exact hcE (by rw [e]; decide) 6 e.symm
    | true =>
      have hN' : ¬ Lat.isNm (t.nm i) = false := by rw [hN]; decide
      simp only [go_sem, Nat.reduceMod, Nat.reduceBNe, Nat.reduceBEq, Nat.reduceEqDiff, Nat.reduceAdd, Int.reduceAdd, Nat.reduceMul, Nat.reduceSub, Int.reduceToNat, Int.reduceLE, Int.reduceLT, Int.reduceEq, Int.reduceNe, reduceCtorEq, Nat.reduceLT, Nat.reduceLeDiff]
      refine w_loop' hs.hm (ι := Nat) (fun k => k ≤ i ∧ ∀ j, j < k → t.nm j ≠ t.nm i) (fun k => [(5, .int .i64 k), (4, .int .i64 i), (1, .ptr 0 0)]) (fun _ => .box [lst AV.str .ro t.n, lst arrV .ro t.c] :: G) (fun k => i - k) 0 ?_ fun k hk => ?_
      · simp only [go_sem, Nat.reduceMod, Nat.reduceBNe, Nat.reduceBEq, Nat.reduceEqDiff, Nat.reduceAdd, Int.reduceAdd, Nat.reduceMul, Nat.reduceSub, Int.reduceToNat, Int.reduceLE, Int.reduceLT, Int.reduceEq, Int.reduceNe, reduceCtorEq, Nat.reduceLT, Nat.reduceLeDiff]
        exact ⟨Nat.zero_le _, no_lt0⟩
      obtain ⟨k1, k2⟩ := hk
      by_cases hk : k < i
      · have h3 : (k : Int) < i := by omega
        have h4 : (k : Int) < t.n.length := by omega
        have hwk : IntKind.i64.wrap ((k : Int) + 1) = ((k + 1 : Nat) : Int) := by rw [wi64 (by omega)]; omega
        simp only [A_ref13_CheckL1, go_sem, Nat.reduceMod, Nat.reduceBNe, Nat.reduceBEq, Nat.reduceEqDiff, Nat.reduceAdd, Int.reduceAdd, Nat.reduceMul, Nat.reduceSub, Int.reduceToNat, Int.reduceLE, Int.reduceLT, Int.reduceEq, Int.reduceNe, reduceCtorEq, Nat.reduceLT, Nat.reduceLeDiff, h3, h4, hi', hwk]
        rw [nm_eq t i hi, nm_eq t k (by omega)]
        refine ⟨by omega, by omega, fun h => ?_, fun h => ⟨k + 1, by omega, ⟨hk, fun j hj => ?_⟩, rfl⟩⟩
        · have e : colE t i = 8 := by
            unfold colE
            rw [if_neg hN', if_pos]
            exact (contains_take (l := t.n) (i := i) (t.nm i)).1 ⟨k, hk, by omega, h⟩
          exact hcE (by rw [e]; decide) 8 e.symm
        · rcases (by omega : j = k ∨ j < k) with rfl | hj
          · exact h
          · exact k2 j hj
      have h3 : ¬ (k : Int) < i := by omega
      have hC' : ¬ (t.n.take i).contains (t.nm i) = true := fun h => by
        obtain ⟨j, j1, j2, e⟩ := (contains_take (t.nm i)).2 h
        exact k2 j (by omega) e
      have e00 : ∀ d, t.c.getD 0 d = t.col 0 := col_eq t 0 (by omega)
      simp only [A_ref13_CheckL1, go_sem, Nat.reduceMod, Nat.reduceBNe, Nat.reduceBEq, Nat.reduceEqDiff, Nat.reduceAdd, Int.reduceAdd, Nat.reduceMul, Nat.reduceSub, Int.reduceToNat, Int.reduceLE, Int.reduceLT, Int.reduceEq, Int.reduceNe, reduceCtorEq, Nat.reduceLT, Nat.reduceLeDiff, h3, hic, hw]
      rw [col_eq t i (by omega)]
      simp only [arr_cells, go_sem, Nat.reduceMod, Nat.reduceBNe, Nat.reduceBEq, Nat.reduceEqDiff, Nat.reduceAdd, Int.reduceAdd, Nat.reduceMul, Nat.reduceSub, Int.reduceToNat, Int.reduceLE, Int.reduceLT, Int.reduceEq, Int.reduceNe, reduceCtorEq, Nat.reduceLT, Nat.reduceLeDiff, gx0, gs0]
      refine ⟨by omega, call_ev (ev_r6Check hX hs (t.col i) (hl _ (col_mem (by omega)))) ?_⟩
      by_cases hA : Lat.arrE (t.col i) = 0
      · simp only [go_sem, Nat.reduceMod, Nat.reduceBNe, Nat.reduceBEq, Nat.reduceEqDiff, Nat.reduceAdd, Int.reduceAdd, Nat.reduceMul, Nat.reduceSub, Int.reduceToNat, Int.reduceLE, Int.reduceLT, Int.reduceEq, Int.reduceNe, reduceCtorEq, Nat.reduceLT, Nat.reduceLeDiff, hA, gx0]
        by_cases hr : (t.col i).r = 1
        · simp only [go_sem, Nat.reduceMod, Nat.reduceBNe, Nat.reduceBEq, Nat.reduceEqDiff, Nat.reduceAdd, Int.reduceAdd, Nat.reduceMul, Nat.reduceSub, Int.reduceToNat, Int.reduceLE, Int.reduceLT, Int.reduceEq, Int.reduceNe, reduceCtorEq, Nat.reduceLT, Nat.reduceLeDiff, hr, gx0, hic0, e00, arr_cells]
          have hw' : IntKind.i64.wrap ((i : Int) + 1) = ((i + 1 : Nat) : Int) := hw
          refine ⟨fun h => ?_, fun h => ?_⟩
          · have e : colE t i = 11 := by
              unfold colE
              rw [if_neg hN', if_neg hC', if_neg (fun h => h hA), if_neg (fun h => h hr), if_pos]
              rintro ⟨a1, a2⟩
              rw [a1, a2] at h
              simp at h
            exact hcE (by rw [e]; decide) 11 e.symm
          · simp only [beq_iff_eq] at h
            have e : colE t i = 0 := by unfold colE; rw [if_neg hN', if_neg hC', if_neg (fun h => h hA), if_neg (fun h => h hr), if_neg (fun h' => h' h)]
            refine ⟨(i + 1, _), by dsimp only; omega, ⟨by dsimp only; omega, fun j hj => ?_⟩, by rw [hw'], rfl⟩
            dsimp only at hj
            by_cases ej : j = i
            · rw [ej, e]
            · exact i2 j (by omega)
        · simp only [go_sem, Nat.reduceMod, Nat.reduceBNe, Nat.reduceBEq, Nat.reduceEqDiff, Nat.reduceAdd, Int.reduceAdd, Nat.reduceMul, Nat.reduceSub, Int.reduceToNat, Int.reduceLE, Int.reduceLT, Int.reduceEq, Int.reduceNe, reduceCtorEq, Nat.reduceLT, Nat.reduceLeDiff, hr]
          have e : colE t i = 22 := by unfold colE; rw [if_neg hN', if_neg hC', if_neg (fun h => h hA), if_pos hr]
          exact hcE (by rw [e]; decide) 22 e.symm
      · simp only [go_sem, Nat.reduceMod, Nat.reduceBNe, Nat.reduceBEq, Nat.reduceEqDiff, Nat.reduceAdd, Int.reduceAdd, Nat.reduceMul, Nat.reduceSub, Int.reduceToNat, Int.reduceLE, Int.reduceLT, Int.reduceEq, Int.reduceNe, reduceCtorEq, Nat.reduceLT, Nat.reduceLeDiff, hA]
        have e : colE t i = Lat.arrE (t.col i) := by unfold colE; rw [if_neg hN', if_neg hC', if_pos hA]
        exact hcE (by rw [e]; exact hA) _ e.symm
  · have hi' : ¬ (i : Int) < t.n.length := by omega
    simp only [A_ref13_CheckL0, go_sem, Nat.reduceMod, Nat.reduceBNe, Nat.reduceBEq, Nat.reduceEqDiff, Nat.reduceAdd, Int.reduceAdd, Nat.reduceMul, Nat.reduceSub, Int.reduceToNat, Int.reduceLE, Int.reduceLT, Int.reduceEq, Int.reduceNe, reduceCtorEq, Nat.reduceLT, Nat.reduceLeDiff, hi']
    rw [chk_ok ⟨hlen, heq, fun j hj => i2 j (by omega)⟩]
theorem ev_r13at (t : Tab) (s : List UInt8) (hl : ∀ a ∈ t.c, a.c.length < 1000000) : Ev X F_ref13_at [tabV t, .str s] (.tuple [.int .i64 (atI t s).1, .int .i64 (atI t s).2]) := by
  refine ev_of_wpc hs (A_ref13_at_ok hX) 0 ?_
  simp only [A_ref13_at, tabV, go_sem, Nat.reduceMod, Nat.reduceBNe, Nat.reduceBEq, Nat.reduceEqDiff, Nat.reduceAdd, Int.reduceAdd, Nat.reduceMul, Nat.reduceSub, Int.reduceToNat, Int.reduceLE, Int.reduceLT, Int.reduceEq, Int.reduceNe, reduceCtorEq, Nat.reduceLT, Nat.reduceLeDiff]
  refine call_ev (ev_r13Check hX hs t hl) ?_
  by_cases h : (chk t).2 = 0
  · have hg := chk_good.1 h
    have h16 := hg.len
    simp only [go_sem, Nat.reduceMod, Nat.reduceBNe, Nat.reduceBEq, Nat.reduceEqDiff, Nat.reduceAdd, Int.reduceAdd, Nat.reduceMul, Nat.reduceSub, Int.reduceToNat, Int.reduceLE, Int.reduceLT, Int.reduceEq, Int.reduceNe, reduceCtorEq, Nat.reduceLT, Nat.reduceLeDiff, h]
    have e0 : atI t s = match Lat.findO t.n s with | some i => (((i : Nat) : Int), 0) | none => (0, 4) := by
      unfold atI; rw [if_neg (by omega)]
      rfl
    rw [e0]
    refine w_loop' hs.hm (ι := Nat) (fun i => i ≤ t.n.length ∧ ∀ j, j < i → (t.n.getD j [] == s) = false) (fun i => [(8, .int .i64 i), (1, .str s), (2, .ptr 0 0)]) (fun _ => [.box [lst AV.str .ro t.n, lst arrV .ro t.c]]) (fun i => t.n.length - i) 0 ?_ fun i hi => ?_
    · simp only [go_sem, Nat.reduceMod, Nat.reduceBNe, Nat.reduceBEq, Nat.reduceEqDiff, Nat.reduceAdd, Int.reduceAdd, Nat.reduceMul, Nat.reduceSub, Int.reduceToNat, Int.reduceLE, Int.reduceLT, Int.reduceEq, Int.reduceNe, reduceCtorEq, Nat.reduceLT, Nat.reduceLeDiff]
      exact ⟨Nat.zero_le _, no_lt0⟩
    obtain ⟨i1, i2⟩ := hi
    simp only [A_ref13_atL0, go_sem, Nat.reduceMod, Nat.reduceBNe, Nat.reduceBEq, Nat.reduceEqDiff, Nat.reduceAdd, Int.reduceAdd, Nat.reduceMul, Nat.reduceSub, Int.reduceToNat, Int.reduceLE, Int.reduceLT, Int.reduceEq, Int.reduceNe, reduceCtorEq, Nat.reduceLT, Nat.reduceLeDiff]
    refine ⟨fun c => ⟨⟨by omega, c⟩, fun e => ?_, fun e => ?_⟩, fun c => ?_⟩
    · have e' : (t.n.getD i [] == s) = true := by rw [beq_iff_eq]; exact e
      rw [Lat.findO, Lat.ff_some (p := fun a => t.n.getD a [] == s) (show i < t.n.length by omega) e' i2]
    · refine ⟨i + 1, by omega, ⟨by omega, fun j hj => ?_⟩, by rw [wi64 (by omega)]; rfl⟩
      rcases (by omega : j = i ∨ j < i) with rfl | hj
      · rw [beq_eq_false_iff_ne]; exact e
      · exact i2 j hj
    · rw [Lat.findO, Lat.ff_none (p := fun a => t.n.getD a [] == s) (n := t.n.length) fun j hj => i2 j (by omega)]
  · simp only [go_sem, Nat.reduceMod, Nat.reduceBNe, Nat.reduceBEq, Nat.reduceEqDiff, Nat.reduceAdd, Int.reduceAdd, Nat.reduceMul, Nat.reduceSub, Int.reduceToNat, Int.reduceLE, Int.reduceLT, Int.reduceEq, Int.reduceNe, reduceCtorEq, Nat.reduceLT, Nat.reduceLeDiff, h]
    rw [atI_bad h]
end
end Go.Avm

/- The reference: taken, Take, Order, Sort. -/
namespace Go.Avm
open Go Go.Tb
set_option maxRecDepth 10000
structure OS where
  k : Nat
  Z : List Int
  j : Nat
  G : Heap
section
variable {X : Cx} (hX : X.P = Go.Proofs.Tryz.prog) (hs : Std X)
include hX hs
end
end Go.Avm
