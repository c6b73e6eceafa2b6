/- The reference: shapes and arrays; types of arrays. -/
import Derived.Test.YtbhdhlkjchgddaaGreatDoorZQ6
import Derived.Test.YtbhdhlkjchgddaaGreatDoorZQ4
import Derived.Test.YtbhdhlkjchgddaaGreatDoorZ8
set_option linter.unusedSectionVars false
set_option linter.unusedSimpArgs false
set_option linter.unusedVariables false

/- The reference: shapes and arrays; types of arrays. -/
namespace Go.Avm
open Go
theorem many_b {n : Nat} (hn : n ≤ 2) {l0 l1 : Int} (h0 : 0 ≤ l0 ∧ l0 ≤ 400) (h1 : 0 ≤ l1 ∧ l1 ≤ 400) : 0 ≤ Lat.many n l0 l1 ∧ Lat.many n l0 l1 ≤ 160000 := by
  have hm : 0 ≤ l0 * l1 ∧ l0 * l1 ≤ 400 * 400 := ⟨Int.mul_nonneg h0.1 h1.1, Int.mul_le_mul h0.2 h1.2 h1.1 (by decide)⟩
  unfold Lat.many
  split
  · omega
  · split <;> omega
section
variable {X : Cx} (hX : X.P = Go.Proofs.Tryz.prog) (hs : Std X)
include hX hs
theorem ev_r5Many (n : Nat) (hn : n ≤ 2) (l0 l1 : Int) (h0 : 0 ≤ l0 ∧ l0 ≤ 400) (h1 : 0 ≤ l1 ∧ l1 ≤ 400) : Ev X F_ref05_Many [.int .i64 n, .agg [.int .i64 l0, .int .i64 l1]] (.int .i64 (Lat.many n l0 l1)) := by
  have hm : 0 ≤ l0 * l1 ∧ l0 * l1 ≤ 400 * 400 := ⟨Int.mul_nonneg h0.1 h1.1, Int.mul_le_mul h0.2 h1.2 h1.1 (by decide)⟩
  refine ev_of_wpc hs (A_ref05_Many_ok hX) 1 ?_
  simp only [A_ref05_Many, go_sem, Nat.reduceMod, Nat.reduceBNe, Nat.reduceBEq, Nat.reduceEqDiff, Nat.reduceAdd, Int.reduceAdd, Nat.reduceMul, Nat.reduceSub, Int.reduceToNat, Int.reduceLE, Int.reduceLT, Int.reduceEq, Int.reduceNe, reduceCtorEq, Nat.reduceLT, Nat.reduceLeDiff]
  refine w_loop' hs.hm (ι := Nat) (fun i => i ≤ n) (fun i => [(6, .int .i64 i), (0, .int .i64 n), (3, .ptr 0 0), (5, .int .i64 (Lat.many i l0 l1))]) (fun _ => [.box [.int .i64 l0, .int .i64 l1]]) (fun i => n - i) 0 ?_ fun i hi => ?_
  · simp only [go_sem, Nat.reduceMod, Nat.reduceBNe, Nat.reduceBEq, Nat.reduceEqDiff, Nat.reduceAdd, Int.reduceAdd, Nat.reduceMul, Nat.reduceSub, Int.reduceToNat, Int.reduceLE, Int.reduceLT, Int.reduceEq, Int.reduceNe, reduceCtorEq, Nat.reduceLT, Nat.reduceLeDiff, Lat.many]
    exact Nat.zero_le _
  · simp only [A_ref05_ManyL0, go_sem, Nat.reduceMod, Nat.reduceBNe, Nat.reduceBEq, Nat.reduceEqDiff, Nat.reduceAdd, Int.reduceAdd, Nat.reduceMul, Nat.reduceSub, Int.reduceToNat, Int.reduceLE, Int.reduceLT, Int.reduceEq, Int.reduceNe, reduceCtorEq, Nat.reduceLT, Nat.reduceLeDiff]
    refine ⟨fun c => ?_, fun c => ?_⟩
    · have : i = 0 ∨ i = 1 := by omega
      rcases this with rfl | rfl
      · simp only [go_sem, Nat.reduceMod, Nat.reduceBNe, Nat.reduceBEq, Nat.reduceEqDiff, Nat.reduceAdd, Int.reduceAdd, Nat.reduceMul, Nat.reduceSub, Int.reduceToNat, Int.reduceLE, Int.reduceLT, Int.reduceEq, Int.reduceNe, reduceCtorEq, Nat.reduceLT, Nat.reduceLeDiff]
        refine ⟨1, by omega, by omega, rfl, ?_⟩
        rw [wi64 (by simp [Lat.many]; omega)]
        simp [Lat.many]
      · simp only [go_sem, Nat.reduceMod, Nat.reduceBNe, Nat.reduceBEq, Nat.reduceEqDiff, Nat.reduceAdd, Int.reduceAdd, Nat.reduceMul, Nat.reduceSub, Int.reduceToNat, Int.reduceLE, Int.reduceLT, Int.reduceEq, Int.reduceNe, reduceCtorEq, Nat.reduceLT, Nat.reduceLeDiff]
        refine ⟨2, by omega, by omega, rfl, ?_⟩
        rw [wi64 (by simp [Lat.many]; omega)]
        simp [Lat.many]
    · obtain rfl : i = n := by omega
      rfl
theorem ev_r5Check (r l0 l1 : Int) : Ev X F_ref05_Check [.int .i64 r, .agg [.int .i64 l0, .int .i64 l1]] (.int .i64 (Lat.shapeE r l0 l1)) := by
  refine ev_of_wpc hs (A_ref05_Check_ok hX) 1 ?_
  by_cases hr : 0 ≤ r ∧ r ≤ 2
  · obtain ⟨n, rfl⟩ : ∃ n : Nat, r = n := ⟨r.toNat, by omega⟩
    have hn : n ≤ 2 := by omega
    have g0 : ((n : Int) < 0) = False := eq_false (by omega)
    have g2 : ((2 : Int) < n) = False := eq_false (by omega)
    simp only [A_ref05_Check, go_sem, Nat.reduceMod, Nat.reduceBNe, Nat.reduceBEq, Nat.reduceEqDiff, Nat.reduceAdd, Int.reduceAdd, Nat.reduceMul, Nat.reduceSub, Int.reduceToNat, Int.reduceLE, Int.reduceLT, Int.reduceEq, Int.reduceNe, reduceCtorEq, Nat.reduceLT, Nat.reduceLeDiff, gt_iff_lt, g0, g2]
    refine w_loop' hs.hm (ι := Nat) (fun i => i ≤ n ∧ (1 ≤ i → 0 ≤ l0) ∧ (2 ≤ i → 0 ≤ l1)) (fun i => [(5, .int .i64 i), (0, .int .i64 n), (3, .ptr 0 0)]) (fun _ => [.box [.int .i64 l0, .int .i64 l1]]) (fun i => n - i) 0 ?_ fun i hi => ?_
    · simp only [go_sem, Nat.reduceMod, Nat.reduceBNe, Nat.reduceBEq, Nat.reduceEqDiff, Nat.reduceAdd, Int.reduceAdd, Nat.reduceMul, Nat.reduceSub, Int.reduceToNat, Int.reduceLE, Int.reduceLT, Int.reduceEq, Int.reduceNe, reduceCtorEq, Nat.reduceLT, Nat.reduceLeDiff]
      exact Nat.zero_le _
    · obtain ⟨i1, i2, i3⟩ := hi
      simp only [A_ref05_CheckL0, go_sem, Nat.reduceMod, Nat.reduceBNe, Nat.reduceBEq, Nat.reduceEqDiff, Nat.reduceAdd, Int.reduceAdd, Nat.reduceMul, Nat.reduceSub, Int.reduceToNat, Int.reduceLE, Int.reduceLT, Int.reduceEq, Int.reduceNe, reduceCtorEq, Nat.reduceLT, Nat.reduceLeDiff]
      refine ⟨fun c => ⟨by omega, by omega, ?_⟩, fun c => ?_⟩
      · have : i = 0 ∨ i = 1 := by omega
        rcases this with rfl | rfl
        · simp only [go_sem, Nat.reduceMod, Nat.reduceBNe, Nat.reduceBEq, Nat.reduceEqDiff, Nat.reduceAdd, Int.reduceAdd, Nat.reduceMul, Nat.reduceSub, Int.reduceToNat, Int.reduceLE, Int.reduceLT, Int.reduceEq, Int.reduceNe, reduceCtorEq, Nat.reduceLT, Nat.reduceLeDiff]
          refine ⟨fun e => ?_, fun e => ⟨1, by omega, ⟨by omega, fun _ => by omega, fun h => absurd h (by omega)⟩, rfl⟩⟩
          simp only [Lat.shapeE]
          rw [if_neg (by omega), if_pos (by omega)]
        · simp only [go_sem, Nat.reduceMod, Nat.reduceBNe, Nat.reduceBEq, Nat.reduceEqDiff, Nat.reduceAdd, Int.reduceAdd, Nat.reduceMul, Nat.reduceSub, Int.reduceToNat, Int.reduceLE, Int.reduceLT, Int.reduceEq, Int.reduceNe, reduceCtorEq, Nat.reduceLT, Nat.reduceLeDiff]
          refine ⟨fun e => ?_, fun e => ⟨2, by omega, ⟨by omega, fun _ => i2 (by omega), fun _ => by omega⟩, rfl⟩⟩
          simp only [Lat.shapeE]
          rw [if_neg (by omega), if_pos (by omega)]
      · obtain rfl : i = n := by omega
        refine w_loop' hs.hm (ι := Nat) (fun j => i ≤ j ∧ j ≤ 2 ∧ (i = 0 → 1 ≤ j → l0 = 0) ∧ (i ≤ 1 → 2 ≤ j → l1 = 0)) (fun j => [(6, .int .i64 j), (0, .int .i64 i), (3, .ptr 0 0)]) (fun _ => [.box [.int .i64 l0, .int .i64 l1]]) (fun j => 2 - j) i ?_ fun j hj => ?_
        · simp only [go_sem, Nat.reduceMod, Nat.reduceBNe, Nat.reduceBEq, Nat.reduceEqDiff, Nat.reduceAdd, Int.reduceAdd, Nat.reduceMul, Nat.reduceSub, Int.reduceToNat, Int.reduceLE, Int.reduceLT, Int.reduceEq, Int.reduceNe, reduceCtorEq, Nat.reduceLT, Nat.reduceLeDiff]
          exact ⟨hn, fun h1 h2 => absurd h2 (by omega), fun h1 h2 => absurd h2 (by omega)⟩
        · obtain ⟨j1, j2, j3, j4⟩ := hj
          simp only [A_ref05_CheckL1, go_sem, Nat.reduceMod, Nat.reduceBNe, Nat.reduceBEq, Nat.reduceEqDiff, Nat.reduceAdd, Int.reduceAdd, Nat.reduceMul, Nat.reduceSub, Int.reduceToNat, Int.reduceLE, Int.reduceLT, Int.reduceEq, Int.reduceNe, reduceCtorEq, Nat.reduceLT, Nat.reduceLeDiff]
          refine ⟨fun c => ⟨by omega, by omega, ?_⟩, fun c => ?_⟩
          · have : j = 0 ∨ j = 1 := by omega
            rcases this with rfl | rfl
            · simp only [go_sem, Nat.reduceMod, Nat.reduceBNe, Nat.reduceBEq, Nat.reduceEqDiff, Nat.reduceAdd, Int.reduceAdd, Nat.reduceMul, Nat.reduceSub, Int.reduceToNat, Int.reduceLE, Int.reduceLT, Int.reduceEq, Int.reduceNe, reduceCtorEq, Nat.reduceLT, Nat.reduceLeDiff]
              refine ⟨fun e => ?_, fun e => ⟨1, by omega, ⟨by omega, by omega, fun _ _ => e, fun _ h => absurd h (by omega)⟩, rfl⟩⟩
              simp only [Lat.shapeE]
              rw [if_neg (by omega), if_neg (by omega), if_pos (by omega)]
            · simp only [go_sem, Nat.reduceMod, Nat.reduceBNe, Nat.reduceBEq, Nat.reduceEqDiff, Nat.reduceAdd, Int.reduceAdd, Nat.reduceMul, Nat.reduceSub, Int.reduceToNat, Int.reduceLE, Int.reduceLT, Int.reduceEq, Int.reduceNe, reduceCtorEq, Nat.reduceLT, Nat.reduceLeDiff]
              refine ⟨fun e => ?_, fun e => ⟨2, by omega, ⟨by omega, by omega, fun h _ => j3 h (by omega), fun _ _ => e⟩, rfl⟩⟩
              simp only [Lat.shapeE]
              rw [if_neg (by omega), if_neg (by omega), if_pos (by omega)]
          · have b0 : i = 0 → l0 = 0 := fun h => j3 h (by omega)
            have b1 : i ≤ 1 → l1 = 0 := fun h => j4 h (by omega)
            have p0 : 0 ≤ l0 := by
              rcases Nat.lt_or_ge i 1 with h | h
              · rw [b0 (by omega)]; decide
              · exact i2 h
            have p1 : 0 ≤ l1 := by
              rcases Nat.lt_or_ge i 2 with h | h
              · rw [b1 (by omega)]; decide
              · exact i3 h
            have e3 : Lat.shapeE i l0 l1 = if 400 < l0 ∨ 400 < l1 ∨ 400 < Lat.many i l0 l1 then 15 else 0 := by
              simp only [Lat.shapeE]
              rw [if_neg (by omega), if_neg (by omega), if_neg]
              rintro (⟨h1, h2⟩ | ⟨h1, h2⟩)
              · exact h2 (b0 (by omega))
              · exact h2 (b1 (by omega))
            rw [e3]
            refine ⟨fun h => ?_, fun h => ⟨fun h' => ?_, fun h' => call_ev (ev_r5Many hX hs i hn l0 l1 (by omega) (by omega)) ?_⟩⟩
            · rw [if_pos (by omega)]
            · rw [if_pos (by omega)]
            · simp only [go_sem, Nat.reduceMod, Nat.reduceBNe, Nat.reduceBEq, Nat.reduceEqDiff, Nat.reduceAdd, Int.reduceAdd, Nat.reduceMul, Nat.reduceSub, Int.reduceToNat, Int.reduceLE, Int.reduceLT, Int.reduceEq, Int.reduceNe, reduceCtorEq, Nat.reduceLT, Nat.reduceLeDiff, gt_iff_lt]
              refine ⟨fun h'' => ?_, fun h'' => ?_⟩
              · rw [if_pos (by omega)]
              · rw [if_neg (by omega)]
  · have e : Lat.shapeE r l0 l1 = 7 := if_pos (by omega)
    rw [e]
    simp only [A_ref05_Check, go_sem, Nat.reduceMod, Nat.reduceBNe, Nat.reduceBEq, Nat.reduceEqDiff, Nat.reduceAdd, Int.reduceAdd, Nat.reduceMul, Nat.reduceSub, Int.reduceToNat, Int.reduceLE, Int.reduceLT, Int.reduceEq, Int.reduceNe, reduceCtorEq, Nat.reduceLT, Nat.reduceLeDiff, gt_iff_lt]
    exact fun h h2 => absurd hr (by omega)
theorem ev_r5Cells (r l0 l1 : Int) : Ev X F_ref05_Cells [.int .i64 r, .agg [.int .i64 l0, .int .i64 l1]] (.tuple [.int .i64 (if Lat.shapeE r l0 l1 = 0 then Lat.many r l0 l1 else 0), .int .i64 (Lat.shapeE r l0 l1)]) := by
  refine ev_of_wpc hs (A_ref05_Cells_ok hX) 1 ?_
  simp only [A_ref05_Cells, go_sem, Nat.reduceMod, Nat.reduceBNe, Nat.reduceBEq, Nat.reduceEqDiff, Nat.reduceAdd, Int.reduceAdd, Nat.reduceMul, Nat.reduceSub, Int.reduceToNat, Int.reduceLE, Int.reduceLT, Int.reduceEq, Int.reduceNe, reduceCtorEq, Nat.reduceLT, Nat.reduceLeDiff]
  refine call_ev (ev_r5Check hX hs r l0 l1) ?_
  by_cases h : Lat.shapeE r l0 l1 = 0
  · obtain ⟨h1, h2, h3⟩ := shapeE_0 h
    obtain ⟨n, rfl⟩ : ∃ n : Nat, r = n := ⟨r.toNat, by omega⟩
    simp only [h, go_sem, Nat.reduceMod, Nat.reduceBNe, Nat.reduceBEq, Nat.reduceEqDiff, Nat.reduceAdd, Int.reduceAdd, Nat.reduceMul, Nat.reduceSub, Int.reduceToNat, Int.reduceLE, Int.reduceLT, Int.reduceEq, Int.reduceNe, reduceCtorEq, Nat.reduceLT, Nat.reduceLeDiff]
    refine call_ev (ev_r5Many hX hs n (by omega) l0 l1 h2 h3) ?_
    simp only [go_sem, Nat.reduceMod, Nat.reduceBNe, Nat.reduceBEq, Nat.reduceEqDiff, Nat.reduceAdd, Int.reduceAdd, Nat.reduceMul, Nat.reduceSub, Int.reduceToNat, Int.reduceLE, Int.reduceLT, Int.reduceEq, Int.reduceNe, reduceCtorEq, Nat.reduceLT, Nat.reduceLeDiff]
  · simp only [h, go_sem, Nat.reduceMod, Nat.reduceBNe, Nat.reduceBEq, Nat.reduceEqDiff, Nat.reduceAdd, Int.reduceAdd, Nat.reduceMul, Nat.reduceSub, Int.reduceToNat, Int.reduceLE, Int.reduceLT, Int.reduceEq, Int.reduceNe, reduceCtorEq, Nat.reduceLT, Nat.reduceLeDiff]
theorem ev_rune64 (c : Int) : Ev X F_ref06_rune64 [.int .i64 c] (.bool (Lat.runeI c)) := by
  refine ev_of_wpc hs (A_ref06_rune64_ok hX) 1 ?_
  simp only [A_ref06_rune64, go_sem, Nat.reduceMod, Nat.reduceBNe, Nat.reduceBEq, Nat.reduceEqDiff, Nat.reduceAdd, Int.reduceAdd, Nat.reduceMul, Nat.reduceSub, Int.reduceToNat, Int.reduceLE, Int.reduceLT, Int.reduceEq, Int.reduceNe, reduceCtorEq, Nat.reduceLT, Nat.reduceLeDiff, Lat.runeI, ge_iff_le, gt_iff_lt]
  refine ⟨fun h1 => ⟨fun h2 => ⟨fun h3 => ?_, fun h3 => ?_⟩, fun h2 => ?_⟩, fun h1 => ?_⟩ <;> simp [*]
def finC (k : Int) (cs : List Int) (E : Int) : Int := if E ≠ 0 then E else if k = 2 ∧ cs.any (fun c => !Lat.runeI c) = true then 7 else 0
theorem r6loop {Q : Exit → Fr → Heap → Prop} {F : FL} {k r l0 l1 : Int} {cs : List Int} (E : Int) (hl : cs.length < 1000000) (hF : FL.has F.get [(5, .int .i64 0), (1, .ptr 0 0), (4, .int .i64 E)])
    (hQ : ∀ F' : FL, FL.has F'.get [(4, .int .i64 (finC k cs E))] → Q (.exit 0) F'.get [.box [.int .i64 k, .int .i64 r, .int .i64 l0, .int .i64 l1, lst (AV.int .i64) .ro cs]]) :
    wpc X 55 (.loop A_ref06_CheckL0) Q F.get [.box [.int .i64 k, .int .i64 r, .int .i64 l0, .int .i64 l1, lst (AV.int .i64) .ro cs]] := by
  refine w_loop' hs.hm (ι := Nat × Int) (fun p => p.1 ≤ cs.length ∧ ((p.2 = 0 ∧ E = 0 ∧ (k = 2 → ∀ j, j < p.1 → Lat.runeI (cs.getD j 0) = true)) ∨ (p.2 = finC k cs E ∧ p.2 ≠ 0))) (fun p => [(5, .int .i64 p.1), (1, .ptr 0 0), (4, .int .i64 p.2)]) (fun _ => [.box [.int .i64 k, .int .i64 r, .int .i64 l0, .int .i64 l1, lst (AV.int .i64) .ro cs]]) (fun p => cs.length - p.1) (0, E) ⟨⟨Nat.zero_le _, ?_⟩, hF, rfl⟩ fun p hi => ?_
  · by_cases h : E = 0
    · exact .inl ⟨h, h, fun _ j hj => absurd hj (by simp)⟩
    · exact .inr ⟨(if_pos h).symm, h⟩
  · obtain ⟨i, e⟩ := p
    simp only at hi
    obtain ⟨i1, hi⟩ := hi
    simp only [A_ref06_CheckL0, go_sem, Nat.reduceMod, Nat.reduceBNe, Nat.reduceBEq, Nat.reduceEqDiff, Nat.reduceAdd, Int.reduceAdd, Nat.reduceMul, Nat.reduceSub, Int.reduceToNat, Int.reduceLE, Int.reduceLT, Int.reduceEq, Int.reduceNe, reduceCtorEq, Nat.reduceLT, Nat.reduceLeDiff]
    have bad : ∀ j, j < cs.length → k = 2 → Lat.runeI (cs.getD j 0) = false → E = 0 → finC k cs E = 7 := fun j hj hk hb hE => by
      have hmem : cs.getD j 0 ∈ cs := by
        rw [List.getD_eq_getElem?_getD, List.getElem?_eq_getElem hj]
        exact List.getElem_mem _
      unfold finC
      rw [if_neg (by omega), if_pos ⟨hk, List.any_eq_true.2 ⟨cs.getD j 0, hmem, by rw [hb]; rfl⟩⟩]
    rcases hi with ⟨rfl, hE, hg⟩ | ⟨he, hne⟩
    · refine ⟨fun c => ?_, fun c => ?_⟩
      · simp only [go_sem, Nat.reduceMod, Nat.reduceBNe, Nat.reduceBEq, Nat.reduceEqDiff, Nat.reduceAdd, Int.reduceAdd, Nat.reduceMul, Nat.reduceSub, Int.reduceToNat, Int.reduceLE, Int.reduceLT, Int.reduceEq, Int.reduceNe, reduceCtorEq, Nat.reduceLT, Nat.reduceLeDiff]
        refine ⟨fun hk => ⟨⟨by omega, c⟩, call_ev (ev_rune64 hX hs _) ?_⟩, fun hk => ?_⟩
        · cases hb : Lat.runeI (cs.getD i 0) with
          | false =>
            simp only [go_sem, Nat.reduceMod, Nat.reduceBNe, Nat.reduceBEq, Nat.reduceEqDiff, Nat.reduceAdd, Int.reduceAdd, Nat.reduceMul, Nat.reduceSub, Int.reduceToNat, Int.reduceLE, Int.reduceLT, Int.reduceEq, Int.reduceNe, reduceCtorEq, Nat.reduceLT, Nat.reduceLeDiff]
            exact ⟨(i + 1, 7), by simp only; omega, ⟨by simp only; omega, .inr ⟨(bad i (by omega) hk hb hE).symm, by simp only; decide⟩⟩, by simp only; rw [wi64 (by omega)]; rfl, rfl⟩
          | true =>
            simp only [go_sem, Nat.reduceMod, Nat.reduceBNe, Nat.reduceBEq, Nat.reduceEqDiff, Nat.reduceAdd, Int.reduceAdd, Nat.reduceMul, Nat.reduceSub, Int.reduceToNat, Int.reduceLE, Int.reduceLT, Int.reduceEq, Int.reduceNe, reduceCtorEq, Nat.reduceLT, Nat.reduceLeDiff]
            exact ⟨(i + 1, 0), by simp only; omega, ⟨by simp only; omega, .inl ⟨rfl, hE, fun _ j hj => by
              rcases Nat.lt_or_eq_of_le (Nat.le_of_lt_succ hj) with h | h
              · exact hg hk j h
              · rw [h]; exact hb⟩⟩, by simp only; rw [wi64 (by omega)]; rfl, rfl⟩
        · exact ⟨(i + 1, 0), by simp only; omega, ⟨by simp only; omega, .inl ⟨rfl, hE, fun h => absurd h hk⟩⟩, by simp only; rw [wi64 (by omega)]; rfl, rfl⟩
      · refine hQ _ ?_
        simp only [go_sem, Nat.reduceMod, Nat.reduceBNe, Nat.reduceBEq, Nat.reduceEqDiff, Nat.reduceAdd, Int.reduceAdd, Nat.reduceMul, Nat.reduceSub, Int.reduceToNat, Int.reduceLE, Int.reduceLT, Int.reduceEq, Int.reduceNe, reduceCtorEq, Nat.reduceLT, Nat.reduceLeDiff]
        rw [AV.int.injEq]
        refine ⟨rfl, ?_⟩
        unfold finC
        rw [if_neg (by omega), if_neg]
        rintro ⟨hk, h⟩
        obtain ⟨x, hx, hb⟩ := List.any_eq_true.1 h
        obtain ⟨j, hj, rfl⟩ := List.getElem_of_mem hx
        have := hg hk j (by omega)
        rw [List.getD_eq_getElem?_getD, List.getElem?_eq_getElem hj, Option.getD_some] at this
        rw [this] at hb
        cases hb
    · have hne' : (e = 0) = False := eq_false hne
      have fin := hQ
      simp only [go_sem, Nat.reduceMod, Nat.reduceBNe, Nat.reduceBEq, Nat.reduceEqDiff, Nat.reduceAdd, Int.reduceAdd, Nat.reduceMul, Nat.reduceSub, Int.reduceToNat, Int.reduceLE, Int.reduceLT, Int.reduceEq, Int.reduceNe, reduceCtorEq, Nat.reduceLT, Nat.reduceLeDiff, hne']
      refine ⟨fun c => hQ _ ?_, fun c => hQ _ ?_⟩
      · simp only [go_sem, Nat.reduceMod, Nat.reduceBNe, Nat.reduceBEq, Nat.reduceEqDiff, Nat.reduceAdd, Int.reduceAdd, Nat.reduceMul, Nat.reduceSub, Int.reduceToNat, Int.reduceLE, Int.reduceLT, Int.reduceEq, Int.reduceNe, reduceCtorEq, Nat.reduceLT, Nat.reduceLeDiff, he]
      · simp only [go_sem, Nat.reduceMod, Nat.reduceBNe, Nat.reduceBEq, Nat.reduceEqDiff, Nat.reduceAdd, Int.reduceAdd, Nat.reduceMul, Nat.reduceSub, Int.reduceToNat, Int.reduceLE, Int.reduceLT, Int.reduceEq, Int.reduceNe, reduceCtorEq, Nat.reduceLT, Nat.reduceLeDiff, he]
theorem ev_r6Check (a : Lat.Arr) (hl : a.c.length < 1000000) : Ev X F_ref06_Check [arrV a] (.int .i64 (Lat.arrE a)) := by
  refine ev_of_wpc hs (A_ref06_Check_ok hX) 1 ?_
  obtain ⟨k, r, l0, l1, cs⟩ := a
  simp only at hl
  by_cases hk : k = 1 ∨ k = 2
  · have e1 : Lat.arrE ⟨k, r, l0, l1, cs⟩ = if Lat.shapeE r l0 l1 ≠ 0 then Lat.shapeE r l0 l1 else if (cs.length : Int) ≠ Lat.many r l0 l1 then 6 else if k = 2 ∧ cs.any (fun c => !Lat.runeI c) = true then 7 else 0 := if_neg (by simp only; omega)
    have e2 : Lat.arrE ⟨k, r, l0, l1, cs⟩ = finC k cs (if Lat.shapeE r l0 l1 ≠ 0 then Lat.shapeE r l0 l1 else if (cs.length : Int) ≠ Lat.many r l0 l1 then 6 else 0) := by
      rw [e1]
      unfold finC
      by_cases h1 : Lat.shapeE r l0 l1 = 0
      · by_cases h2 : (cs.length : Int) = Lat.many r l0 l1
        · simp [h1, h2]
        · simp [h1, h2]
      · simp [h1]
    rw [e2]
    rcases hk with rfl | rfl
    all_goals
      simp only [A_ref06_Check, arrV, go_sem, Nat.reduceMod, Nat.reduceBNe, Nat.reduceBEq, Nat.reduceEqDiff, Nat.reduceAdd, Int.reduceAdd, Nat.reduceMul, Nat.reduceSub, Int.reduceToNat, Int.reduceLE, Int.reduceLT, Int.reduceEq, Int.reduceNe, reduceCtorEq, Nat.reduceLT, Nat.reduceLeDiff]
      refine call_ev (ev_r5Cells hX hs r l0 l1) ?_
      by_cases h1 : Lat.shapeE r l0 l1 = 0
      · by_cases h2 : (cs.length : Int) = Lat.many r l0 l1
        · simp only [h1, h2, go_sem, Nat.reduceMod, Nat.reduceBNe, Nat.reduceBEq, Nat.reduceEqDiff, Nat.reduceAdd, Int.reduceAdd, Nat.reduceMul, Nat.reduceSub, Int.reduceToNat, Int.reduceLE, Int.reduceLT, Int.reduceEq, Int.reduceNe, reduceCtorEq, Nat.reduceLT, Nat.reduceLeDiff, ne_eq]
          refine r6loop hX hs 0 hl ⟨rfl, rfl, rfl, trivial⟩ fun F' hF' => ?_
          simp only [go_sem, Nat.reduceMod, Nat.reduceBNe, Nat.reduceBEq, Nat.reduceEqDiff, Nat.reduceAdd, Int.reduceAdd, Nat.reduceMul, Nat.reduceSub, Int.reduceToNat, Int.reduceLE, Int.reduceLT, Int.reduceEq, Int.reduceNe, reduceCtorEq, Nat.reduceLT, Nat.reduceLeDiff] at hF' ⊢
          simp only [go_sem, Nat.reduceMod, Nat.reduceBNe, Nat.reduceBEq, Nat.reduceEqDiff, Nat.reduceAdd, Int.reduceAdd, Nat.reduceMul, Nat.reduceSub, Int.reduceToNat, Int.reduceLE, Int.reduceLT, Int.reduceEq, Int.reduceNe, reduceCtorEq, Nat.reduceLT, Nat.reduceLeDiff, hF']
        · simp only [h1, h2, go_sem, Nat.reduceMod, Nat.reduceBNe, Nat.reduceBEq, Nat.reduceEqDiff, Nat.reduceAdd, Int.reduceAdd, Nat.reduceMul, Nat.reduceSub, Int.reduceToNat, Int.reduceLE, Int.reduceLT, Int.reduceEq, Int.reduceNe, reduceCtorEq, Nat.reduceLT, Nat.reduceLeDiff, ne_eq]
          refine r6loop hX hs 6 hl ⟨rfl, rfl, rfl, trivial⟩ fun F' hF' => ?_
          simp only [go_sem, Nat.reduceMod, Nat.reduceBNe, Nat.reduceBEq, Nat.reduceEqDiff, Nat.reduceAdd, Int.reduceAdd, Nat.reduceMul, Nat.reduceSub, Int.reduceToNat, Int.reduceLE, Int.reduceLT, Int.reduceEq, Int.reduceNe, reduceCtorEq, Nat.reduceLT, Nat.reduceLeDiff] at hF' ⊢
          simp only [go_sem, Nat.reduceMod, Nat.reduceBNe, Nat.reduceBEq, Nat.reduceEqDiff, Nat.reduceAdd, Int.reduceAdd, Nat.reduceMul, Nat.reduceSub, Int.reduceToNat, Int.reduceLE, Int.reduceLT, Int.reduceEq, Int.reduceNe, reduceCtorEq, Nat.reduceLT, Nat.reduceLeDiff, hF']
      · simp only [h1, go_sem, Nat.reduceMod, Nat.reduceBNe, Nat.reduceBEq, Nat.reduceEqDiff, Nat.reduceAdd, Int.reduceAdd, Nat.reduceMul, Nat.reduceSub, Int.reduceToNat, Int.reduceLE, Int.reduceLT, Int.reduceEq, Int.reduceNe, reduceCtorEq, Nat.reduceLT, Nat.reduceLeDiff, ne_eq]
        refine r6loop hX hs (Lat.shapeE r l0 l1) hl ⟨rfl, rfl, rfl, trivial⟩ fun F' hF' => ?_
        simp only [go_sem, Nat.reduceMod, Nat.reduceBNe, Nat.reduceBEq, Nat.reduceEqDiff, Nat.reduceAdd, Int.reduceAdd, Nat.reduceMul, Nat.reduceSub, Int.reduceToNat, Int.reduceLE, Int.reduceLT, Int.reduceEq, Int.reduceNe, reduceCtorEq, Nat.reduceLT, Nat.reduceLeDiff] at hF' ⊢
        simp only [go_sem, Nat.reduceMod, Nat.reduceBNe, Nat.reduceBEq, Nat.reduceEqDiff, Nat.reduceAdd, Int.reduceAdd, Nat.reduceMul, Nat.reduceSub, Int.reduceToNat, Int.reduceLE, Int.reduceLT, Int.reduceEq, Int.reduceNe, reduceCtorEq, Nat.reduceLT, Nat.reduceLeDiff, hF']
  · have e : Lat.arrE ⟨k, r, l0, l1, cs⟩ = 2 := if_pos (by simp only; omega)
    have h1 : (k = 1) = False := eq_false (by omega)
    have h2 : (k = 2) = False := eq_false (by omega)
    rw [e]
    simp only [A_ref06_Check, arrV, go_sem, Nat.reduceMod, Nat.reduceBNe, Nat.reduceBEq, Nat.reduceEqDiff, Nat.reduceAdd, Int.reduceAdd, Nat.reduceMul, Nat.reduceSub, Int.reduceToNat, Int.reduceLE, Int.reduceLT, Int.reduceEq, Int.reduceNe, reduceCtorEq, Nat.reduceLT, Nat.reduceLeDiff, h1, h2]
end
end Go.Avm

/- Of, Fits, Sees, Agree: the program's Of, and the reference. -/
namespace Go.Lat
def ofE (ns : List (List UInt8)) (up : List UInt8) (a : Arr) : Int := if (checkS ns up).2 ≠ 0 then (checkS ns up).2 else arrE a
def ofT (ns : List (List UInt8)) (up : List UInt8) (a : Arr) : Ty := if ofE ns up a = 0 then ⟨a.k, a.r, bot ns.length up, bot ns.length up, bot ns.length up⟩ else zeroT
theorem many_len {a b : Arr} {t : Ty} (ha : arrE a = 0) (hb : arrE b = 0) (fa : fits t a = true) (fb : fits t b = true) (r1 : 1 ≤ t.r → a.l0 = b.l0) (r2 : 2 ≤ t.r → a.l1 = b.l1) : a.c.length = b.c.length := by
  obtain ⟨_, _, h1⟩ := arrE_0 ha
  obtain ⟨_, _, h2⟩ := arrE_0 hb
  simp only [fits, Bool.and_eq_true, decide_eq_true_eq] at fa fb
  have : many a.r a.l0 a.l1 = many b.r b.l0 b.l1 := by
    unfold many
    rw [← fa.2, ← fb.2]
    split
    · rw [r1 (by omega), r2 (by omega)]
    · split
      · rw [r1 (by omega)]
      · rfl
  omega
end Go.Lat
namespace Go.Avm
open Go
section
variable {X : Cx} (hX : X.P = Go.Proofs.Tryz.prog) (hs : Std X)
include hX hs
theorem ev_t_Of (ns : List (List UInt8)) (up : List UInt8) (a : Lat.Arr) (hl : a.c.length < 1000000) : Ev X F_types_Of [latV ns up, arrV a] (.tuple [tyV (Lat.ofT ns up a), .int .i64 (Lat.ofE ns up a)]) := by
  refine ev_of_wpc hs (A_types_Of_ok hX) 1 ?_
  simp only [A_types_Of, latV, arrV, go_sem, Nat.reduceMod, Nat.reduceBNe, Nat.reduceBEq, Nat.reduceEqDiff, Nat.reduceAdd, Int.reduceAdd, Nat.reduceMul, Nat.reduceSub, Int.reduceToNat, Int.reduceLE, Int.reduceLT, Int.reduceEq, Int.reduceNe, reduceCtorEq, Nat.reduceLT, Nat.reduceLeDiff]
  refine call_ev (ev_t_of hX hs ns up) ?_
  simp only [Lat.ofT, Lat.ofE]
  by_cases h : (Lat.checkS ns up).2 = 0
  · simp only [h, ordT, go_sem, Nat.reduceMod, Nat.reduceBNe, Nat.reduceBEq, Nat.reduceEqDiff, Nat.reduceAdd, Int.reduceAdd, Nat.reduceMul, Nat.reduceSub, Int.reduceToNat, Int.reduceLE, Int.reduceLT, Int.reduceEq, Int.reduceNe, reduceCtorEq, Nat.reduceLT, Nat.reduceLeDiff, ne_eq]
    refine call_ev (ev_aCheck hX hs a hl) ?_
    by_cases g : Lat.arrE a = 0
    · simp only [g, go_sem, Nat.reduceMod, Nat.reduceBNe, Nat.reduceBEq, Nat.reduceEqDiff, Nat.reduceAdd, Int.reduceAdd, Nat.reduceMul, Nat.reduceSub, Int.reduceToNat, Int.reduceLE, Int.reduceLT, Int.reduceEq, Int.reduceNe, reduceCtorEq, Nat.reduceLT, Nat.reduceLeDiff, tyV]
    · simp only [g, go_sem, Nat.reduceMod, Nat.reduceBNe, Nat.reduceBEq, Nat.reduceEqDiff, Nat.reduceAdd, Int.reduceAdd, Nat.reduceMul, Nat.reduceSub, Int.reduceToNat, Int.reduceLE, Int.reduceLT, Int.reduceEq, Int.reduceNe, reduceCtorEq, Nat.reduceLT, Nat.reduceLeDiff, tyV, Lat.zeroT]
  · simp only [h, ordT, go_sem, Nat.reduceMod, Nat.reduceBNe, Nat.reduceBEq, Nat.reduceEqDiff, Nat.reduceAdd, Int.reduceAdd, Nat.reduceMul, Nat.reduceSub, Int.reduceToNat, Int.reduceLE, Int.reduceLT, Int.reduceEq, Int.reduceNe, reduceCtorEq, Nat.reduceLT, Nat.reduceLeDiff, tyV, Lat.zeroT, ne_eq]
theorem ev_r_Of (ns : List (List UInt8)) (up : List UInt8) (a : Lat.Arr) (hl : a.c.length < 1000000) : Ev X F_ref20_Of [latV ns up, arrV a] (.tuple [tyV (Lat.ofT ns up a), .int .i64 (Lat.ofE ns up a)]) := by
  refine ev_of_wpc hs (A_ref20_Of_ok hX) 1 ?_
  simp only [A_ref20_Of, latV, arrV, go_sem, Nat.reduceMod, Nat.reduceBNe, Nat.reduceBEq, Nat.reduceEqDiff, Nat.reduceAdd, Int.reduceAdd, Nat.reduceMul, Nat.reduceSub, Int.reduceToNat, Int.reduceLE, Int.reduceLT, Int.reduceEq, Int.reduceNe, reduceCtorEq, Nat.reduceLT, Nat.reduceLeDiff]
  refine call_ev (ev_rCheck hX hs ns up) ?_
  simp only [Lat.ofT, Lat.ofE]
  by_cases h : (Lat.checkS ns up).2 = 0
  · simp only [h, go_sem, Nat.reduceMod, Nat.reduceBNe, Nat.reduceBEq, Nat.reduceEqDiff, Nat.reduceAdd, Int.reduceAdd, Nat.reduceMul, Nat.reduceSub, Int.reduceToNat, Int.reduceLE, Int.reduceLT, Int.reduceEq, Int.reduceNe, reduceCtorEq, Nat.reduceLT, Nat.reduceLeDiff, ne_eq]
    refine call_ev (ev_r6Check hX hs a hl) ?_
    by_cases g : Lat.arrE a = 0
    · simp only [g, go_sem, Nat.reduceMod, Nat.reduceBNe, Nat.reduceBEq, Nat.reduceEqDiff, Nat.reduceAdd, Int.reduceAdd, Nat.reduceMul, Nat.reduceSub, Int.reduceToNat, Int.reduceLE, Int.reduceLT, Int.reduceEq, Int.reduceNe, reduceCtorEq, Nat.reduceLT, Nat.reduceLeDiff, tyV]
      refine call_ev (ev_r_Low hX hs ns up (Lat.checkS_val h).2) ?_
      simp only [go_sem, Nat.reduceMod, Nat.reduceBNe, Nat.reduceBEq, Nat.reduceEqDiff, Nat.reduceAdd, Int.reduceAdd, Nat.reduceMul, Nat.reduceSub, Int.reduceToNat, Int.reduceLE, Int.reduceLT, Int.reduceEq, Int.reduceNe, reduceCtorEq, Nat.reduceLT, Nat.reduceLeDiff]
    · simp only [g, go_sem, Nat.reduceMod, Nat.reduceBNe, Nat.reduceBEq, Nat.reduceEqDiff, Nat.reduceAdd, Int.reduceAdd, Nat.reduceMul, Nat.reduceSub, Int.reduceToNat, Int.reduceLE, Int.reduceLT, Int.reduceEq, Int.reduceNe, reduceCtorEq, Nat.reduceLT, Nat.reduceLeDiff, tyV, Lat.zeroT]
  · simp only [h, go_sem, Nat.reduceMod, Nat.reduceBNe, Nat.reduceBEq, Nat.reduceEqDiff, Nat.reduceAdd, Int.reduceAdd, Nat.reduceMul, Nat.reduceSub, Int.reduceToNat, Int.reduceLE, Int.reduceLT, Int.reduceEq, Int.reduceNe, reduceCtorEq, Nat.reduceLT, Nat.reduceLeDiff, tyV, Lat.zeroT, ne_eq]
theorem ev_r_Fits (t : Lat.Ty) (a : Lat.Arr) : Ev X F_ref20_Fits [tyV t, arrV a] (.bool (Lat.fits t a)) := by
  refine ev_of_wpc hs (A_ref20_Fits_ok hX) 1 ?_
  simp only [A_ref20_Fits, tyV, arrV, go_sem, Nat.reduceMod, Nat.reduceBNe, Nat.reduceBEq, Nat.reduceEqDiff, Nat.reduceAdd, Int.reduceAdd, Nat.reduceMul, Nat.reduceSub, Int.reduceToNat, Int.reduceLE, Int.reduceLT, Int.reduceEq, Int.reduceNe, reduceCtorEq, Nat.reduceLT, Nat.reduceLeDiff, Lat.fits]
  refine ⟨fun h => ?_, fun h => ?_⟩
  · simp [h]
  · simp [h]
theorem ev_r_Sees (ns : List (List UInt8)) (up : List UInt8) (t : Lat.Ty) (o : Int) : Ev X F_ref20_Sees [latV ns up, tyV t, .int .i64 o] (.tuple [.agg [.bool (decide (Lat.raiseE ns up t o = 0) && Lat.ax0 up t o), .bool (decide (Lat.raiseE ns up t o = 0) && Lat.ax1 up t o)], .bool (decide (Lat.raiseE ns up t o = 0) && Lat.seesC up t o), .int .i64 (Lat.raiseE ns up t o)]) := by
  refine ev_of_wpc hs (A_ref20_Sees_ok hX) 1 ?_
  simp only [A_ref20_Sees, latV, tyV, go_sem, Nat.reduceMod, Nat.reduceBNe, Nat.reduceBEq, Nat.reduceEqDiff, Nat.reduceAdd, Int.reduceAdd, Nat.reduceMul, Nat.reduceSub, Int.reduceToNat, Int.reduceLE, Int.reduceLT, Int.reduceEq, Int.reduceNe, reduceCtorEq, Nat.reduceLT, Nat.reduceLeDiff]
  refine call_ev (ev_r_Check hX hs ns up t) ?_
  simp only [Lat.raiseE]
  by_cases h : Lat.tyS ns up t = 0
  · obtain ⟨hc, hv, gg⟩ := Lat.tyS_0 h
    simp only [h, go_sem, Nat.reduceMod, Nat.reduceBNe, Nat.reduceBEq, Nat.reduceEqDiff, Nat.reduceAdd, Int.reduceAdd, Nat.reduceMul, Nat.reduceSub, Int.reduceToNat, Int.reduceLE, Int.reduceLT, Int.reduceEq, Int.reduceNe, reduceCtorEq, Nat.reduceLT, Nat.reduceLeDiff, ne_eq]
    refine call_ev (ev_r_Label hX hs ns up o) ?_
    cases e : Lat.lab ns.length o with
    | false => simp only [go_sem, Nat.reduceMod, Nat.reduceBNe, Nat.reduceBEq, Nat.reduceEqDiff, Nat.reduceAdd, Int.reduceAdd, Nat.reduceMul, Nat.reduceSub, Int.reduceToNat, Int.reduceLE, Int.reduceLT, Int.reduceEq, Int.reduceNe, reduceCtorEq, Nat.reduceLT, Nat.reduceLeDiff]
    | true =>
      have hlu : ∀ {x : Int}, Lat.lab ns.length x = true → Lat.lab up.length x = true := fun hx => by rw [hv.len]; exact hx
      have sa := fun x => Lat.sees_axes hv gg e x
      obtain ⟨k, r, a0, a1, d⟩ := t
      obtain ⟨n, rfl⟩ : ∃ n : Nat, r = n := ⟨r.toNat, by have := gg.r; simp only at this; omega⟩
      have hn : n ≤ 2 := by have := gg.r; simp only at this; omega
      have l0 := hlu gg.l0
      have l1 := hlu gg.l1
      have ld := hlu gg.ld
      have lo := hlu e
      simp only at l0 l1 ld
      simp only [Lat.seesC] at sa
      simp only [go_sem, Nat.reduceMod, Nat.reduceBNe, Nat.reduceBEq, Nat.reduceEqDiff, Nat.reduceAdd, Int.reduceAdd, Nat.reduceMul, Nat.reduceSub, Int.reduceToNat, Int.reduceLE, Int.reduceLT, Int.reduceEq, Int.reduceNe, reduceCtorEq, Nat.reduceLT, Nat.reduceLeDiff, Bool.true_eq_false]
      refine call_ev (ev_r_Leq hX hs ns up ld lo) ?_
      simp only [go_sem, Nat.reduceMod, Nat.reduceBNe, Nat.reduceBEq, Nat.reduceEqDiff, Nat.reduceAdd, Int.reduceAdd, Nat.reduceMul, Nat.reduceSub, Int.reduceToNat, Int.reduceLE, Int.reduceLT, Int.reduceEq, Int.reduceNe, reduceCtorEq, Nat.reduceLT, Nat.reduceLeDiff]
      refine w_loop' hs.hm (ι := Nat) (fun i => i ≤ n) (fun i => [(12, .int .i64 i), (2, .int .i64 o), (3, .ptr 0 0), (4, .ptr 1 0), (6, .ptr 2 0), (10, .ptr 3 0), (11, .bool (Lat.leI up d o && (!decide (1 ≤ i) || Lat.leI up a0 o) && (!decide (2 ≤ i) || Lat.leI up a1 o)))])
        (fun i => [.box [lst AV.str .ro ns, lst u8 .ro up], .box [.int .i64 k, .int .i64 n, .int .i64 a0, .int .i64 a1, .int .i64 d], .box [.bool false, .bool false], .box [.bool (decide (1 ≤ i) && Lat.leI up a0 o), .bool (decide (2 ≤ i) && Lat.leI up a1 o)]]) (fun i => n - i) 0 ?_ fun i hi => ?_
      · simp only [go_sem, Nat.reduceMod, Nat.reduceBNe, Nat.reduceBEq, Nat.reduceEqDiff, Nat.reduceAdd, Int.reduceAdd, Nat.reduceMul, Nat.reduceSub, Int.reduceToNat, Int.reduceLE, Int.reduceLT, Int.reduceEq, Int.reduceNe, reduceCtorEq, Nat.reduceLT, Nat.reduceLeDiff, Nat.not_succ_le_zero]
        exact Nat.zero_le _
      · simp only [A_ref20_SeesL0, go_sem, Nat.reduceMod, Nat.reduceBNe, Nat.reduceBEq, Nat.reduceEqDiff, Nat.reduceAdd, Int.reduceAdd, Nat.reduceMul, Nat.reduceSub, Int.reduceToNat, Int.reduceLE, Int.reduceLT, Int.reduceEq, Int.reduceNe, reduceCtorEq, Nat.reduceLT, Nat.reduceLeDiff]
        refine ⟨fun c => ?_, fun c => ?_⟩
        · have : i = 0 ∨ i = 1 := by omega
          rcases this with rfl | rfl
          · simp only [go_sem, Nat.reduceMod, Nat.reduceBNe, Nat.reduceBEq, Nat.reduceEqDiff, Nat.reduceAdd, Int.reduceAdd, Nat.reduceMul, Nat.reduceSub, Int.reduceToNat, Int.reduceLE, Int.reduceLT, Int.reduceEq, Int.reduceNe, reduceCtorEq, Nat.reduceLT, Nat.reduceLeDiff]
            refine callq_ev (ev_r_Leq hX hs ns up l0 lo) ?_
            simp only [go_sem, Nat.reduceMod, Nat.reduceBNe, Nat.reduceBEq, Nat.reduceEqDiff, Nat.reduceAdd, Int.reduceAdd, Nat.reduceMul, Nat.reduceSub, Int.reduceToNat, Int.reduceLE, Int.reduceLT, Int.reduceEq, Int.reduceNe, reduceCtorEq, Nat.reduceLT, Nat.reduceLeDiff]
            exact ⟨fun e' => ⟨1, by omega, by omega, ⟨rfl, by simp [e']⟩, by simp⟩, fun e' => ⟨1, by omega, by omega, ⟨rfl, by simp [e']⟩, by simp⟩⟩
          · simp only [go_sem, Nat.reduceMod, Nat.reduceBNe, Nat.reduceBEq, Nat.reduceEqDiff, Nat.reduceAdd, Int.reduceAdd, Nat.reduceMul, Nat.reduceSub, Int.reduceToNat, Int.reduceLE, Int.reduceLT, Int.reduceEq, Int.reduceNe, reduceCtorEq, Nat.reduceLT, Nat.reduceLeDiff]
            refine callq_ev (ev_r_Leq hX hs ns up l1 lo) ?_
            simp only [go_sem, Nat.reduceMod, Nat.reduceBNe, Nat.reduceBEq, Nat.reduceEqDiff, Nat.reduceAdd, Int.reduceAdd, Nat.reduceMul, Nat.reduceSub, Int.reduceToNat, Int.reduceLE, Int.reduceLT, Int.reduceEq, Int.reduceNe, reduceCtorEq, Nat.reduceLT, Nat.reduceLeDiff]
            exact ⟨fun e' => ⟨2, by omega, by omega, ⟨rfl, by simp_all⟩, by simp⟩, fun e' => ⟨2, by omega, by omega, ⟨rfl, by simp_all⟩, by simp⟩⟩
        · obtain rfl : i = n := by omega
          have e1 : (1 ≤ (i : Int)) = (1 ≤ i) := by rw [eq_iff_iff]; omega
          have e2 : (2 ≤ (i : Int)) = (2 ≤ i) := by rw [eq_iff_iff]; omega
          simp only [go_sem, Nat.reduceMod, Nat.reduceBNe, Nat.reduceBEq, Nat.reduceEqDiff, Nat.reduceAdd, Int.reduceAdd, Nat.reduceMul, Nat.reduceSub, Int.reduceToNat, Int.reduceLE, Int.reduceLT, Int.reduceEq, Int.reduceNe, reduceCtorEq, Nat.reduceLT, Nat.reduceLeDiff, Lat.ax0, Lat.ax1, Lat.seesC, e1, e2]
          cases hd : Lat.leI up d o with
          | false => simp
          | true => simp [(sa hd).1, (sa hd).2]
  · simp only [h, go_sem, Nat.reduceMod, Nat.reduceBNe, Nat.reduceBEq, Nat.reduceEqDiff, Nat.reduceAdd, Int.reduceAdd, Nat.reduceMul, Nat.reduceSub, Int.reduceToNat, Int.reduceLE, Int.reduceLT, Int.reduceEq, Int.reduceNe, reduceCtorEq, Nat.reduceLT, Nat.reduceLeDiff, ne_eq]
set_option maxRecDepth 10000
set_option maxHeartbeats 4000000 in
theorem ev_r_Agree (ns : List (List UInt8)) (up : List UInt8) (t : Lat.Ty) (o : Int) (a b : Lat.Arr) (ha : a.c.length < 1000000) (hb : b.c.length < 1000000) : Ev X F_ref20_Agree [latV ns up, tyV t, .int .i64 o, arrV a, arrV b] (.tuple [.bool (Lat.agreeS ns up t o a b), .int .i64 (Lat.agreeE ns up t o a b)]) := by
  refine ev_of_xa hs (A_ref20_Agree_ok hX) 1 ?_
  simp only [A_ref20_Agree, latV, tyV, arrV]
  refine xa_cut hs.hm ?_
  simp only [go_sem, Nat.reduceMod, Nat.reduceBNe, Nat.reduceBEq, Nat.reduceEqDiff, Nat.reduceAdd, Int.reduceAdd, Nat.reduceMul, Nat.reduceSub, Int.reduceToNat, Int.reduceLE, Int.reduceLT, Int.reduceEq, Int.reduceNe, reduceCtorEq, Nat.reduceLT, Nat.reduceLeDiff]
  refine xa_cut hs.hm ?_
  simp only [go_sem, Nat.reduceMod, Nat.reduceBNe, Nat.reduceBEq, Nat.reduceEqDiff, Nat.reduceAdd, Int.reduceAdd, Nat.reduceMul, Nat.reduceSub, Int.reduceToNat, Int.reduceLE, Int.reduceLT, Int.reduceEq, Int.reduceNe, reduceCtorEq, Nat.reduceLT, Nat.reduceLeDiff]
  refine call_ev (ev_r_Sees hX hs ns up t o) ?_
  simp only [Lat.agreeS, Lat.agreeE, Lat.seesE]
  by_cases h : Lat.raiseE ns up t o = 0
  · simp only [h, go_sem, Nat.reduceMod, Nat.reduceBNe, Nat.reduceBEq, Nat.reduceEqDiff, Nat.reduceAdd, Int.reduceAdd, Nat.reduceMul, Nat.reduceSub, Int.reduceToNat, Int.reduceLE, Int.reduceLT, Int.reduceEq, Int.reduceNe, reduceCtorEq, Nat.reduceLT, Nat.reduceLeDiff, ne_eq]
    refine xa_keep [5, 6, 8, 9, 12, 13, 14] ?_
    simp only [go_sem, Nat.reduceMod, Nat.reduceBNe, Nat.reduceBEq, Nat.reduceEqDiff, Nat.reduceAdd, Int.reduceAdd, Nat.reduceMul, Nat.reduceSub, Int.reduceToNat, Int.reduceLE, Int.reduceLT, Int.reduceEq, Int.reduceNe, reduceCtorEq, Nat.reduceLT, Nat.reduceLeDiff]
    refine xa_cut hs.hm ?_
    simp only [go_sem, Nat.reduceMod, Nat.reduceBNe, Nat.reduceBEq, Nat.reduceEqDiff, Nat.reduceAdd, Int.reduceAdd, Nat.reduceMul, Nat.reduceSub, Int.reduceToNat, Int.reduceLE, Int.reduceLT, Int.reduceEq, Int.reduceNe, reduceCtorEq, Nat.reduceLT, Nat.reduceLeDiff]
    refine call_ev (ev_r6Check hX hs a ha) ?_
    by_cases g1 : Lat.arrE a = 0
    · simp only [g1, go_sem, Nat.reduceMod, Nat.reduceBNe, Nat.reduceBEq, Nat.reduceEqDiff, Nat.reduceAdd, Int.reduceAdd, Nat.reduceMul, Nat.reduceSub, Int.reduceToNat, Int.reduceLE, Int.reduceLT, Int.reduceEq, Int.reduceNe, reduceCtorEq, Nat.reduceLT, Nat.reduceLeDiff]
      refine xa_keep [5, 6, 8, 9, 12, 13, 14] ?_
      simp only [go_sem, Nat.reduceMod, Nat.reduceBNe, Nat.reduceBEq, Nat.reduceEqDiff, Nat.reduceAdd, Int.reduceAdd, Nat.reduceMul, Nat.reduceSub, Int.reduceToNat, Int.reduceLE, Int.reduceLT, Int.reduceEq, Int.reduceNe, reduceCtorEq, Nat.reduceLT, Nat.reduceLeDiff]
      refine xa_cut hs.hm ?_
      simp only [go_sem, Nat.reduceMod, Nat.reduceBNe, Nat.reduceBEq, Nat.reduceEqDiff, Nat.reduceAdd, Int.reduceAdd, Nat.reduceMul, Nat.reduceSub, Int.reduceToNat, Int.reduceLE, Int.reduceLT, Int.reduceEq, Int.reduceNe, reduceCtorEq, Nat.reduceLT, Nat.reduceLeDiff]
      refine call_ev (ev_r6Check hX hs b hb) ?_
      by_cases g2 : Lat.arrE b = 0
      · simp only [g2, go_sem, Nat.reduceMod, Nat.reduceBNe, Nat.reduceBEq, Nat.reduceEqDiff, Nat.reduceAdd, Int.reduceAdd, Nat.reduceMul, Nat.reduceSub, Int.reduceToNat, Int.reduceLE, Int.reduceLT, Int.reduceEq, Int.reduceNe, reduceCtorEq, Nat.reduceLT, Nat.reduceLeDiff]
        refine xa_keep [5, 6, 8, 9, 12, 13, 14] ?_
        simp only [go_sem, Nat.reduceMod, Nat.reduceBNe, Nat.reduceBEq, Nat.reduceEqDiff, Nat.reduceAdd, Int.reduceAdd, Nat.reduceMul, Nat.reduceSub, Int.reduceToNat, Int.reduceLE, Int.reduceLT, Int.reduceEq, Int.reduceNe, reduceCtorEq, Nat.reduceLT, Nat.reduceLeDiff]
        refine xa_cut hs.hm ?_
        simp only [go_sem, Nat.reduceMod, Nat.reduceBNe, Nat.reduceBEq, Nat.reduceEqDiff, Nat.reduceAdd, Int.reduceAdd, Nat.reduceMul, Nat.reduceSub, Int.reduceToNat, Int.reduceLE, Int.reduceLT, Int.reduceEq, Int.reduceNe, reduceCtorEq, Nat.reduceLT, Nat.reduceLeDiff]
        refine call_ev (ev_r_Fits hX hs t a) ?_
        cases f1 : Lat.fits t a with
        | false =>
          simp only [go_sem, Nat.reduceMod, Nat.reduceBNe, Nat.reduceBEq, Nat.reduceEqDiff, Nat.reduceAdd, Int.reduceAdd, Nat.reduceMul, Nat.reduceSub, Int.reduceToNat, Int.reduceLE, Int.reduceLT, Int.reduceEq, Int.reduceNe, reduceCtorEq, Nat.reduceLT, Nat.reduceLeDiff]
          refine xa_keep [14] ?_
          simp only [go_sem, Nat.reduceMod, Nat.reduceBNe, Nat.reduceBEq, Nat.reduceEqDiff, Nat.reduceAdd, Int.reduceAdd, Nat.reduceMul, Nat.reduceSub, Int.reduceToNat, Int.reduceLE, Int.reduceLT, Int.reduceEq, Int.reduceNe, reduceCtorEq, Nat.reduceLT, Nat.reduceLeDiff]
          refine xa_last hs.hm ?_
          simp only [go_sem, Nat.reduceMod, Nat.reduceBNe, Nat.reduceBEq, Nat.reduceEqDiff, Nat.reduceAdd, Int.reduceAdd, Nat.reduceMul, Nat.reduceSub, Int.reduceToNat, Int.reduceLE, Int.reduceLT, Int.reduceEq, Int.reduceNe, reduceCtorEq, Nat.reduceLT, Nat.reduceLeDiff]
        | true =>
          simp only [go_sem, Nat.reduceMod, Nat.reduceBNe, Nat.reduceBEq, Nat.reduceEqDiff, Nat.reduceAdd, Int.reduceAdd, Nat.reduceMul, Nat.reduceSub, Int.reduceToNat, Int.reduceLE, Int.reduceLT, Int.reduceEq, Int.reduceNe, reduceCtorEq, Nat.reduceLT, Nat.reduceLeDiff]
          refine call_ev (ev_r_Fits hX hs t b) ?_
          cases f2 : Lat.fits t b with
          | false =>
            simp only [go_sem, Nat.reduceMod, Nat.reduceBNe, Nat.reduceBEq, Nat.reduceEqDiff, Nat.reduceAdd, Int.reduceAdd, Nat.reduceMul, Nat.reduceSub, Int.reduceToNat, Int.reduceLE, Int.reduceLT, Int.reduceEq, Int.reduceNe, reduceCtorEq, Nat.reduceLT, Nat.reduceLeDiff]
            refine xa_keep [14] ?_
            simp only [go_sem, Nat.reduceMod, Nat.reduceBNe, Nat.reduceBEq, Nat.reduceEqDiff, Nat.reduceAdd, Int.reduceAdd, Nat.reduceMul, Nat.reduceSub, Int.reduceToNat, Int.reduceLE, Int.reduceLT, Int.reduceEq, Int.reduceNe, reduceCtorEq, Nat.reduceLT, Nat.reduceLeDiff]
            refine xa_last hs.hm ?_
            simp only [go_sem, Nat.reduceMod, Nat.reduceBNe, Nat.reduceBEq, Nat.reduceEqDiff, Nat.reduceAdd, Int.reduceAdd, Nat.reduceMul, Nat.reduceSub, Int.reduceToNat, Int.reduceLE, Int.reduceLT, Int.reduceEq, Int.reduceNe, reduceCtorEq, Nat.reduceLT, Nat.reduceLeDiff]
          | true =>
            simp only [go_sem, Nat.reduceMod, Nat.reduceBNe, Nat.reduceBEq, Nat.reduceEqDiff, Nat.reduceAdd, Int.reduceAdd, Nat.reduceMul, Nat.reduceSub, Int.reduceToNat, Int.reduceLE, Int.reduceLT, Int.reduceEq, Int.reduceNe, reduceCtorEq, Nat.reduceLT, Nat.reduceLeDiff, Bool.true_eq_false]
            refine xa_keep [5, 6, 8, 9, 12, 13, 14] ?_
            simp only [go_sem, Nat.reduceMod, Nat.reduceBNe, Nat.reduceBEq, Nat.reduceEqDiff, Nat.reduceAdd, Int.reduceAdd, Nat.reduceMul, Nat.reduceSub, Int.reduceToNat, Int.reduceLE, Int.reduceLT, Int.reduceEq, Int.reduceNe, reduceCtorEq, Nat.reduceLT, Nat.reduceLeDiff]
            refine xa_last hs.hm ?_
            simp only [go_sem, Nat.reduceMod, Nat.reduceBNe, Nat.reduceBEq, Nat.reduceEqDiff, Nat.reduceAdd, Int.reduceAdd, Nat.reduceMul, Nat.reduceSub, Int.reduceToNat, Int.reduceLE, Int.reduceLT, Int.reduceEq, Int.reduceNe, reduceCtorEq, Nat.reduceLT, Nat.reduceLeDiff]
            obtain ⟨t0, ho⟩ := Lat.raiseE_0.1 h
            obtain ⟨hc, hv, gt⟩ := Lat.tyS_0 t0
            have sax := fun x => Lat.sees_axes hv gt ho x
            refine w_loop' hs.hm (ι := Nat) (fun i => i ≤ 2 ∧ (1 ≤ i → Lat.ax0 up t o = true → a.l0 = b.l0) ∧ (2 ≤ i → Lat.ax1 up t o = true → a.l1 = b.l1)) (fun i => [(15, .int .i64 i), (8, .ptr 2 0), (9, .ptr 3 0), (12, .ptr 4 0), (13, .bool (Lat.seesC up t o))]) (fun _ => [.box [lst AV.str .ro ns, lst u8 .ro up], .box [.int .i64 t.k, .int .i64 t.r, .int .i64 t.a0, .int .i64 t.a1, .int .i64 t.d], .box [.int .i64 a.k, .int .i64 a.r, .int .i64 a.l0, .int .i64 a.l1, lst (AV.int .i64) .ro a.c], .box [.int .i64 b.k, .int .i64 b.r, .int .i64 b.l0, .int .i64 b.l1, lst (AV.int .i64) .ro b.c], .box [.bool (Lat.ax0 up t o), .bool (Lat.ax1 up t o)]]) (fun i => 2 - i) 0 ?_ fun i hi => ?_
            · simp only [go_sem, Nat.reduceMod, Nat.reduceBNe, Nat.reduceBEq, Nat.reduceEqDiff, Nat.reduceAdd, Int.reduceAdd, Nat.reduceMul, Nat.reduceSub, Int.reduceToNat, Int.reduceLE, Int.reduceLT, Int.reduceEq, Int.reduceNe, reduceCtorEq, Nat.reduceLT, Nat.reduceLeDiff]
            · obtain ⟨j1, j2, j3⟩ := hi
              have : i = 0 ∨ i = 1 ∨ i = 2 := by omega
              rcases this with rfl | rfl | rfl
              · simp only [A_ref20_AgreeL0, go_sem, Nat.reduceMod, Nat.reduceBNe, Nat.reduceBEq, Nat.reduceEqDiff, Nat.reduceAdd, Int.reduceAdd, Nat.reduceMul, Nat.reduceSub, Int.reduceToNat, Int.reduceLE, Int.reduceLT, Int.reduceEq, Int.reduceNe, reduceCtorEq, Nat.reduceLT, Nat.reduceLeDiff]
                cases x0 : Lat.ax0 up t o with
                | false =>
                  simp only [go_sem, Nat.reduceMod, Nat.reduceBNe, Nat.reduceBEq, Nat.reduceEqDiff, Nat.reduceAdd, Int.reduceAdd, Nat.reduceMul, Nat.reduceSub, Int.reduceToNat, Int.reduceLE, Int.reduceLT, Int.reduceEq, Int.reduceNe, reduceCtorEq, Nat.reduceLT, Nat.reduceLeDiff]
                  exact ⟨1, by omega, ⟨by omega, fun h => absurd h (by omega)⟩, rfl⟩
                | true =>
                  simp only [go_sem, Nat.reduceMod, Nat.reduceBNe, Nat.reduceBEq, Nat.reduceEqDiff, Nat.reduceAdd, Int.reduceAdd, Nat.reduceMul, Nat.reduceSub, Int.reduceToNat, Int.reduceLE, Int.reduceLT, Int.reduceEq, Int.reduceNe, reduceCtorEq, Nat.reduceLT, Nat.reduceLeDiff]
                  refine ⟨fun e => ?_, fun e => ⟨1, by omega, ⟨by omega, fun _ => e, fun h => absurd h (by omega)⟩, rfl⟩⟩
                  simp [Lat.agreeT, x0, e]
              · simp only [A_ref20_AgreeL0, go_sem, Nat.reduceMod, Nat.reduceBNe, Nat.reduceBEq, Nat.reduceEqDiff, Nat.reduceAdd, Int.reduceAdd, Nat.reduceMul, Nat.reduceSub, Int.reduceToNat, Int.reduceLE, Int.reduceLT, Int.reduceEq, Int.reduceNe, reduceCtorEq, Nat.reduceLT, Nat.reduceLeDiff]
                cases x1 : Lat.ax1 up t o with
                | false =>
                  simp only [go_sem, Nat.reduceMod, Nat.reduceBNe, Nat.reduceBEq, Nat.reduceEqDiff, Nat.reduceAdd, Int.reduceAdd, Nat.reduceMul, Nat.reduceSub, Int.reduceToNat, Int.reduceLE, Int.reduceLT, Int.reduceEq, Int.reduceNe, reduceCtorEq, Nat.reduceLT, Nat.reduceLeDiff]
                  exact ⟨2, by omega, ⟨by omega, fun _ => j2 (by omega)⟩, rfl⟩
                | true =>
                  simp only [go_sem, Nat.reduceMod, Nat.reduceBNe, Nat.reduceBEq, Nat.reduceEqDiff, Nat.reduceAdd, Int.reduceAdd, Nat.reduceMul, Nat.reduceSub, Int.reduceToNat, Int.reduceLE, Int.reduceLT, Int.reduceEq, Int.reduceNe, reduceCtorEq, Nat.reduceLT, Nat.reduceLeDiff]
                  refine ⟨fun e => ?_, fun e => ⟨2, by omega, ⟨by omega, fun _ => j2 (by omega), fun _ => e⟩, rfl⟩⟩
                  simp [Lat.agreeT, x1, e]
              · have k0 := j2 (by omega)
                have k1 := j3 (by omega)
                simp only [A_ref20_AgreeL0, go_sem, Nat.reduceMod, Nat.reduceBNe, Nat.reduceBEq, Nat.reduceEqDiff, Nat.reduceAdd, Int.reduceAdd, Nat.reduceMul, Nat.reduceSub, Int.reduceToNat, Int.reduceLE, Int.reduceLT, Int.reduceEq, Int.reduceNe, reduceCtorEq, Nat.reduceLT, Nat.reduceLeDiff]
                have q0 : (!Lat.ax0 up t o || a.l0 == b.l0) = true := by
                  cases x0 : Lat.ax0 up t o with
                  | false => rfl
                  | true => simp [k0 x0]
                have q1 : (!Lat.ax1 up t o || a.l1 == b.l1) = true := by
                  cases x1 : Lat.ax1 up t o with
                  | false => rfl
                  | true => simp [k1 x1]
                simp only [Lat.agreeT, q0, q1, Bool.true_and]
                cases sc : Lat.seesC up t o with
                | false =>
                  refine w_loop' hs.hm (ι := Nat) (fun i => i = 0) (fun i => [(16, .int .i64 i), (8, .ptr 2 0), (9, .ptr 3 0), (13, .bool false)]) (fun _ => [.box [lst AV.str .ro ns, lst u8 .ro up], .box [.int .i64 t.k, .int .i64 t.r, .int .i64 t.a0, .int .i64 t.a1, .int .i64 t.d], .box [.int .i64 a.k, .int .i64 a.r, .int .i64 a.l0, .int .i64 a.l1, lst (AV.int .i64) .ro a.c], .box [.int .i64 b.k, .int .i64 b.r, .int .i64 b.l0, .int .i64 b.l1, lst (AV.int .i64) .ro b.c], .box [.bool (Lat.ax0 up t o), .bool (Lat.ax1 up t o)]]) (fun i => i) 0 ?_ fun i hi => ?_
                  · simp only [go_sem, Nat.reduceMod, Nat.reduceBNe, Nat.reduceBEq, Nat.reduceEqDiff, Nat.reduceAdd, Int.reduceAdd, Nat.reduceMul, Nat.reduceSub, Int.reduceToNat, Int.reduceLE, Int.reduceLT, Int.reduceEq, Int.reduceNe, reduceCtorEq, Nat.reduceLT, Nat.reduceLeDiff]
                  · subst hi
                    simp only [A_ref20_AgreeL1, go_sem, Nat.reduceMod, Nat.reduceBNe, Nat.reduceBEq, Nat.reduceEqDiff, Nat.reduceAdd, Int.reduceAdd, Nat.reduceMul, Nat.reduceSub, Int.reduceToNat, Int.reduceLE, Int.reduceLT, Int.reduceEq, Int.reduceNe, reduceCtorEq, Nat.reduceLT, Nat.reduceLeDiff]
                | true =>
                  have hlen : a.c.length = b.c.length := Lat.many_len g1 g2 f1 f2 (fun hr => k0 (by simp only [Lat.ax0, (sax sc).1, Bool.and_true, decide_eq_true_eq]; exact hr)) (fun hr => k1 (by simp only [Lat.ax1, (sax sc).2, Bool.and_true, decide_eq_true_eq]; exact hr))
                  refine w_loop' hs.hm (ι := Nat) (fun i => i ≤ a.c.length ∧ ∀ j, j < i → (a.c.getD j 0 == b.c.getD j 0) = true) (fun i => [(16, .int .i64 i), (8, .ptr 2 0), (9, .ptr 3 0), (13, .bool true)]) (fun _ => [.box [lst AV.str .ro ns, lst u8 .ro up], .box [.int .i64 t.k, .int .i64 t.r, .int .i64 t.a0, .int .i64 t.a1, .int .i64 t.d], .box [.int .i64 a.k, .int .i64 a.r, .int .i64 a.l0, .int .i64 a.l1, lst (AV.int .i64) .ro a.c], .box [.int .i64 b.k, .int .i64 b.r, .int .i64 b.l0, .int .i64 b.l1, lst (AV.int .i64) .ro b.c], .box [.bool (Lat.ax0 up t o), .bool (Lat.ax1 up t o)]]) (fun i => a.c.length - i) 0 ?_ fun i hi => ?_
                  · simp only [go_sem, Nat.reduceMod, Nat.reduceBNe, Nat.reduceBEq, Nat.reduceEqDiff, Nat.reduceAdd, Int.reduceAdd, Nat.reduceMul, Nat.reduceSub, Int.reduceToNat, Int.reduceLE, Int.reduceLT, Int.reduceEq, Int.reduceNe, reduceCtorEq, Nat.reduceLT, Nat.reduceLeDiff]
                    exact ⟨Nat.zero_le _, no_lt0⟩
                  · obtain ⟨i1, i2⟩ := hi
                    simp only [A_ref20_AgreeL1, go_sem, Nat.reduceMod, Nat.reduceBNe, Nat.reduceBEq, Nat.reduceEqDiff, Nat.reduceAdd, Int.reduceAdd, Nat.reduceMul, Nat.reduceSub, Int.reduceToNat, Int.reduceLE, Int.reduceLT, Int.reduceEq, Int.reduceNe, reduceCtorEq, Nat.reduceLT, Nat.reduceLeDiff]
                    have fin : (Bool.not true || a.c == b.c) = (a.c == b.c) := rfl
                    refine ⟨fun c => ⟨by omega, by omega, fun e => ?_, fun e => nxt1 (by omega) i2 ?_ (by omega)⟩, fun c => ?_⟩
                    · have hne : (a.c == b.c) = false := by
                        rw [beq_eq_false_iff_ne]
                        intro hab
                        apply e
                        rw [hab]
                      rw [hne]
                    · rw [beq_iff_eq]
                      exact e
                    · have hab : a.c = b.c := List.ext_getElem hlen fun j h1 h2 => by
                        have := i2 j (by omega)
                        rw [List.getD_eq_getElem?_getD, List.getD_eq_getElem?_getD, List.getElem?_eq_getElem h1, List.getElem?_eq_getElem h2] at this
                        simpa using this
                      simp [hab]
      · simp only [g2, go_sem, Nat.reduceMod, Nat.reduceBNe, Nat.reduceBEq, Nat.reduceEqDiff, Nat.reduceAdd, Int.reduceAdd, Nat.reduceMul, Nat.reduceSub, Int.reduceToNat, Int.reduceLE, Int.reduceLT, Int.reduceEq, Int.reduceNe, reduceCtorEq, Nat.reduceLT, Nat.reduceLeDiff]
        refine xa_keep [14] ?_
        simp only [go_sem, Nat.reduceMod, Nat.reduceBNe, Nat.reduceBEq, Nat.reduceEqDiff, Nat.reduceAdd, Int.reduceAdd, Nat.reduceMul, Nat.reduceSub, Int.reduceToNat, Int.reduceLE, Int.reduceLT, Int.reduceEq, Int.reduceNe, reduceCtorEq, Nat.reduceLT, Nat.reduceLeDiff]
        refine xa_last hs.hm ?_
        simp only [go_sem, Nat.reduceMod, Nat.reduceBNe, Nat.reduceBEq, Nat.reduceEqDiff, Nat.reduceAdd, Int.reduceAdd, Nat.reduceMul, Nat.reduceSub, Int.reduceToNat, Int.reduceLE, Int.reduceLT, Int.reduceEq, Int.reduceNe, reduceCtorEq, Nat.reduceLT, Nat.reduceLeDiff, g2]
    · simp only [g1, go_sem, Nat.reduceMod, Nat.reduceBNe, Nat.reduceBEq, Nat.reduceEqDiff, Nat.reduceAdd, Int.reduceAdd, Nat.reduceMul, Nat.reduceSub, Int.reduceToNat, Int.reduceLE, Int.reduceLT, Int.reduceEq, Int.reduceNe, reduceCtorEq, Nat.reduceLT, Nat.reduceLeDiff]
      refine xa_keep [14] ?_
      simp only [go_sem, Nat.reduceMod, Nat.reduceBNe, Nat.reduceBEq, Nat.reduceEqDiff, Nat.reduceAdd, Int.reduceAdd, Nat.reduceMul, Nat.reduceSub, Int.reduceToNat, Int.reduceLE, Int.reduceLT, Int.reduceEq, Int.reduceNe, reduceCtorEq, Nat.reduceLT, Nat.reduceLeDiff]
      refine xa_last hs.hm ?_
      simp only [go_sem, Nat.reduceMod, Nat.reduceBNe, Nat.reduceBEq, Nat.reduceEqDiff, Nat.reduceAdd, Int.reduceAdd, Nat.reduceMul, Nat.reduceSub, Int.reduceToNat, Int.reduceLE, Int.reduceLT, Int.reduceEq, Int.reduceNe, reduceCtorEq, Nat.reduceLT, Nat.reduceLeDiff, g1]
  · simp only [h, go_sem, Nat.reduceMod, Nat.reduceBNe, Nat.reduceBEq, Nat.reduceEqDiff, Nat.reduceAdd, Int.reduceAdd, Nat.reduceMul, Nat.reduceSub, Int.reduceToNat, Int.reduceLE, Int.reduceLT, Int.reduceEq, Int.reduceNe, reduceCtorEq, Nat.reduceLT, Nat.reduceLeDiff, ne_eq]
    refine xa_keep [14] ?_
    simp only [go_sem, Nat.reduceMod, Nat.reduceBNe, Nat.reduceBEq, Nat.reduceEqDiff, Nat.reduceAdd, Int.reduceAdd, Nat.reduceMul, Nat.reduceSub, Int.reduceToNat, Int.reduceLE, Int.reduceLT, Int.reduceEq, Int.reduceNe, reduceCtorEq, Nat.reduceLT, Nat.reduceLeDiff]
    refine xa_last hs.hm ?_
    simp only [go_sem, Nat.reduceMod, Nat.reduceBNe, Nat.reduceBEq, Nat.reduceEqDiff, Nat.reduceAdd, Int.reduceAdd, Nat.reduceMul, Nat.reduceSub, Int.reduceToNat, Int.reduceLE, Int.reduceLT, Int.reduceEq, Int.reduceNe, reduceCtorEq, Nat.reduceLT, Nat.reduceLeDiff, h]
end
end Go.Avm

/- TypesSees. -/
namespace Go.Avm
open Go
def arC (a : Lat.Arr) : List AV := [.int .i64 a.k, .int .i64 a.r, .int .i64 a.l0, .int .i64 a.l1, lst (AV.int .i64) .ro a.c]
set_option maxRecDepth 10000
section
variable {X : Cx} (hX : X.P = Go.Proofs.Tryz.prog) (hs : Std X)
include hX hs
theorem ev_big (a : Lat.Arr) : Ev X F_law20_big [arrV a] (.bool (decide (450 < a.c.length))) := by
  refine ev_of_wpc hs (A_law20_big_ok hX) 1 ?_
  simp only [A_law20_big, arrV, go_sem, Nat.reduceMod, Nat.reduceBNe, Nat.reduceBEq, Nat.reduceEqDiff, Nat.reduceAdd, Int.reduceAdd, Nat.reduceMul, Nat.reduceSub, Int.reduceToNat, Int.reduceLE, Int.reduceLT, Int.reduceEq, Int.reduceNe, reduceCtorEq, Nat.reduceLT, Nat.reduceLeDiff, gt_iff_lt]
  have : (450 < (a.c.length : Int)) = (450 < a.c.length) := by rw [eq_iff_iff]; omega
  simp only [this]
set_option maxHeartbeats 8000000 in
theorem ev_lTSees (ns : List (List UInt8)) (up : List UInt8) (t : Lat.Ty) (by' : Int) (a b : Lat.Arr) : Ev X F_law20_TypesSees [latV ns up, .agg (tyC t ++ [.int .i64 by']), .agg (arC a ++ arC b)] (.bool true) := by
  refine ev_of_xa hs (A_law20_TypesSees_ok hX) 1 ?_
  simp only [A_law20_TypesSees, latV, tyC, arC, List.cons_append, List.nil_append]
  refine xa_cut hs.hm ?_
  simp only [go_sem, Nat.reduceMod, Nat.reduceBNe, Nat.reduceBEq, Nat.reduceEqDiff, Nat.reduceAdd, Int.reduceAdd, Nat.reduceMul, Nat.reduceSub, Int.reduceToNat, Int.reduceLE, Int.reduceLT, Int.reduceEq, Int.reduceNe, reduceCtorEq, Nat.reduceLT, Nat.reduceLeDiff, tyV, arrV]
  refine xa_cut hs.hm ?_
  simp only [go_sem, Nat.reduceMod, Nat.reduceBNe, Nat.reduceBEq, Nat.reduceEqDiff, Nat.reduceAdd, Int.reduceAdd, Nat.reduceMul, Nat.reduceSub, Int.reduceToNat, Int.reduceLE, Int.reduceLT, Int.reduceEq, Int.reduceNe, reduceCtorEq, Nat.reduceLT, Nat.reduceLeDiff, tyV, arrV]
  refine call_ev (ev_Large hX hs ns up) ?_
  simp only [go_sem, Nat.reduceMod, Nat.reduceBNe, Nat.reduceBEq, Nat.reduceEqDiff, Nat.reduceAdd, Int.reduceAdd, Nat.reduceMul, Nat.reduceSub, Int.reduceToNat, Int.reduceLE, Int.reduceLT, Int.reduceEq, Int.reduceNe, reduceCtorEq, Nat.reduceLT, Nat.reduceLeDiff, tyV, arrV]
  cases largeS ns up with
  | true =>
    simp only [go_sem, Nat.reduceMod, Nat.reduceBNe, Nat.reduceBEq, Nat.reduceEqDiff, Nat.reduceAdd, Int.reduceAdd, Nat.reduceMul, Nat.reduceSub, Int.reduceToNat, Int.reduceLE, Int.reduceLT, Int.reduceEq, Int.reduceNe, reduceCtorEq, Nat.reduceLT, Nat.reduceLeDiff]
    refine call_ev (ev_shown hX hs) ?_
    simp only [go_sem, Nat.reduceMod, Nat.reduceBNe, Nat.reduceBEq, Nat.reduceEqDiff, Nat.reduceAdd, Int.reduceAdd, Nat.reduceMul, Nat.reduceSub, Int.reduceToNat, Int.reduceLE, Int.reduceLT, Int.reduceEq, Int.reduceNe, reduceCtorEq, Nat.reduceLT, Nat.reduceLeDiff, tyV, arrV]
  | false =>
    simp only [go_sem, Nat.reduceMod, Nat.reduceBNe, Nat.reduceBEq, Nat.reduceEqDiff, Nat.reduceAdd, Int.reduceAdd, Nat.reduceMul, Nat.reduceSub, Int.reduceToNat, Int.reduceLE, Int.reduceLT, Int.reduceEq, Int.reduceNe, reduceCtorEq, Nat.reduceLT, Nat.reduceLeDiff]
    refine call_ev (ev_big hX hs a) ?_
    by_cases la : 450 < a.c.length
    · simp only [la, go_sem, Nat.reduceMod, Nat.reduceBNe, Nat.reduceBEq, Nat.reduceEqDiff, Nat.reduceAdd, Int.reduceAdd, Nat.reduceMul, Nat.reduceSub, Int.reduceToNat, Int.reduceLE, Int.reduceLT, Int.reduceEq, Int.reduceNe, reduceCtorEq, Nat.reduceLT, Nat.reduceLeDiff]
      refine call_ev (ev_shown hX hs) ?_
      simp only [go_sem, Nat.reduceMod, Nat.reduceBNe, Nat.reduceBEq, Nat.reduceEqDiff, Nat.reduceAdd, Int.reduceAdd, Nat.reduceMul, Nat.reduceSub, Int.reduceToNat, Int.reduceLE, Int.reduceLT, Int.reduceEq, Int.reduceNe, reduceCtorEq, Nat.reduceLT, Nat.reduceLeDiff, tyV, arrV]
    simp only [la, go_sem, Nat.reduceMod, Nat.reduceBNe, Nat.reduceBEq, Nat.reduceEqDiff, Nat.reduceAdd, Int.reduceAdd, Nat.reduceMul, Nat.reduceSub, Int.reduceToNat, Int.reduceLE, Int.reduceLT, Int.reduceEq, Int.reduceNe, reduceCtorEq, Nat.reduceLT, Nat.reduceLeDiff]
    refine call_ev (ev_big hX hs b) ?_
    by_cases lb : 450 < b.c.length
    · simp only [lb, go_sem, Nat.reduceMod, Nat.reduceBNe, Nat.reduceBEq, Nat.reduceEqDiff, Nat.reduceAdd, Int.reduceAdd, Nat.reduceMul, Nat.reduceSub, Int.reduceToNat, Int.reduceLE, Int.reduceLT, Int.reduceEq, Int.reduceNe, reduceCtorEq, Nat.reduceLT, Nat.reduceLeDiff]
      refine call_ev (ev_shown hX hs) ?_
      simp only [go_sem, Nat.reduceMod, Nat.reduceBNe, Nat.reduceBEq, Nat.reduceEqDiff, Nat.reduceAdd, Int.reduceAdd, Nat.reduceMul, Nat.reduceSub, Int.reduceToNat, Int.reduceLE, Int.reduceLT, Int.reduceEq, Int.reduceNe, reduceCtorEq, Nat.reduceLT, Nat.reduceLeDiff, tyV, arrV]
    simp only [lb, go_sem, Nat.reduceMod, Nat.reduceBNe, Nat.reduceBEq, Nat.reduceEqDiff, Nat.reduceAdd, Int.reduceAdd, Nat.reduceMul, Nat.reduceSub, Int.reduceToNat, Int.reduceLE, Int.reduceLT, Int.reduceEq, Int.reduceNe, reduceCtorEq, Nat.reduceLT, Nat.reduceLeDiff]
    refine xa_keep [3, 4, 5, 6] ?_
    simp only [go_sem, Nat.reduceMod, Nat.reduceBNe, Nat.reduceBEq, Nat.reduceEqDiff, Nat.reduceAdd, Int.reduceAdd, Nat.reduceMul, Nat.reduceSub, Int.reduceToNat, Int.reduceLE, Int.reduceLT, Int.reduceEq, Int.reduceNe, reduceCtorEq, Nat.reduceLT, Nat.reduceLeDiff]
    have l1 : a.c.length < 1000000 := by omega
    have l2 : b.c.length < 1000000 := by omega
    refine xa_cut hs.hm ?_
    simp only [go_sem, Nat.reduceMod, Nat.reduceBNe, Nat.reduceBEq, Nat.reduceEqDiff, Nat.reduceAdd, Int.reduceAdd, Nat.reduceMul, Nat.reduceSub, Int.reduceToNat, Int.reduceLE, Int.reduceLT, Int.reduceEq, Int.reduceNe, reduceCtorEq, Nat.reduceLT, Nat.reduceLeDiff, tyV, arrV]
    refine call_ev (ev_t_Of hX hs ns up a l1) ?_
    simp only [go_sem, Nat.reduceMod, Nat.reduceBNe, Nat.reduceBEq, Nat.reduceEqDiff, Nat.reduceAdd, Int.reduceAdd, Nat.reduceMul, Nat.reduceSub, Int.reduceToNat, Int.reduceLE, Int.reduceLT, Int.reduceEq, Int.reduceNe, reduceCtorEq, Nat.reduceLT, Nat.reduceLeDiff, tyV, arrV]
    refine xa_keep [3, 4, 5, 6, 7, 8] ?_
    simp only [go_sem, Nat.reduceMod, Nat.reduceBNe, Nat.reduceBEq, Nat.reduceEqDiff, Nat.reduceAdd, Int.reduceAdd, Nat.reduceMul, Nat.reduceSub, Int.reduceToNat, Int.reduceLE, Int.reduceLT, Int.reduceEq, Int.reduceNe, reduceCtorEq, Nat.reduceLT, Nat.reduceLeDiff]
    refine xa_cut hs.hm ?_
    simp only [go_sem, Nat.reduceMod, Nat.reduceBNe, Nat.reduceBEq, Nat.reduceEqDiff, Nat.reduceAdd, Int.reduceAdd, Nat.reduceMul, Nat.reduceSub, Int.reduceToNat, Int.reduceLE, Int.reduceLT, Int.reduceEq, Int.reduceNe, reduceCtorEq, Nat.reduceLT, Nat.reduceLeDiff, tyV, arrV]
    refine call_ev (ev_r_Of hX hs ns up a l1) ?_
    simp only [go_sem, Nat.reduceMod, Nat.reduceBNe, Nat.reduceBEq, Nat.reduceEqDiff, Nat.reduceAdd, Int.reduceAdd, Nat.reduceMul, Nat.reduceSub, Int.reduceToNat, Int.reduceLE, Int.reduceLT, Int.reduceEq, Int.reduceNe, reduceCtorEq, Nat.reduceLT, Nat.reduceLeDiff, tyV, arrV]
    refine xa_keep [3, 4, 5, 6, 7, 8, 9, 10] ?_
    simp only [go_sem, Nat.reduceMod, Nat.reduceBNe, Nat.reduceBEq, Nat.reduceEqDiff, Nat.reduceAdd, Int.reduceAdd, Nat.reduceMul, Nat.reduceSub, Int.reduceToNat, Int.reduceLE, Int.reduceLT, Int.reduceEq, Int.reduceNe, reduceCtorEq, Nat.reduceLT, Nat.reduceLeDiff]
    refine xa_cut hs.hm ?_
    simp only [go_sem, Nat.reduceMod, Nat.reduceBNe, Nat.reduceBEq, Nat.reduceEqDiff, Nat.reduceAdd, Int.reduceAdd, Nat.reduceMul, Nat.reduceSub, Int.reduceToNat, Int.reduceLE, Int.reduceLT, Int.reduceEq, Int.reduceNe, reduceCtorEq, Nat.reduceLT, Nat.reduceLeDiff, tyV, arrV]
    refine callq_ev (ev_t_Fits hX hs t a) ?_
    simp only [go_sem, Nat.reduceMod, Nat.reduceBNe, Nat.reduceBEq, Nat.reduceEqDiff, Nat.reduceAdd, Int.reduceAdd, Nat.reduceMul, Nat.reduceSub, Int.reduceToNat, Int.reduceLE, Int.reduceLT, Int.reduceEq, Int.reduceNe, reduceCtorEq, Nat.reduceLT, Nat.reduceLeDiff, tyV, arrV]
    refine callq_ev (ev_r_Fits hX hs t a) ?_
    simp only [go_sem, Nat.reduceMod, Nat.reduceBNe, Nat.reduceBEq, Nat.reduceEqDiff, Nat.reduceAdd, Int.reduceAdd, Nat.reduceMul, Nat.reduceSub, Int.reduceToNat, Int.reduceLE, Int.reduceLT, Int.reduceEq, Int.reduceNe, reduceCtorEq, Nat.reduceLT, Nat.reduceLeDiff, tyV, arrV]
    refine xa_keep [3, 4, 5, 6] ?_
    simp only [go_sem, Nat.reduceMod, Nat.reduceBNe, Nat.reduceBEq, Nat.reduceEqDiff, Nat.reduceAdd, Int.reduceAdd, Nat.reduceMul, Nat.reduceSub, Int.reduceToNat, Int.reduceLE, Int.reduceLT, Int.reduceEq, Int.reduceNe, reduceCtorEq, Nat.reduceLT, Nat.reduceLeDiff]
    refine xa_cut hs.hm ?_
    simp only [go_sem, Nat.reduceMod, Nat.reduceBNe, Nat.reduceBEq, Nat.reduceEqDiff, Nat.reduceAdd, Int.reduceAdd, Nat.reduceMul, Nat.reduceSub, Int.reduceToNat, Int.reduceLE, Int.reduceLT, Int.reduceEq, Int.reduceNe, reduceCtorEq, Nat.reduceLT, Nat.reduceLeDiff, tyV, arrV]
    refine call_ev (ev_t_Sees hX hs ns up t by') ?_
    simp only [go_sem, Nat.reduceMod, Nat.reduceBNe, Nat.reduceBEq, Nat.reduceEqDiff, Nat.reduceAdd, Int.reduceAdd, Nat.reduceMul, Nat.reduceSub, Int.reduceToNat, Int.reduceLE, Int.reduceLT, Int.reduceEq, Int.reduceNe, reduceCtorEq, Nat.reduceLT, Nat.reduceLeDiff, tyV, arrV]
    refine xa_keep [3, 4, 5, 6, 8, 11, 12] ?_
    simp only [go_sem, Nat.reduceMod, Nat.reduceBNe, Nat.reduceBEq, Nat.reduceEqDiff, Nat.reduceAdd, Int.reduceAdd, Nat.reduceMul, Nat.reduceSub, Int.reduceToNat, Int.reduceLE, Int.reduceLT, Int.reduceEq, Int.reduceNe, reduceCtorEq, Nat.reduceLT, Nat.reduceLeDiff]
    refine xa_cut hs.hm ?_
    simp only [go_sem, Nat.reduceMod, Nat.reduceBNe, Nat.reduceBEq, Nat.reduceEqDiff, Nat.reduceAdd, Int.reduceAdd, Nat.reduceMul, Nat.reduceSub, Int.reduceToNat, Int.reduceLE, Int.reduceLT, Int.reduceEq, Int.reduceNe, reduceCtorEq, Nat.reduceLT, Nat.reduceLeDiff, tyV, arrV]
    refine call_ev (ev_r_Sees hX hs ns up t by') ?_
    simp only [go_sem, Nat.reduceMod, Nat.reduceBNe, Nat.reduceBEq, Nat.reduceEqDiff, Nat.reduceAdd, Int.reduceAdd, Nat.reduceMul, Nat.reduceSub, Int.reduceToNat, Int.reduceLE, Int.reduceLT, Int.reduceEq, Int.reduceNe, reduceCtorEq, Nat.reduceLT, Nat.reduceLeDiff, tyV, arrV]
    refine xa_keep [3, 4, 5, 6, 8, 10, 11, 12, 13, 14] ?_
    simp only [go_sem, Nat.reduceMod, Nat.reduceBNe, Nat.reduceBEq, Nat.reduceEqDiff, Nat.reduceAdd, Int.reduceAdd, Nat.reduceMul, Nat.reduceSub, Int.reduceToNat, Int.reduceLE, Int.reduceLT, Int.reduceEq, Int.reduceNe, reduceCtorEq, Nat.reduceLT, Nat.reduceLeDiff]
    refine xa_cut hs.hm ?_
    simp only [go_sem, Nat.reduceMod, Nat.reduceBNe, Nat.reduceBEq, Nat.reduceEqDiff, Nat.reduceAdd, Int.reduceAdd, Nat.reduceMul, Nat.reduceSub, Int.reduceToNat, Int.reduceLE, Int.reduceLT, Int.reduceEq, Int.reduceNe, reduceCtorEq, Nat.reduceLT, Nat.reduceLeDiff, tyV, arrV]
    refine xa_keep [3, 4, 5, 6] ?_
    simp only [go_sem, Nat.reduceMod, Nat.reduceBNe, Nat.reduceBEq, Nat.reduceEqDiff, Nat.reduceAdd, Int.reduceAdd, Nat.reduceMul, Nat.reduceSub, Int.reduceToNat, Int.reduceLE, Int.reduceLT, Int.reduceEq, Int.reduceNe, reduceCtorEq, Nat.reduceLT, Nat.reduceLeDiff]
    refine xa_cut hs.hm ?_
    simp only [go_sem, Nat.reduceMod, Nat.reduceBNe, Nat.reduceBEq, Nat.reduceEqDiff, Nat.reduceAdd, Int.reduceAdd, Nat.reduceMul, Nat.reduceSub, Int.reduceToNat, Int.reduceLE, Int.reduceLT, Int.reduceEq, Int.reduceNe, reduceCtorEq, Nat.reduceLT, Nat.reduceLeDiff, tyV, arrV]
    refine call_ev (ev_t_Agree hX hs ns up t by' a b l1 l2) ?_
    simp only [go_sem, Nat.reduceMod, Nat.reduceBNe, Nat.reduceBEq, Nat.reduceEqDiff, Nat.reduceAdd, Int.reduceAdd, Nat.reduceMul, Nat.reduceSub, Int.reduceToNat, Int.reduceLE, Int.reduceLT, Int.reduceEq, Int.reduceNe, reduceCtorEq, Nat.reduceLT, Nat.reduceLeDiff, tyV, arrV]
    refine xa_keep [3, 4, 5, 6, 8, 12] ?_
    simp only [go_sem, Nat.reduceMod, Nat.reduceBNe, Nat.reduceBEq, Nat.reduceEqDiff, Nat.reduceAdd, Int.reduceAdd, Nat.reduceMul, Nat.reduceSub, Int.reduceToNat, Int.reduceLE, Int.reduceLT, Int.reduceEq, Int.reduceNe, reduceCtorEq, Nat.reduceLT, Nat.reduceLeDiff]
    refine xa_cut hs.hm ?_
    simp only [go_sem, Nat.reduceMod, Nat.reduceBNe, Nat.reduceBEq, Nat.reduceEqDiff, Nat.reduceAdd, Int.reduceAdd, Nat.reduceMul, Nat.reduceSub, Int.reduceToNat, Int.reduceLE, Int.reduceLT, Int.reduceEq, Int.reduceNe, reduceCtorEq, Nat.reduceLT, Nat.reduceLeDiff, tyV, arrV]
    refine call_ev (ev_r_Agree hX hs ns up t by' a b l1 l2) ?_
    simp only [go_sem, Nat.reduceMod, Nat.reduceBNe, Nat.reduceBEq, Nat.reduceEqDiff, Nat.reduceAdd, Int.reduceAdd, Nat.reduceMul, Nat.reduceSub, Int.reduceToNat, Int.reduceLE, Int.reduceLT, Int.reduceEq, Int.reduceNe, reduceCtorEq, Nat.reduceLT, Nat.reduceLeDiff, tyV, arrV]
    refine xa_keep [3, 4, 5, 6, 8, 10, 12, 14] ?_
    simp only [go_sem, Nat.reduceMod, Nat.reduceBNe, Nat.reduceBEq, Nat.reduceEqDiff, Nat.reduceAdd, Int.reduceAdd, Nat.reduceMul, Nat.reduceSub, Int.reduceToNat, Int.reduceLE, Int.reduceLT, Int.reduceEq, Int.reduceNe, reduceCtorEq, Nat.reduceLT, Nat.reduceLeDiff]
    refine xa_last hs.hm ?_
    simp only [go_sem, Nat.reduceMod, Nat.reduceBNe, Nat.reduceBEq, Nat.reduceEqDiff, Nat.reduceAdd, Int.reduceAdd, Nat.reduceMul, Nat.reduceSub, Int.reduceToNat, Int.reduceLE, Int.reduceLT, Int.reduceEq, Int.reduceNe, reduceCtorEq, Nat.reduceLT, Nat.reduceLeDiff]
    refine call_ev (ev_shown hX hs) ?_
    simp only [go_sem, Nat.reduceMod, Nat.reduceBNe, Nat.reduceBEq, Nat.reduceEqDiff, Nat.reduceAdd, Int.reduceAdd, Nat.reduceMul, Nat.reduceSub, Int.reduceToNat, Int.reduceLE, Int.reduceLT, Int.reduceEq, Int.reduceNe, reduceCtorEq, Nat.reduceLT, Nat.reduceLeDiff, tyV, arrV]
end
end Go.Avm
