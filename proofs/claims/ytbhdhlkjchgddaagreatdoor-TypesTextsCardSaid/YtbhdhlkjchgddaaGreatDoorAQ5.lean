/- The reference: types. -/
import Derived.Test.YtbhdhlkjchgddaaGreatDoorAQ4
set_option linter.unusedSectionVars false
set_option linter.unusedSimpArgs false
set_option linter.unusedVariables false

/- The reference: types. -/
namespace Go.Avm
open Go
theorem below_lab {up : List UInt8} {x y : Int} (hx : Lat.lab up.length x = true) (hy : Lat.lab up.length y = true) : below up x y = Lat.leI up x y := by
  obtain ⟨x, rfl, h1⟩ := Lat.lab_nat hx
  obtain ⟨y, rfl, h2⟩ := Lat.lab_nat hy
  rw [below_nat up x y h1]
  rfl
section
variable {X : Cx} (hX : X.P = Go.Proofs.Tryz.prog) (hs : Std X)
include hX hs
theorem ev_r_Label (ns : List (List UInt8)) (up : List UInt8) (a : Int) : Ev X F_ref20_Label [latV ns up, .int .i64 a] (.bool (Lat.lab ns.length a)) := by
  refine ev_of_wpc hs (A_ref20_Label_ok hX) 1 ?_
  simp only [A_ref20_Label, latV, go_sem, Nat.reduceMod, Nat.reduceBNe, Nat.reduceBEq, Nat.reduceEqDiff, Nat.reduceAdd, Int.reduceAdd, Nat.reduceMul, Nat.reduceSub, Int.reduceToNat, Int.reduceLE, Int.reduceLT, Int.reduceEq, Int.reduceNe, reduceCtorEq, Nat.reduceLT, Nat.reduceLeDiff, Lat.lab]
  refine ⟨fun h => ?_, fun h => ?_⟩
  · simp [h]
  · simp [h]
theorem ev_r_Leq (ns : List (List UInt8)) (up : List UInt8) {x y : Int} (hx : Lat.lab up.length x = true) (hy : Lat.lab up.length y = true) : Ev X F_ref20_Leq [latV ns up, .int .i64 x, .int .i64 y] (.bool (Lat.leI up x y)) := by
  refine ev_of_wpc hs (A_ref20_Leq_ok hX) 1 ?_
  simp only [A_ref20_Leq, latV, go_sem, Nat.reduceMod, Nat.reduceBNe, Nat.reduceBEq, Nat.reduceEqDiff, Nat.reduceAdd, Int.reduceAdd, Nat.reduceMul, Nat.reduceSub, Int.reduceToNat, Int.reduceLE, Int.reduceLT, Int.reduceEq, Int.reduceNe, reduceCtorEq, Nat.reduceLT, Nat.reduceLeDiff]
  refine call_ev (ev_Below hX hs ns up x y) ?_
  simp only [go_sem, Nat.reduceMod, Nat.reduceBNe, Nat.reduceBEq, Nat.reduceEqDiff, Nat.reduceAdd, Int.reduceAdd, Nat.reduceMul, Nat.reduceSub, Int.reduceToNat, Int.reduceLE, Int.reduceLT, Int.reduceEq, Int.reduceNe, reduceCtorEq, Nat.reduceLT, Nat.reduceLeDiff, below_lab hx hy]
theorem ev_r_Low (ns : List (List UInt8)) (up : List UInt8) (hv : Lat.Val ns.length up) : Ev X F_ref20_Low [latV ns up] (.int .i64 (Lat.bot ns.length up : Nat)) := by
  have hl := hv.len
  have h8 := hv.le8
  obtain ⟨k1, k2, k3⟩ := Lat.ff_eq_some.1 (Lat.bot_ff hv)
  refine ev_of_wpc hs (A_ref20_Low_ok hX) 1 ?_
  simp only [A_ref20_Low, latV, go_sem, Nat.reduceMod, Nat.reduceBNe, Nat.reduceBEq, Nat.reduceEqDiff, Nat.reduceAdd, Int.reduceAdd, Nat.reduceMul, Nat.reduceSub, Int.reduceToNat, Int.reduceLE, Int.reduceLT, Int.reduceEq, Int.reduceNe, reduceCtorEq, Nat.reduceLT, Nat.reduceLeDiff]
  refine w_loop' hs.hm (ι := Nat) (fun i => i ≤ ns.length ∧ ∀ j, j < i → (Lat.msk up j == 2 ^ ns.length - 1) = false) (fun i => [(3, .int .i64 i), (1, .ptr 0 0)]) (fun _ => [.box [lst AV.str .ro ns, lst u8 .ro up]]) (fun i => ns.length - i) 0 ?_ fun i hi => ?_
  · simp only [go_sem, Nat.reduceMod, Nat.reduceBNe, Nat.reduceBEq, Nat.reduceEqDiff, Nat.reduceAdd, Int.reduceAdd, Nat.reduceMul, Nat.reduceSub, Int.reduceToNat, Int.reduceLE, Int.reduceLT, Int.reduceEq, Int.reduceNe, reduceCtorEq, Nat.reduceLT, Nat.reduceLeDiff]
    exact ⟨Nat.zero_le _, no_lt0⟩
  · obtain ⟨i1, i2⟩ := hi
    simp only [A_ref20_LowL0, go_sem, Nat.reduceMod, Nat.reduceBNe, Nat.reduceBEq, Nat.reduceEqDiff, Nat.reduceAdd, Int.reduceAdd, Nat.reduceMul, Nat.reduceSub, Int.reduceToNat, Int.reduceLE, Int.reduceLT, Int.reduceEq, Int.reduceNe, reduceCtorEq, Nat.reduceLT, Nat.reduceLeDiff, getD_def, hl]
    have hp : (1 * 2 ^ min ns.length 64 : Int) = ((2 ^ ns.length : Nat) : Int) := by
      rw [Nat.min_eq_left (by omega), Int.one_mul]
      simp
    have hb : 2 ^ ns.length ≤ 2 ^ 8 := Nat.pow_le_pow_right (by decide) h8
    have hq : 0 < 2 ^ ns.length := Nat.pow_pos (by decide)
    have hm := Lat.msk_lt up i
    rw [hp, wi64 (n := ((2 ^ ns.length : Nat) : Int)) (by omega), wi64 (n := ((2 ^ ns.length : Nat) : Int) - 1) (by omega), wi64 (n := (Lat.msk up i : Int)) (by omega)]
    refine ⟨fun c => ⟨⟨by omega, by omega⟩, by omega, fun e => ?_, fun e => nxt1 (by omega) i2 ?_ (by omega)⟩, fun c => ?_⟩
    · have e' : (Lat.msk up i == 2 ^ ns.length - 1) = true := by rw [beq_iff_eq]; omega
      have : i = Lat.bot ns.length up := by
        rcases Nat.lt_trichotomy i (Lat.bot ns.length up) with h | h | h
        · rw [k3 i h] at e'; cases e'
        · exact h
        · rw [i2 _ h] at k2; cases k2
      rw [← this]
    · rw [beq_eq_false_iff_ne]; omega
    · rw [i2 _ (by omega)] at k2; cases k2
end
end Go.Avm

/- The reference: types, their errors, joins. -/
namespace Go.Avm
open Go
section
variable {X : Cx} (hX : X.P = Go.Proofs.Tryz.prog) (hs : Std X)
include hX hs
set_option maxHeartbeats 4000000 in
theorem ev_r_Good (ns : List (List UInt8)) (up : List UInt8) (hv : Lat.Val ns.length up) (t : Lat.Ty) : Ev X F_ref20_Good [latV ns up, tyV t] (.int .i64 (Lat.goodS ns.length up t)) := by
  refine ev_of_wpc hs (A_ref20_Good_ok hX) 1 ?_
  obtain ⟨k, r, a0, a1, d⟩ := t
  by_cases hk : k = 1 ∨ k = 2
  · by_cases hr : 0 ≤ r ∧ r ≤ 2
    · have e2 : ∀ z : Int, (if (k ≠ 1 ∧ k ≠ 2) ∨ r < 0 ∨ 2 < r then (7 : Int) else z) = z := fun z => by rw [if_neg]; omega
      simp only [Lat.goodS, e2]
      clear e2
      obtain ⟨n, rfl⟩ : ∃ n : Nat, r = n := ⟨r.toNat, by omega⟩
      have hn : n ≤ 2 := by omega
      have g0 : ((n : Int) < 0) = False := eq_false (by omega)
      have g2 : ((2 : Int) < n) = False := eq_false (by omega)
      rcases hk with rfl | rfl <;> simp only [A_ref20_Good, latV, tyV, go_sem, Nat.reduceMod, Nat.reduceBNe, Nat.reduceBEq, Nat.reduceEqDiff, Nat.reduceAdd, Int.reduceAdd, Nat.reduceMul, Nat.reduceSub, Int.reduceToNat, Int.reduceLE, Int.reduceLT, Int.reduceEq, Int.reduceNe, reduceCtorEq, Nat.reduceLT, Nat.reduceLeDiff, gt_iff_lt, g0, g2]
      all_goals
        refine call_ev (ev_r_Label hX hs ns up a0) ?_
        cases e0 : Lat.lab ns.length a0
        · simp only [go_sem, Nat.reduceMod, Nat.reduceBNe, Nat.reduceBEq, Nat.reduceEqDiff, Nat.reduceAdd, Int.reduceAdd, Nat.reduceMul, Nat.reduceSub, Int.reduceToNat, Int.reduceLE, Int.reduceLT, Int.reduceEq, Int.reduceNe, reduceCtorEq, Nat.reduceLT, Nat.reduceLeDiff]
        simp only [go_sem, Nat.reduceMod, Nat.reduceBNe, Nat.reduceBEq, Nat.reduceEqDiff, Nat.reduceAdd, Int.reduceAdd, Nat.reduceMul, Nat.reduceSub, Int.reduceToNat, Int.reduceLE, Int.reduceLT, Int.reduceEq, Int.reduceNe, reduceCtorEq, Nat.reduceLT, Nat.reduceLeDiff]
        refine call_ev (ev_r_Label hX hs ns up a1) ?_
        cases e1 : Lat.lab ns.length a1
        · simp only [go_sem, Nat.reduceMod, Nat.reduceBNe, Nat.reduceBEq, Nat.reduceEqDiff, Nat.reduceAdd, Int.reduceAdd, Nat.reduceMul, Nat.reduceSub, Int.reduceToNat, Int.reduceLE, Int.reduceLT, Int.reduceEq, Int.reduceNe, reduceCtorEq, Nat.reduceLT, Nat.reduceLeDiff]
        simp only [go_sem, Nat.reduceMod, Nat.reduceBNe, Nat.reduceBEq, Nat.reduceEqDiff, Nat.reduceAdd, Int.reduceAdd, Nat.reduceMul, Nat.reduceSub, Int.reduceToNat, Int.reduceLE, Int.reduceLT, Int.reduceEq, Int.reduceNe, reduceCtorEq, Nat.reduceLT, Nat.reduceLeDiff]
        refine call_ev (ev_r_Label hX hs ns up d) ?_
        cases e2 : Lat.lab ns.length d
        · simp only [go_sem, Nat.reduceMod, Nat.reduceBNe, Nat.reduceBEq, Nat.reduceEqDiff, Nat.reduceAdd, Int.reduceAdd, Nat.reduceMul, Nat.reduceSub, Int.reduceToNat, Int.reduceLE, Int.reduceLT, Int.reduceEq, Int.reduceNe, reduceCtorEq, Nat.reduceLT, Nat.reduceLeDiff]
        simp only [go_sem, Nat.reduceMod, Nat.reduceBNe, Nat.reduceBEq, Nat.reduceEqDiff, Nat.reduceAdd, Int.reduceAdd, Nat.reduceMul, Nat.reduceSub, Int.reduceToNat, Int.reduceLE, Int.reduceLT, Int.reduceEq, Int.reduceNe, reduceCtorEq, Nat.reduceLT, Nat.reduceLeDiff, Bool.true_eq_false]
        have l0 : Lat.lab up.length a0 = true := by rw [hv.len]; exact e0
        have l1 : Lat.lab up.length a1 = true := by rw [hv.len]; exact e1
        have ld : Lat.lab up.length d = true := by rw [hv.len]; exact e2
      · refine w_loop' hs.hm (ι := Nat) (fun i => n ≤ i ∧ i ≤ 2 ∧ (n = 0 → 1 ≤ i → a0 = Lat.bot ns.length up) ∧ (n ≤ 1 → 2 ≤ i → a1 = Lat.bot ns.length up)) (fun i => [(5, .int .i64 i), (2, .ptr 0 0), (3, .ptr 1 0)]) (fun _ => [.box [lst AV.str .ro ns, lst u8 .ro up], .box [.int .i64 1, .int .i64 n, .int .i64 a0, .int .i64 a1, .int .i64 d]]) (fun i => 2 - i) n ?_ fun i hi => ?_
        · simp only [go_sem, Nat.reduceMod, Nat.reduceBNe, Nat.reduceBEq, Nat.reduceEqDiff, Nat.reduceAdd, Int.reduceAdd, Nat.reduceMul, Nat.reduceSub, Int.reduceToNat, Int.reduceLE, Int.reduceLT, Int.reduceEq, Int.reduceNe, reduceCtorEq, Nat.reduceLT, Nat.reduceLeDiff]
          exact ⟨hn, fun h1 h2 => absurd h2 (by omega), fun h1 h2 => absurd h2 (by omega)⟩
        · obtain ⟨i1, i2, i3, i4⟩ := hi
          simp only [A_ref20_GoodL0, go_sem, Nat.reduceMod, Nat.reduceBNe, Nat.reduceBEq, Nat.reduceEqDiff, Nat.reduceAdd, Int.reduceAdd, Nat.reduceMul, Nat.reduceSub, Int.reduceToNat, Int.reduceLE, Int.reduceLT, Int.reduceEq, Int.reduceNe, reduceCtorEq, Nat.reduceLT, Nat.reduceLeDiff]
          refine ⟨fun c => ⟨by omega, by omega, callq_ev (ev_r_Low hX hs ns up hv) ?_⟩, fun c => ?_⟩
          · have : i = 0 ∨ i = 1 := by omega
            rcases this with rfl | rfl
            · simp only [go_sem, Nat.reduceMod, Nat.reduceBNe, Nat.reduceBEq, Nat.reduceEqDiff, Nat.reduceAdd, Int.reduceAdd, Nat.reduceMul, Nat.reduceSub, Int.reduceToNat, Int.reduceLE, Int.reduceLT, Int.reduceEq, Int.reduceNe, reduceCtorEq, Nat.reduceLT, Nat.reduceLeDiff]
              refine ⟨fun e => ?_, fun e => ⟨1, by omega, ⟨by omega, by omega, fun _ _ => e, fun _ h => absurd h (by omega)⟩, rfl⟩⟩
              rw [if_pos (.inl ⟨by omega, e⟩)]
            · simp only [go_sem, Nat.reduceMod, Nat.reduceBNe, Nat.reduceBEq, Nat.reduceEqDiff, Nat.reduceAdd, Int.reduceAdd, Nat.reduceMul, Nat.reduceSub, Int.reduceToNat, Int.reduceLE, Int.reduceLT, Int.reduceEq, Int.reduceNe, reduceCtorEq, Nat.reduceLT, Nat.reduceLeDiff]
              refine ⟨fun e => ?_, fun e => ⟨2, by omega, ⟨by omega, by omega, fun h _ => i3 h (by omega), fun _ _ => e⟩, rfl⟩⟩
              rw [if_pos (.inr ⟨by omega, e⟩)]
          · have b0 := fun h => i3 h (by omega)
            have b1 := fun h => i4 h (by omega)
            rw [if_neg (by rintro (⟨h1, h2⟩ | ⟨h1, h2⟩); exact h2 (b0 (by omega)); exact h2 (b1 (by omega)))]
            refine w_loop' hs.hm (ι := Nat) (fun i => i ≤ n ∧ (1 ≤ i → Lat.leI up a0 d = true) ∧ (2 ≤ i → Lat.leI up a1 d = true)) (fun i => [(6, .int .i64 i), (2, .ptr 0 0), (3, .ptr 1 0)]) (fun _ => [.box [lst AV.str .ro ns, lst u8 .ro up], .box [.int .i64 1, .int .i64 n, .int .i64 a0, .int .i64 a1, .int .i64 d]]) (fun i => n - i) 0 ?_ fun i hi => ?_
            · simp only [go_sem, Nat.reduceMod, Nat.reduceBNe, Nat.reduceBEq, Nat.reduceEqDiff, Nat.reduceAdd, Int.reduceAdd, Nat.reduceMul, Nat.reduceSub, Int.reduceToNat, Int.reduceLE, Int.reduceLT, Int.reduceEq, Int.reduceNe, reduceCtorEq, Nat.reduceLT, Nat.reduceLeDiff]
              exact Nat.zero_le _
            · obtain ⟨j1, j2, j3⟩ := hi
              simp only [A_ref20_GoodL1, go_sem, Nat.reduceMod, Nat.reduceBNe, Nat.reduceBEq, Nat.reduceEqDiff, Nat.reduceAdd, Int.reduceAdd, Nat.reduceMul, Nat.reduceSub, Int.reduceToNat, Int.reduceLE, Int.reduceLT, Int.reduceEq, Int.reduceNe, reduceCtorEq, Nat.reduceLT, Nat.reduceLeDiff]
              refine ⟨fun c => ⟨by omega, by omega, ?_⟩, fun c => ?_⟩
              · have : i = 0 ∨ i = 1 := by omega
                rcases this with rfl | rfl
                · simp only [go_sem, Nat.reduceMod, Nat.reduceBNe, Nat.reduceBEq, Nat.reduceEqDiff, Nat.reduceAdd, Int.reduceAdd, Nat.reduceMul, Nat.reduceSub, Int.reduceToNat, Int.reduceLE, Int.reduceLT, Int.reduceEq, Int.reduceNe, reduceCtorEq, Nat.reduceLT, Nat.reduceLeDiff]
                  refine callq_ev (ev_r_Leq hX hs ns up l0 ld) ?_
                  cases e : Lat.leI up a0 d with
                  | true =>
                    simp only [go_sem, Nat.reduceMod, Nat.reduceBNe, Nat.reduceBEq, Nat.reduceEqDiff, Nat.reduceAdd, Int.reduceAdd, Nat.reduceMul, Nat.reduceSub, Int.reduceToNat, Int.reduceLE, Int.reduceLT, Int.reduceEq, Int.reduceNe, reduceCtorEq, Nat.reduceLT, Nat.reduceLeDiff]
                    exact ⟨1, by omega, ⟨by omega, fun h => absurd h (by omega)⟩, rfl⟩
                  | false =>
                    simp only [go_sem, Nat.reduceMod, Nat.reduceBNe, Nat.reduceBEq, Nat.reduceEqDiff, Nat.reduceAdd, Int.reduceAdd, Nat.reduceMul, Nat.reduceSub, Int.reduceToNat, Int.reduceLE, Int.reduceLT, Int.reduceEq, Int.reduceNe, reduceCtorEq, Nat.reduceLT, Nat.reduceLeDiff]
                    rw [if_pos (.inl (by omega))]
                · simp only [go_sem, Nat.reduceMod, Nat.reduceBNe, Nat.reduceBEq, Nat.reduceEqDiff, Nat.reduceAdd, Int.reduceAdd, Nat.reduceMul, Nat.reduceSub, Int.reduceToNat, Int.reduceLE, Int.reduceLT, Int.reduceEq, Int.reduceNe, reduceCtorEq, Nat.reduceLT, Nat.reduceLeDiff]
                  refine callq_ev (ev_r_Leq hX hs ns up l1 ld) ?_
                  cases e : Lat.leI up a1 d with
                  | true =>
                    simp only [go_sem, Nat.reduceMod, Nat.reduceBNe, Nat.reduceBEq, Nat.reduceEqDiff, Nat.reduceAdd, Int.reduceAdd, Nat.reduceMul, Nat.reduceSub, Int.reduceToNat, Int.reduceLE, Int.reduceLT, Int.reduceEq, Int.reduceNe, reduceCtorEq, Nat.reduceLT, Nat.reduceLeDiff]
                    exact ⟨2, by omega, ⟨by omega, fun _ => j2 (by omega)⟩, rfl⟩
                  | false =>
                    simp only [go_sem, Nat.reduceMod, Nat.reduceBNe, Nat.reduceBEq, Nat.reduceEqDiff, Nat.reduceAdd, Int.reduceAdd, Nat.reduceMul, Nat.reduceSub, Int.reduceToNat, Int.reduceLE, Int.reduceLT, Int.reduceEq, Int.reduceNe, reduceCtorEq, Nat.reduceLT, Nat.reduceLeDiff]
                    rw [if_pos (.inr (by omega))]
              · rw [if_neg]
                rintro (⟨h1, h2⟩ | ⟨h1, h2⟩)
                · rw [j2 (by omega)] at h2; cases h2
                · rw [j3 (by omega)] at h2; cases h2
      · refine w_loop' hs.hm (ι := Nat) (fun i => n ≤ i ∧ i ≤ 2 ∧ (n = 0 → 1 ≤ i → a0 = Lat.bot ns.length up) ∧ (n ≤ 1 → 2 ≤ i → a1 = Lat.bot ns.length up)) (fun i => [(5, .int .i64 i), (2, .ptr 0 0), (3, .ptr 1 0)]) (fun _ => [.box [lst AV.str .ro ns, lst u8 .ro up], .box [.int .i64 2, .int .i64 n, .int .i64 a0, .int .i64 a1, .int .i64 d]]) (fun i => 2 - i) n ?_ fun i hi => ?_
        · simp only [go_sem, Nat.reduceMod, Nat.reduceBNe, Nat.reduceBEq, Nat.reduceEqDiff, Nat.reduceAdd, Int.reduceAdd, Nat.reduceMul, Nat.reduceSub, Int.reduceToNat, Int.reduceLE, Int.reduceLT, Int.reduceEq, Int.reduceNe, reduceCtorEq, Nat.reduceLT, Nat.reduceLeDiff]
          exact ⟨hn, fun h1 h2 => absurd h2 (by omega), fun h1 h2 => absurd h2 (by omega)⟩
        · obtain ⟨i1, i2, i3, i4⟩ := hi
          simp only [A_ref20_GoodL0, go_sem, Nat.reduceMod, Nat.reduceBNe, Nat.reduceBEq, Nat.reduceEqDiff, Nat.reduceAdd, Int.reduceAdd, Nat.reduceMul, Nat.reduceSub, Int.reduceToNat, Int.reduceLE, Int.reduceLT, Int.reduceEq, Int.reduceNe, reduceCtorEq, Nat.reduceLT, Nat.reduceLeDiff]
          refine ⟨fun c => ⟨by omega, by omega, callq_ev (ev_r_Low hX hs ns up hv) ?_⟩, fun c => ?_⟩
          · have : i = 0 ∨ i = 1 := by omega
            rcases this with rfl | rfl
            · simp only [go_sem, Nat.reduceMod, Nat.reduceBNe, Nat.reduceBEq, Nat.reduceEqDiff, Nat.reduceAdd, Int.reduceAdd, Nat.reduceMul, Nat.reduceSub, Int.reduceToNat, Int.reduceLE, Int.reduceLT, Int.reduceEq, Int.reduceNe, reduceCtorEq, Nat.reduceLT, Nat.reduceLeDiff]
              refine ⟨fun e => ?_, fun e => ⟨1, by omega, ⟨by omega, by omega, fun _ _ => e, fun _ h => absurd h (by omega)⟩, rfl⟩⟩
              rw [if_pos (.inl ⟨by omega, e⟩)]
            · simp only [go_sem, Nat.reduceMod, Nat.reduceBNe, Nat.reduceBEq, Nat.reduceEqDiff, Nat.reduceAdd, Int.reduceAdd, Nat.reduceMul, Nat.reduceSub, Int.reduceToNat, Int.reduceLE, Int.reduceLT, Int.reduceEq, Int.reduceNe, reduceCtorEq, Nat.reduceLT, Nat.reduceLeDiff]
              refine ⟨fun e => ?_, fun e => ⟨2, by omega, ⟨by omega, by omega, fun h _ => i3 h (by omega), fun _ _ => e⟩, rfl⟩⟩
              rw [if_pos (.inr ⟨by omega, e⟩)]
          · have b0 := fun h => i3 h (by omega)
            have b1 := fun h => i4 h (by omega)
            rw [if_neg (by rintro (⟨h1, h2⟩ | ⟨h1, h2⟩); exact h2 (b0 (by omega)); exact h2 (b1 (by omega)))]
            refine w_loop' hs.hm (ι := Nat) (fun i => i ≤ n ∧ (1 ≤ i → Lat.leI up a0 d = true) ∧ (2 ≤ i → Lat.leI up a1 d = true)) (fun i => [(6, .int .i64 i), (2, .ptr 0 0), (3, .ptr 1 0)]) (fun _ => [.box [lst AV.str .ro ns, lst u8 .ro up], .box [.int .i64 2, .int .i64 n, .int .i64 a0, .int .i64 a1, .int .i64 d]]) (fun i => n - i) 0 ?_ fun i hi => ?_
            · simp only [go_sem, Nat.reduceMod, Nat.reduceBNe, Nat.reduceBEq, Nat.reduceEqDiff, Nat.reduceAdd, Int.reduceAdd, Nat.reduceMul, Nat.reduceSub, Int.reduceToNat, Int.reduceLE, Int.reduceLT, Int.reduceEq, Int.reduceNe, reduceCtorEq, Nat.reduceLT, Nat.reduceLeDiff]
              exact Nat.zero_le _
            · obtain ⟨j1, j2, j3⟩ := hi
              simp only [A_ref20_GoodL1, go_sem, Nat.reduceMod, Nat.reduceBNe, Nat.reduceBEq, Nat.reduceEqDiff, Nat.reduceAdd, Int.reduceAdd, Nat.reduceMul, Nat.reduceSub, Int.reduceToNat, Int.reduceLE, Int.reduceLT, Int.reduceEq, Int.reduceNe, reduceCtorEq, Nat.reduceLT, Nat.reduceLeDiff]
              refine ⟨fun c => ⟨by omega, by omega, ?_⟩, fun c => ?_⟩
              · have : i = 0 ∨ i = 1 := by omega
                rcases this with rfl | rfl
                · simp only [go_sem, Nat.reduceMod, Nat.reduceBNe, Nat.reduceBEq, Nat.reduceEqDiff, Nat.reduceAdd, Int.reduceAdd, Nat.reduceMul, Nat.reduceSub, Int.reduceToNat, Int.reduceLE, Int.reduceLT, Int.reduceEq, Int.reduceNe, reduceCtorEq, Nat.reduceLT, Nat.reduceLeDiff]
                  refine callq_ev (ev_r_Leq hX hs ns up l0 ld) ?_
                  cases e : Lat.leI up a0 d with
                  | true =>
                    simp only [go_sem, Nat.reduceMod, Nat.reduceBNe, Nat.reduceBEq, Nat.reduceEqDiff, Nat.reduceAdd, Int.reduceAdd, Nat.reduceMul, Nat.reduceSub, Int.reduceToNat, Int.reduceLE, Int.reduceLT, Int.reduceEq, Int.reduceNe, reduceCtorEq, Nat.reduceLT, Nat.reduceLeDiff]
                    exact ⟨1, by omega, ⟨by omega, fun h => absurd h (by omega)⟩, rfl⟩
                  | false =>
                    simp only [go_sem, Nat.reduceMod, Nat.reduceBNe, Nat.reduceBEq, Nat.reduceEqDiff, Nat.reduceAdd, Int.reduceAdd, Nat.reduceMul, Nat.reduceSub, Int.reduceToNat, Int.reduceLE, Int.reduceLT, Int.reduceEq, Int.reduceNe, reduceCtorEq, Nat.reduceLT, Nat.reduceLeDiff]
                    rw [if_pos (.inl (by omega))]
                · simp only [go_sem, Nat.reduceMod, Nat.reduceBNe, Nat.reduceBEq, Nat.reduceEqDiff, Nat.reduceAdd, Int.reduceAdd, Nat.reduceMul, Nat.reduceSub, Int.reduceToNat, Int.reduceLE, Int.reduceLT, Int.reduceEq, Int.reduceNe, reduceCtorEq, Nat.reduceLT, Nat.reduceLeDiff]
                  refine callq_ev (ev_r_Leq hX hs ns up l1 ld) ?_
                  cases e : Lat.leI up a1 d with
                  | true =>
                    simp only [go_sem, Nat.reduceMod, Nat.reduceBNe, Nat.reduceBEq, Nat.reduceEqDiff, Nat.reduceAdd, Int.reduceAdd, Nat.reduceMul, Nat.reduceSub, Int.reduceToNat, Int.reduceLE, Int.reduceLT, Int.reduceEq, Int.reduceNe, reduceCtorEq, Nat.reduceLT, Nat.reduceLeDiff]
                    exact ⟨2, by omega, ⟨by omega, fun _ => j2 (by omega)⟩, rfl⟩
                  | false =>
                    simp only [go_sem, Nat.reduceMod, Nat.reduceBNe, Nat.reduceBEq, Nat.reduceEqDiff, Nat.reduceAdd, Int.reduceAdd, Nat.reduceMul, Nat.reduceSub, Int.reduceToNat, Int.reduceLE, Int.reduceLT, Int.reduceEq, Int.reduceNe, reduceCtorEq, Nat.reduceLT, Nat.reduceLeDiff]
                    rw [if_pos (.inr (by omega))]
              · rw [if_neg]
                rintro (⟨h1, h2⟩ | ⟨h1, h2⟩)
                · rw [j2 (by omega)] at h2; cases h2
                · rw [j3 (by omega)] at h2; cases h2
    · have e : Lat.goodS ns.length up ⟨k, r, a0, a1, d⟩ = 7 := if_pos (by simp only; omega)
      rw [e]
      have h1 : (r < 0) = True ∨ ((r < 0) = False ∧ (2 < r) = True) := by
        by_cases h : r < 0
        · exact .inl (eq_true h)
        · exact .inr ⟨eq_false h, eq_true (by omega)⟩
      rcases hk with rfl | rfl <;> rcases h1 with h1 | ⟨h1, h2⟩ <;> simp only [A_ref20_Good, latV, tyV, go_sem, Nat.reduceMod, Nat.reduceBNe, Nat.reduceBEq, Nat.reduceEqDiff, Nat.reduceAdd, Int.reduceAdd, Nat.reduceMul, Nat.reduceSub, Int.reduceToNat, Int.reduceLE, Int.reduceLT, Int.reduceEq, Int.reduceNe, reduceCtorEq, Nat.reduceLT, Nat.reduceLeDiff, h1, gt_iff_lt, *]
  · have e : Lat.goodS ns.length up ⟨k, r, a0, a1, d⟩ = 7 := if_pos (by simp only; omega)
    rw [e]
    have h1 : (k = 1) = False := eq_false (by omega)
    have h2 : (k = 2) = False := eq_false (by omega)
    simp only [A_ref20_Good, latV, tyV, go_sem, Nat.reduceMod, Nat.reduceBNe, Nat.reduceBEq, Nat.reduceEqDiff, Nat.reduceAdd, Int.reduceAdd, Nat.reduceMul, Nat.reduceSub, Int.reduceToNat, Int.reduceLE, Int.reduceLT, Int.reduceEq, Int.reduceNe, reduceCtorEq, Nat.reduceLT, Nat.reduceLeDiff, h1, h2]
theorem ev_r_Check (ns : List (List UInt8)) (up : List UInt8) (t : Lat.Ty) : Ev X F_ref20_Check [latV ns up, tyV t] (.int .i64 (Lat.tyS ns up t)) := by
  refine ev_of_wpc hs (A_ref20_Check_ok hX) 1 ?_
  simp only [A_ref20_Check, latV, tyV, go_sem, Nat.reduceMod, Nat.reduceBNe, Nat.reduceBEq, Nat.reduceEqDiff, Nat.reduceAdd, Int.reduceAdd, Nat.reduceMul, Nat.reduceSub, Int.reduceToNat, Int.reduceLE, Int.reduceLT, Int.reduceEq, Int.reduceNe, reduceCtorEq, Nat.reduceLT, Nat.reduceLeDiff]
  refine call_ev (ev_rCheck hX hs ns up) ?_
  by_cases h : (Lat.checkS ns up).2 = 0
  · simp only [h, go_sem, Nat.reduceMod, Nat.reduceBNe, Nat.reduceBEq, Nat.reduceEqDiff, Nat.reduceAdd, Int.reduceAdd, Nat.reduceMul, Nat.reduceSub, Int.reduceToNat, Int.reduceLE, Int.reduceLT, Int.reduceEq, Int.reduceNe, reduceCtorEq, Nat.reduceLT, Nat.reduceLeDiff, tyS_2 h]
    refine call_ev (ev_r_Good hX hs ns up (Lat.checkS_val h).2 t) ?_
    simp only [go_sem, Nat.reduceMod, Nat.reduceBNe, Nat.reduceBEq, Nat.reduceEqDiff, Nat.reduceAdd, Int.reduceAdd, Nat.reduceMul, Nat.reduceSub, Int.reduceToNat, Int.reduceLE, Int.reduceLT, Int.reduceEq, Int.reduceNe, reduceCtorEq, Nat.reduceLT, Nat.reduceLeDiff]
  · simp only [h, go_sem, Nat.reduceMod, Nat.reduceBNe, Nat.reduceBEq, Nat.reduceEqDiff, Nat.reduceAdd, Int.reduceAdd, Nat.reduceMul, Nat.reduceSub, Int.reduceToNat, Int.reduceLE, Int.reduceLT, Int.reduceEq, Int.reduceNe, reduceCtorEq, Nat.reduceLT, Nat.reduceLeDiff, tyS_1 h]
end
end Go.Avm

/- The program: the text of a type. -/
namespace Go.Lat
def nmI (ns : List (List UInt8)) (a : Int) : List UInt8 := ns.getD a.toNat []
end Go.Lat
namespace Go.Avm
open Go
section
variable {X : Cx} (hX : X.P = Go.Proofs.Tryz.prog) (hs : Std X)
include hX hs
theorem ev_names : Ev X F_types_names [] (.agg [.str [], .str [105, 110, 116], .str [99, 104, 97, 114]]) := by
  refine ev_of_wpc hs (A_types_names_ok hX) 1 ?_
  simp only [A_types_names, go_sem, Nat.reduceMod, Nat.reduceBNe, Nat.reduceBEq, Nat.reduceEqDiff, Nat.reduceAdd, Int.reduceAdd, Nat.reduceMul, Nat.reduceSub, Int.reduceToNat, Int.reduceLE, Int.reduceLT, Int.reduceEq, Int.reduceNe, reduceCtorEq, Nat.reduceLT, Nat.reduceLeDiff]
theorem ev_prt1 (ns : List (List UInt8)) (up : List UInt8) (T j1 j2 : List AV) (s : List UInt8) (hsl : s.length ≤ 1000000) (hnl : ∀ x ∈ ns, x.length ≤ 1000000) (a : Int) (ha : Lat.lab ns.length a = true) : EvM X F_types_Print_1 [.int .i64 a, .ptr 3 0, .ptr 0 0]
    [.box [lst AV.str .ro ns, lst u8 .ro up], .box T, .tok s.length, .box [lst u8 (.tok 2 1) s], .box j1, .box j2]
    (fun r H' => r = .int .i64 a ∧ H' = [.box [lst AV.str .ro ns, lst u8 .ro up], .box T, .tok (s ++ 32 :: Lat.nmI ns a).length, .box [lst u8 (.tok 2 1) (s ++ 32 :: Lat.nmI ns a)], .box j1, .box j2]) := by
  obtain ⟨a, rfl, ha'⟩ := Lat.lab_nat ha
  refine evM_of_wpc hs (A_types_Print_1_ok hX) ?_
  simp only [A_types_Print_1, go_sem, Nat.reduceMod, Nat.reduceBNe, Nat.reduceBEq, Nat.reduceEqDiff, Nat.reduceAdd, Int.reduceAdd, Nat.reduceMul, Nat.reduceSub, Int.reduceToNat, Int.reduceLE, Int.reduceLT, Int.reduceEq, Int.reduceNe, reduceCtorEq, Nat.reduceLT, Nat.reduceLeDiff]
  rw [show (some [AV.int .u8 32]) = some (([32] : List UInt8).map u8) from rfl, ax_tok]
  simp only [go_sem, Nat.reduceMod, Nat.reduceBNe, Nat.reduceBEq, Nat.reduceEqDiff, Nat.reduceAdd, Int.reduceAdd, Nat.reduceMul, Nat.reduceSub, Int.reduceToNat, Int.reduceLE, Int.reduceLT, Int.reduceEq, Int.reduceNe, reduceCtorEq, Nat.reduceLT, Nat.reduceLeDiff]
  have e1 : ns.getD a default = Lat.nmI ns a := by simp only [Lat.nmI, Int.toNat_natCast]; rfl
  have h1 : (Lat.nmI ns a).length ≤ 1000000 := by
    rw [← e1, List.getD_eq_getElem?_getD, List.getElem?_eq_getElem ha']
    exact hnl _ (List.getElem_mem _)
  rw [e1]
  have e2 : (s ++ [32]).length = s.length + 1 := by simp
  rw [e2]
  refine ⟨by omega, by omega, by omega, ?_⟩
  simp [Nat.add_assoc, Nat.add_comm]
theorem ev_each_prt (ns : List (List UInt8)) (up : List UInt8) (T : List AV) (t : Lat.Ty) (g : Lat.Good ns.length up t) (s : List UInt8) (hsl : s.length ≤ 100) (hnl : ∀ x ∈ ns, x.length ≤ 100) : EvM X F_types_each [tyV t, .clo F_types_Print_1 [] [.ptr 3 0, .ptr 0 0]]
    [.box [lst AV.str .ro ns, lst u8 .ro up], .box T, .tok s.length, .box [lst u8 (.tok 2 1) s]]
    (fun _ H' => ∃ j1 j2 s', s' = s ++ (if 1 ≤ t.r then 32 :: Lat.nmI ns t.a0 else []) ++ (if 2 ≤ t.r then 32 :: Lat.nmI ns t.a1 else []) ++ 32 :: Lat.nmI ns t.d ∧ H' = [.box [lst AV.str .ro ns, lst u8 .ro up], .box T, .tok s'.length, .box [lst u8 (.tok 2 1) s'], .box j1, .box j2]) := by
  obtain ⟨k, r, a0, a1, d⟩ := t
  obtain ⟨n, rfl⟩ : ∃ n : Nat, r = n := ⟨r.toNat, by have := g.r; simp only at this; omega⟩
  have hn : n ≤ 2 := by have := g.r; simp only at this; omega
  have l0 := g.l0
  have l1 := g.l1
  have ld := g.ld
  simp only at l0 l1 ld
  have hnl' : ∀ x ∈ ns, x.length ≤ 1000000 := fun x hx => Nat.le_trans (hnl x hx) (by decide)
  have hnm : ∀ a : Int, Lat.lab ns.length a = true → (Lat.nmI ns a).length ≤ 100 := fun a ha => by
    obtain ⟨a, rfl, ha'⟩ := Lat.lab_nat ha
    have e1 : Lat.nmI ns (a : Int) = ns.getD a [] := by simp [Lat.nmI]
    rw [e1, List.getD_eq_getElem?_getD, List.getElem?_eq_getElem ha']
    exact hnl _ (List.getElem_mem _)
  have m0 := hnm a0 l0
  have m1 := hnm a1 l1
  have md := hnm d ld
  refine evM_of_wpc hs (A_types_each_ok hX) ?_
  simp only [A_types_each, tyV, go_sem, Nat.reduceMod, Nat.reduceBNe, Nat.reduceBEq, Nat.reduceEqDiff, Nat.reduceAdd, Int.reduceAdd, Nat.reduceMul, Nat.reduceSub, Int.reduceToNat, Int.reduceLE, Int.reduceLT, Int.reduceEq, Int.reduceNe, reduceCtorEq, Nat.reduceLT, Nat.reduceLeDiff]
  refine w_loop' hs.hm (ι := Nat) (fun i => i ≤ n) (fun i => [(8, .int .i64 i), (7, .int .i64 n), (1, .clo F_types_Print_1 [] [.ptr 3 0, .ptr 0 0]), (2, .ptr 4 0), (4, .ptr 5 0)])
    (fun i => [.box [lst AV.str .ro ns, lst u8 .ro up], .box T, .tok (s ++ (if 1 ≤ i then 32 :: Lat.nmI ns a0 else []) ++ (if 2 ≤ i then 32 :: Lat.nmI ns a1 else [])).length, .box [lst u8 (.tok 2 1) (s ++ (if 1 ≤ i then 32 :: Lat.nmI ns a0 else []) ++ (if 2 ≤ i then 32 :: Lat.nmI ns a1 else []))],
      .box [.int .i64 k, .int .i64 n, .int .i64 a0, .int .i64 a1, .int .i64 d], .box [.int .i64 0, .int .i64 0, .int .i64 0, .int .i64 0, .int .i64 0]]) (fun i => n - i) 0 ?_ fun i hi => ?_
  · simp only [go_sem, Nat.reduceMod, Nat.reduceBNe, Nat.reduceBEq, Nat.reduceEqDiff, Nat.reduceAdd, Int.reduceAdd, Nat.reduceMul, Nat.reduceSub, Int.reduceToNat, Int.reduceLE, Int.reduceLT, Int.reduceEq, Int.reduceNe, reduceCtorEq, Nat.reduceLT, Nat.reduceLeDiff, Nat.not_succ_le_zero, if_false, List.append_nil]
    exact Nat.zero_le _
  · simp only [A_types_eachL0, go_sem, Nat.reduceMod, Nat.reduceBNe, Nat.reduceBEq, Nat.reduceEqDiff, Nat.reduceAdd, Int.reduceAdd, Nat.reduceMul, Nat.reduceSub, Int.reduceToNat, Int.reduceLE, Int.reduceLT, Int.reduceEq, Int.reduceNe, reduceCtorEq, Nat.reduceLT, Nat.reduceLeDiff]
    refine ⟨fun c => ?_, fun c => ?_⟩
    · have : i = 0 ∨ i = 1 := by omega
      rcases this with rfl | rfl
      · simp only [go_sem, Nat.reduceMod, Nat.reduceBNe, Nat.reduceBEq, Nat.reduceEqDiff, Nat.reduceAdd, Int.reduceAdd, Nat.reduceMul, Nat.reduceSub, Int.reduceToNat, Int.reduceLE, Int.reduceLT, Int.reduceEq, Int.reduceNe, reduceCtorEq, Nat.reduceLT, Nat.reduceLeDiff, Nat.not_succ_le_zero, if_false, List.append_nil, Nat.le_refl, if_true]
        refine call_evm (ev_prt1 hX hs ns up T _ _ _ (by omega) hnl' a0 l0) ?_
        rintro r H' ⟨rfl, rfl⟩
        simp only [go_sem, Nat.reduceMod, Nat.reduceBNe, Nat.reduceBEq, Nat.reduceEqDiff, Nat.reduceAdd, Int.reduceAdd, Nat.reduceMul, Nat.reduceSub, Int.reduceToNat, Int.reduceLE, Int.reduceLT, Int.reduceEq, Int.reduceNe, reduceCtorEq, Nat.reduceLT, Nat.reduceLeDiff]
        exact ⟨1, by omega, by omega, rfl, by simp⟩
      · simp only [go_sem, Nat.reduceMod, Nat.reduceBNe, Nat.reduceBEq, Nat.reduceEqDiff, Nat.reduceAdd, Int.reduceAdd, Nat.reduceMul, Nat.reduceSub, Int.reduceToNat, Int.reduceLE, Int.reduceLT, Int.reduceEq, Int.reduceNe, reduceCtorEq, Nat.reduceLT, Nat.reduceLeDiff, Nat.not_succ_le_zero, if_false, List.append_nil, Nat.le_refl, if_true]
        refine call_evm (ev_prt1 hX hs ns up T _ _ _ (by simp only [List.length_append, List.length_cons]; omega) hnl' a1 l1) ?_
        rintro r H' ⟨rfl, rfl⟩
        simp only [go_sem, Nat.reduceMod, Nat.reduceBNe, Nat.reduceBEq, Nat.reduceEqDiff, Nat.reduceAdd, Int.reduceAdd, Nat.reduceMul, Nat.reduceSub, Int.reduceToNat, Int.reduceLE, Int.reduceLT, Int.reduceEq, Int.reduceNe, reduceCtorEq, Nat.reduceLT, Nat.reduceLeDiff]
        exact ⟨2, by omega, by omega, rfl, by simp⟩
    · obtain rfl : i = n := by omega
      refine call_evm (ev_prt1 hX hs ns up T _ _ _ ?_ hnl' d ld) ?_
      · simp only [List.length_append]
        split <;> split <;> simp only [List.length_cons, List.length_nil] <;> omega
      · rintro r H' ⟨rfl, rfl⟩
        simp only [go_sem, Nat.reduceMod, Nat.reduceBNe, Nat.reduceBEq, Nat.reduceEqDiff, Nat.reduceAdd, Int.reduceAdd, Nat.reduceMul, Nat.reduceSub, Int.reduceToNat, Int.reduceLE, Int.reduceLT, Int.reduceEq, Int.reduceNe, reduceCtorEq, Nat.reduceLT, Nat.reduceLeDiff]
        have e1 : (1 ≤ (i : Int)) = (1 ≤ i) := by rw [eq_iff_iff]; omega
        have e2 : (2 ≤ (i : Int)) = (2 ≤ i) := by rw [eq_iff_iff]; omega
        simp only [e1, e2]
        exact ⟨_, _, _, rfl, rfl⟩
end
end Go.Avm
