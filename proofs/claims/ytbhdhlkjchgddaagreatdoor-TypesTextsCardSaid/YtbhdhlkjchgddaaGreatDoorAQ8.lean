/- The reference: quoted forms, decimal forms. -/
import Derived.Test.YtbhdhlkjchgddaaGreatDoorAQ7
import Derived.Test.YtbhdhlkjchgddaaGreatDoorM2
set_option linter.unusedSectionVars false
set_option linter.unusedSimpArgs false
set_option linter.unusedVariables false

/- The reference: quoted forms, decimal forms. -/
namespace Go.Avm
open Go
theorem piece_eq (s : List UInt8) (i m : Nat) : (s.take (i + m)).drop i = (s.drop i).take m := by
  rw [List.drop_take, Nat.add_sub_cancel_left]
theorem esc_no {s : List UInt8} {i : Nat} {c : UInt8} (h : Wo.step (s.drop i) = none) : ¬ (s.drop i).take (Wo.escB c).length = Wo.escB c := fun e => by
  rw [Wo.step_only e] at h; cases h
theorem esc_one {s : List UInt8} {i : Nat} {c x : UInt8} {k : Nat} (h : Wo.step (s.drop i) = some (x, k)) : (s.drop i).take (Wo.escB c).length = Wo.escB c ↔ c = x := by
  constructor
  · intro e
    rw [Wo.step_only e] at h
    injection h with h
    injection h
  · rintro rfl
    exact (Wo.step_here h).2
set_option maxRecDepth 10000
section
variable {X : Cx} (hX : X.P = Go.Proofs.Tryz.prog) (hs : Std X)
include hX hs
theorem ev_rdecimal (s : List UInt8) (hl : s.length < 1000000) : Ev X F_ref01_decimal [.str s] (.bool (Wo.decS s)) := by
  refine ev_of_xa hs (A_ref01_decimal_ok hX) 0 ?_
  simp only [A_ref01_decimal]
  refine xa_cut hs.hm ?_
  simp only [go_sem, Nat.reduceMod, Nat.reduceBNe, Nat.reduceBEq, Nat.reduceEqDiff, Nat.reduceAdd, Int.reduceAdd, Nat.reduceMul, Nat.reduceSub, Int.reduceToNat, Int.reduceLE, Int.reduceLT, Int.reduceEq, Int.reduceNe, reduceCtorEq, Nat.reduceLT, Nat.reduceLeDiff]
  refine xa_join hs.hm [(0, .str (Wo.rmg s))] (H1 := []) ?_ ?_
  · simp only [go_sem, Nat.reduceMod, Nat.reduceBNe, Nat.reduceBEq, Nat.reduceEqDiff, Nat.reduceAdd, Int.reduceAdd, Nat.reduceMul, Nat.reduceSub, Int.reduceToNat, Int.reduceLE, Int.reduceLT, Int.reduceEq, Int.reduceNe, reduceCtorEq, Nat.reduceLT, Nat.reduceLeDiff, List.take_length]
    have e0 : ∀ (h : ¬ (1 < s.length ∧ s.getD 0 0 = 45 ∧ ¬ s.getD 1 0 = 48)), AV.str s = AV.str (Wo.rmg s) := fun h => by rw [Wo.rmg, if_neg h]
    refine ⟨fun h1 => ⟨by omega, fun h2 => ⟨h1, fun h3 => ⟨by omega, ?_⟩, fun h3 => e0 fun h => h.2.2 ((u8_lit (b := 48) rfl).1 h3)⟩, fun h2 => e0 fun h => h2 ((u8_lit (b := 45) rfl).2 h.2.1)⟩, fun h1 => e0 fun h => by omega⟩
    rw [Wo.rmg, if_pos ⟨by omega, (u8_lit (b := 45) rfl).1 h2, fun h => h3 ((u8_lit (b := 48) rfl).2 h)⟩]
  have hrl : (Wo.rmg s).length ≤ s.length := by
    unfold Wo.rmg
    split
    · rw [List.length_drop]; omega
    · exact Nat.le_refl _
  by_cases hc : (Wo.rmg s).length = 0 ∨ (1 < (Wo.rmg s).length ∧ (Wo.rmg s).getD 0 0 = 48)
  · have hd : Wo.decS s = false := by rw [Wo.rdec, if_pos hc]
    refine xa_last hs.hm ?_
    simp only [go_sem, Nat.reduceMod, Nat.reduceBNe, Nat.reduceBEq, Nat.reduceEqDiff, Nat.reduceAdd, Int.reduceAdd, Nat.reduceMul, Nat.reduceSub, Int.reduceToNat, Int.reduceLE, Int.reduceLT, Int.reduceEq, Int.reduceNe, reduceCtorEq, Nat.reduceLT, Nat.reduceLeDiff]
    rw [hd]
    refine ⟨fun _ => rfl, fun h1 => ⟨fun h2 => ⟨by omega, fun _ => rfl, fun h3 => ?_⟩, fun h2 => ?_⟩⟩
    · rcases hc with hc | hc
      · omega
      · exact absurd ((u8_lit (b := 48) rfl).2 hc.2) h3
    · omega
  have hY := Wo.decS_yes hc
  have hN := @Wo.decS_no s
  refine xa_join hs.hm [(0, .str (Wo.rmg s))] (H1 := []) ?_ ?_
  · simp only [go_sem, Nat.reduceMod, Nat.reduceBNe, Nat.reduceBEq, Nat.reduceEqDiff, Nat.reduceAdd, Int.reduceAdd, Nat.reduceMul, Nat.reduceSub, Int.reduceToNat, Int.reduceLE, Int.reduceLT, Int.reduceEq, Int.reduceNe, reduceCtorEq, Nat.reduceLT, Nat.reduceLeDiff]
    exact ⟨fun h1 => absurd (.inl (by omega)) hc, fun h1 h2 => ⟨by omega, fun h3 => absurd (.inr ⟨by omega, (u8_lit (b := 48) rfl).1 h3⟩) hc⟩⟩
  refine xa_last hs.hm ?_
  generalize Wo.rmg s = t at *
  simp only [go_sem, Nat.reduceMod, Nat.reduceBNe, Nat.reduceBEq, Nat.reduceEqDiff, Nat.reduceAdd, Int.reduceAdd, Nat.reduceMul, Nat.reduceSub, Int.reduceToNat, Int.reduceLE, Int.reduceLT, Int.reduceEq, Int.reduceNe, reduceCtorEq, Nat.reduceLT, Nat.reduceLeDiff]
  refine w_loop' hs.hm (ι := Nat) (fun i => i ≤ t.length ∧ ∀ k, k < i → Wo.digB (t.getD k 0) = true) (fun i => [(3, .int .i64 i), (0, .str t)]) (fun _ => []) (fun i => t.length - i) 0 ?_ fun i hi => ?_
  · simp only [go_sem, Nat.reduceMod, Nat.reduceBNe, Nat.reduceBEq, Nat.reduceEqDiff, Nat.reduceAdd, Int.reduceAdd, Nat.reduceMul, Nat.reduceSub, Int.reduceToNat, Int.reduceLE, Int.reduceLT, Int.reduceEq, Int.reduceNe, reduceCtorEq, Nat.reduceLT, Nat.reduceLeDiff]
    exact ⟨Nat.zero_le _, no_lt0⟩
  obtain ⟨i1, i2⟩ := hi
  simp only [A_ref01_decimalL0, go_sem, Nat.reduceMod, Nat.reduceBNe, Nat.reduceBEq, Nat.reduceEqDiff, Nat.reduceAdd, Int.reduceAdd, Nat.reduceMul, Nat.reduceSub, Int.reduceToNat, Int.reduceLE, Int.reduceLT, Int.reduceEq, Int.reduceNe, reduceCtorEq, Nat.reduceLT, Nat.reduceLeDiff]
  refine ⟨fun c => ⟨by omega, call_ev (ev_digit hX hs (t.getD i 0)) ?_⟩, fun c => ?_⟩
  · rw [digB_lat]
    cases hp : Wo.digB (t.getD i 0) with
    | false =>
      simp only [go_sem, Nat.reduceMod, Nat.reduceBNe, Nat.reduceBEq, Nat.reduceEqDiff, Nat.reduceAdd, Int.reduceAdd, Nat.reduceMul, Nat.reduceSub, Int.reduceToNat, Int.reduceLE, Int.reduceLT, Int.reduceEq, Int.reduceNe, reduceCtorEq, Nat.reduceLT, Nat.reduceLeDiff]
      rw [hN (by omega) hp]
    | true =>
      simp only [go_sem, Nat.reduceMod, Nat.reduceBNe, Nat.reduceBEq, Nat.reduceEqDiff, Nat.reduceAdd, Int.reduceAdd, Nat.reduceMul, Nat.reduceSub, Int.reduceToNat, Int.reduceLE, Int.reduceLT, Int.reduceEq, Int.reduceNe, reduceCtorEq, Nat.reduceLT, Nat.reduceLeDiff]
      exact nxt1 (by omega) i2 hp (by omega)
  · rw [hY fun k hk => i2 k (by omega)]
end
end Go.Avm

/- Int. -/
namespace Go.Avm
open Go
def intV (s : List UInt8) (low high : Int) : AV := .tuple [.int .i64 (Wo.intS s low high).1, .int .i64 (Wo.intS s low high).2]
theorem intV_form {s : List UInt8} {low high : Int} (h : Wo.decS s = false) : AV.tuple [.int .i64 0, .int .i64 6] = intV s low high := by rw [intV, Wo.intS, if_pos h]
theorem intV_rng {s : List UInt8} {low high : Int} (h : Wo.decS s = true) (h2 : Wo.valS s < -9223372036854775808 ∨ 9223372036854775807 < Wo.valS s ∨ Wo.valS s < low ∨ high < Wo.valS s) : AV.tuple [.int .i64 0, .int .i64 7] = intV s low high := by
  rw [intV, Wo.intS, if_neg (by rw [h]; decide), if_pos h2]
theorem intV_ok {s : List UInt8} {low high v : Int} (h : Wo.decS s = true) (h2 : ¬ (Wo.valS s < -9223372036854775808 ∨ 9223372036854775807 < Wo.valS s ∨ Wo.valS s < low ∨ high < Wo.valS s)) (hv : v = Wo.valS s) : AV.tuple [.int .i64 v, .int .i64 0] = intV s low high := by
  rw [intV, Wo.intS, if_neg (by rw [h]; decide), if_neg h2, hv]
set_option maxRecDepth 10000
section
variable {X : Cx} (hX : X.P = Go.Proofs.Tryz.prog) (hs : Std X)
include hX hs
theorem ev_Int {te : Nat} (hR : X.G (sRen.g 16) = some [.ifc te .undef]) (s : List UInt8) (low high : Int) (hl : s.length < 1000000) : Ev X F_words_Int [.str s, .int .i64 low, .int .i64 high] (intV s low high) := by
  refine ev_of_wpc hs (A_words_Int_ok hX) 0 ?_
  simp only [A_words_Int, go_sem, Nat.reduceMod, Nat.reduceBNe, Nat.reduceBEq, Nat.reduceEqDiff, Nat.reduceAdd, Int.reduceAdd, Nat.reduceMul, Nat.reduceSub, Int.reduceToNat, Int.reduceLE, Int.reduceLT, Int.reduceEq, Int.reduceNe, reduceCtorEq, Nat.reduceLT, Nat.reduceLeDiff]
  refine call_ev (ev_isDecimal hX hs s hl) ?_
  cases hd : Wo.decS s with
  | false =>
    simp only [go_sem, Nat.reduceMod, Nat.reduceBNe, Nat.reduceBEq, Nat.reduceEqDiff, Nat.reduceAdd, Int.reduceAdd, Nat.reduceMul, Nat.reduceSub, Int.reduceToNat, Int.reduceLE, Int.reduceLT, Int.reduceEq, Int.reduceNe, reduceCtorEq, Nat.reduceLT, Nat.reduceLeDiff]
    exact intV_form hd
  | true =>
    simp only [go_sem, Nat.reduceMod, Nat.reduceBNe, Nat.reduceBEq, Nat.reduceEqDiff, Nat.reduceAdd, Int.reduceAdd, Nat.reduceMul, Nat.reduceSub, Int.reduceToNat, Int.reduceLE, Int.reduceLT, Int.reduceEq, Int.reduceNe, reduceCtorEq, Nat.reduceLT, Nat.reduceLeDiff]
    refine call_ev (ev_ParseInt hX hR s hd hl) ?_
    unfold prsI
    by_cases hv : -9223372036854775808 ≤ Wo.valS s ∧ Wo.valS s ≤ 9223372036854775807
    · rw [if_pos hv]
      simp only [go_sem, Nat.reduceMod, Nat.reduceBNe, Nat.reduceBEq, Nat.reduceEqDiff, Nat.reduceAdd, Int.reduceAdd, Nat.reduceMul, Nat.reduceSub, Int.reduceToNat, Int.reduceLE, Int.reduceLT, Int.reduceEq, Int.reduceNe, reduceCtorEq, Nat.reduceLT, Nat.reduceLeDiff]
      exact ⟨fun h => intV_rng hd (by omega), fun h => ⟨fun h2 => intV_rng hd (by omega), fun h2 => intV_ok hd (by omega) rfl⟩⟩
    · rw [if_neg hv]
      simp only [go_sem, Nat.reduceMod, Nat.reduceBNe, Nat.reduceBEq, Nat.reduceEqDiff, Nat.reduceAdd, Int.reduceAdd, Nat.reduceMul, Nat.reduceSub, Int.reduceToNat, Int.reduceLE, Int.reduceLT, Int.reduceEq, Int.reduceNe, reduceCtorEq, Nat.reduceLT, Nat.reduceLeDiff]
      exact intV_rng hd (by omega)
theorem ev_rInt (s : List UInt8) (low high : Int) (hl : s.length < 1000000) : Ev X F_ref01_Int [.str s, .int .i64 low, .int .i64 high] (intV s low high) := by
  refine ev_of_wpc hs (A_ref01_Int_ok hX) 0 ?_
  simp only [A_ref01_Int, go_sem, Nat.reduceMod, Nat.reduceBNe, Nat.reduceBEq, Nat.reduceEqDiff, Nat.reduceAdd, Int.reduceAdd, Nat.reduceMul, Nat.reduceSub, Int.reduceToNat, Int.reduceLE, Int.reduceLT, Int.reduceEq, Int.reduceNe, reduceCtorEq, Nat.reduceLT, Nat.reduceLeDiff]
  refine call_ev (ev_rdecimal hX hs s hl) ?_
  cases hd : Wo.decS s with
  | false =>
    simp only [go_sem, Nat.reduceMod, Nat.reduceBNe, Nat.reduceBEq, Nat.reduceEqDiff, Nat.reduceAdd, Int.reduceAdd, Nat.reduceMul, Nat.reduceSub, Int.reduceToNat, Int.reduceLE, Int.reduceLT, Int.reduceEq, Int.reduceNe, reduceCtorEq, Nat.reduceLT, Nat.reduceLeDiff]
    exact intV_form hd
  | true =>
    have hsg := Wo.sg_le hd
    simp only [go_sem, Nat.reduceMod, Nat.reduceBNe, Nat.reduceBEq, Nat.reduceEqDiff, Nat.reduceAdd, Int.reduceAdd, Nat.reduceMul, Nat.reduceSub, Int.reduceToNat, Int.reduceLE, Int.reduceLT, Int.reduceEq, Int.reduceNe, reduceCtorEq, Nat.reduceLT, Nat.reduceLeDiff]
    refine ⟨by omega, ?_⟩
    refine w_loop' hs.hm (ι := Nat) (fun i => i ≤ s.length ∧ Wo.mgI s i ≤ 9223372036854775808) (fun i => [(10, .int .i64 i), (9, .int .i64 (-(Wo.mgI s i : Int))), (8, .bool (decide (Wo.sg s = 1))), (2, .int .i64 high), (1, .int .i64 low), (0, .str s)]) (fun _ => []) (fun i => s.length - i) 0 ?_ fun i hi => ?_
    · simp only [go_sem, Nat.reduceMod, Nat.reduceBNe, Nat.reduceBEq, Nat.reduceEqDiff, Nat.reduceAdd, Int.reduceAdd, Nat.reduceMul, Nat.reduceSub, Int.reduceToNat, Int.reduceLE, Int.reduceLT, Int.reduceEq, Int.reduceNe, reduceCtorEq, Nat.reduceLT, Nat.reduceLeDiff, Wo.mgI_0]
      refine ⟨Nat.zero_le _, rfl, ?_⟩
      congr 1
      rw [Bool.eq_iff_iff, decide_eq_true_eq, decide_eq_true_eq, show ((45 : Int)) = ((UInt8.toNat 45 : Nat) : Int) from rfl, u8_eq]
      unfold Wo.sg
      split
      · rename_i e; exact ⟨fun _ => rfl, fun _ => e⟩
      · rename_i e; exact ⟨fun h => absurd h e, fun h => by simp at h⟩
    obtain ⟨i1, i2⟩ := hi
    by_cases hi : i < s.length
    · have hi' : (i : Int) < s.length := by omega
      simp only [A_ref01_IntL0, go_sem, Nat.reduceMod, Nat.reduceBNe, Nat.reduceBEq, Nat.reduceEqDiff, Nat.reduceAdd, Int.reduceAdd, Nat.reduceMul, Nat.reduceSub, Int.reduceToNat, Int.reduceLE, Int.reduceLT, Int.reduceEq, Int.reduceNe, reduceCtorEq, Nat.reduceLT, Nat.reduceLeDiff, hi']
      rcases Wo.dec_at hd hi with ⟨e, rfl, hg⟩ | ⟨hdg, hg, hne⟩
      · have h0 := Wo.mgI_0 s
        have h1 := Wo.mgI_sign hg
        exact ⟨by omega, fun _ => ⟨1, by omega, ⟨by omega, by omega⟩, rfl, by rw [h0, h1]⟩, fun h => absurd ((u8_lit (b := 45) rfl).2 e) h⟩
      · have hr := Wo.dg_rng hdg
        have hn := Wo.mgI_next hi hg
        have hle := @Wo.mgI_le s (i + 1) (by omega) (by omega)
        have hv := Wo.valS_sg s
        have ed : IntKind.i64.wrap (IntKind.u8.wrap (((s.getD i 0).toNat : Int) - 48)) = (((s.getD i 0).toNat - 48 : Nat) : Int) := by
          rw [wu8 (by omega), wi64 (by omega)]; omega
        rw [ed]
        have hd9 : (s.getD i 0).toNat - 48 ≤ 9 := by omega
        generalize (s.getD i 0).toNat - 48 = d at *
        have et : IntKind.i64.wrap ((IntKind.i64.wrap (-9223372036854775808 + (d : Int))).tdiv 10) = -((9223372036854775808 - (d : Int)) / 10) := by
          rw [wi64 (n := -9223372036854775808 + (d : Int)) (by omega), show (-9223372036854775808 + (d : Int)) = -(9223372036854775808 - (d : Int)) by omega, Int.neg_tdiv, Int.tdiv_eq_ediv_of_nonneg (by omega), wi64 (by omega)]
        rw [et]
        refine ⟨by omega, fun h => absurd ((u8_lit (b := 45) rfl).1 h) hne, fun _ => ⟨by omega, fun h => ?_, fun h => ?_⟩⟩
        · refine intV_rng hd ?_
          split at hv <;> omega
        · refine ⟨i + 1, by omega, ⟨by omega, by omega⟩, by rw [wi64 (by omega)]; rfl, ?_⟩
          congr 1
          rw [wi64 (n := 10 * -(Wo.mgI s i : Int)) (by omega), wi64 (by omega)]
          omega
    · have hi' : ¬ (i : Int) < s.length := by omega
      simp only [A_ref01_IntL0, go_sem, Nat.reduceMod, Nat.reduceBNe, Nat.reduceBEq, Nat.reduceEqDiff, Nat.reduceAdd, Int.reduceAdd, Nat.reduceMul, Nat.reduceSub, Int.reduceToNat, Int.reduceLE, Int.reduceLT, Int.reduceEq, Int.reduceNe, reduceCtorEq, Nat.reduceLT, Nat.reduceLeDiff, hi']
      obtain rfl : i = s.length := by omega
      have hv := Wo.valS_sg s
      rw [Wo.mgI_end] at i2 ⊢
      generalize Wo.magL 0 (Wo.mg s) = m at *
      refine ⟨fun hg => ⟨fun h => intV_rng hd (by rw [if_neg hg] at hv; omega), fun h => ⟨fun _ => ?_, fun h' => absurd h' hg⟩⟩, fun hg => ⟨fun h => absurd hg h, fun _ => ?_⟩⟩
      · rw [if_neg hg] at hv
        rw [wi64 (by omega)]
        exact ⟨fun h => intV_rng hd (by omega), fun h => ⟨fun h2 => intV_rng hd (by omega), fun h2 => intV_ok hd (by omega) (by omega)⟩⟩
      · rw [if_pos hg] at hv
        exact ⟨fun h => intV_rng hd (by omega), fun h => ⟨fun h2 => intV_rng hd (by omega), fun h2 => intV_ok hd (by omega) (by omega)⟩⟩
end
end Go.Avm

/- Words of the reference: quoted. -/
namespace Go.Avm
open Go
set_option maxRecDepth 10000
section
variable {X : Cx} (hX : X.P = Go.Proofs.Tryz.prog) (hs : Std X)
include hX hs
theorem ev_rplain (c : UInt8) : Ev X F_ref01_plain [u8 c] (.bool (Wo.plainB c)) := by
  refine ev_of_wpc hs (A_ref01_plain_ok hX) 0 ?_
  rw [plain_i]
  simp only [A_ref01_plain, go_sem, Nat.reduceMod, Nat.reduceBNe, Nat.reduceBEq, Nat.reduceEqDiff, Nat.reduceAdd, Int.reduceAdd, Nat.reduceMul, Nat.reduceSub, Int.reduceToNat, Int.reduceLE, Int.reduceLT, Int.reduceEq, Int.reduceNe, reduceCtorEq, Nat.reduceLT, Nat.reduceLeDiff]
  grind
theorem ev_rhex (n : Nat) (h : n < 16) : Ev X F_ref01_hex [.int .u8 n] (u8 (Wo.hexd n)) := by
  refine ev_of_wpc hs (A_ref01_hex_ok hX) 0 ?_
  simp only [A_ref01_hex, go_sem, Nat.reduceMod, Nat.reduceBNe, Nat.reduceBEq, Nat.reduceEqDiff, Nat.reduceAdd, Int.reduceAdd, Nat.reduceMul, Nat.reduceSub, Int.reduceToNat, Int.reduceLE, Int.reduceLT, Int.reduceEq, Int.reduceNe, reduceCtorEq, Nat.reduceLT, Nat.reduceLeDiff]
  refine ⟨by omega, ?_⟩
  rw [← hexs_at h]
  rfl
theorem ev_rescaped (c : UInt8) : Ev X F_ref01_escaped [u8 c] (.str (Wo.escB c)) := by
  refine ev_of_wpc hs (A_ref01_escaped_ok hX) 0 ?_
  simp only [A_ref01_escaped, go_sem, Nat.reduceMod, Nat.reduceBNe, Nat.reduceBEq, Nat.reduceEqDiff, Nat.reduceAdd, Int.reduceAdd, Nat.reduceMul, Nat.reduceSub, Int.reduceToNat, Int.reduceLE, Int.reduceLT, Int.reduceEq, Int.reduceNe, reduceCtorEq, Nat.reduceLT, Nat.reduceLeDiff]
  refine call_ev (ev_rplain hX hs c) ?_
  have hc := c.toNat_lt
  cases hp : Wo.plainB c with
  | true =>
    simp only [go_sem, Nat.reduceMod, Nat.reduceBNe, Nat.reduceBEq, Nat.reduceEqDiff, Nat.reduceAdd, Int.reduceAdd, Nat.reduceMul, Nat.reduceSub, Int.reduceToNat, Int.reduceLE, Int.reduceLT, Int.reduceEq, Int.reduceNe, reduceCtorEq, Nat.reduceLT, Nat.reduceLeDiff, bs_1, Wo.escB, hp]
  | false =>
    simp only [go_sem, Nat.reduceMod, Nat.reduceBNe, Nat.reduceBEq, Nat.reduceEqDiff, Nat.reduceAdd, Int.reduceAdd, Nat.reduceMul, Nat.reduceSub, Int.reduceToNat, Int.reduceLE, Int.reduceLT, Int.reduceEq, Int.reduceNe, reduceCtorEq, Nat.reduceLT, Nat.reduceLeDiff]
    by_cases h0 : c = 34
    · subst h0; exact ⟨fun _ => rfl, fun h => absurd rfl h⟩
    by_cases h1 : c = 92
    · subst h1; exact ⟨fun h => absurd h (by decide), fun _ => ⟨fun _ => rfl, fun h => absurd rfl h⟩⟩
    by_cases h2 : c = 10
    · subst h2; exact ⟨fun h => absurd h (by decide), fun _ => ⟨fun h => absurd h (by decide), fun _ => ⟨fun _ => rfl, fun h => absurd rfl h⟩⟩⟩
    by_cases h3 : c = 13
    · subst h3; exact ⟨fun h => absurd h (by decide), fun _ => ⟨fun h => absurd h (by decide), fun _ => ⟨fun h => absurd h (by decide), fun _ => ⟨fun _ => rfl, fun h => absurd rfl h⟩⟩⟩⟩
    by_cases h4 : c = 9
    · subst h4; exact ⟨fun h => absurd h (by decide), fun _ => ⟨fun h => absurd h (by decide), fun _ => ⟨fun h => absurd h (by decide), fun _ => ⟨fun h => absurd h (by decide), fun _ => ⟨fun _ => rfl, fun h => absurd rfl h⟩⟩⟩⟩⟩
    have g0 : ¬ ((c.toNat : Int) = 34) := fun h => h0 ((u8_lit (b := 34) rfl).1 h)
    have g1 : ¬ ((c.toNat : Int) = 92) := fun h => h1 ((u8_lit (b := 92) rfl).1 h)
    have g2 : ¬ ((c.toNat : Int) = 10) := fun h => h2 ((u8_lit (b := 10) rfl).1 h)
    have g3 : ¬ ((c.toNat : Int) = 13) := fun h => h3 ((u8_lit (b := 13) rfl).1 h)
    have g4 : ¬ ((c.toNat : Int) = 9) := fun h => h4 ((u8_lit (b := 9) rfl).1 h)
    have q1 : IntKind.u8.wrap (Int.tdiv (c.toNat : Int) 16) = ((c.toNat / 16 : Nat) : Int) := by
      rw [Int.tdiv_eq_ediv_of_nonneg (by omega), wu8 (by omega)]; omega
    have q2 : Int.tmod (c.toNat : Int) 16 = ((c.toNat % 16 : Nat) : Int) := by
      rw [Int.tmod_eq_emod_of_nonneg (by omega)]; omega
    simp only [g0, g1, g2, g3, g4, go_sem, Nat.reduceMod, Nat.reduceBNe, Nat.reduceBEq, Nat.reduceEqDiff, Nat.reduceAdd, Int.reduceAdd, Nat.reduceMul, Nat.reduceSub, Int.reduceToNat, Int.reduceLE, Int.reduceLT, Int.reduceEq, Int.reduceNe, reduceCtorEq, Nat.reduceLT, Nat.reduceLeDiff, q1, q2]
    refine call_ev (ev_rhex hX hs _ (by omega)) ?_
    simp only [go_sem, Nat.reduceMod, Nat.reduceBNe, Nat.reduceBEq, Nat.reduceEqDiff, Nat.reduceAdd, Int.reduceAdd, Nat.reduceMul, Nat.reduceSub, Int.reduceToNat, Int.reduceLE, Int.reduceLT, Int.reduceEq, Int.reduceNe, reduceCtorEq, Nat.reduceLT, Nat.reduceLeDiff]
    refine call_ev (ev_rhex hX hs _ (Nat.mod_lt _ (by decide))) ?_
    simp only [go_sem, Nat.reduceMod, Nat.reduceBNe, Nat.reduceBEq, Nat.reduceEqDiff, Nat.reduceAdd, Int.reduceAdd, Nat.reduceMul, Nat.reduceSub, Int.reduceToNat, Int.reduceLE, Int.reduceLT, Int.reduceEq, Int.reduceNe, reduceCtorEq, Nat.reduceLT, Nat.reduceLeDiff, bs_2]
    have hl : Wo.letB c = 0 := by rw [Wo.letB, if_neg h0, if_neg h1, if_neg h2, if_neg h3, if_neg h4]
    simp only [Wo.escB, hp, hl]
    rfl
theorem ev_rbare (s : List UInt8) (hl : s.length < 1000000) : Ev X F_ref01_bare [.str s] (.bool (Wo.bareB s)) := by
  refine ev_of_wpc hs (A_ref01_bare_ok hX) 0 ?_
  simp only [A_ref01_bare, go_sem, Nat.reduceMod, Nat.reduceBNe, Nat.reduceBEq, Nat.reduceEqDiff, Nat.reduceAdd, Int.reduceAdd, Nat.reduceMul, Nat.reduceSub, Int.reduceToNat, Int.reduceLE, Int.reduceLT, Int.reduceEq, Int.reduceNe, reduceCtorEq, Nat.reduceLT, Nat.reduceLeDiff]
  refine w_loop' hs.hm (ι := Nat) (fun i => i ≤ s.length ∧ ∀ k, k < i → bareC (s.getD k 0) = true) (fun i => [(3, .int .i64 i), (0, .str s)]) (fun _ => []) (fun i => s.length - i) 0 ?_ fun i hi => ?_
  · simp only [go_sem, Nat.reduceMod, Nat.reduceBNe, Nat.reduceBEq, Nat.reduceEqDiff, Nat.reduceAdd, Int.reduceAdd, Nat.reduceMul, Nat.reduceSub, Int.reduceToNat, Int.reduceLE, Int.reduceLT, Int.reduceEq, Int.reduceNe, reduceCtorEq, Nat.reduceLT, Nat.reduceLeDiff]
    exact ⟨Nat.zero_le _, no_lt0⟩
  obtain ⟨i1, i2⟩ := hi
  simp only [A_ref01_bareL0, go_sem, Nat.reduceMod, Nat.reduceBNe, Nat.reduceBEq, Nat.reduceEqDiff, Nat.reduceAdd, Int.reduceAdd, Nat.reduceMul, Nat.reduceSub, Int.reduceToNat, Int.reduceLE, Int.reduceLT, Int.reduceEq, Int.reduceNe, reduceCtorEq, Nat.reduceLT, Nat.reduceLeDiff]
  refine ⟨fun c => ⟨by omega, call_ev (ev_rplain hX hs (s.getD i 0)) ?_⟩, fun c => ?_⟩
  · cases hp : Wo.plainB (s.getD i 0) with
    | false =>
      simp only [go_sem, Nat.reduceMod, Nat.reduceBNe, Nat.reduceBEq, Nat.reduceEqDiff, Nat.reduceAdd, Int.reduceAdd, Nat.reduceMul, Nat.reduceSub, Int.reduceToNat, Int.reduceLE, Int.reduceLT, Int.reduceEq, Int.reduceNe, reduceCtorEq, Nat.reduceLT, Nat.reduceLeDiff]
      rw [bare_no (i := i) (by omega) (by simp only [bareC, hp, Bool.false_and])]
    | true =>
      simp only [go_sem, Nat.reduceMod, Nat.reduceBNe, Nat.reduceBEq, Nat.reduceEqDiff, Nat.reduceAdd, Int.reduceAdd, Nat.reduceMul, Nat.reduceSub, Int.reduceToNat, Int.reduceLE, Int.reduceLT, Int.reduceEq, Int.reduceNe, reduceCtorEq, Nat.reduceLT, Nat.reduceLeDiff]
      refine ⟨by omega, fun e => ?_, fun e => ?_⟩
      · rw [bare_no (i := i) (by omega) (by simp only [bareC, hp, (u8_lit (b := 32) rfl).1 e]; rfl)]
      · exact nxt1 (by omega) i2 (by simp only [bareC, hp, decide_eq_false (fun h => e ((u8_lit (b := 32) rfl).2 h))]; rfl) (by omega)
  · rw [bare_all (fun k hk => i2 k (by omega))]
    cases s <;> simp
theorem ev_rquoted (s : List UInt8) (hl : s.length < 1000000) : Ev X F_ref01_quoted [.str s] (.tuple [.str (Wo.unqS s).1, .int .i64 (Wo.unqS s).2]) := by
  refine ev_of_wpc hs (A_ref01_quoted_ok hX) 0 ?_
  by_cases h0 : s = []
  · subst h0
    simp only [A_ref01_quoted, go_sem, Nat.reduceMod, Nat.reduceBNe, Nat.reduceBEq, Nat.reduceEqDiff, Nat.reduceAdd, Int.reduceAdd, Nat.reduceMul, Nat.reduceSub, Int.reduceToNat, Int.reduceLE, Int.reduceLT, Int.reduceEq, Int.reduceNe, reduceCtorEq, Nat.reduceLT, Nat.reduceLeDiff]
    rfl
  have hp : 0 < s.length := List.length_pos_iff.2 h0
  simp only [A_ref01_quoted, go_sem, Nat.reduceMod, Nat.reduceBNe, Nat.reduceBEq, Nat.reduceEqDiff, Nat.reduceAdd, Int.reduceAdd, Nat.reduceMul, Nat.reduceSub, Int.reduceToNat, Int.reduceLE, Int.reduceLT, Int.reduceEq, Int.reduceNe, reduceCtorEq, Nat.reduceLT, Nat.reduceLeDiff, show ¬ (s.length : Int) = 0 by omega]
  refine ⟨by omega, fun e => ?_, fun e => ?_⟩
  · rw [Wo.unqS_no (fun h => e ((u8_lit (b := 34) rfl).2 h))]
    rfl
  have h34 : s.getD 0 0 = 34 := (u8_lit (b := 34) rfl).1 e
  refine w_loop hs.hm (ι := Nat × Nat × List UInt8) (fun x => x.2.1 ≤ s.length ∧ 0 < x.1 ∧ s.length - x.2.1 < x.1 ∧ x.2.2.length < x.2.1 ∧ Wo.unqS s = Wo.cmb x.2.2 x.2.1 (Wo.unqL x.1 (s.drop x.2.1))) (fun x => [(5, .int .i64 x.2.1), (4, lst u8 (.tok 0 1) x.2.2), (0, .str s)]) (fun x => [.tok x.2.2.length]) (fun x => s.length - x.2.1) (s.length + 1, 1, []) ⟨⟨by simp only; omega, by simp only; omega, by simp only; omega, by simp, Wo.unqS_cmb h34⟩, _, _, wk_tok 4 1 rfl, ⟨by simp only [go_sem, Nat.reduceMod, Nat.reduceBNe, Nat.reduceBEq, Nat.reduceEqDiff, Nat.reduceAdd, Int.reduceAdd, Nat.reduceMul, Nat.reduceSub, Int.reduceToNat, Int.reduceLE, Int.reduceLT, Int.reduceEq, Int.reduceNe, reduceCtorEq, Nat.reduceLT, Nat.reduceLeDiff]; rfl, rfl⟩⟩ fun x hx => ?_
  obtain ⟨F, i, b⟩ := x
  obtain ⟨c1, c2, c3, c4, c5⟩ := hx
  simp only at c1 c2 c3 c4 c5
  obtain ⟨F, rfl⟩ : ∃ G, F = G + 1 := ⟨F - 1, by omega⟩
  by_cases hi : i < s.length
  · have hlt : (i : Int) < s.length := by omega
    simp only [A_ref01_quotedL0, go_sem, Nat.reduceMod, Nat.reduceBNe, Nat.reduceBEq, Nat.reduceEqDiff, Nat.reduceAdd, Int.reduceAdd, Nat.reduceMul, Nat.reduceSub, Int.reduceToNat, Int.reduceLE, Int.reduceLT, Int.reduceEq, Int.reduceNe, reduceCtorEq, Nat.reduceLT, Nat.reduceLeDiff, hlt]
    refine ⟨by omega, fun e => ?_, fun e => ⟨fun h => by omega, fun _ => ?_⟩⟩
    · have n34 : ¬ s.getD i 0 = 34 := fun h => e ((u8_lit (b := 34) rfl).2 h)
      cases hst : Wo.step (s.drop i) with
      | none =>
        refine w_loop' hs.hm (ι := Nat) (fun c => c ≤ 256) (fun c => [(7, .int .i64 c), (6, .bool false), (5, .int .i64 i), (4, lst u8 (.tok 0 1) b), (0, .str s)]) (fun _ => [.tok b.length]) (fun c => 256 - c) 0 ?_ fun c hc => ?_
        · simp only [go_sem, Nat.reduceMod, Nat.reduceBNe, Nat.reduceBEq, Nat.reduceEqDiff, Nat.reduceAdd, Int.reduceAdd, Nat.reduceMul, Nat.reduceSub, Int.reduceToNat, Int.reduceLE, Int.reduceLT, Int.reduceEq, Int.reduceNe, reduceCtorEq, Nat.reduceLT, Nat.reduceLeDiff]
        by_cases h2 : c < 256
        · have h2' : (c : Int) < 256 := by omega
          have ew : IntKind.u8.wrap (c : Int) = (((UInt8.ofNat c).toNat : Nat) : Int) := by rw [wu8 (by omega), UInt8.toNat_ofNat', Nat.mod_eq_of_lt (by omega)]
          simp only [A_ref01_quotedL1, go_sem, Nat.reduceMod, Nat.reduceBNe, Nat.reduceBEq, Nat.reduceEqDiff, Nat.reduceAdd, Int.reduceAdd, Nat.reduceMul, Nat.reduceSub, Int.reduceToNat, Int.reduceLE, Int.reduceLT, Int.reduceEq, Int.reduceNe, reduceCtorEq, Nat.reduceLT, Nat.reduceLeDiff, h2', ew]
          refine call_ev (ev_rescaped hX hs (UInt8.ofNat c)) ?_
          have hel := Wo.escB_len (UInt8.ofNat c)
          have e1 : IntKind.i64.wrap ((i : Int) + (Wo.escB (UInt8.ofNat c)).length) = ((i + (Wo.escB (UInt8.ofNat c)).length : Nat) : Int) := by rw [wi64 (by omega)]; rfl
          have e2 : IntKind.i64.wrap ((s.length : Int) - i) = ((s.length - i : Nat) : Int) := by rw [wi64 (by omega)]; omega
          simp only [go_sem, Nat.reduceMod, Nat.reduceBNe, Nat.reduceBEq, Nat.reduceEqDiff, Nat.reduceAdd, Int.reduceAdd, Nat.reduceMul, Nat.reduceSub, Int.reduceToNat, Int.reduceLE, Int.reduceLT, Int.reduceEq, Int.reduceNe, reduceCtorEq, Nat.reduceLT, Nat.reduceLeDiff, e1, e2, ew, piece_eq, esc_no hst]
          have nx : ∃ j, 256 - j < 256 - c ∧ j ≤ 256 ∧ AV.int IntKind.i64 (IntKind.i64.wrap ((c : Int) + 1)) = AV.int IntKind.i64 j := ⟨c + 1, by omega, by omega, by rw [wi64 (by omega)]; rfl⟩
          exact ⟨fun _ => ⟨by omega, nx⟩, fun _ => nx⟩
        · have h2' : ¬ (c : Int) < 256 := by omega
          simp only [A_ref01_quotedL1, go_sem, Nat.reduceMod, Nat.reduceBNe, Nat.reduceBEq, Nat.reduceEqDiff, Nat.reduceAdd, Int.reduceAdd, Nat.reduceMul, Nat.reduceSub, Int.reduceToNat, Int.reduceLE, Int.reduceLT, Int.reduceEq, Int.reduceNe, reduceCtorEq, Nat.reduceLT, Nat.reduceLeDiff, h2']
          rw [c5, Wo.unq_bad hi n34 hst]
          rfl
      | some xk =>
        obtain ⟨x, k⟩ := xk
        have hk := Wo.step_le hst
        have hk2 := (Wo.step_inv hst).2
        rw [List.length_drop] at hk
        refine w_loop' hs.hm (ι := Nat × Bool) (fun c => c.1 ≤ 256 ∧ (c.2 = false → c.1 ≤ x.toNat)) (fun c => [(7, .int .i64 c.1), (6, .bool c.2), (5, .int .i64 (if c.2 then i + k else i : Nat)), (4, lst u8 (.tok 0 1) (if c.2 then b ++ [x] else b)), (0, .str s)]) (fun c => [.tok (if c.2 then b.length + 1 else b.length)]) (fun c => if c.2 then 0 else 257 - c.1) (0, false) ?_ fun c hc => ?_
        · simp only [go_sem, Nat.reduceMod, Nat.reduceBNe, Nat.reduceBEq, Nat.reduceEqDiff, Nat.reduceAdd, Int.reduceAdd, Nat.reduceMul, Nat.reduceSub, Int.reduceToNat, Int.reduceLE, Int.reduceLT, Int.reduceEq, Int.reduceNe, reduceCtorEq, Nat.reduceLT, Nat.reduceLeDiff]
          exact Nat.zero_le _
        obtain ⟨c, fd⟩ := c
        obtain ⟨d1, d2⟩ := hc
        simp only at d1 d2
        cases fd with
        | true =>
          simp only [A_ref01_quotedL1, go_sem, Nat.reduceMod, Nat.reduceBNe, Nat.reduceBEq, Nat.reduceEqDiff, Nat.reduceAdd, Int.reduceAdd, Nat.reduceMul, Nat.reduceSub, Int.reduceToNat, Int.reduceLE, Int.reduceLT, Int.reduceEq, Int.reduceNe, reduceCtorEq, Nat.reduceLT, Nat.reduceLeDiff]
          have nx := Wo.unq_next (b := b) (F := F) hi n34 hst
          rw [← c5] at nx
          exact ⟨fun _ => ⟨(F, i + k, b ++ [x]), by simp only; omega, ⟨by simp only; omega, by simp only; omega, by simp only; omega, by simp only [List.length_append, List.length_singleton]; omega, nx⟩, ⟨rfl, rfl⟩, by simp only [List.length_append, List.length_singleton]⟩, fun _ => ⟨(F, i + k, b ++ [x]), by simp only; omega, ⟨by simp only; omega, by simp only; omega, by simp only; omega, by simp only [List.length_append, List.length_singleton]; omega, nx⟩, ⟨rfl, rfl⟩, by simp only [List.length_append, List.length_singleton]⟩⟩
        | false =>
          have d2 := d2 rfl
          have hx := x.toNat_lt
          have h2' : (c : Int) < 256 := by omega
          have ew : IntKind.u8.wrap (c : Int) = (((UInt8.ofNat c).toNat : Nat) : Int) := by rw [wu8 (by omega), UInt8.toNat_ofNat', Nat.mod_eq_of_lt (by omega)]
          simp only [A_ref01_quotedL1, go_sem, Nat.reduceMod, Nat.reduceBNe, Nat.reduceBEq, Nat.reduceEqDiff, Nat.reduceAdd, Int.reduceAdd, Nat.reduceMul, Nat.reduceSub, Int.reduceToNat, Int.reduceLE, Int.reduceLT, Int.reduceEq, Int.reduceNe, reduceCtorEq, Nat.reduceLT, Nat.reduceLeDiff, h2', ew, Bool.false_eq_true, if_false]
          refine call_ev (ev_rescaped hX hs (UInt8.ofNat c)) ?_
          have hel := Wo.escB_len (UInt8.ofNat c)
          have e1 : IntKind.i64.wrap ((i : Int) + (Wo.escB (UInt8.ofNat c)).length) = ((i + (Wo.escB (UInt8.ofNat c)).length : Nat) : Int) := by rw [wi64 (by omega)]; rfl
          have e2 : IntKind.i64.wrap ((s.length : Int) - i) = ((s.length - i : Nat) : Int) := by rw [wi64 (by omega)]; omega
          simp only [go_sem, Nat.reduceMod, Nat.reduceBNe, Nat.reduceBEq, Nat.reduceEqDiff, Nat.reduceAdd, Int.reduceAdd, Nat.reduceMul, Nat.reduceSub, Int.reduceToNat, Int.reduceLE, Int.reduceLT, Int.reduceEq, Int.reduceNe, reduceCtorEq, Nat.reduceLT, Nat.reduceLeDiff, e1, e2, ew, piece_eq, esc_one hst]
          have hcx : ∀ h : ¬ c = x.toNat, ∃ j : Nat × Bool, (if j.2 = true then 0 else 257 - j.1) < 257 - c ∧ (j.1 ≤ 256 ∧ (j.2 = false → j.1 ≤ x.toNat)) ∧ (AV.int IntKind.i64 (IntKind.i64.wrap ((c : Int) + 1)) = AV.int IntKind.i64 j.1 ∧ AV.bool false = AV.bool j.2 ∧ AV.int IntKind.i64 (i : Int) = AV.int IntKind.i64 (if j.2 = true then i + k else i : Nat) ∧ lst u8 (Perm.tok 0 1) b = lst u8 (Perm.tok 0 1) (if j.2 = true then b ++ [x] else b)) ∧ [Blk.tok b.length] = [Blk.tok (if j.2 = true then b.length + 1 else b.length)] := fun h =>
            ⟨(c + 1, false), by simp only [Bool.false_eq_true, if_false]; omega, ⟨by simp only; omega, fun _ => by simp only; omega⟩, ⟨by rw [wi64 (by omega)]; rfl, rfl, rfl, rfl⟩, rfl⟩
          have hne : ¬ UInt8.ofNat c = x → ¬ c = x.toNat := fun h h' => h (by rw [h']; simp)
          refine ⟨fun h => ⟨by omega, fun h' => ⟨by omega, (c + 1, true), by simp only [if_true]; omega, ⟨by simp only; omega, fun h => by simp at h⟩, ⟨by rw [wi64 (by omega)]; rfl, rfl, ?_, ?_⟩, rfl⟩, fun h' => hcx (hne h')⟩, fun h => hcx (hne fun h' => h ?_)⟩
          · rw [h', ← hk2]; rfl
          · rw [h']; rfl
          · rw [h', ← hk2]; omega
    · rw [c5, Wo.unq_end hi ((u8_lit (b := 34) rfl).1 e), wi64 (by omega)]
      rfl
  · have hlt : ¬ (i : Int) < s.length := by omega
    simp only [A_ref01_quotedL0, go_sem, Nat.reduceMod, Nat.reduceBNe, Nat.reduceBEq, Nat.reduceEqDiff, Nat.reduceAdd, Int.reduceAdd, Nat.reduceMul, Nat.reduceSub, Int.reduceToNat, Int.reduceLE, Int.reduceLT, Int.reduceEq, Int.reduceNe, reduceCtorEq, Nat.reduceLT, Nat.reduceLeDiff, hlt]
    refine ⟨fun _ => ?_, fun h => by omega⟩
    rw [c5, Wo.unq_out (by omega)]
    rfl
end
end Go.Avm

/- Split: the reference. -/
namespace Go.Avm
open Go
/-- a field -/
def fdV (f : Wo.Fd) : AV := .agg [.str f.1, .bool f.2]
instance : Elt fdV 2 := ⟨fun _ => rfl, fun _ => rfl, fun _ => rfl, fun _ => rfl⟩
theorem ax1_fd {H : Heap} {by' : Nat} (i : Nat) (l : List Wo.Fd) (f : Wo.Fd) : appX H 2 by' (lst fdV (.tok i 2) l) (some [.agg [.str f.1, .bool f.2]]) = app1 H by' i l.length (lst fdV (.tok i 2) (l ++ [f])) :=
  ax_tok (f := fdV) (m := [f]) i
theorem idx_stop {s : List UInt8} {i n : Nat} (h : ∀ k, k < n → ¬ s.getD (i + k) 0 = 32) (hn : i + n ≤ s.length) (he : i + n = s.length ∨ s.getD (i + n) 0 = 32) : Lat.idx 32 (s.drop i) = n := by
  have hg : ∀ k, (s.drop i).getD k 0 = s.getD (i + k) 0 := fun k => by simp [List.getD_eq_getElem?_getD]
  by_cases hlt : i + n < s.length
  · refine Lat.idx_eq (by rw [List.length_drop]; omega) (by rw [hg]; rcases he with he | he; · omega
                                                            · exact he) fun k hk => by rw [hg]; exact h k hk
  · have : n = (s.drop i).length := by rw [List.length_drop]; omega
    rw [this]
    refine Lat.idx_len fun k hk => ?_
    rw [hg]
    exact h k (by omega)
def splV (s : List UInt8) : AV := .tuple [lst fdV .ro (Wo.splitS s).1, .int .i64 (Wo.splitS s).2]
theorem splV_eq {s : List UInt8} {l : List Wo.Fd} {e : Int} (h : Wo.splitS s = (l, e)) : AV.tuple [lst fdV .ro l, .int .i64 e] = splV s := by rw [splV, h]
theorem splV_nil {s : List UInt8} {e : Int} (h : Wo.splitS s = ([], e)) : AV.tuple [.sl .ro [], .int .i64 e] = splV s := by rw [splV, h]; rfl
set_option maxRecDepth 10000
section
variable {X : Cx} (hX : X.P = Go.Proofs.Tryz.prog) (hs : Std X)
include hX hs
set_option maxHeartbeats 1000000 in
theorem ev_rSplit (s : List UInt8) (hl : s.length < 1000000) : Ev X F_ref01_Split [.str s] (splV s) := by
  refine ev_of_wpcd hs (A_ref01_Split_ok hX) 1 ?_
  simp only [A_ref01_Split, go_sem, Nat.reduceMod, Nat.reduceBNe, Nat.reduceBEq, Nat.reduceEqDiff, Nat.reduceAdd, Int.reduceAdd, Nat.reduceMul, Nat.reduceSub, Int.reduceToNat, Int.reduceLE, Int.reduceLT, Int.reduceEq, Int.reduceNe, reduceCtorEq, Nat.reduceLT, Nat.reduceLeDiff]
  refine ⟨fun h => splV_nil (by rw [Wo.splitS, if_pos (by omega)]), fun h => ⟨fun h0 => splV_nil (by rw [Wo.splitS, if_neg (by omega), if_pos h0]), fun h0 => ?_⟩⟩
  have hp : 0 < s.length := List.length_pos_iff.2 h0
  have hst := Wo.splitS_cms (s := s) (by omega) h0
  refine w_loopy (ι := Nat × Nat × List Wo.Fd × List Blk) (fun x => x.2.1 ≤ s.length ∧ s.length - x.2.1 < x.1 ∧ x.2.2.1.length ≤ x.2.1 ∧ Wo.splitS s = Wo.cms x.2.2.1 (Wo.spl x.1 (s.drop x.2.1))) (fun x => [(6, .int .i64 x.2.1), (5, .bool (Wo.long x.2.2.1)), (4, lst fdV (.tok 0 2) x.2.2.1), (0, .str s)]) (fun x => .tok x.2.2.1.length :: x.2.2.2) (fun x => s.length + 1 - x.2.1) (s.length + 1, 0, [], []) ⟨⟨Nat.zero_le _, by simp only; omega, Nat.le_refl _, hst⟩, _, _, wk_tok 4 2 rfl, ⟨by simp only [go_sem, Nat.reduceMod, Nat.reduceBNe, Nat.reduceBEq, Nat.reduceEqDiff, Nat.reduceAdd, Int.reduceAdd, Nat.reduceMul, Nat.reduceSub, Int.reduceToNat, Int.reduceLE, Int.reduceLT, Int.reduceEq, Int.reduceNe, reduceCtorEq, Nat.reduceLT, Nat.reduceLeDiff]; exact ⟨rfl, rfl⟩, rfl⟩⟩ fun x hx => ?_
  obtain ⟨F, i, o, R⟩ := x
  obtain ⟨c1, c2, c3, c4⟩ := hx
  simp only at c1 c2 c3 c4
  obtain ⟨F, rfl⟩ : ∃ G, F = G + 1 := ⟨F - 1, by omega⟩
  simp only [A_ref01_SplitL0]
  refine xa_block ?_
  refine xa_cut hs.hm ?_
  simp only [go_sem, Nat.reduceMod, Nat.reduceBNe, Nat.reduceBEq, Nat.reduceEqDiff, Nat.reduceAdd, Int.reduceAdd, Nat.reduceMul, Nat.reduceSub, Int.reduceToNat, Int.reduceLE, Int.reduceLT, Int.reduceEq, Int.reduceNe, reduceCtorEq, Nat.reduceLT, Nat.reduceLeDiff, List.take_length]
  refine ⟨by omega, ?_⟩
  refine call_ev (ev_rquoted hX hs (s.drop i) (by rw [List.length_drop]; omega)) ?_
  have hq := @Wo.unqS_le (s.drop i)
  have hfq := @Wo.fld_q (s.drop i)
  have hfb := @Wo.fld_b (s.drop i)
  have hfn := @Wo.fld_n (s.drop i)
  rw [List.length_drop] at hq
  simp only [go_sem, Nat.reduceMod, Nat.reduceBNe, Nat.reduceBEq, Nat.reduceEqDiff, Nat.reduceAdd, Int.reduceAdd, Nat.reduceMul, Nat.reduceSub, Int.reduceToNat, Int.reduceLE, Int.reduceLT, Int.reduceEq, Int.reduceNe, reduceCtorEq, Nat.reduceLT, Nat.reduceLeDiff]
  refine xa_keep [0, 4, 5, 6, 7, 8] ?_
  simp only [go_sem, Nat.reduceMod, Nat.reduceBNe, Nat.reduceBEq, Nat.reduceEqDiff, Nat.reduceAdd, Int.reduceAdd, Nat.reduceMul, Nat.reduceSub, Int.reduceToNat, Int.reduceLE, Int.reduceLT, Int.reduceEq, Int.reduceNe, reduceCtorEq, Nat.reduceLT, Nat.reduceLeDiff]
  refine xa_cut hs.hm ?_
  simp only [go_sem, Nat.reduceMod, Nat.reduceBNe, Nat.reduceBEq, Nat.reduceEqDiff, Nat.reduceAdd, Int.reduceAdd, Nat.reduceMul, Nat.reduceSub, Int.reduceToNat, Int.reduceLE, Int.reduceLT, Int.reduceEq, Int.reduceNe, reduceCtorEq, Nat.reduceLT, Nat.reduceLeDiff]
  generalize hut : (Wo.unqS (s.drop i)).1 = ut at *
  generalize hun : (Wo.unqS (s.drop i)).2 = un at *
  have inner : ∀ (Q : Exit → Fr → Heap → Prop) (hQ : ∀ F : FL, un = 0 → F.get 8 = .int .i64 (Lat.idx 32 (s.drop i) : Nat) → F.get 0 = .str s → F.get 4 = lst fdV (.tok 0 2) o → F.get 5 = .bool (Wo.long o) → F.get 6 = .int .i64 i → F.get 9 = .ptr (R.length + 1) 0 → Q (.exit 2) F.get (.tok o.length :: (R ++ [.box [.str ut, .bool true]]))) (F : FL), un = 0 → F.get 8 = .int .i64 0 → F.get 0 = .str s → F.get 4 = lst fdV (.tok 0 2) o → F.get 5 = .bool (Wo.long o) → F.get 6 = .int .i64 i → F.get 9 = .ptr (R.length + 1) 0 → wpc X 84 (.loop A_ref01_SplitL1) Q F.get (.tok o.length :: (R ++ [.box [.str ut, .bool true]])) := by
    intro Q hQ F hu g8 g0 g4 g5 g6 g9
    refine w_loop' hs.hm (ι := Nat) (fun n => i + n ≤ s.length ∧ ∀ k, k < n → ¬ s.getD (i + k) 0 = 32) (fun n => [(8, .int .i64 n), (0, .str s), (4, lst fdV (.tok 0 2) o), (5, .bool (Wo.long o)), (6, .int .i64 i), (9, .ptr (R.length + 1) 0)]) (fun _ => .tok o.length :: (R ++ [.box [.str ut, .bool true]])) (fun n => s.length - i - n) 0 ?_ fun n hn => ?_
    · simp only [go_sem, Nat.reduceMod, Nat.reduceBNe, Nat.reduceBEq, Nat.reduceEqDiff, Nat.reduceAdd, Int.reduceAdd, Nat.reduceMul, Nat.reduceSub, Int.reduceToNat, Int.reduceLE, Int.reduceLT, Int.reduceEq, Int.reduceNe, reduceCtorEq, Nat.reduceLT, Nat.reduceLeDiff, g8, g0, g4, g5, g6, g9]
      exact ⟨by omega, by omega⟩
    obtain ⟨n1, n2⟩ := hn
    have ew : IntKind.i64.wrap ((i : Int) + n) = ((i + n : Nat) : Int) := by rw [wi64 (by omega)]; rfl
    simp only [A_ref01_SplitL1, go_sem, Nat.reduceMod, Nat.reduceBNe, Nat.reduceBEq, Nat.reduceEqDiff, Nat.reduceAdd, Int.reduceAdd, Nat.reduceMul, Nat.reduceSub, Int.reduceToNat, Int.reduceLE, Int.reduceLT, Int.reduceEq, Int.reduceNe, reduceCtorEq, Nat.reduceLT, Nat.reduceLeDiff, ew]
    refine ⟨fun c => ⟨by omega, fun c2 => ⟨n + 1, by omega, ⟨by omega, fun k hk => ?_⟩, by rw [wi64 (by omega)]; rfl⟩, fun c2 => hQ _ hu ?_ rfl rfl rfl rfl rfl⟩, fun c => hQ _ hu ?_ rfl rfl rfl rfl rfl⟩
    · rcases Nat.lt_or_ge k n with h' | h'
      · exact n2 k h'
      · rw [show k = n by omega]
        exact fun h => c2 ((u8_lit (b := 32) rfl).2 h)
    · rw [idx_stop n2 n1 (.inr ((u8_lit (b := 32) rfl).1 c2))]
      rfl
    · rw [idx_stop n2 n1 (.inl (by omega))]
      rfl
  have hix := Lat.idx_le 32 (s.drop i)
  have hdl : (s.drop i).length = s.length - i := by rw [List.length_drop]
  cases hf : Wo.fld (s.drop i) with
  | none =>
    have hu : un = 0 := by
      rcases Nat.eq_zero_or_pos un with h | h
      · exact h
      · rw [hfq h] at hf; cases hf
    have hb : Wo.bareB ((s.drop i).take (Lat.idx 32 (s.drop i))) = false := by
      cases hb : Wo.bareB ((s.drop i).take (Lat.idx 32 (s.drop i))) with
      | false => rfl
      | true => rw [hfb (by omega) hb] at hf; cases hf
    refine xa_cut hs.hm ?_
    simp only [go_sem, Nat.reduceMod, Nat.reduceBNe, Nat.reduceBEq, Nat.reduceEqDiff, Nat.reduceAdd, Int.reduceAdd, Nat.reduceMul, Nat.reduceSub, Int.reduceToNat, Int.reduceLE, Int.reduceLT, Int.reduceEq, Int.reduceNe, reduceCtorEq, Nat.reduceLT, Nat.reduceLeDiff, hu]
    refine inner _ (fun G hu g8 g0 g4 g5 g6 g9 => ?_) _ hu rfl rfl rfl rfl rfl rfl
    generalize Lat.idx 32 (s.drop i) = m at *
    have ew : IntKind.i64.wrap ((i : Int) + m) = ((i + m : Nat) : Int) := by rw [wi64 (by omega)]; rfl
    simp only [go_sem, Nat.reduceMod, Nat.reduceBNe, Nat.reduceBEq, Nat.reduceEqDiff, Nat.reduceAdd, Int.reduceAdd, Nat.reduceMul, Nat.reduceSub, Int.reduceToNat, Int.reduceLE, Int.reduceLT, Int.reduceEq, Int.reduceNe, reduceCtorEq, Nat.reduceLT, Nat.reduceLeDiff, g8, g0, g4, g5, g6, g9, ew, piece_eq]
    refine ⟨by omega, call_ev (ev_rbare hX hs _ (by rw [List.length_take, List.length_drop]; omega)) ?_⟩
    rw [hb]
    simp only [go_sem, Nat.reduceMod, Nat.reduceBNe, Nat.reduceBEq, Nat.reduceEqDiff, Nat.reduceAdd, Int.reduceAdd, Nat.reduceMul, Nat.reduceSub, Int.reduceToNat, Int.reduceLE, Int.reduceLT, Int.reduceEq, Int.reduceNe, reduceCtorEq, Nat.reduceLT, Nat.reduceLeDiff]
    exact splV_nil (by rw [c4, Wo.spl_bad hf])
  | some fn =>
    obtain ⟨f, n⟩ := fn
    have hfl := Wo.fld_le hf
    refine xa_join hs.hm [(0, .str s), (4, lst fdV (.tok 0 2) o), (5, .bool (Wo.long o)), (6, .int .i64 i), (8, .int .i64 n), (9, .ptr (R.length + 1) 0)] (H1 := .tok o.length :: (R ++ [.box [.str f.1, .bool f.2]])) ?_ ?_
    · by_cases hu : 0 < un
      · rw [hfq hu] at hf
        injection hf with hf
        injection hf with e1 e2
        subst e1 e2
        simp only [go_sem, Nat.reduceMod, Nat.reduceBNe, Nat.reduceBEq, Nat.reduceEqDiff, Nat.reduceAdd, Int.reduceAdd, Nat.reduceMul, Nat.reduceSub, Int.reduceToNat, Int.reduceLE, Int.reduceLT, Int.reduceEq, Int.reduceNe, reduceCtorEq, Nat.reduceLT, Nat.reduceLeDiff, show ¬ (un : Int) = 0 by omega]
      · cases hb : Wo.bareB ((s.drop i).take (Lat.idx 32 (s.drop i))) with
        | false => rw [hfn hu hb] at hf; cases hf
        | true =>
          rw [hfb hu hb] at hf
          injection hf with hf
          injection hf with e1 e2
          subst e1 e2
          have hu : un = 0 := by omega
          simp only [go_sem, Nat.reduceMod, Nat.reduceBNe, Nat.reduceBEq, Nat.reduceEqDiff, Nat.reduceAdd, Int.reduceAdd, Nat.reduceMul, Nat.reduceSub, Int.reduceToNat, Int.reduceLE, Int.reduceLT, Int.reduceEq, Int.reduceNe, reduceCtorEq, Nat.reduceLT, Nat.reduceLeDiff, hu]
          refine inner _ (fun G hu g8 g0 g4 g5 g6 g9 => ?_) _ hu rfl rfl rfl rfl rfl rfl
          generalize Lat.idx 32 (s.drop i) = m at *
          have ew : IntKind.i64.wrap ((i : Int) + m) = ((i + m : Nat) : Int) := by rw [wi64 (by omega)]; rfl
          simp only [go_sem, Nat.reduceMod, Nat.reduceBNe, Nat.reduceBEq, Nat.reduceEqDiff, Nat.reduceAdd, Int.reduceAdd, Nat.reduceMul, Nat.reduceSub, Int.reduceToNat, Int.reduceLE, Int.reduceLT, Int.reduceEq, Int.reduceNe, reduceCtorEq, Nat.reduceLT, Nat.reduceLeDiff, g8, g0, g4, g5, g6, g9, ew, piece_eq]
          refine ⟨by omega, call_ev (ev_rbare hX hs _ (by rw [List.length_take, List.length_drop]; omega)) ?_⟩
          rw [hb]
          simp only [go_sem, Nat.reduceMod, Nat.reduceBNe, Nat.reduceBEq, Nat.reduceEqDiff, Nat.reduceAdd, Int.reduceAdd, Nat.reduceMul, Nat.reduceSub, Int.reduceToNat, Int.reduceLE, Int.reduceLT, Int.reduceEq, Int.reduceNe, reduceCtorEq, Nat.reduceLT, Nat.reduceLeDiff, g8, g0, g4, g5, g6, g9]
    · refine xa_last hs.hm ?_
      have ew : IntKind.i64.wrap ((i : Int) + n) = ((i + n : Nat) : Int) := by rw [wi64 (by omega)]; rfl
      simp only [go_sem, Nat.reduceMod, Nat.reduceBNe, Nat.reduceBEq, Nat.reduceEqDiff, Nat.reduceAdd, Int.reduceAdd, Nat.reduceMul, Nat.reduceSub, Int.reduceToNat, Int.reduceLE, Int.reduceLT, Int.reduceEq, Int.reduceNe, reduceCtorEq, Nat.reduceLT, Nat.reduceLeDiff, ax1_fd, ew]
      have hg : (s.drop i).getD n 0 = s.getD (i + n) 0 := by simp [List.getD_eq_getElem?_getD]
      have hend : i + n = s.length → Wo.splitS s = if Wo.long (o ++ [f]) || decide (64 < (o ++ [f]).length) then ([], 3) else (o ++ [f], 0) := fun h => by
        rw [c4, Wo.spl_end hf (by omega)]
      have hodd : i + n < s.length → ¬ ((s.getD (i + n) 0).toNat : Int) = 32 → Wo.splitS s = ([], 6) := fun h h2 => by
        rw [c4, Wo.spl_odd hf (by omega) (by rw [hg]; exact fun h => h2 ((u8_lit (b := 32) rfl).2 h))]
      have hnext : i + n < s.length → ((s.getD (i + n) 0).toNat : Int) = 32 → Wo.splitS s = Wo.cms (o ++ [f]) (Wo.spl F (s.drop (i + n + 1))) := fun h h2 => by
        rw [c4, Wo.spl_next hf (by omega) (by rw [hg]; exact (u8_lit (b := 32) rfl).1 h2), List.drop_drop]
        congr 2
      have hlg := Wo.long_snoc o f
      have hln : (o ++ [f]).length = o.length + 1 := by simp
      refine ⟨by omega, fun hL => ⟨fun h => ?_, fun h => ⟨by omega, fun h2 => splV_nil (hodd (by omega) h2), fun h2 => ⟨(F, i + n + 1, o ++ [f], R ++ [.box [.str f.1, .bool f.2]]), by simp only; omega, ⟨by simp only; omega, by simp only; omega, by simp only; omega, hnext (by omega) h2⟩, ⟨by rw [wi64 (by omega)]; rfl, ?_, rfl⟩, by simp only [hln]⟩⟩⟩, fun hL => ⟨fun h => ⟨fun h2 => ?_, fun h2 => ⟨fun h3 => ?_, fun h3 => ?_⟩⟩, fun h => ⟨by omega, fun h2 => splV_nil (hodd (by omega) h2), fun h2 => ⟨(F, i + n + 1, o ++ [f], R ++ [.box [.str f.1, .bool f.2]]), by simp only; omega, ⟨by simp only; omega, by simp only; omega, by simp only; omega, hnext (by omega) h2⟩, ⟨by rw [wi64 (by omega)]; rfl, ?_, rfl⟩, by simp only [hln]⟩⟩⟩⟩
      · exact splV_nil (by rw [hend (by omega), hlg, hL]; rfl)
      · simp only [hlg, hL, Bool.true_or]
      · exact splV_nil (by rw [hend (by omega), hlg, hL, decide_eq_true (show 2000 < f.1.length by omega)]; rfl)
      · exact splV_nil (by rw [hend (by omega), decide_eq_true (show 64 < (o ++ [f]).length by omega), Bool.or_true]; rfl)
      · exact splV_eq (by rw [hend (by omega), hlg, hL, decide_eq_false (show ¬ 2000 < f.1.length by omega), decide_eq_false (show ¬ 64 < (o ++ [f]).length by omega)]; rfl)
      · simp only [hlg, hL, Bool.false_or]
        congr 1
        rw [Bool.eq_iff_iff, decide_eq_true_eq, decide_eq_true_eq]
        omega
end
end Go.Avm
