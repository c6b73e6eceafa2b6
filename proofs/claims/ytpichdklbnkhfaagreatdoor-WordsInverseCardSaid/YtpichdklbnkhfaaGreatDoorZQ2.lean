/- The reference: quoted forms, decimal forms. -/
import Derived.Test.YtpichdklbnkhfaaGreatDoorZQ1
import Derived.Test.YtpichdklbnkhfaaGreatDoorN2
set_option linter.unusedSectionVars false
set_option linter.unusedSimpArgs false
set_option linter.unusedVariables false

/- The reference: quoted forms, decimal forms. -/
namespace Go.Avm
open Go
theorem u8_nat {c : Nat} (h : c < 256) : AV.int .u8 ((c : Nat) : Int) = u8 (UInt8.ofNat c) := by
  simp only [u8, UInt8.toNat_ofNat', Nat.mod_eq_of_lt h]
theorem piece_eq (s : List UInt8) (i m : Nat) : (s.take (i + m)).drop i = (s.drop i).take m := by
  rw [List.drop_take, Nat.add_sub_cancel_left]
theorem esc_no {s : List UInt8} {i : Nat} {c : UInt8} (h : Wo.step (s.drop i) = none) : ¬ (s.drop i).take (Wo.escB c).length = Wo.escB c := fun e => by
  rw [Wo.step_only e] at h; cases h
theorem esc_one {s : List UInt8} {i : Nat} {c x : UInt8} {k : Nat} (h : Wo.step (s.drop i) = some (x, k)) : (s.drop i).take (Wo.escB c).length = Wo.escB c ↔ c = x := by
  constructor
  · intro e
    rw [Wo.step_only e] at h
    injection h with h
    injection h
  · rintro rfl
    exact (Wo.step_here h).2
set_option maxRecDepth 10000
section
variable {X : Cx} (hX : X.P = Go.Proofs.Tryz.prog) (hs : Std X)
include hX hs
theorem ev_rdecimal (s : List UInt8) (hl : s.length < 1000000) : Ev X F_ref01_decimal [.str s] (.bool (Wo.decS s)) := by
  refine ev_of_xa hs (A_ref01_decimal_ok hX) 0 ?_
  simp only [A_ref01_decimal]
  refine xa_cut hs.hm ?_
  simp only [go_sem, Nat.reduceMod, Nat.reduceBNe, Nat.reduceBEq, Nat.reduceEqDiff, Nat.reduceAdd, Int.reduceAdd, Nat.reduceMul, Nat.reduceSub, Int.reduceToNat, Int.reduceLE, Int.reduceLT, Int.reduceEq, Int.reduceNe, reduceCtorEq, Nat.reduceLT, Nat.reduceLeDiff]
  refine xa_join hs.hm [(0, .str (Wo.rmg s))] (H1 := []) ?_ ?_
  · simp only [go_sem, Nat.reduceMod, Nat.reduceBNe, Nat.reduceBEq, Nat.reduceEqDiff, Nat.reduceAdd, Int.reduceAdd, Nat.reduceMul, Nat.reduceSub, Int.reduceToNat, Int.reduceLE, Int.reduceLT, Int.reduceEq, Int.reduceNe, reduceCtorEq, Nat.reduceLT, Nat.reduceLeDiff, List.take_length]
    have e0 : ∀ (h : ¬ (1 < s.length ∧ s.getD 0 0 = 45 ∧ ¬ s.getD 1 0 = 48)), AV.str s = AV.str (Wo.rmg s) := fun h => by rw [Wo.rmg, if_neg h]
    refine ⟨fun h1 => ⟨by omega, fun h2 => ⟨h1, fun h3 => ⟨by omega, ?_⟩, fun h3 => e0 fun h => h.2.2 ((u8_lit (b := 48) rfl).1 h3)⟩, fun h2 => e0 fun h => h2 ((u8_lit (b := 45) rfl).2 h.2.1)⟩, fun h1 => e0 fun h => by omega⟩
    rw [Wo.rmg, if_pos ⟨by omega, (u8_lit (b := 45) rfl).1 h2, fun h => h3 ((u8_lit (b := 48) rfl).2 h)⟩]
  have hrl : (Wo.rmg s).length ≤ s.length := by
    unfold Wo.rmg
    split
    · rw [List.length_drop]; omega
    · exact Nat.le_refl _
  by_cases hc : (Wo.rmg s).length = 0 ∨ (1 < (Wo.rmg s).length ∧ (Wo.rmg s).getD 0 0 = 48)
  · have hd : Wo.decS s = false := by rw [Wo.rdec, if_pos hc]
    refine xa_last hs.hm ?_
    simp only [go_sem, Nat.reduceMod, Nat.reduceBNe, Nat.reduceBEq, Nat.reduceEqDiff, Nat.reduceAdd, Int.reduceAdd, Nat.reduceMul, Nat.reduceSub, Int.reduceToNat, Int.reduceLE, Int.reduceLT, Int.reduceEq, Int.reduceNe, reduceCtorEq, Nat.reduceLT, Nat.reduceLeDiff]
    rw [hd]
    refine ⟨fun _ => rfl, fun h1 => ⟨fun h2 => ⟨by omega, fun _ => rfl, fun h3 => ?_⟩, fun h2 => ?_⟩⟩
    · rcases hc with hc | hc
      · omega
      · exact absurd ((u8_lit (b := 48) rfl).2 hc.2) h3
    · omega
  have hY := Wo.decS_yes hc
  have hN := @Wo.decS_no s
  refine xa_join hs.hm [(0, .str (Wo.rmg s))] (H1 := []) ?_ ?_
  · simp only [go_sem, Nat.reduceMod, Nat.reduceBNe, Nat.reduceBEq, Nat.reduceEqDiff, Nat.reduceAdd, Int.reduceAdd, Nat.reduceMul, Nat.reduceSub, Int.reduceToNat, Int.reduceLE, Int.reduceLT, Int.reduceEq, Int.reduceNe, reduceCtorEq, Nat.reduceLT, Nat.reduceLeDiff]
    exact ⟨fun h1 => absurd (.inl (by omega)) hc, fun h1 h2 => ⟨by omega, fun h3 => absurd (.inr ⟨by omega, (u8_lit (b := 48) rfl).1 h3⟩) hc⟩⟩
  refine xa_last hs.hm ?_
  generalize Wo.rmg s = t at *
  simp only [go_sem, Nat.reduceMod, Nat.reduceBNe, Nat.reduceBEq, Nat.reduceEqDiff, Nat.reduceAdd, Int.reduceAdd, Nat.reduceMul, Nat.reduceSub, Int.reduceToNat, Int.reduceLE, Int.reduceLT, Int.reduceEq, Int.reduceNe, reduceCtorEq, Nat.reduceLT, Nat.reduceLeDiff]
  refine w_loop' hs.hm (ι := Nat) (fun i => i ≤ t.length ∧ ∀ k, k < i → Wo.digB (t.getD k 0) = true) (fun i => [(3, .int .i64 i), (0, .str t)]) (fun _ => []) (fun i => t.length - i) 0 ?_ fun i hi => ?_
  · simp only [go_sem, Nat.reduceMod, Nat.reduceBNe, Nat.reduceBEq, Nat.reduceEqDiff, Nat.reduceAdd, Int.reduceAdd, Nat.reduceMul, Nat.reduceSub, Int.reduceToNat, Int.reduceLE, Int.reduceLT, Int.reduceEq, Int.reduceNe, reduceCtorEq, Nat.reduceLT, Nat.reduceLeDiff]
    exact ⟨Nat.zero_le _, no_lt0⟩
  obtain ⟨i1, i2⟩ := hi
  simp only [A_ref01_decimalL0, go_sem, Nat.reduceMod, Nat.reduceBNe, Nat.reduceBEq, Nat.reduceEqDiff, Nat.reduceAdd, Int.reduceAdd, Nat.reduceMul, Nat.reduceSub, Int.reduceToNat, Int.reduceLE, Int.reduceLT, Int.reduceEq, Int.reduceNe, reduceCtorEq, Nat.reduceLT, Nat.reduceLeDiff]
  refine ⟨fun c => ⟨by omega, call_ev (ev_digit hX hs (t.getD i 0)) ?_⟩, fun c => ?_⟩
  · rw [digB_lat]
    cases hp : Wo.digB (t.getD i 0) with
    | false =>
      simp only [go_sem, Nat.reduceMod, Nat.reduceBNe, Nat.reduceBEq, Nat.reduceEqDiff, Nat.reduceAdd, Int.reduceAdd, Nat.reduceMul, Nat.reduceSub, Int.reduceToNat, Int.reduceLE, Int.reduceLT, Int.reduceEq, Int.reduceNe, reduceCtorEq, Nat.reduceLT, Nat.reduceLeDiff]
      rw [hN (by omega) hp]
    | true =>
      simp only [go_sem, Nat.reduceMod, Nat.reduceBNe, Nat.reduceBEq, Nat.reduceEqDiff, Nat.reduceAdd, Int.reduceAdd, Nat.reduceMul, Nat.reduceSub, Int.reduceToNat, Int.reduceLE, Int.reduceLT, Int.reduceEq, Int.reduceNe, reduceCtorEq, Nat.reduceLT, Nat.reduceLeDiff]
      exact nxt1 (by omega) i2 hp (by omega)
  · rw [hY fun k hk => i2 k (by omega)]
end
end Go.Avm

/- Int. -/
namespace Go.Avm
open Go
def intV (s : List UInt8) (low high : Int) : AV := .tuple [.int .i64 (Wo.intS s low high).1, .int .i64 (Wo.intS s low high).2]
theorem intV_form {s : List UInt8} {low high : Int} (h : Wo.decS s = false) : AV.tuple [.int .i64 0, .int .i64 6] = intV s low high := by rw [intV, Wo.intS, if_pos h]
theorem intV_rng {s : List UInt8} {low high : Int} (h : Wo.decS s = true) (h2 : Wo.valS s < -9223372036854775808 ∨ 9223372036854775807 < Wo.valS s ∨ Wo.valS s < low ∨ high < Wo.valS s) : AV.tuple [.int .i64 0, .int .i64 7] = intV s low high := by
  rw [intV, Wo.intS, if_neg (by rw [h]; decide), if_pos h2]
theorem intV_ok {s : List UInt8} {low high v : Int} (h : Wo.decS s = true) (h2 : ¬ (Wo.valS s < -9223372036854775808 ∨ 9223372036854775807 < Wo.valS s ∨ Wo.valS s < low ∨ high < Wo.valS s)) (hv : v = Wo.valS s) : AV.tuple [.int .i64 v, .int .i64 0] = intV s low high := by
  rw [intV, Wo.intS, if_neg (by rw [h]; decide), if_neg h2, hv]
set_option maxRecDepth 10000
section
variable {X : Cx} (hX : X.P = Go.Proofs.Tryz.prog) (hs : Std X)
include hX hs
theorem ev_Int {te : Nat} (hR : X.G (sRen.g 16) = some [.ifc te .undef]) (s : List UInt8) (low high : Int) (hl : s.length < 1000000) : Ev X F_words_Int [.str s, .int .i64 low, .int .i64 high] (intV s low high) := by
  refine ev_of_wpc hs (A_words_Int_ok hX) 0 ?_
  simp only [A_words_Int, go_sem, Nat.reduceMod, Nat.reduceBNe, Nat.reduceBEq, Nat.reduceEqDiff, Nat.reduceAdd, Int.reduceAdd, Nat.reduceMul, Nat.reduceSub, Int.reduceToNat, Int.reduceLE, Int.reduceLT, Int.reduceEq, Int.reduceNe, reduceCtorEq, Nat.reduceLT, Nat.reduceLeDiff]
  refine call_ev (ev_isDecimal hX hs s hl) ?_
  cases hd : Wo.decS s with
  | false =>
    simp only [go_sem, Nat.reduceMod, Nat.reduceBNe, Nat.reduceBEq, Nat.reduceEqDiff, Nat.reduceAdd, Int.reduceAdd, Nat.reduceMul, Nat.reduceSub, Int.reduceToNat, Int.reduceLE, Int.reduceLT, Int.reduceEq, Int.reduceNe, reduceCtorEq, Nat.reduceLT, Nat.reduceLeDiff]
    exact intV_form hd
  | true =>
    simp only [go_sem, Nat.reduceMod, Nat.reduceBNe, Nat.reduceBEq, Nat.reduceEqDiff, Nat.reduceAdd, Int.reduceAdd, Nat.reduceMul, Nat.reduceSub, Int.reduceToNat, Int.reduceLE, Int.reduceLT, Int.reduceEq, Int.reduceNe, reduceCtorEq, Nat.reduceLT, Nat.reduceLeDiff]
    refine call_ev (ev_ParseInt hX hR s hd hl) ?_
    unfold prsI
    by_cases hv : -9223372036854775808 ≤ Wo.valS s ∧ Wo.valS s ≤ 9223372036854775807
    · rw [if_pos hv]
      simp only [go_sem, Nat.reduceMod, Nat.reduceBNe, Nat.reduceBEq, Nat.reduceEqDiff, Nat.reduceAdd, Int.reduceAdd, Nat.reduceMul, Nat.reduceSub, Int.reduceToNat, Int.reduceLE, Int.reduceLT, Int.reduceEq, Int.reduceNe, reduceCtorEq, Nat.reduceLT, Nat.reduceLeDiff]
      exact ⟨fun h => intV_rng hd (by omega), fun h => ⟨fun h2 => intV_rng hd (by omega), fun h2 => intV_ok hd (by omega) rfl⟩⟩
    · rw [if_neg hv]
      simp only [go_sem, Nat.reduceMod, Nat.reduceBNe, Nat.reduceBEq, Nat.reduceEqDiff, Nat.reduceAdd, Int.reduceAdd, Nat.reduceMul, Nat.reduceSub, Int.reduceToNat, Int.reduceLE, Int.reduceLT, Int.reduceEq, Int.reduceNe, reduceCtorEq, Nat.reduceLT, Nat.reduceLeDiff]
      exact intV_rng hd (by omega)
theorem ev_rInt (s : List UInt8) (low high : Int) (hl : s.length < 1000000) : Ev X F_ref01_Int [.str s, .int .i64 low, .int .i64 high] (intV s low high) := by
  refine ev_of_wpc hs (A_ref01_Int_ok hX) 0 ?_
  simp only [A_ref01_Int, go_sem, Nat.reduceMod, Nat.reduceBNe, Nat.reduceBEq, Nat.reduceEqDiff, Nat.reduceAdd, Int.reduceAdd, Nat.reduceMul, Nat.reduceSub, Int.reduceToNat, Int.reduceLE, Int.reduceLT, Int.reduceEq, Int.reduceNe, reduceCtorEq, Nat.reduceLT, Nat.reduceLeDiff]
  refine call_ev (ev_rdecimal hX hs s hl) ?_
  cases hd : Wo.decS s with
  | false =>
    simp only [go_sem, Nat.reduceMod, Nat.reduceBNe, Nat.reduceBEq, Nat.reduceEqDiff, Nat.reduceAdd, Int.reduceAdd, Nat.reduceMul, Nat.reduceSub, Int.reduceToNat, Int.reduceLE, Int.reduceLT, Int.reduceEq, Int.reduceNe, reduceCtorEq, Nat.reduceLT, Nat.reduceLeDiff]
    exact intV_form hd
  | true =>
    have hsg := Wo.sg_le hd
    simp only [go_sem, Nat.reduceMod, Nat.reduceBNe, Nat.reduceBEq, Nat.reduceEqDiff, Nat.reduceAdd, Int.reduceAdd, Nat.reduceMul, Nat.reduceSub, Int.reduceToNat, Int.reduceLE, Int.reduceLT, Int.reduceEq, Int.reduceNe, reduceCtorEq, Nat.reduceLT, Nat.reduceLeDiff]
    refine ⟨by omega, ?_⟩
    refine w_loop' hs.hm (ι := Nat) (fun i => i ≤ s.length ∧ Wo.mgI s i ≤ 9223372036854775808) (fun i => [(10, .int .i64 i), (9, .int .i64 (-(Wo.mgI s i : Int))), (8, .bool (decide (Wo.sg s = 1))), (2, .int .i64 high), (1, .int .i64 low), (0, .str s)]) (fun _ => []) (fun i => s.length - i) 0 ?_ fun i hi => ?_
    · simp only [go_sem, Nat.reduceMod, Nat.reduceBNe, Nat.reduceBEq, Nat.reduceEqDiff, Nat.reduceAdd, Int.reduceAdd, Nat.reduceMul, Nat.reduceSub, Int.reduceToNat, Int.reduceLE, Int.reduceLT, Int.reduceEq, Int.reduceNe, reduceCtorEq, Nat.reduceLT, Nat.reduceLeDiff, Wo.mgI_0]
      refine ⟨Nat.zero_le _, rfl, ?_⟩
      congr 1
      rw [Bool.eq_iff_iff, decide_eq_true_eq, decide_eq_true_eq, show ((45 : Int)) = ((UInt8.toNat 45 : Nat) : Int) from rfl, u8_eq]
      unfold Wo.sg
      split
      · rename_i e; exact ⟨fun _ => rfl, fun _ => e⟩
      · rename_i e; exact ⟨fun h => absurd h e, fun h => by simp at h⟩
    obtain ⟨i1, i2⟩ := hi
    by_cases hi : i < s.length
    · have hi' : (i : Int) < s.length := by omega
      simp only [A_ref01_IntL0, go_sem, Nat.reduceMod, Nat.reduceBNe, Nat.reduceBEq, Nat.reduceEqDiff, Nat.reduceAdd, Int.reduceAdd, Nat.reduceMul, Nat.reduceSub, Int.reduceToNat, Int.reduceLE, Int.reduceLT, Int.reduceEq, Int.reduceNe, reduceCtorEq, Nat.reduceLT, Nat.reduceLeDiff, hi']
      rcases Wo.dec_at hd hi with ⟨e, rfl, hg⟩ | ⟨hdg, hg, hne⟩
      · have h0 := Wo.mgI_0 s
        have h1 := Wo.mgI_sign hg
        exact ⟨by omega, fun _ => ⟨1, by omega, ⟨by omega, by omega⟩, rfl, by rw [h0, h1]⟩, fun h => absurd ((u8_lit (b := 45) rfl).2 e) h⟩
      · have hr := Wo.dg_rng hdg
        have hn := Wo.mgI_next hi hg
        have hle := @Wo.mgI_le s (i + 1) (by omega) (by omega)
        have hv := Wo.valS_sg s
        have ed : IntKind.i64.wrap (IntKind.u8.wrap (((s.getD i 0).toNat : Int) - 48)) = (((s.getD i 0).toNat - 48 : Nat) : Int) := by
          rw [wu8 (by omega), wi64 (by omega)]; omega
        rw [ed]
        have hd9 : (s.getD i 0).toNat - 48 ≤ 9 := by omega
        generalize (s.getD i 0).toNat - 48 = d at *
        have et : IntKind.i64.wrap ((IntKind.i64.wrap (-9223372036854775808 + (d : Int))).tdiv 10) = -((9223372036854775808 - (d : Int)) / 10) := by
          rw [wi64 (n := -9223372036854775808 + (d : Int)) (by omega), show (-9223372036854775808 + (d : Int)) = -(9223372036854775808 - (d : Int)) by omega, Int.neg_tdiv, Int.tdiv_eq_ediv_of_nonneg (by omega), wi64 (by omega)]
        rw [et]
        refine ⟨by omega, fun h => absurd ((u8_lit (b := 45) rfl).1 h) hne, fun _ => ⟨by omega, fun h => ?_, fun h => ?_⟩⟩
        · refine intV_rng hd ?_
          split at hv <;> omega
        · refine ⟨i + 1, by omega, ⟨by omega, by omega⟩, by rw [wi64 (by omega)]; rfl, ?_⟩
          congr 1
          rw [wi64 (n := 10 * -(Wo.mgI s i : Int)) (by omega), wi64 (by omega)]
          omega
    · have hi' : ¬ (i : Int) < s.length := by omega
      simp only [A_ref01_IntL0, go_sem, Nat.reduceMod, Nat.reduceBNe, Nat.reduceBEq, Nat.reduceEqDiff, Nat.reduceAdd, Int.reduceAdd, Nat.reduceMul, Nat.reduceSub, Int.reduceToNat, Int.reduceLE, Int.reduceLT, Int.reduceEq, Int.reduceNe, reduceCtorEq, Nat.reduceLT, Nat.reduceLeDiff, hi']
      obtain rfl : i = s.length := by omega
      have hv := Wo.valS_sg s
      rw [Wo.mgI_end] at i2 ⊢
      generalize Wo.magL 0 (Wo.mg s) = m at *
      refine ⟨fun hg => ⟨fun h => intV_rng hd (by rw [if_neg hg] at hv; omega), fun h => ⟨fun _ => ?_, fun h' => absurd h' hg⟩⟩, fun hg => ⟨fun h => absurd hg h, fun _ => ?_⟩⟩
      · rw [if_neg hg] at hv
        rw [wi64 (by omega)]
        exact ⟨fun h => intV_rng hd (by omega), fun h => ⟨fun h2 => intV_rng hd (by omega), fun h2 => intV_ok hd (by omega) (by omega)⟩⟩
      · rw [if_pos hg] at hv
        exact ⟨fun h => intV_rng hd (by omega), fun h => ⟨fun h2 => intV_rng hd (by omega), fun h2 => intV_ok hd (by omega) (by omega)⟩⟩
end
end Go.Avm

/- Split: the reference. -/
namespace Go.Avm
open Go
/-- a field -/
def fdV (f : Wo.Fd) : AV := .agg [.str f.1, .bool f.2]
instance : Elt fdV 2 := ⟨fun _ => rfl, fun _ => rfl, fun _ => rfl, fun _ => rfl⟩
theorem ax1_fd {H : Heap} {by' : Nat} (i : Nat) (l : List Wo.Fd) (f : Wo.Fd) : appX H 2 by' (lst fdV (.tok i 2) l) (some [.agg [.str f.1, .bool f.2]]) = app1 H by' i l.length (lst fdV (.tok i 2) (l ++ [f])) :=
  ax_tok (f := fdV) (m := [f]) i
theorem idx_stop {s : List UInt8} {i n : Nat} (h : ∀ k, k < n → ¬ s.getD (i + k) 0 = 32) (hn : i + n ≤ s.length) (he : i + n = s.length ∨ s.getD (i + n) 0 = 32) : Lat.idx 32 (s.drop i) = n := by
  have hg : ∀ k, (s.drop i).getD k 0 = s.getD (i + k) 0 := fun k => by simp [List.getD_eq_getElem?_getD]
  by_cases hlt : i + n < s.length
  · refine Lat.idx_eq (by rw [List.length_drop]; omega) (by rw [hg]; rcases he with he | he; · omega
                                                            · exact he) fun k hk => by rw [hg]; exact h k hk
  · have : n = (s.drop i).length := by rw [List.length_drop]; omega
    rw [this]
    refine Lat.idx_len fun k hk => ?_
    rw [hg]
    exact h k (by omega)
def splV (s : List UInt8) : AV := .tuple [lst fdV .ro (Wo.splitS s).1, .int .i64 (Wo.splitS s).2]
theorem splV_eq {s : List UInt8} {l : List Wo.Fd} {e : Int} (h : Wo.splitS s = (l, e)) : AV.tuple [lst fdV .ro l, .int .i64 e] = splV s := by rw [splV, h]
theorem splV_nil {s : List UInt8} {e : Int} (h : Wo.splitS s = ([], e)) : AV.tuple [.sl .ro [], .int .i64 e] = splV s := by rw [splV, h]; rfl
set_option maxRecDepth 10000
section
variable {X : Cx} (hX : X.P = Go.Proofs.Tryz.prog) (hs : Std X)
include hX hs
end
end Go.Avm
