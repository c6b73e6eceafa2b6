/- Numbers in decimal form, compared; the next one. -/
import Derived.Test.YtpichdklbnkhfaaGreatDoorZQ4
import Derived.Test.YtpichdklbnkhfaaGreatDoorN4
set_option linter.unusedSectionVars false
set_option linter.unusedSimpArgs false
set_option linter.unusedVariables false

/- Numbers in decimal form, compared; the next one. -/
namespace Go.Avm
open Go
def cmpI (a b : List UInt8) : Int := if a.length = b.length then Lib.compareBytes a b else (a.length : Int) - b.length
theorem cmpB : ∀ (a b : List UInt8), a.length = b.length → (Lib.compareBytes a b < 0 ↔ Op.bytesLess a b = true) ∧ (0 < Lib.compareBytes a b ↔ Op.bytesLess b a = true)
  | [], [], _ => by simp [Lib.compareBytes, Op.bytesLess]
  | x :: a, y :: b, h => by
    obtain ⟨h1, h2⟩ := cmpB a b (by simpa using h)
    simp only [Lib.compareBytes, Op.bytesLess, Bool.or_eq_true, Bool.and_eq_true, decide_eq_true_eq, beq_iff_eq]
    by_cases hxy : x < y
    · rw [if_pos hxy]
      have hn : ¬ y < x := fun h => absurd (UInt8.lt_trans hxy h) (UInt8.lt_irrefl _)
      have hne : ¬ y = x := fun e => by subst e; exact UInt8.lt_irrefl _ hxy
      exact ⟨⟨fun _ => .inl hxy, fun _ => by omega⟩, ⟨fun h => by omega, fun h => h.elim (fun h => (by exact absurd h hn)) (fun h => (by exact absurd h.1 hne))⟩⟩
    · rw [if_neg hxy]
      by_cases hyx : y < x
      · rw [if_pos hyx]
        have hne : ¬ x = y := fun e => by subst e; exact UInt8.lt_irrefl _ hyx
        exact ⟨⟨fun h => by omega, fun h => h.elim (fun h => (by exact absurd h hxy)) (fun h => (by exact absurd h.1 hne))⟩, ⟨fun _ => .inl hyx, fun _ => by omega⟩⟩
      · rw [if_neg hyx]
        have e : x = y := by
          apply UInt8.toNat_inj.1
          rw [UInt8.lt_iff_toNat_lt] at hxy hyx
          omega
        subst e
        exact ⟨h1.trans ⟨fun h => .inr ⟨rfl, h⟩, fun h => h.elim (fun h => (by exact absurd h (UInt8.lt_irrefl _))) (fun h => (by exact h.2))⟩, h2.trans ⟨fun h => .inr ⟨rfl, h⟩, fun h => h.elim (fun h => (by exact absurd h (UInt8.lt_irrefl _))) (fun h => (by exact h.2))⟩⟩
theorem cmp_lt (a b : List UInt8) : cmpI a b < 0 ↔ Wo.lessB a b = true := by
  unfold cmpI Wo.lessB
  by_cases h : a.length = b.length
  · rw [if_pos h, if_pos h]; exact (cmpB a b h).1
  · rw [if_neg h, if_neg h, decide_eq_true_eq]; omega
theorem cmp_gt (a b : List UInt8) : 0 < cmpI a b ↔ Wo.lessB b a = true := by
  unfold cmpI Wo.lessB
  by_cases h : a.length = b.length
  · rw [if_pos h, if_pos h.symm]; exact (cmpB a b h).2
  · rw [if_neg h, if_neg (fun e => h e.symm), decide_eq_true_eq]; omega
theorem add1 {c : UInt8} (h : c.toNat < 255) : IntKind.u8.wrap ((c.toNat : Int) + 1) = (((c + 1).toNat : Nat) : Int) := by
  have e : (c + 1).toNat = c.toNat + 1 := by
    rw [UInt8.toNat_add]
    have : (1 : UInt8).toNat = 1 := rfl
    omega
  rw [wu8 (by omega), e]; rfl
theorem rep0 (n : Nat) : Lib.repeatL [48] n = List.replicate n 48 := by
  induction n with
  | zero => rfl
  | succ n ih => rw [Lib.repeatL, ih]; rfl
set_option maxRecDepth 10000
section
variable {X : Cx} (hX : X.P = Go.Proofs.Tryz.prog) (hs : Std X)
include hX hs
theorem ev_compare (a b : List UInt8) (ha : a.length < 1000000) (hb : b.length < 1000000) : Ev X F_words_compare [.str a, .str b] (.int .i64 (cmpI a b)) := by
  refine ev_of_wpc hs (A_words_compare_ok hX) 0 ?_
  simp only [A_words_compare, go_sem, Nat.reduceMod, Nat.reduceBNe, Nat.reduceBEq, Nat.reduceEqDiff, Nat.reduceAdd, Int.reduceAdd, Nat.reduceMul, Nat.reduceSub, Int.reduceToNat, Int.reduceLE, Int.reduceLT, Int.reduceEq, Int.reduceNe, reduceCtorEq, Nat.reduceLT, Nat.reduceLeDiff]
  refine ⟨fun h => ?_, fun h => call_ev (ev_Compare hX a b) ?_⟩
  · rw [wi64 (by omega), cmpI, if_neg (by omega)]
  · simp only [go_sem, Nat.reduceMod, Nat.reduceBNe, Nat.reduceBEq, Nat.reduceEqDiff, Nat.reduceAdd, Int.reduceAdd, Nat.reduceMul, Nat.reduceSub, Int.reduceToNat, Int.reduceLE, Int.reduceLT, Int.reduceEq, Int.reduceNe, reduceCtorEq, Nat.reduceLT, Nat.reduceLeDiff]
    rw [cmpI, if_pos (by omega)]
theorem ev_less (a b : List UInt8) : Ev X F_ref01_less [.str a, .str b] (.bool (Wo.lessB a b)) := by
  refine ev_of_wpc hs (A_ref01_less_ok hX) 0 ?_
  simp only [A_ref01_less, go_sem, Nat.reduceMod, Nat.reduceBNe, Nat.reduceBEq, Nat.reduceEqDiff, Nat.reduceAdd, Int.reduceAdd, Nat.reduceMul, Nat.reduceSub, Int.reduceToNat, Int.reduceLE, Int.reduceLT, Int.reduceEq, Int.reduceNe, reduceCtorEq, Nat.reduceLT, Nat.reduceLeDiff]
  refine ⟨fun h => ?_, fun h => ?_⟩
  · rw [Wo.lessB, if_neg (by omega)]
    congr 1
    rw [Bool.eq_iff_iff, decide_eq_true_eq, decide_eq_true_eq]
    omega
  · rw [Wo.lessB, if_pos (by omega)]
theorem ev_next (s : List UInt8) (hl : s.length < 1000000) (hd : Wo.DG s) : Ev X F_ref01_next [.str s] (.str (Wo.nextS s)) := by
  refine ev_of_wpc hs (A_ref01_next_ok hX) 0 ?_
  simp only [A_ref01_next, go_sem, Nat.reduceMod, Nat.reduceBNe, Nat.reduceBEq, Nat.reduceEqDiff, Nat.reduceAdd, Int.reduceAdd, Nat.reduceMul, Nat.reduceSub, Int.reduceToNat, Int.reduceLE, Int.reduceLT, Int.reduceEq, Int.reduceNe, reduceCtorEq, Nat.reduceLT, Nat.reduceLeDiff]
  refine w_loop' hs.hm (ι := Nat) (fun k => k ≤ s.length ∧ ∀ j, s.length - k ≤ j → j < s.length → s.getD j 0 = 57) (fun k => [(3, .int .i64 ((s.length : Int) - 1 - k)), (0, .str s)]) (fun _ => []) (fun k => s.length - k) 0 ?_ fun k hk => ?_
  · simp only [go_sem, Nat.reduceMod, Nat.reduceBNe, Nat.reduceBEq, Nat.reduceEqDiff, Nat.reduceAdd, Int.reduceAdd, Nat.reduceMul, Nat.reduceSub, Int.reduceToNat, Int.reduceLE, Int.reduceLT, Int.reduceEq, Int.reduceNe, reduceCtorEq, Nat.reduceLT, Nat.reduceLeDiff]
    refine ⟨⟨Nat.zero_le _, fun j h1 h2 => by omega⟩, ?_⟩
    rw [wi64 (by omega)]
    congr 1
    omega
  obtain ⟨k1, k2⟩ := hk
  simp only [A_ref01_nextL0, go_sem, Nat.reduceMod, Nat.reduceBNe, Nat.reduceBEq, Nat.reduceEqDiff, Nat.reduceAdd, Int.reduceAdd, Nat.reduceMul, Nat.reduceSub, Int.reduceToNat, Int.reduceLE, Int.reduceLT, Int.reduceEq, Int.reduceNe, reduceCtorEq, Nat.reduceLT, Nat.reduceLeDiff]
  rcases Nat.lt_or_ge k s.length with hlt | hge
  · have e1 : (s.length : Int) - 1 - k = ((s.length - 1 - k : Nat) : Int) := by omega
    rw [e1]
    generalize hi : s.length - 1 - k = i at *
    simp only [go_sem, Nat.reduceMod, Nat.reduceBNe, Nat.reduceBEq, Nat.reduceEqDiff, Nat.reduceAdd, Int.reduceAdd, Nat.reduceMul, Nat.reduceSub, Int.reduceToNat, Int.reduceLE, Int.reduceLT, Int.reduceEq, Int.reduceNe, reduceCtorEq, Nat.reduceLT, Nat.reduceLeDiff]
    refine ⟨fun _ => ⟨by omega, ?_⟩, fun h => absurd (by omega) h⟩
    refine ⟨fun h57 => ?_, fun h57 => ?_⟩
    · refine ⟨k + 1, by omega, ⟨by omega, fun j j1 j2 => ?_⟩, ?_⟩
      · rcases Nat.lt_or_ge j (s.length - k) with h | h
        · have : j = i := by omega
          subst this
          exact UInt8.toNat_inj.1 (by show _ = 57; omega)
        · exact k2 j h j2
      · rw [wi64 (by omega)]
        congr 1
        omega
    · have hn : Wo.nines s = k := Wo.nines_eq (by omega) k2 fun _ => by
        rw [hi]
        intro e
        rw [e] at h57
        exact h57 rfl
      have hd' := Wo.dg_rng (hd (s.getD i 0) (by rw [List.getD_eq_getElem?_getD, List.getElem?_eq_getElem (by omega)]; exact List.getElem_mem _))
      refine w_loop' hs.hm (ι := Nat) (fun j => j ≤ k) (fun j => [(3, .int .i64 (i : Nat)), (4, .str (List.replicate j 48)), (5, .int .i64 ((i + 1 + j : Nat) : Int)), (0, .str s)]) (fun _ => []) (fun j => k - j) 0 ?_ fun j hj => ?_
      · simp only [go_sem, Nat.reduceMod, Nat.reduceBNe, Nat.reduceBEq, Nat.reduceEqDiff, Nat.reduceAdd, Int.reduceAdd, Nat.reduceMul, Nat.reduceSub, Int.reduceToNat, Int.reduceLE, Int.reduceLT, Int.reduceEq, Int.reduceNe, reduceCtorEq, Nat.reduceLT, Nat.reduceLeDiff]
        exact ⟨Nat.zero_le _, by rw [wi64 (by omega)]; rfl⟩
      · simp only [A_ref01_nextL1, go_sem, Nat.reduceMod, Nat.reduceBNe, Nat.reduceBEq, Nat.reduceEqDiff, Nat.reduceAdd, Int.reduceAdd, Nat.reduceMul, Nat.reduceSub, Int.reduceToNat, Int.reduceLE, Int.reduceLT, Int.reduceEq, Int.reduceNe, reduceCtorEq, Nat.reduceLT, Nat.reduceLeDiff]
        refine ⟨fun h => ?_, fun h => ?_⟩
        · rw [wi64 (by omega)]
          refine ⟨by rw [List.length_replicate]; omega, j + 1, by omega, by omega, by rw [List.replicate_succ'], ?_⟩
          congr 1
        · have : j = k := by omega
          rw [Wo.nextS, if_neg (by omega), hn, hi, this]
          refine ⟨fun h => absurd h (by omega), fun _ => ⟨⟨⟨by omega, by omega⟩, by omega⟩, ⟨by omega, by omega⟩, ?_⟩⟩
          rw [add1 (by omega), bs_1]
          simp only [go_sem, Nat.reduceMod, Nat.reduceBNe, Nat.reduceBEq, Nat.reduceEqDiff, Nat.reduceAdd, Int.reduceAdd, Nat.reduceMul, Nat.reduceSub, Int.reduceToNat, Int.reduceLE, Int.reduceLT, Int.reduceEq, Int.reduceNe, reduceCtorEq, Nat.reduceLT, Nat.reduceLeDiff]
          simp only [List.length_append, List.length_take, List.length_replicate, List.length_singleton]
          omega
  · have hk' : k = s.length := by omega
    subst hk'
    have e1 : (s.length : Int) - 1 - (s.length : Nat) = -1 := by omega
    rw [e1]
    have hn : Wo.nines s = s.length := Wo.nines_eq (Nat.le_refl _) k2 fun h => absurd h (Nat.lt_irrefl _)
    simp only [go_sem, Nat.reduceMod, Nat.reduceBNe, Nat.reduceBEq, Nat.reduceEqDiff, Nat.reduceAdd, Int.reduceAdd, Nat.reduceMul, Nat.reduceSub, Int.reduceToNat, Int.reduceLE, Int.reduceLT, Int.reduceEq, Int.reduceNe, reduceCtorEq, Nat.reduceLT, Nat.reduceLeDiff]
    refine w_loop' hs.hm (ι := Nat) (fun j => j ≤ s.length) (fun j => [(3, .int .i64 (-1)), (4, .str (List.replicate j 48)), (5, .int .i64 (j : Nat)), (0, .str s)]) (fun _ => []) (fun j => s.length - j) 0 ?_ fun j hj => ?_
    · simp only [go_sem, Nat.reduceMod, Nat.reduceBNe, Nat.reduceBEq, Nat.reduceEqDiff, Nat.reduceAdd, Int.reduceAdd, Nat.reduceMul, Nat.reduceSub, Int.reduceToNat, Int.reduceLE, Int.reduceLT, Int.reduceEq, Int.reduceNe, reduceCtorEq, Nat.reduceLT, Nat.reduceLeDiff]
      exact ⟨Nat.zero_le _, rfl⟩
    · simp only [A_ref01_nextL1, go_sem, Nat.reduceMod, Nat.reduceBNe, Nat.reduceBEq, Nat.reduceEqDiff, Nat.reduceAdd, Int.reduceAdd, Nat.reduceMul, Nat.reduceSub, Int.reduceToNat, Int.reduceLE, Int.reduceLT, Int.reduceEq, Int.reduceNe, reduceCtorEq, Nat.reduceLT, Nat.reduceLeDiff]
      refine ⟨fun h => ?_, fun h => ?_⟩
      · rw [wi64 (by omega)]
        exact ⟨by rw [List.length_replicate]; omega, j + 1, by omega, by omega, by rw [List.replicate_succ'], rfl⟩
      · have : j = s.length := by omega
        rw [Wo.nextS, if_pos hn, this]
        exact ⟨by rw [List.length_replicate]; omega, rfl⟩
theorem ev_follows1 (c : UInt8) : Ev X F_words_follows_1 [.int .i32 (c.toNat : Int)] (.bool (decide (c ≠ 57))) := by
  refine ev_of_wpc hs (A_words_follows_1_ok hX) 0 ?_
  simp only [A_words_follows_1, go_sem, Nat.reduceMod, Nat.reduceBNe, Nat.reduceBEq, Nat.reduceEqDiff, Nat.reduceAdd, Int.reduceAdd, Nat.reduceMul, Nat.reduceSub, Int.reduceToNat, Int.reduceLE, Int.reduceLT, Int.reduceEq, Int.reduceNe, reduceCtorEq, Nat.reduceLT, Nat.reduceLeDiff]
  congr 1
  rw [Bool.eq_iff_iff]
  simp only [Bool.not_eq_true', decide_eq_false_iff_not, decide_eq_true_eq, ne_eq]
  refine not_congr ⟨fun h => UInt8.toNat_inj.1 (by show _ = 57; omega), fun h => by rw [h]; rfl⟩
theorem ev_DecLast (s : List UInt8) (hl : s.length < 1000000) (h0 : s ≠ []) (hd : (s.getD (s.length - 1) 0).toNat < 128) : Ev X F_utf8_DecodeLastRuneInString [.str s] (.tuple [.int .i32 ((s.getD (s.length - 1) 0).toNat : Int), .int .i64 1]) := by
  have hp : 0 < s.length := List.length_pos_iff.2 h0
  refine ev_of_wpc hs (A_utf8_DecodeLastRuneInString_ok hX) 0 ?_
  simp only [A_utf8_DecodeLastRuneInString, go_sem, Nat.reduceMod, Nat.reduceBNe, Nat.reduceBEq, Nat.reduceEqDiff, Nat.reduceAdd, Int.reduceAdd, Nat.reduceMul, Nat.reduceSub, Int.reduceToNat, Int.reduceLE, Int.reduceLT, Int.reduceEq, Int.reduceNe, reduceCtorEq, Nat.reduceLT, Nat.reduceLeDiff]
  have e1 : IntKind.i64.wrap ((s.length : Int) - 1) = ((s.length - 1 : Nat) : Int) := by rw [wi64 (by omega)]; omega
  rw [e1]
  simp only [Int.toNat_natCast]
  have e2 : IntKind.i32.wrap (((s.getD (s.length - 1) 0).toNat : Nat) : Int) = (((s.getD (s.length - 1) 0).toNat : Nat) : Int) := by rw [wi32 (by omega)]
  exact ⟨fun h => absurd h (by omega), fun _ => ⟨⟨by omega, by omega⟩, fun _ => by rw [e2], fun h => absurd (by rw [e2]; omega) h⟩⟩
/-- The last place that has no nine, or -1. -/
theorem ev_lastIdx (s : List UInt8) (hl : s.length < 1000000) (hd : Wo.DG s) : Ev X F_strings_lastIndexFunc [.str s, .clo F_words_follows_1 [] [], .bool true] (.int .i64 ((s.length : Int) - 1 - Wo.nines s)) := by
  refine ev_of_wpc hs (A_strings_lastIndexFunc_ok hX) 0 ?_
  simp only [A_strings_lastIndexFunc, go_sem, Nat.reduceMod, Nat.reduceBNe, Nat.reduceBEq, Nat.reduceEqDiff, Nat.reduceAdd, Int.reduceAdd, Nat.reduceMul, Nat.reduceSub, Int.reduceToNat, Int.reduceLE, Int.reduceLT, Int.reduceEq, Int.reduceNe, reduceCtorEq, Nat.reduceLT, Nat.reduceLeDiff]
  refine w_loop' hs.hm (ι := Nat) (fun k => k ≤ s.length ∧ ∀ j, s.length - k ≤ j → j < s.length → s.getD j 0 = 57) (fun k => [(7, .int .i64 ((s.length - k : Nat) : Int)), (0, .str s), (1, .clo F_words_follows_1 [] []), (2, .bool true)]) (fun _ => []) (fun k => s.length - k) 0 ?_ fun k hk => ?_
  · simp only [go_sem, Nat.reduceMod, Nat.reduceBNe, Nat.reduceBEq, Nat.reduceEqDiff, Nat.reduceAdd, Int.reduceAdd, Nat.reduceMul, Nat.reduceSub, Int.reduceToNat, Int.reduceLE, Int.reduceLT, Int.reduceEq, Int.reduceNe, reduceCtorEq, Nat.reduceLT, Nat.reduceLeDiff]
    exact ⟨⟨Nat.zero_le _, fun j h1 h2 => by omega⟩, rfl⟩
  obtain ⟨k1, k2⟩ := hk
  simp only [A_strings_lastIndexFuncL0, go_sem, Nat.reduceMod, Nat.reduceBNe, Nat.reduceBEq, Nat.reduceEqDiff, Nat.reduceAdd, Int.reduceAdd, Nat.reduceMul, Nat.reduceSub, Int.reduceToNat, Int.reduceLE, Int.reduceLT, Int.reduceEq, Int.reduceNe, reduceCtorEq, Nat.reduceLT, Nat.reduceLeDiff]
  refine ⟨fun h => ?_, fun h => ?_⟩
  · have hlt : k < s.length := by omega
    have hm : s.getD (s.length - k - 1) 0 ∈ s := by rw [List.getD_eq_getElem?_getD, List.getElem?_eq_getElem (by omega)]; exact List.getElem_mem _
    have hd' := Wo.dg_rng (hd _ hm)
    have hlast : (s.take (s.length - k)).length = s.length - k := by rw [List.length_take]; omega
    have hget : (s.take (s.length - k)).getD (s.length - k - 1) 0 = s.getD (s.length - k - 1) 0 := by
      rw [List.getD_eq_getElem?_getD, List.getD_eq_getElem?_getD, List.getElem?_take_of_lt (by omega)]
    refine ⟨?_, call_ev (ev_DecLast hX hs (s.take (s.length - k)) (by omega) (fun e => by rw [e] at hlast; simp at hlast; omega) (by rw [hlast, hget]; omega)) ?_⟩
    · exact ⟨⟨by omega, by omega⟩, by omega⟩
    · rw [hlast, hget]
      simp only [go_sem, Nat.reduceMod, Nat.reduceBNe, Nat.reduceBEq, Nat.reduceEqDiff, Nat.reduceAdd, Int.reduceAdd, Nat.reduceMul, Nat.reduceSub, Int.reduceToNat, Int.reduceLE, Int.reduceLT, Int.reduceEq, Int.reduceNe, reduceCtorEq, Nat.reduceLT, Nat.reduceLeDiff]
      refine call_ev (ev_follows1 hX hs _) ?_
      simp only [go_sem, Nat.reduceMod, Nat.reduceBNe, Nat.reduceBEq, Nat.reduceEqDiff, Nat.reduceAdd, Int.reduceAdd, Nat.reduceMul, Nat.reduceSub, Int.reduceToNat, Int.reduceLE, Int.reduceLT, Int.reduceEq, Int.reduceNe, reduceCtorEq, Nat.reduceLT, Nat.reduceLeDiff]
      rw [wi64 (by omega)]
      simp only [beq_true, decide_eq_true_eq, decide_eq_false_iff_not, ne_eq, Decidable.not_not]
      refine ⟨fun h9 => ?_, fun h9 => ?_⟩
      · have hn : Wo.nines s = k := Wo.nines_eq (by omega) k2 fun _ => by rw [show s.length - 1 - k = s.length - k - 1 by omega]; exact h9
        rw [hn]
        congr 1
        omega
      · refine ⟨k + 1, by omega, ⟨by omega, fun j j1 j2 => ?_⟩, by congr 1; omega⟩
        rcases Nat.lt_or_ge j (s.length - k) with h | h
        · have : j = s.length - k - 1 := by omega
          rw [this]
          exact h9
        · exact k2 j h j2
  · have hk' : k = s.length := by omega
    have hn : Wo.nines s = s.length := Wo.nines_eq (Nat.le_refl _) (by rw [hk'] at k2; exact k2) fun h => absurd h (Nat.lt_irrefl _)
    rw [hn]
    congr 1
    omega
theorem ev_LastIdx (s : List UInt8) (hl : s.length < 1000000) (hd : Wo.DG s) : Ev X F_strings_LastIndexFunc [.str s, .clo F_words_follows_1 [] []] (.int .i64 ((s.length : Int) - 1 - Wo.nines s)) := by
  refine ev_of_wpc hs (A_strings_LastIndexFunc_ok hX) 0 ?_
  simp only [A_strings_LastIndexFunc, go_sem, Nat.reduceMod, Nat.reduceBNe, Nat.reduceBEq, Nat.reduceEqDiff, Nat.reduceAdd, Int.reduceAdd, Nat.reduceMul, Nat.reduceSub, Int.reduceToNat, Int.reduceLE, Int.reduceLT, Int.reduceEq, Int.reduceNe, reduceCtorEq, Nat.reduceLT, Nat.reduceLeDiff]
  refine call_ev (ev_lastIdx hX hs s hl hd) ?_
  simp only [go_sem, Nat.reduceMod, Nat.reduceBNe, Nat.reduceBEq, Nat.reduceEqDiff, Nat.reduceAdd, Int.reduceAdd, Nat.reduceMul, Nat.reduceSub, Int.reduceToNat, Int.reduceLE, Int.reduceLT, Int.reduceEq, Int.reduceNe, reduceCtorEq, Nat.reduceLT, Nat.reduceLeDiff]
theorem ev_follows (a b : List UInt8) (hl : a.length < 900000) (hb : b.length < 1000000) (hd : Wo.DG a) : Ev X F_words_follows [.str a, .str b] (.bool (Wo.lessB (Wo.nextS a) b)) := by
  have hn := Wo.nines_le a
  refine ev_of_wpc hs (A_words_follows_ok hX) 0 ?_
  simp only [A_words_follows, go_sem, Nat.reduceMod, Nat.reduceBNe, Nat.reduceBEq, Nat.reduceEqDiff, Nat.reduceAdd, Int.reduceAdd, Nat.reduceMul, Nat.reduceSub, Int.reduceToNat, Int.reduceLE, Int.reduceLT, Int.reduceEq, Int.reduceNe, reduceCtorEq, Nat.reduceLT, Nat.reduceLeDiff]
  refine call_ev (ev_LastIdx hX hs a (by omega) hd) ?_
  have e0 : IntKind.i64.wrap (IntKind.i64.wrap ((a.length : Int) - 1) - ((a.length : Int) - 1 - Wo.nines a)) = ((Wo.nines a : Nat) : Int) := by
    rw [wi64 (n := (a.length : Int) - 1) (by omega), wi64 (by omega)]
    omega
  simp only [go_sem, Nat.reduceMod, Nat.reduceBNe, Nat.reduceBEq, Nat.reduceEqDiff, Nat.reduceAdd, Int.reduceAdd, Nat.reduceMul, Nat.reduceSub, Int.reduceToNat, Int.reduceLE, Int.reduceLT, Int.reduceEq, Int.reduceNe, reduceCtorEq, Nat.reduceLT, Nat.reduceLeDiff]
  rw [e0]
  refine call_ev (ev_Repeat hX [48] (Wo.nines a) (by omega) (by simp; omega)) ?_
  rw [rep0]
  simp only [go_sem, Nat.reduceMod, Nat.reduceBNe, Nat.reduceBEq, Nat.reduceEqDiff, Nat.reduceAdd, Int.reduceAdd, Nat.reduceMul, Nat.reduceSub, Int.reduceToNat, Int.reduceLE, Int.reduceLT, Int.reduceEq, Int.reduceNe, reduceCtorEq, Nat.reduceLT, Nat.reduceLeDiff]
  refine ⟨fun h => ?_, fun h => ?_⟩
  · have h9 : Wo.nines a = a.length := by omega
    have hr : (49 :: List.replicate (Wo.nines a) (48 : UInt8)).length < 1000000 := by simp; omega
    refine ⟨by rw [List.length_replicate]; omega, call_ev (ev_compare hX hs _ b hr hb) ?_⟩
    simp only [go_sem, Nat.reduceMod, Nat.reduceBNe, Nat.reduceBEq, Nat.reduceEqDiff, Nat.reduceAdd, Int.reduceAdd, Nat.reduceMul, Nat.reduceSub, Int.reduceToNat, Int.reduceLE, Int.reduceLT, Int.reduceEq, Int.reduceNe, reduceCtorEq, Nat.reduceLT, Nat.reduceLeDiff]
    rw [Wo.nextS, if_pos h9, ← h9]
    congr 1
    rw [Bool.eq_iff_iff, decide_eq_true_eq]
    exact cmp_lt _ _
  · have hi : ∃ i : Nat, a.length - 1 - Wo.nines a = i := ⟨_, rfl⟩
    obtain ⟨i, hi⟩ := hi
    have ei : (a.length : Int) - 1 - (Wo.nines a : Nat) = (i : Nat) := by omega
    rw [ei]
    have hm : a.getD i 0 ∈ a := by rw [List.getD_eq_getElem?_getD, List.getElem?_eq_getElem (by omega)]; exact List.getElem_mem _
    have hd' := Wo.dg_rng (hd _ hm)
    refine ⟨⟨⟨by omega, by omega⟩, by omega⟩, ⟨by omega, by omega⟩, ?_⟩
    simp only [Int.toNat_natCast]
    rw [add1 (by omega), bs_1]
    simp only [go_sem, Nat.reduceMod, Nat.reduceBNe, Nat.reduceBEq, Nat.reduceEqDiff, Nat.reduceAdd, Int.reduceAdd, Nat.reduceMul, Nat.reduceSub, Int.reduceToNat, Int.reduceLE, Int.reduceLT, Int.reduceEq, Int.reduceNe, reduceCtorEq, Nat.reduceLT, Nat.reduceLeDiff]
    have hr : (a.take i ++ [a.getD i 0 + 1] ++ List.replicate (Wo.nines a) (48 : UInt8)).length < 1000000 := by
      simp only [List.length_append, List.length_take, List.length_replicate, List.length_singleton]
      omega
    refine ⟨by rw [List.length_take]; omega, by rw [← List.length_append]; omega, callq_ev (ev_compare hX hs _ b hr hb) ?_⟩
    simp only [go_sem, Nat.reduceMod, Nat.reduceBNe, Nat.reduceBEq, Nat.reduceEqDiff, Nat.reduceAdd, Int.reduceAdd, Nat.reduceMul, Nat.reduceSub, Int.reduceToNat, Int.reduceLE, Int.reduceLT, Int.reduceEq, Int.reduceNe, reduceCtorEq, Nat.reduceLT, Nat.reduceLeDiff]
    rw [Wo.nextS, if_neg (by omega), hi]
    congr 1
    rw [Bool.eq_iff_iff, decide_eq_true_eq]
    exact cmp_lt _ _
end
end Go.Avm

/- Words: list expressions, read. -/
namespace Go.Avm
open Go
def plV (s : List UInt8) : AV := .tuple [lst (AV.int .i64) .ro (Wo.plS s).1, .int .i64 (Wo.plS s).2]
theorem plV_nil {s : List UInt8} {e : Int} (h : Wo.plS s = ([], e)) : AV.tuple [.sl .ro [], .int .i64 e] = plV s := by rw [plV, h]; rfl
theorem plV_eq {s : List UInt8} {l : List Int} {e : Int} (h : Wo.plS s = (l, e)) : AV.tuple [lst (AV.int .i64) .ro l, .int .i64 e] = plV s := by rw [plV, h]
theorem dfltS (l : List (List UInt8)) (k : Nat) : l.getD k default = l.getD k [] := rfl
def pV (p : List UInt8 × List UInt8) : AV := .agg [.str p.1, .str p.2]
instance : Elt pV 2 := ⟨fun _ => rfl, fun _ => rfl, fun _ => rfl, fun _ => rfl⟩
theorem pVd (l : List (List UInt8 × List UInt8)) (k : Nat) : l.getD k default = l.getD k ([], []) := rfl
theorem pVs (p : List UInt8 × List UInt8) : setCells [AV.str [], AV.str []] 0 (List.take 2 (pV p).cells) = [.str p.1, .str p.2] := rfl
theorem ax1_p {H : Heap} {by' : Nat} (i : Nat) (l : List (List UInt8 × List UInt8)) (a b : List UInt8) : appX H 2 by' (lst pV (.tok i 2) l) (some [.agg [.str a, .str b]]) = app1 H by' i l.length (lst pV (.tok i 2) (l ++ [(a, b)])) :=
  ax_tok (f := pV) (m := [(a, b)]) i
set_option maxRecDepth 10000
section
variable {X : Cx} (hX : X.P = Go.Proofs.Tryz.prog) (hs : Std X)
include hX hs
theorem ev_parts (s : List UInt8) (c : UInt8) (hl : s.length < 4000000) : Ev X F_ref01_parts [.str s, u8 c] (lst AV.str .ro (Wo.splC c s)) := by
  refine ev_of_wpcd hs (A_ref01_parts_ok hX) 1 ?_
  simp only [A_ref01_parts, u8, go_sem, Nat.reduceMod, Nat.reduceBNe, Nat.reduceBEq, Nat.reduceEqDiff, Nat.reduceAdd, Int.reduceAdd, Nat.reduceMul, Nat.reduceSub, Int.reduceToNat, Int.reduceLE, Int.reduceLT, Int.reduceEq, Int.reduceNe, reduceCtorEq, Nat.reduceLT, Nat.reduceLeDiff]
  refine w_loop hs.hm (ι := List (List UInt8) × Nat × Nat) (fun x => Wo.Pc c s x.1 x.2.1 x.2.2) (fun x => [(7, .int .i64 x.2.2), (6, .int .i64 x.2.1), (5, lst AV.str (.tok 0 1) x.1), (0, .str s), (1, .int .u8 (c.toNat : Int))]) (fun x => [.tok x.1.length]) (fun x => s.length - x.2.2) ([], 0, 0) ⟨Wo.pc_0 c s, _, _, wk_tok 5 1 rfl, ⟨by simp only [go_sem, Nat.reduceMod, Nat.reduceBNe, Nat.reduceBEq, Nat.reduceEqDiff, Nat.reduceAdd, Int.reduceAdd, Nat.reduceMul, Nat.reduceSub, Int.reduceToNat, Int.reduceLE, Int.reduceLT, Int.reduceEq, Int.reduceNe, reduceCtorEq, Nat.reduceLT, Nat.reduceLeDiff]; rfl, rfl⟩⟩ fun x hx => ?_
  obtain ⟨o, f, i⟩ := x
  simp only at hx
  have ho := hx.2.2.1
  have hf := hx.1
  have hi := hx.2.1
  by_cases hlt : i < s.length
  · have hlt' : (i : Int) < s.length := by omega
    simp only [A_ref01_partsL0, go_sem, Nat.reduceMod, Nat.reduceBNe, Nat.reduceBEq, Nat.reduceEqDiff, Nat.reduceAdd, Int.reduceAdd, Nat.reduceMul, Nat.reduceSub, Int.reduceToNat, Int.reduceLE, Int.reduceLT, Int.reduceEq, Int.reduceNe, reduceCtorEq, Nat.reduceLT, Nat.reduceLeDiff, hlt']
    refine ⟨by omega, fun e => ?_, fun e => ?_⟩
    · have hn := Wo.pc_yes hx hlt (UInt8.toNat_inj.1 (by omega))
      refine ⟨by omega, by omega, (_, i + 1, i + 1), by simp only; omega, hn, ⟨?_, ?_, ?_⟩, ?_⟩
      · rw [wi64 (by omega)]; rfl
      · rw [wi64 (by omega)]; rfl
      · rfl
      · simp only [List.length_append, List.length_singleton]
    · have hn := Wo.pc_no hx hlt (fun h => e (by rw [h]))
      exact ⟨(_, _, i + 1), by simp only; omega, hn, ⟨by rw [wi64 (by omega)]; rfl, rfl, rfl⟩, rfl⟩
  · have hlt' : ¬ (i : Int) < s.length := by omega
    obtain rfl : i = s.length := by omega
    have he := Wo.pc_end hx
    simp only [A_ref01_partsL0, go_sem, Nat.reduceMod, Nat.reduceBNe, Nat.reduceBEq, Nat.reduceEqDiff, Nat.reduceAdd, Int.reduceAdd, Nat.reduceMul, Nat.reduceSub, Int.reduceToNat, Int.reduceLE, Int.reduceLT, Int.reduceEq, Int.reduceNe, reduceCtorEq, Nat.reduceLT, Nat.reduceLeDiff, hlt']
    refine ⟨by omega, by omega, ?_⟩
    rw [he, List.take_length]
set_option maxHeartbeats 4000000 in
theorem ev_ParseList (hP : X.G (sRen.g 17) = some tabP) (s : List UInt8) (hl : s.length < 900000) : Ev X F_words_ParseList [.str s] (plV s) := by
  refine ev_of_wpcd hs (A_words_ParseList_ok hX) 2 ?_
  simp only [A_words_ParseList, go_sem, Nat.reduceMod, Nat.reduceBNe, Nat.reduceBEq, Nat.reduceEqDiff, Nat.reduceAdd, Int.reduceAdd, Nat.reduceMul, Nat.reduceSub, Int.reduceToNat, Int.reduceLE, Int.reduceLT, Int.reduceEq, Int.reduceNe, reduceCtorEq, Nat.reduceLT, Nat.reduceLeDiff]
  refine ⟨fun h => plV_nil (by rw [Wo.plS, if_pos h]), fun h0 => ?_⟩
  refine call_ev (ev_sSplit hX hs s 44 (by omega)) ?_
  have hpl := Wo.splC_len s 44
  have hpm : ∀ p ∈ Wo.splC 44 s, p.length ≤ s.length := fun p hp => Wo.splC_mlen hp
  simp only [go_sem, Nat.reduceMod, Nat.reduceBNe, Nat.reduceBEq, Nat.reduceEqDiff, Nat.reduceAdd, Int.reduceAdd, Nat.reduceMul, Nat.reduceSub, Int.reduceToNat, Int.reduceLE, Int.reduceLT, Int.reduceEq, Int.reduceNe, reduceCtorEq, Nat.reduceLT, Nat.reduceLeDiff]
  generalize hpc : Wo.splC 44 s = pcs at *
  refine w_loop hs.hm (ι := Nat × List (List UInt8 × List UInt8)) (fun x => Wo.Pl pcs x.1 x.2 ∧ ∀ p ∈ x.2, p.2.length ≤ s.length) (fun x => [(24, .int .i64 x.1), (23, .int .i64 pcs.length), (22, lst AV.str .ro pcs), (4, .str (Wo.lastB x.2)), (5, lst pV (.tok 0 2) x.2), (0, .str s)]) (fun x => [.tok x.2.length]) (fun x => pcs.length - x.1) (0, []) ⟨⟨Wo.pl_0 pcs, fun p hp => by cases hp⟩, _, _, wk_tok 5 2 rfl, ⟨by simp only [go_sem, Nat.reduceMod, Nat.reduceBNe, Nat.reduceBEq, Nat.reduceEqDiff, Nat.reduceAdd, Int.reduceAdd, Nat.reduceMul, Nat.reduceSub, Int.reduceToNat, Int.reduceLE, Int.reduceLT, Int.reduceEq, Int.reduceNe, reduceCtorEq, Nat.reduceLT, Nat.reduceLeDiff]; exact ⟨rfl, rfl⟩, rfl⟩⟩ fun x hx => ?_
  obtain ⟨i, ps⟩ := x
  obtain ⟨hx, hlen⟩ := hx
  simp only at hx hlen
  by_cases hlt : i < pcs.length
  · have hlt' : (i : Int) < pcs.length := by omega
    have hrl : (pcs.getD i []).length ≤ s.length := by rw [← hpc]; exact Wo.splC_glen (by rw [hpc]; exact hlt)
    have hbd := Wo.pl_bad hx hlt
    have hnx := fun p => Wo.pl_next (p := p) hx hlt
    have hla := Wo.pl_last hx
    have hpsl : ps.length = i := hx.2.1
    have hll : (Wo.lastB ps).length ≤ s.length := Wo.lastB_len hlen
    have hbad : (Wo.rp (pcs.getD i []) = none ∨ ∃ p, Wo.rp (pcs.getD i []) = some p ∧ Wo.lastB ps ≠ [] ∧ Wo.lessB (Wo.nextS (Wo.lastB ps)) p.1 = false) → AV.tuple [.sl .ro [], .int .i64 6] = plV s := fun h => plV_nil (Wo.plN h0 (by rw [hpc]; exact hbd h))
    have nx : ∀ p, Wo.rp (pcs.getD i []) = some p → (Wo.lastB ps = [] ∨ Wo.lessB (Wo.nextS (Wo.lastB ps)) p.1 = true) → p.2.length ≤ s.length → ∃ j : Nat × List (List UInt8 × List UInt8), pcs.length - j.1 < pcs.length - i ∧ (Wo.Pl pcs j.1 j.2 ∧ ∀ p ∈ j.2, p.2.length ≤ s.length) ∧ (AV.int .i64 (IntKind.i64.wrap ((i : Int) + 1)) = AV.int .i64 j.1 ∧ AV.str p.2 = AV.str (Wo.lastB j.2) ∧ lst pV (.tok 0 2) (ps ++ [p]) = lst pV (.tok 0 2) j.2) ∧ [Blk.tok (ps.length + 1)] = [Blk.tok j.2.length] := fun p h1 h2 h3 =>
      ⟨(i + 1, ps ++ [p]), by simp only; omega, ⟨hnx p h1 h2, fun q hq => by
        rcases List.mem_append.1 hq with hq | hq
        · exact hlen q hq
        · rw [List.mem_singleton.1 hq]; exact h3⟩, ⟨by rw [wi64 (by omega)]; rfl, by rw [Wo.lastB_snoc], rfl⟩, by rw [List.length_append, List.length_singleton]⟩
    simp only [A_words_ParseListL0, go_sem, Nat.reduceMod, Nat.reduceBNe, Nat.reduceBEq, Nat.reduceEqDiff, Nat.reduceAdd, Int.reduceAdd, Nat.reduceMul, Nat.reduceSub, Int.reduceToNat, Int.reduceLE, Int.reduceLT, Int.reduceEq, Int.reduceNe, reduceCtorEq, Nat.reduceLT, Nat.reduceLeDiff, hlt', dfltS]
    generalize pcs.getD i [] = r at *
    refine ⟨by omega, call_ev (ev_Cut hX hs r 45 (by omega)) ?_⟩
    by_cases hc : Lat.idx 45 r < r.length
    · rw [if_pos hc, if_pos hc]
      have hrp := Wo.rp_cut hc
      have hal : (r.take (Lat.idx 45 r)).length ≤ s.length := by rw [List.length_take]; omega
      have hbl : (r.drop (Lat.idx 45 r + 1)).length ≤ s.length := by rw [List.length_drop]; omega
      generalize r.take (Lat.idx 45 r) = a at *
      generalize r.drop (Lat.idx 45 r + 1) = b at *
      simp only [hc, decide_true, go_sem, Nat.reduceMod, Nat.reduceBNe, Nat.reduceBEq, Nat.reduceEqDiff, Nat.reduceAdd, Int.reduceAdd, Nat.reduceMul, Nat.reduceSub, Int.reduceToNat, Int.reduceLE, Int.reduceLT, Int.reduceEq, Int.reduceNe, reduceCtorEq, Nat.reduceLT, Nat.reduceLeDiff]
      refine call_ev (ev_isDecimal hX hs a (by omega)) ?_
      cases ha : Wo.decS a with
      | false =>
        simp only [ha, Bool.false_and, Bool.false_eq_true, if_false] at hrp
        simp only [go_sem, Nat.reduceMod, Nat.reduceBNe, Nat.reduceBEq, Nat.reduceEqDiff, Nat.reduceAdd, Int.reduceAdd, Nat.reduceMul, Nat.reduceSub, Int.reduceToNat, Int.reduceLE, Int.reduceLT, Int.reduceEq, Int.reduceNe, reduceCtorEq, Nat.reduceLT, Nat.reduceLeDiff]
        exact hbad (.inl hrp)
      | true =>
        simp only [go_sem, Nat.reduceMod, Nat.reduceBNe, Nat.reduceBEq, Nat.reduceEqDiff, Nat.reduceAdd, Int.reduceAdd, Nat.reduceMul, Nat.reduceSub, Int.reduceToNat, Int.reduceLE, Int.reduceLT, Int.reduceEq, Int.reduceNe, reduceCtorEq, Nat.reduceLT, Nat.reduceLeDiff]
        refine call_ev (ev_isDecimal hX hs b (by omega)) ?_
        cases hb : Wo.decS b with
        | false =>
          simp only [ha, hb, Bool.true_and, Bool.false_and, Bool.false_eq_true, if_false] at hrp
          simp only [go_sem, Nat.reduceMod, Nat.reduceBNe, Nat.reduceBEq, Nat.reduceEqDiff, Nat.reduceAdd, Int.reduceAdd, Nat.reduceMul, Nat.reduceSub, Int.reduceToNat, Int.reduceLE, Int.reduceLT, Int.reduceEq, Int.reduceNe, reduceCtorEq, Nat.reduceLT, Nat.reduceLeDiff]
          exact hbad (.inl hrp)
        | true =>
          have hb0 : b ≠ [] := fun e => by rw [e] at hb; exact absurd hb (by decide)
          have hbp : 0 < b.length := List.length_pos_iff.2 hb0
          simp only [go_sem, Nat.reduceMod, Nat.reduceBNe, Nat.reduceBEq, Nat.reduceEqDiff, Nat.reduceAdd, Int.reduceAdd, Nat.reduceMul, Nat.reduceSub, Int.reduceToNat, Int.reduceLE, Int.reduceLT, Int.reduceEq, Int.reduceNe, reduceCtorEq, Nat.reduceLT, Nat.reduceLeDiff]
          have fin2 : True := trivial
          refine ⟨by omega, fun h45 => ?_, fun h45 => ?_⟩
          · have : b.getD 0 0 = 45 := (u8_lit (b := 45) rfl).1 h45
            simp only [ha, hb, this, decide_true, Bool.not_true, Bool.and_false, Bool.false_and, Bool.false_eq_true, if_false] at hrp
            exact hbad (.inl hrp)
          have h45' : ¬ b.getD 0 0 = 45 := fun h => h45 ((u8_lit (b := 45) rfl).2 h)
          refine call_ev (ev_compare hX hs a b (by omega) (by omega)) ?_
          have hlt2 := cmp_lt a b
          simp only [go_sem, Nat.reduceMod, Nat.reduceBNe, Nat.reduceBEq, Nat.reduceEqDiff, Nat.reduceAdd, Int.reduceAdd, Nat.reduceMul, Nat.reduceSub, Int.reduceToNat, Int.reduceLE, Int.reduceLT, Int.reduceEq, Int.reduceNe, reduceCtorEq, Nat.reduceLT, Nat.reduceLeDiff]
          refine ⟨fun hge => ?_, fun hge => ?_⟩
          · have : Wo.lessB a b = false := by
              cases h : Wo.lessB a b with
              | false => rfl
              | true => have := hlt2.2 h; omega
            simp only [this, Bool.and_false, Bool.false_eq_true, if_false] at hrp
            exact hbad (.inl hrp)
          have hlab : Wo.lessB a b = true := hlt2.1 (by omega)
          simp only [ha, hb, h45', hlab, decide_false, Bool.not_false, Bool.and_true, if_true] at hrp
          refine ⟨fun hi0 => call_ev (ev_follows hX hs _ a (by omega) (by omega) (Wo.natS_dg (hla.2 (by omega))).2) ?_, fun hi0 => ?_⟩
          · cases hf : Wo.lessB (Wo.nextS (Wo.lastB ps)) a with
            | false =>
              simp only [go_sem, Nat.reduceMod, Nat.reduceBNe, Nat.reduceBEq, Nat.reduceEqDiff, Nat.reduceAdd, Int.reduceAdd, Nat.reduceMul, Nat.reduceSub, Int.reduceToNat, Int.reduceLE, Int.reduceLT, Int.reduceEq, Int.reduceNe, reduceCtorEq, Nat.reduceLT, Nat.reduceLeDiff]
              exact hbad (.inr ⟨_, hrp, (Wo.natS_dg (hla.2 (by omega))).1, hf⟩)
            | true =>
              simp only [go_sem, Nat.reduceMod, Nat.reduceBNe, Nat.reduceBEq, Nat.reduceEqDiff, Nat.reduceAdd, Int.reduceAdd, Nat.reduceMul, Nat.reduceSub, Int.reduceToNat, Int.reduceLE, Int.reduceLT, Int.reduceEq, Int.reduceNe, reduceCtorEq, Nat.reduceLT, Nat.reduceLeDiff, ax1_p]
              exact ⟨by omega, nx _ hrp (.inr hf) (by omega)⟩
          · simp only [go_sem, Nat.reduceMod, Nat.reduceBNe, Nat.reduceBEq, Nat.reduceEqDiff, Nat.reduceAdd, Int.reduceAdd, Nat.reduceMul, Nat.reduceSub, Int.reduceToNat, Int.reduceLE, Int.reduceLT, Int.reduceEq, Int.reduceNe, reduceCtorEq, Nat.reduceLT, Nat.reduceLeDiff, ax1_p]
            exact ⟨by omega, nx _ hrp (.inl (hla.1.2 (by omega))) (by omega)⟩
    · rw [if_neg hc, if_neg hc]
      have hrp := Wo.rp_nocut hc
      simp only [hc, decide_false, go_sem, Nat.reduceMod, Nat.reduceBNe, Nat.reduceBEq, Nat.reduceEqDiff, Nat.reduceAdd, Int.reduceAdd, Nat.reduceMul, Nat.reduceSub, Int.reduceToNat, Int.reduceLE, Int.reduceLT, Int.reduceEq, Int.reduceNe, reduceCtorEq, Nat.reduceLT, Nat.reduceLeDiff]
      refine call_ev (ev_isDecimal hX hs r (by omega)) ?_
      cases ha : Wo.decS r with
      | false =>
        simp only [ha, Bool.false_eq_true, if_false] at hrp
        simp only [go_sem, Nat.reduceMod, Nat.reduceBNe, Nat.reduceBEq, Nat.reduceEqDiff, Nat.reduceAdd, Int.reduceAdd, Nat.reduceMul, Nat.reduceSub, Int.reduceToNat, Int.reduceLE, Int.reduceLT, Int.reduceEq, Int.reduceNe, reduceCtorEq, Nat.reduceLT, Nat.reduceLeDiff]
        exact hbad (.inl hrp)
      | true =>
          have hb0 : r ≠ [] := fun e => by rw [e] at ha; exact absurd ha (by decide)
          have hbp : 0 < r.length := List.length_pos_iff.2 hb0
          have h45' : ¬ r.getD 0 0 = 45 := Wo.getD_nocut hc hbp
          simp only [ha, if_true] at hrp
          simp only [go_sem, Nat.reduceMod, Nat.reduceBNe, Nat.reduceBEq, Nat.reduceEqDiff, Nat.reduceAdd, Int.reduceAdd, Nat.reduceMul, Nat.reduceSub, Int.reduceToNat, Int.reduceLE, Int.reduceLT, Int.reduceEq, Int.reduceNe, reduceCtorEq, Nat.reduceLT, Nat.reduceLeDiff]
          refine call_ev (ev_isDecimal hX hs r (by omega)) ?_
          simp only [ha, go_sem, Nat.reduceMod, Nat.reduceBNe, Nat.reduceBEq, Nat.reduceEqDiff, Nat.reduceAdd, Int.reduceAdd, Nat.reduceMul, Nat.reduceSub, Int.reduceToNat, Int.reduceLE, Int.reduceLT, Int.reduceEq, Int.reduceNe, reduceCtorEq, Nat.reduceLT, Nat.reduceLeDiff]
          refine ⟨by omega, fun h45 => absurd ((u8_lit (b := 45) rfl).1 h45) h45', fun h45 => ?_⟩
          refine ⟨fun hi0 => call_ev (ev_follows hX hs _ r (by omega) (by omega) (Wo.natS_dg (hla.2 (by omega))).2) ?_, fun hi0 => ?_⟩
          · cases hf : Wo.lessB (Wo.nextS (Wo.lastB ps)) r with
            | false =>
              simp only [go_sem, Nat.reduceMod, Nat.reduceBNe, Nat.reduceBEq, Nat.reduceEqDiff, Nat.reduceAdd, Int.reduceAdd, Nat.reduceMul, Nat.reduceSub, Int.reduceToNat, Int.reduceLE, Int.reduceLT, Int.reduceEq, Int.reduceNe, reduceCtorEq, Nat.reduceLT, Nat.reduceLeDiff]
              exact hbad (.inr ⟨_, hrp, (Wo.natS_dg (hla.2 (by omega))).1, hf⟩)
            | true =>
              simp only [go_sem, Nat.reduceMod, Nat.reduceBNe, Nat.reduceBEq, Nat.reduceEqDiff, Nat.reduceAdd, Int.reduceAdd, Nat.reduceMul, Nat.reduceSub, Int.reduceToNat, Int.reduceLE, Int.reduceLT, Int.reduceEq, Int.reduceNe, reduceCtorEq, Nat.reduceLT, Nat.reduceLeDiff, ax1_p]
              exact ⟨by omega, nx _ hrp (.inr hf) (by omega)⟩
          · simp only [go_sem, Nat.reduceMod, Nat.reduceBNe, Nat.reduceBEq, Nat.reduceEqDiff, Nat.reduceAdd, Int.reduceAdd, Nat.reduceMul, Nat.reduceSub, Int.reduceToNat, Int.reduceLE, Int.reduceLT, Int.reduceEq, Int.reduceNe, reduceCtorEq, Nat.reduceLT, Nat.reduceLeDiff, ax1_p]
            exact ⟨by omega, nx _ hrp (.inl (hla.1.2 (by omega))) (by omega)⟩
  · have hlt' : ¬ (i : Int) < pcs.length := by omega
    obtain rfl : i = pcs.length := by have := hx.1; omega
    have he := Wo.pl_end hx
    have hpsl : ps.length = pcs.length := hx.2.1
    have hL := Wo.plL h0 (by rw [hpc]; exact he)
    simp only [A_words_ParseListL0, go_sem, Nat.reduceMod, Nat.reduceBNe, Nat.reduceBEq, Nat.reduceEqDiff, Nat.reduceAdd, Int.reduceAdd, Nat.reduceMul, Nat.reduceSub, Int.reduceToNat, Int.reduceLE, Int.reduceLT, Int.reduceEq, Int.reduceNe, reduceCtorEq, Nat.reduceLT, Nat.reduceLeDiff, hlt']
    have i10 := Wo.itoa_len11 (n := 1000000000) (by omega)
    have hll : (Wo.lastB ps).length ≤ s.length := Wo.lastB_len hlen
    refine call_ev (ev_Itoa hX hP 1000000000 (by omega)) ?_
    simp only [go_sem, Nat.reduceMod, Nat.reduceBNe, Nat.reduceBEq, Nat.reduceEqDiff, Nat.reduceAdd, Int.reduceAdd, Nat.reduceMul, Nat.reduceSub, Int.reduceToNat, Int.reduceLE, Int.reduceLT, Int.reduceEq, Int.reduceNe, reduceCtorEq, Nat.reduceLT, Nat.reduceLeDiff]
    refine call_ev (ev_compare hX hs _ _ (by omega) (by omega)) ?_
    have hgt := cmp_gt (Wo.lastB ps) (Lib.itoa 1000000000)
    simp only [go_sem, Nat.reduceMod, Nat.reduceBNe, Nat.reduceBEq, Nat.reduceEqDiff, Nat.reduceAdd, Int.reduceAdd, Nat.reduceMul, Nat.reduceSub, Int.reduceToNat, Int.reduceLE, Int.reduceLT, Int.reduceEq, Int.reduceNe, reduceCtorEq, Nat.reduceLT, Nat.reduceLeDiff]
    refine ⟨fun h7 => plV_nil (by rw [hL, if_pos (hgt.1 h7)]), fun h7 => ?_⟩
    have hls : Wo.lessB (Lib.itoa 1000000000) (Wo.lastB ps) = false := by
      cases h : Wo.lessB (Lib.itoa 1000000000) (Wo.lastB ps) with
      | false => rfl
      | true => exact absurd (hgt.2 h) h7
    rw [hls, if_neg (by decide)] at hL
    have rng := fun k (hk : k < ps.length) => Wo.ps_rng he hls hk
    refine w_loop hs.hm (ι := Nat × List Blk) (fun x => x.1 ≤ ps.length ∧ (Wo.outN ps x.1).length ≤ 500) (fun x => [(84, .int .i64 x.1), (83, .int .i64 ps.length), (82, lst pV (.tok 0 2) ps), (11, lst (AV.int .i64) (.tok 1 1) (Wo.outN ps x.1)), (0, .str s)]) (fun x => .tok ps.length :: .tok (Wo.outN ps x.1).length :: x.2) (fun x => ps.length - x.1) (0, []) ⟨⟨Nat.zero_le _, Nat.zero_le _⟩, _, _, wk_tok 11 1 rfl, ⟨by simp only [go_sem, Nat.reduceMod, Nat.reduceBNe, Nat.reduceBEq, Nat.reduceEqDiff, Nat.reduceAdd, Int.reduceAdd, Nat.reduceMul, Nat.reduceSub, Int.reduceToNat, Int.reduceLE, Int.reduceLT, Int.reduceEq, Int.reduceNe, reduceCtorEq, Nat.reduceLT, Nat.reduceLeDiff]; rfl, rfl⟩⟩ fun x hx => ?_
    obtain ⟨k, G⟩ := x
    obtain ⟨x1, x2⟩ := hx
    simp only at x1 x2
    by_cases hk : k < ps.length
    · have hk' : (k : Int) < ps.length := by omega
      obtain ⟨n1, n2, n3, n4⟩ := rng k hk
      have hun := Wo.outN_s hk
      have hov := Wo.outN_over hk
      simp only [A_words_ParseListL1, go_sem, Nat.reduceMod, Nat.reduceBNe, Nat.reduceBEq, Nat.reduceEqDiff, Nat.reduceAdd, Int.reduceAdd, Nat.reduceMul, Nat.reduceSub, Int.reduceToNat, Int.reduceLE, Int.reduceLT, Int.reduceEq, Int.reduceNe, reduceCtorEq, Nat.reduceLT, Nat.reduceLeDiff, hk', pVd, pVs]
      refine ⟨by omega, Nat.le_refl 2, ⟨rfl, rfl⟩, ?_⟩
      generalize ps.getD k ([], []) = p at *
      obtain ⟨pa, pb⟩ := p
      simp only at n1 n2 n3 n4 hun hov
      have la := Wo.nat_len n1 (by omega)
      have lb := Wo.nat_len n2 n4
      refine call_ev (ev_Atoi hX pa _ (by omega) (Wo.atoi_nat n1)) ?_
      simp only [go_sem, Nat.reduceMod, Nat.reduceBNe, Nat.reduceBEq, Nat.reduceEqDiff, Nat.reduceAdd, Int.reduceAdd, Nat.reduceMul, Nat.reduceSub, Int.reduceToNat, Int.reduceLE, Int.reduceLT, Int.reduceEq, Int.reduceNe, reduceCtorEq, Nat.reduceLT, Nat.reduceLeDiff]
      refine call_ev (ev_Atoi hX pb _ (by omega) (Wo.atoi_nat n2)) ?_
      simp only [go_sem, Nat.reduceMod, Nat.reduceBNe, Nat.reduceBEq, Nat.reduceEqDiff, Nat.reduceAdd, Int.reduceAdd, Nat.reduceMul, Nat.reduceSub, Int.reduceToNat, Int.reduceLE, Int.reduceLT, Int.reduceEq, Int.reduceNe, reduceCtorEq, Nat.reduceLT, Nat.reduceLeDiff]
      have hrg : Wo.rngI (Wo.numP (pa, pb)) = Wo.seqN (Wo.magL 0 pa : Nat) (((Wo.magL 0 pb : Nat) : Int) - (Wo.magL 0 pa : Nat) + 1).toNat := rfl
      generalize Wo.magL 0 pa = va at *
      generalize Wo.magL 0 pb = vb at *
      have e1 : IntKind.i64.wrap ((vb : Int) - (va : Nat)) = (vb : Int) - (va : Nat) := wi64 (by omega)
      have e2 : IntKind.i64.wrap (500 - ((Wo.outN ps k).length : Int)) = 500 - ((Wo.outN ps k).length : Int) := wi64 (by omega)
      refine ⟨fun h5 => plV_nil (by rw [e1, e2] at h5; rw [hL, if_pos (hov (by omega))]), fun h5 => ?_⟩
      rw [e1, e2] at h5
      rw [hrg] at hun
      have hN : ((((vb : Nat) : Int) - (va : Nat) + 1).toNat : Int) = (vb : Int) - va + 1 := by omega
      generalize (((vb : Nat) : Int) - (va : Nat) + 1).toNat = N at *
      generalize G ++ [Blk.box [AV.str pa, AV.str pb]] = G'
      refine w_loop' hs.hm (ι := Nat) (fun m => m ≤ N) (fun m => [(18, .int .i64 ((va + m : Nat) : Int)), (16, .int .i64 (vb : Nat)), (84, .int .i64 k), (83, .int .i64 ps.length), (82, lst pV (.tok 0 2) ps), (11, lst (AV.int .i64) (.tok 1 1) (Wo.outN ps k ++ Wo.seqN (va : Nat) m)), (0, .str s)]) (fun m => .tok ps.length :: .tok (Wo.outN ps k ++ Wo.seqN (va : Nat) m).length :: G') (fun m => N - m) 0 ?_ fun m hm => ?_
      · simp only [go_sem, Nat.reduceMod, Nat.reduceBNe, Nat.reduceBEq, Nat.reduceEqDiff, Nat.reduceAdd, Int.reduceAdd, Nat.reduceMul, Nat.reduceSub, Int.reduceToNat, Int.reduceLE, Int.reduceLT, Int.reduceEq, Int.reduceNe, reduceCtorEq, Nat.reduceLT, Nat.reduceLeDiff]
        exact ⟨Nat.zero_le _, by rw [Wo.seqN_0, List.append_nil]; exact ⟨rfl, rfl⟩, by rw [Wo.seqN_0, List.append_nil]⟩
      · have hsl := Wo.seqN_len (va : Nat) m
        simp only [A_words_ParseListL2, go_sem, Nat.reduceMod, Nat.reduceBNe, Nat.reduceBEq, Nat.reduceEqDiff, Nat.reduceAdd, Int.reduceAdd, Nat.reduceMul, Nat.reduceSub, Int.reduceToNat, Int.reduceLE, Int.reduceLT, Int.reduceEq, Int.reduceNe, reduceCtorEq, Nat.reduceLT, Nat.reduceLeDiff]
        refine ⟨fun h6 => ?_, fun h6 => ?_⟩
        · have hss := Wo.seqN_s (va : Nat) m
          have hal : (Wo.outN ps k ++ Wo.seqN (va : Nat) m).length = (Wo.outN ps k).length + m := by rw [List.length_append, hsl]
          refine ⟨by omega, m + 1, by omega, by omega, ⟨by rw [wi64 (by omega)]; rfl, ?_⟩, ?_⟩
          · rw [hss, List.append_assoc]
            rfl
          · rw [hss, ← List.append_assoc]
            simp only [List.length_append, List.length_singleton]
        · have : m = N := by omega
          subst this
          rw [← hun]
          exact ⟨(k + 1, G'), by simp only; omega, ⟨by simp only; omega, by simp only; rw [hun, List.length_append, hsl]; omega⟩, ⟨by rw [wi64 (by omega)]; rfl, rfl⟩, rfl⟩
    · have hk' : ¬ (k : Int) < ps.length := by omega
      obtain rfl : k = ps.length := by omega
      simp only [A_words_ParseListL1, go_sem, Nat.reduceMod, Nat.reduceBNe, Nat.reduceBEq, Nat.reduceEqDiff, Nat.reduceAdd, Int.reduceAdd, Nat.reduceMul, Nat.reduceSub, Int.reduceToNat, Int.reduceLE, Int.reduceLT, Int.reduceEq, Int.reduceNe, reduceCtorEq, Nat.reduceLT, Nat.reduceLeDiff, hk']
      rw [Wo.outN_all] at *
      exact plV_eq (by rw [hL, if_neg (by omega)])
end
end Go.Avm
