/- The reference's small functions. -/
import Derived.Test.YtebnoigmepfdcaaGreatDoorAG3
import Derived.Test.YtebnoigmepfdcaaGreatDoorAB
set_option linter.unusedSectionVars false
set_option linter.unusedSimpArgs false
set_option linter.unusedVariables false

/- The reference's small functions. -/
namespace Go.Avm
open Go
def below (up : List UInt8) (a b : Int) : Bool := decide (0 ≤ a) && decide (a < up.length) && decide (0 ≤ b) && Lat.le up a.toNat b.toNat
theorem below_nat (up : List UInt8) (a b : Nat) (h : a < up.length) : below up a b = Lat.le up a b := by
  simp [below, h]
section
variable {X : Cx} (hX : X.P = Go.Proofs.Tryz.prog) (hs : Std X)
include hX hs
theorem ev_Below (ns : List (List UInt8)) (up : List UInt8) (a b : Int) : Ev X F_ref03_Below [latV ns up, .int .i64 a, .int .i64 b] (.bool (below up a b)) := by
  refine ev_of_wpc hs (A_ref03_Below_ok hX) 0 ?_
  simp only [A_ref03_Below, latV, go_sem, Nat.reduceMod, Nat.reduceBNe, Nat.reduceBEq, Nat.reduceEqDiff, Nat.reduceAdd, Int.reduceAdd, Nat.reduceMul, Nat.reduceSub, Int.reduceToNat, Int.reduceLE, Int.reduceLT, Int.reduceEq, Int.reduceNe, reduceCtorEq, Nat.reduceLT, Nat.reduceLeDiff]
  refine ⟨fun h1 => ⟨fun h2 => ⟨fun h3 => ⟨⟨h1, h2⟩, h3, ?_⟩, fun h3 => ?_⟩, fun h2 => ?_⟩, fun h1 => ?_⟩
  · simp only [getD_def, bt_rem _ (Lat.msk_lt up _), if1]
    simp [below, h1, h2, h3, Lat.le]
  · simp [below, h3]
  · simp [below, h2]
  · simp [below, h1]
theorem ev_nearest (M : List UInt8) (a b : Nat) (ha : a < M.length) (hb : b < M.length) (hl : M.length ≤ 9223372036854775807) : Ev X F_ref03_nearest [lst u8 .ro M, .int .i64 a, .int .i64 b] (.int .i64 (Lat.oi (Lat.near (Lat.msk M) M.length a b))) := by
  refine ev_of_wpc hs (A_ref03_nearest_ok hX) 0 ?_
  simp only [A_ref03_nearest, go_sem, Nat.reduceMod, Nat.reduceBNe, Nat.reduceBEq, Nat.reduceEqDiff, Nat.reduceAdd, Int.reduceAdd, Nat.reduceMul, Nat.reduceSub, Int.reduceToNat, Int.reduceLE, Int.reduceLT, Int.reduceEq, Int.reduceNe, reduceCtorEq, Nat.reduceLT, Nat.reduceLeDiff]
  refine ⟨by omega, by omega, ?_⟩
  rw [getD_def, getD_def, bu_and (Lat.msk_lt M _) (Lat.msk_lt M _)]
  refine w_loop' hs.hm (ι := Nat) (fun i => i ≤ M.length ∧ ∀ j, j < i → (Lat.msk M j == Lat.msk M a &&& Lat.msk M b) = false) (fun i => [(8, .int .i64 i), (0, lst u8 .ro M), (7, .int .u8 ((Lat.msk M a &&& Lat.msk M b : Nat) : Int))]) (fun _ => []) (fun i => M.length - i) 0 ?_ fun i hi => ?_
  · simp only [go_sem, Nat.reduceMod, Nat.reduceBNe, Nat.reduceBEq, Nat.reduceEqDiff, Nat.reduceAdd, Int.reduceAdd, Nat.reduceMul, Nat.reduceSub, Int.reduceToNat, Int.reduceLE, Int.reduceLT, Int.reduceEq, Int.reduceNe, reduceCtorEq, Nat.reduceLT, Nat.reduceLeDiff]
    exact ⟨Nat.zero_le _, fun j hj => absurd hj (by omega)⟩
  · obtain ⟨h1, h2⟩ := hi
    simp only [A_ref03_nearestL0, go_sem, Nat.reduceMod, Nat.reduceBNe, Nat.reduceBEq, Nat.reduceEqDiff, Nat.reduceAdd, Int.reduceAdd, Nat.reduceMul, Nat.reduceSub, Int.reduceToNat, Int.reduceLE, Int.reduceLT, Int.reduceEq, Int.reduceNe, reduceCtorEq, Nat.reduceLT, Nat.reduceLeDiff]
    refine ⟨fun c => ⟨⟨by omega, c⟩, fun e => ?_, fun e => ?_⟩, fun c => ?_⟩
    · rw [getD_def] at e
      rw [Lat.near, Lat.ff_some (i := i) (by omega) (by simp; omega) h2]
      rfl
    · rw [getD_def] at e
      refine ⟨i + 1, by omega, ⟨by omega, fun j hj => ?_⟩, ?_⟩
      · by_cases hji : j = i
        · subst hji; simp; omega
        · exact h2 j (by omega)
      · rw [wi64 (by omega)]; rfl
    · rw [Lat.near, Lat.ff_none (fun j hj => h2 j (by omega))]
      rfl
theorem ev_join (ns : List (List UInt8)) (up : List UInt8) (a b : Nat) (ha : a < up.length) (hb : b < up.length) (hl : up.length ≤ 9223372036854775807) : Ev X F_ref03_join [latV ns up, .int .i64 a, .int .i64 b] (.int .i64 (Lat.oi (Lat.near (Lat.msk up) up.length a b))) := by
  refine ev_of_wpc hs (A_ref03_join_ok hX) 0 ?_
  simp only [A_ref03_join, latV, go_sem, Nat.reduceMod, Nat.reduceBNe, Nat.reduceBEq, Nat.reduceEqDiff, Nat.reduceAdd, Int.reduceAdd, Nat.reduceMul, Nat.reduceSub, Int.reduceToNat, Int.reduceLE, Int.reduceLT, Int.reduceEq, Int.reduceNe, reduceCtorEq, Nat.reduceLT, Nat.reduceLeDiff]
  refine call_ev (ev_nearest hX hs up a b ha hb hl) ?_
  simp only [go_sem, Nat.reduceMod, Nat.reduceBNe, Nat.reduceBEq, Nat.reduceEqDiff, Nat.reduceAdd, Int.reduceAdd, Nat.reduceMul, Nat.reduceSub, Int.reduceToNat, Int.reduceLE, Int.reduceLT, Int.reduceEq, Int.reduceNe, reduceCtorEq, Nat.reduceLT, Nat.reduceLeDiff]
/-- the order the other way, as a list -/
theorem ev_downs (ns : List (List UInt8)) (up : List UInt8) (hl : up.length = ns.length) (h8 : ns.length ≤ 8) : Ev X F_ref03_downs [latV ns up] (lst u8 .ro (Lat.dual up ns.length)) := by
  refine ev_of_wpc hs (A_ref03_downs_ok hX) 1 ?_
  simp only [A_ref03_downs, latV, go_sem, Nat.reduceMod, Nat.reduceBNe, Nat.reduceBEq, Nat.reduceEqDiff, Nat.reduceAdd, Int.reduceAdd, Nat.reduceMul, Nat.reduceSub, Int.reduceToNat, Int.reduceLE, Int.reduceLT, Int.reduceEq, Int.reduceNe, reduceCtorEq, Nat.reduceLT, Nat.reduceLeDiff]
  refine ⟨by omega, ?_⟩
  refine w_loop' hs.hm (ι := Nat) (fun i => i ≤ ns.length) (fun i => [(4, .int .i64 i), (3, .rsl 1 0 ns.length ns.length 1), (1, .ptr 0 0)]) (fun i => [.box [lst AV.str .ro ns, lst u8 .ro up], .box (tb ns.length fun c => n8 (Lat.dn up c i))]) (fun i => ns.length - i) 0 ?_ fun i hi => ?_
  · simp only [go_sem, Nat.reduceMod, Nat.reduceBNe, Nat.reduceBEq, Nat.reduceEqDiff, Nat.reduceAdd, Int.reduceAdd, Nat.reduceMul, Nat.reduceSub, Int.reduceToNat, Int.reduceLE, Int.reduceLT, Int.reduceEq, Int.reduceNe, reduceCtorEq, Nat.reduceLT, Nat.reduceLeDiff]
    exact ⟨Nat.zero_le _, rfl⟩
  · simp only [A_ref03_downsL0, go_sem, Nat.reduceMod, Nat.reduceBNe, Nat.reduceBEq, Nat.reduceEqDiff, Nat.reduceAdd, Int.reduceAdd, Nat.reduceMul, Nat.reduceSub, Int.reduceToNat, Int.reduceLE, Int.reduceLT, Int.reduceEq, Int.reduceNe, reduceCtorEq, Nat.reduceLT, Nat.reduceLeDiff]
    refine ⟨fun c => ?_, fun c => ?_⟩
    · refine w_loop' hs.hm (ι := Nat) (fun k => k ≤ ns.length) (fun k => [(5, .int .i64 k), (4, .int .i64 i), (3, .rsl 1 0 ns.length ns.length 1), (1, .ptr 0 0)]) (fun k => [.box [lst AV.str .ro ns, lst u8 .ro up], .box (tb ns.length fun c => n8 (if c < k then Lat.dn up c (i + 1) else Lat.dn up c i))]) (fun k => ns.length - k) 0 ?_ fun k hk => ?_
      · simp only [go_sem, Nat.reduceMod, Nat.reduceBNe, Nat.reduceBEq, Nat.reduceEqDiff, Nat.reduceAdd, Int.reduceAdd, Nat.reduceMul, Nat.reduceSub, Int.reduceToNat, Int.reduceLE, Int.reduceLT, Int.reduceEq, Int.reduceNe, reduceCtorEq, Nat.reduceLT, Nat.reduceLeDiff, Nat.not_lt_zero]
        exact Nat.zero_le _
      · simp only [A_ref03_downsL1, go_sem, Nat.reduceMod, Nat.reduceBNe, Nat.reduceBEq, Nat.reduceEqDiff, Nat.reduceAdd, Int.reduceAdd, Nat.reduceMul, Nat.reduceSub, Int.reduceToNat, Int.reduceLE, Int.reduceLT, Int.reduceEq, Int.reduceNe, reduceCtorEq, Nat.reduceLT, Nat.reduceLeDiff]
        refine ⟨fun c2 => ?_, fun c2 => ?_⟩
        · refine call_ev (ev_Below hX hs ns up i k) ?_
          rw [below_nat up i k (by omega)]
          simp only [go_sem, Nat.reduceMod, Nat.reduceBNe, Nat.reduceBEq, Nat.reduceEqDiff, Nat.reduceAdd, Int.reduceAdd, Nat.reduceMul, Nat.reduceSub, Int.reduceToNat, Int.reduceLE, Int.reduceLT, Int.reduceEq, Int.reduceNe, reduceCtorEq, Nat.reduceLT, Nat.reduceLeDiff]
          have hkn : k < ns.length := by omega
          simp only [Nat.mul_one, tb_getD _ _ hkn, Nat.lt_irrefl, go_sem, Nat.reduceMod, Nat.reduceBNe, Nat.reduceBEq, Nat.reduceEqDiff, Nat.reduceAdd, Int.reduceAdd, Nat.reduceMul, Nat.reduceSub, Int.reduceToNat, Int.reduceLE, Int.reduceLT, Int.reduceEq, Int.reduceNe, reduceCtorEq, Nat.reduceLT, Nat.reduceLeDiff]
          refine ⟨fun hl => ⟨⟨by omega, c2⟩, hkn, by omega, ⟨by omega, c2⟩, hkn, k + 1, by omega, by omega, by rw [wi64 (by omega)]; rfl, ?_⟩, fun hl => ⟨k + 1, by omega, by omega, by rw [wi64 (by omega)]; rfl, ?_⟩⟩
          · rw [shl8 (by omega), bu_or (Lat.dn_lt8 up k (by omega)) (nat8 (n := 8) (by omega) _ (by rw [Nat.one_shiftLeft]; exact Nat.pow_lt_pow_right (by omega) (by omega))), tb_set]
            rw [tb_congr fun c hc => ?_]
            by_cases e : c = k
            · subst e; simp [Lat.dn, hl]
            · rw [if_neg e]
              simp only [show c < k + 1 ↔ c < k by omega]
          · rw [tb_congr fun c hc => ?_]
            by_cases e : c = k
            · subst e; simp [Lat.dn, hl]
            · simp only [show c < k + 1 ↔ c < k by omega]
        · refine ⟨i + 1, by omega, by omega, by rw [wi64 (by omega)]; rfl, ?_⟩
          rw [tb_congr (f' := fun c => n8 (Lat.dn up c (i + 1))) fun c hc => by rw [if_pos (by omega)]]
    · obtain rfl : i = ns.length := by omega
      rw [tb_u8 _ fun c _ => Lat.dn_lt8 up c h8]
      rfl
end
end Go.Avm

/- The reference: names, rows, Check. -/
namespace Go.Avm
open Go
section
variable {X : Cx} (hX : X.P = Go.Proofs.Tryz.prog) (hs : Std X)
include hX hs
theorem ev_meet (ns : List (List UInt8)) (up : List UInt8) (hl : up.length = ns.length) (h8 : ns.length ≤ 8) (a b : Nat) (ha : a < ns.length) (hb : b < ns.length) : Ev X F_ref03_meet [latV ns up, .int .i64 a, .int .i64 b] (.int .i64 (Lat.oi (Lat.near (fun c => Lat.dn up c ns.length) ns.length a b))) := by
  refine ev_of_wpc hs (A_ref03_meet_ok hX) 0 ?_
  simp only [A_ref03_meet, latV, go_sem, Nat.reduceMod, Nat.reduceBNe, Nat.reduceBEq, Nat.reduceEqDiff, Nat.reduceAdd, Int.reduceAdd, Nat.reduceMul, Nat.reduceSub, Int.reduceToNat, Int.reduceLE, Int.reduceLT, Int.reduceEq, Int.reduceNe, reduceCtorEq, Nat.reduceLT, Nat.reduceLeDiff]
  refine call_ev (ev_downs hX hs ns up hl h8) ?_
  simp only [go_sem, Nat.reduceMod, Nat.reduceBNe, Nat.reduceBEq, Nat.reduceEqDiff, Nat.reduceAdd, Int.reduceAdd, Nat.reduceMul, Nat.reduceSub, Int.reduceToNat, Int.reduceLE, Int.reduceLT, Int.reduceEq, Int.reduceNe, reduceCtorEq, Nat.reduceLT, Nat.reduceLeDiff]
  refine call_ev (ev_nearest hX hs (Lat.dual up ns.length) a b (by rw [Lat.dual_len]; omega) (by rw [Lat.dual_len]; omega) (by rw [Lat.dual_len]; omega)) ?_
  simp only [go_sem, Nat.reduceMod, Nat.reduceBNe, Nat.reduceBEq, Nat.reduceEqDiff, Nat.reduceAdd, Int.reduceAdd, Nat.reduceMul, Nat.reduceSub, Int.reduceToNat, Int.reduceLE, Int.reduceLT, Int.reduceEq, Int.reduceNe, reduceCtorEq, Nat.reduceLT, Nat.reduceLeDiff, Lat.dual_len]
  congr 2
  refine Lat.ff_congr fun c hc => ?_
  rw [Lat.dual_msk up h8 hc, Lat.dual_msk up h8 ha, Lat.dual_msk up h8 hb]
theorem ev_lower (c : UInt8) : Ev X F_ref01_lower [u8 c] (.bool (Lat.lowB c)) := by
  refine ev_of_wpc hs (A_ref01_lower_ok hX) 0 ?_
  simp only [A_ref01_lower, go_sem, Nat.reduceMod, Nat.reduceBNe, Nat.reduceBEq, Nat.reduceEqDiff, Nat.reduceAdd, Int.reduceAdd, Nat.reduceMul, Nat.reduceSub, Int.reduceToNat, Int.reduceLE, Int.reduceLT, Int.reduceEq, Int.reduceNe, reduceCtorEq, Nat.reduceLT, Nat.reduceLeDiff, Lat.lowB]
  refine ⟨fun h => ?_, fun h => ?_⟩
  · simp [show 97 ≤ c.toNat by omega]; omega
  · simp [show ¬ 97 ≤ c.toNat by omega]
theorem ev_digit (c : UInt8) : Ev X F_ref01_digit [u8 c] (.bool (Lat.digB c)) := by
  refine ev_of_wpc hs (A_ref01_digit_ok hX) 0 ?_
  simp only [A_ref01_digit, go_sem, Nat.reduceMod, Nat.reduceBNe, Nat.reduceBEq, Nat.reduceEqDiff, Nat.reduceAdd, Int.reduceAdd, Nat.reduceMul, Nat.reduceSub, Int.reduceToNat, Int.reduceLE, Int.reduceLT, Int.reduceEq, Int.reduceNe, reduceCtorEq, Nat.reduceLT, Nat.reduceLeDiff, Lat.digB]
  refine ⟨fun h => ?_, fun h => ?_⟩
  · simp [show 48 ≤ c.toNat by omega]; omega
  · simp [show ¬ 48 ≤ c.toNat by omega]
theorem ev_rName (s : List UInt8) : Ev X F_ref01_Name [.str s] (.bool (Lat.isNm s)) := by
  refine ev_of_wpc hs (A_ref01_Name_ok hX) 0 ?_
  simp only [A_ref01_Name, go_sem, Nat.reduceMod, Nat.reduceBNe, Nat.reduceBEq, Nat.reduceEqDiff, Nat.reduceAdd, Int.reduceAdd, Nat.reduceMul, Nat.reduceSub, Int.reduceToNat, Int.reduceLE, Int.reduceLT, Int.reduceEq, Int.reduceNe, reduceCtorEq, Nat.reduceLT, Nat.reduceLeDiff]
  refine ⟨fun h => ?_, fun h1 => ⟨fun h => ?_, fun h2 => ⟨by omega, ?_⟩⟩⟩
  · simp [Lat.isNm, show ¬ 1 ≤ s.length by omega]
  · simp [Lat.isNm, show ¬ s.length ≤ 16 by omega]
  · refine call_ev (ev_lower hX hs (s.getD 0 0)) ?_
    cases hlo : Lat.lowB (s.getD 0 0) with
    | false =>
      simp only [go_sem, Nat.reduceMod, Nat.reduceBNe, Nat.reduceBEq, Nat.reduceEqDiff, Nat.reduceAdd, Int.reduceAdd, Nat.reduceMul, Nat.reduceSub, Int.reduceToNat, Int.reduceLE, Int.reduceLT, Int.reduceEq, Int.reduceNe, reduceCtorEq, Nat.reduceLT, Nat.reduceLeDiff, Lat.isNm, hlo]
    | true =>
      simp only [go_sem, Nat.reduceMod, Nat.reduceBNe, Nat.reduceBEq, Nat.reduceEqDiff, Nat.reduceAdd, Int.reduceAdd, Nat.reduceMul, Nat.reduceSub, Int.reduceToNat, Int.reduceLE, Int.reduceLT, Int.reduceEq, Int.reduceNe, reduceCtorEq, Nat.reduceLT, Nat.reduceLeDiff]
      have e0 : Lat.isNm s = s.all Lat.nmB := by simp only [Lat.isNm, hlo, show 1 ≤ s.length by omega, show s.length ≤ 16 by omega, decide_true, Bool.true_and]
      rw [e0]
      refine w_loop' hs.hm (ι := Nat) (fun i => i ≤ s.length ∧ (s.take i).all Lat.nmB = true) (fun i => [(3, .int .i64 i), (0, .str s)]) (fun _ => []) (fun i => s.length - i) 0 ?_ fun i hi => ?_
      · simp only [go_sem, Nat.reduceMod, Nat.reduceBNe, Nat.reduceBEq, Nat.reduceEqDiff, Nat.reduceAdd, Int.reduceAdd, Nat.reduceMul, Nat.reduceSub, Int.reduceToNat, Int.reduceLE, Int.reduceLT, Int.reduceEq, Int.reduceNe, reduceCtorEq, Nat.reduceLT, Nat.reduceLeDiff]
        simp
      · obtain ⟨i1, i2⟩ := hi
        simp only [A_ref01_NameL0, go_sem, Nat.reduceMod, Nat.reduceBNe, Nat.reduceBEq, Nat.reduceEqDiff, Nat.reduceAdd, Int.reduceAdd, Nat.reduceMul, Nat.reduceSub, Int.reduceToNat, Int.reduceLE, Int.reduceLT, Int.reduceEq, Int.reduceNe, reduceCtorEq, Nat.reduceLT, Nat.reduceLeDiff]
        refine ⟨fun c => ⟨⟨by omega, c⟩, call_ev (ev_lower hX hs (s.getD i 0)) ?_⟩, fun c => ?_⟩
        · have hi' : i < s.length := by omega
          cases h3 : Lat.lowB (s.getD i 0) with
          | true =>
            simp only [go_sem, Nat.reduceMod, Nat.reduceBNe, Nat.reduceBEq, Nat.reduceEqDiff, Nat.reduceAdd, Int.reduceAdd, Nat.reduceMul, Nat.reduceSub, Int.reduceToNat, Int.reduceLE, Int.reduceLT, Int.reduceEq, Int.reduceNe, reduceCtorEq, Nat.reduceLT, Nat.reduceLeDiff]
            exact ⟨i + 1, by omega, ⟨by omega, Lat.all_take i2 hi' (by simp only [Lat.nmB, h3, Bool.true_or])⟩, by rw [wi64 (by omega)]; rfl⟩
          | false =>
            simp only [go_sem, Nat.reduceMod, Nat.reduceBNe, Nat.reduceBEq, Nat.reduceEqDiff, Nat.reduceAdd, Int.reduceAdd, Nat.reduceMul, Nat.reduceSub, Int.reduceToNat, Int.reduceLE, Int.reduceLT, Int.reduceEq, Int.reduceNe, reduceCtorEq, Nat.reduceLT, Nat.reduceLeDiff]
            refine ⟨⟨by omega, c⟩, call_ev (ev_digit hX hs (s.getD i 0)) ?_⟩
            cases h4 : Lat.digB (s.getD i 0) with
            | true =>
              simp only [go_sem, Nat.reduceMod, Nat.reduceBNe, Nat.reduceBEq, Nat.reduceEqDiff, Nat.reduceAdd, Int.reduceAdd, Nat.reduceMul, Nat.reduceSub, Int.reduceToNat, Int.reduceLE, Int.reduceLT, Int.reduceEq, Int.reduceNe, reduceCtorEq, Nat.reduceLT, Nat.reduceLeDiff]
              exact ⟨i + 1, by omega, ⟨by omega, Lat.all_take i2 hi' (by simp only [Lat.nmB, h4, Bool.or_true, Bool.true_or])⟩, by rw [wi64 (by omega)]; rfl⟩
            | false =>
              simp only [go_sem, Nat.reduceMod, Nat.reduceBNe, Nat.reduceBEq, Nat.reduceEqDiff, Nat.reduceAdd, Int.reduceAdd, Nat.reduceMul, Nat.reduceSub, Int.reduceToNat, Int.reduceLE, Int.reduceLT, Int.reduceEq, Int.reduceNe, reduceCtorEq, Nat.reduceLT, Nat.reduceLeDiff]
              refine ⟨⟨by omega, c⟩, fun h5 => ?_, fun h5 => ⟨i + 1, by omega, ⟨by omega, Lat.all_take i2 hi' ?_⟩, by rw [wi64 (by omega)]; rfl⟩⟩
              · rw [Lat.all_no hi']
                simp only [Lat.nmB, h3, h4, Bool.false_or, decide_eq_false_iff_not]
                omega
              · simp only [Lat.nmB, h3, h4, Bool.false_or, decide_eq_true_eq]
                omega
        · obtain rfl : i = s.length := by omega
          rw [List.take_length] at i2
          rw [i2]
theorem ev_ordered (ns : List (List UInt8)) (up : List UInt8) (hl : up.length = ns.length) (h8 : ns.length ≤ 8) (a : Nat) (ha : a < ns.length) : Ev X F_ref03_ordered [latV ns up, .int .i64 a] (.bool (Lat.okRow up ns.length a)) := by
  refine ev_of_wpc hs (A_ref03_ordered_ok hX) 0 ?_
  simp only [A_ref03_ordered, latV, go_sem, Nat.reduceMod, Nat.reduceBNe, Nat.reduceBEq, Nat.reduceEqDiff, Nat.reduceAdd, Int.reduceAdd, Nat.reduceMul, Nat.reduceSub, Int.reduceToNat, Int.reduceLE, Int.reduceLT, Int.reduceEq, Int.reduceNe, reduceCtorEq, Nat.reduceLT, Nat.reduceLeDiff]
  refine ⟨by omega, by omega, ?_⟩
  simp only [getD_def, mskw, shr64n ns.length (by omega), div_pos2]
  refine ⟨fun h => ?_, fun h => ?_⟩
  · rw [Lat.okRow_1 h]
  · have h : Lat.msk up a < 2 ^ ns.length := by simpa using h
    refine call_ev (ev_Below hX hs ns up a a) ?_
    rw [below_nat up a a (by omega)]
    cases haa : Lat.le up a a with
    | false =>
      simp only [go_sem, Nat.reduceMod, Nat.reduceBNe, Nat.reduceBEq, Nat.reduceEqDiff, Nat.reduceAdd, Int.reduceAdd, Nat.reduceMul, Nat.reduceSub, Int.reduceToNat, Int.reduceLE, Int.reduceLT, Int.reduceEq, Int.reduceNe, reduceCtorEq, Nat.reduceLT, Nat.reduceLeDiff, Lat.okRow_2 haa]
    | true =>
      simp only [go_sem, Nat.reduceMod, Nat.reduceBNe, Nat.reduceBEq, Nat.reduceEqDiff, Nat.reduceAdd, Int.reduceAdd, Nat.reduceMul, Nat.reduceSub, Int.reduceToNat, Int.reduceLE, Int.reduceLT, Int.reduceEq, Int.reduceNe, reduceCtorEq, Nat.reduceLT, Nat.reduceLeDiff]
      refine w_loop' hs.hm (ι := Nat) (fun i => i ≤ ns.length ∧ ∀ j, j < i → Lat.rowB up ns.length a j = true) (fun i => [(7, .int .i64 i), (5, .int .i64 ns.length), (6, .int .i64 (Lat.msk up a)), (2, .ptr 0 0), (1, .int .i64 a)]) (fun _ => [.box [lst AV.str .ro ns, lst u8 .ro up]]) (fun i => ns.length - i) 0 ?_ fun i hi => ?_
      · simp only [go_sem, Nat.reduceMod, Nat.reduceBNe, Nat.reduceBEq, Nat.reduceEqDiff, Nat.reduceAdd, Int.reduceAdd, Nat.reduceMul, Nat.reduceSub, Int.reduceToNat, Int.reduceLE, Int.reduceLT, Int.reduceEq, Int.reduceNe, reduceCtorEq, Nat.reduceLT, Nat.reduceLeDiff]
        exact ⟨Nat.zero_le _, fun j hj => absurd hj (by omega)⟩
      · obtain ⟨i1, i2⟩ := hi
        simp only [A_ref03_orderedL0, go_sem, Nat.reduceMod, Nat.reduceBNe, Nat.reduceBEq, Nat.reduceEqDiff, Nat.reduceAdd, Int.reduceAdd, Nat.reduceMul, Nat.reduceSub, Int.reduceToNat, Int.reduceLE, Int.reduceLT, Int.reduceEq, Int.reduceNe, reduceCtorEq, Nat.reduceLT, Nat.reduceLeDiff]
        refine ⟨fun c => ?_, fun c => ?_⟩
        · have hi' : i < ns.length := by omega
          refine call_ev (ev_Below hX hs ns up a i) ?_
          rw [below_nat up a i (by omega)]
          cases hai : Lat.le up a i with
          | false =>
            simp only [go_sem, Nat.reduceMod, Nat.reduceBNe, Nat.reduceBEq, Nat.reduceEqDiff, Nat.reduceAdd, Int.reduceAdd, Nat.reduceMul, Nat.reduceSub, Int.reduceToNat, Int.reduceLE, Int.reduceLT, Int.reduceEq, Int.reduceNe, reduceCtorEq, Nat.reduceLT, Nat.reduceLeDiff]
            exact nxt1 hi' i2 (by simp only [Lat.rowB, hai, Bool.not_false, Bool.true_or]) (by omega)
          | true =>
            simp only [go_sem, Nat.reduceMod, Nat.reduceBNe, Nat.reduceBEq, Nat.reduceEqDiff, Nat.reduceAdd, Int.reduceAdd, Nat.reduceMul, Nat.reduceSub, Int.reduceToNat, Int.reduceLE, Int.reduceLT, Int.reduceEq, Int.reduceNe, reduceCtorEq, Nat.reduceLT, Nat.reduceLeDiff]
            simp only [getD_def, mskw, all64 h8, b64_and (msk63 up _) (p63 h8), b64_and (Nat.lt_of_le_of_lt Nat.and_le_left (msk63 up i)) (msk63 up a)]
            have last : (¬ ((Lat.msk up i &&& 2 ^ ns.length - 1 &&& Lat.msk up a : Nat) : Int) = ((Lat.msk up i &&& 2 ^ ns.length - 1 : Nat) : Int) → (i = a ∨ Lat.le up i a = false) → Lat.okRow up ns.length a = false) ∧
                (((Lat.msk up i &&& 2 ^ ns.length - 1 &&& Lat.msk up a : Nat) : Int) = ((Lat.msk up i &&& 2 ^ ns.length - 1 : Nat) : Int) → (i = a ∨ Lat.le up i a = false) → Lat.rowB up ns.length a i = true) := by
              refine ⟨fun h1 _ => Lat.okRow_3 hi' ?_, fun h1 h2 => ?_⟩
              · have h1 : ¬ (Lat.msk up i &&& 2 ^ ns.length - 1 &&& Lat.msk up a) = (Lat.msk up i &&& 2 ^ ns.length - 1) := by omega
                simp only [Lat.rowB, hai, Bool.not_true, Bool.false_or, beq_false_of_ne h1, Bool.and_false]
              · have h1 : (Lat.msk up i &&& 2 ^ ns.length - 1 &&& Lat.msk up a) = (Lat.msk up i &&& 2 ^ ns.length - 1) := by omega
                have h3 : (i != a && Lat.le up i a) = false := by
                  rcases h2 with h2 | h2
                  · subst h2; simp
                  · rw [h2, Bool.and_false]
                simp only [Lat.rowB, hai, h1, h3, beq_self_eq_true, Bool.not_false, Bool.and_true, Bool.or_true]
            refine ⟨by omega, by omega, fun hne => ?_, fun he => ⟨fun h1 => ?_, fun h1 => ?_⟩⟩
            · refine call_ev (ev_Below hX hs ns up i a) ?_
              rw [below_nat up i a (by omega)]
              cases hia : Lat.le up i a with
              | true =>
                simp only [go_sem, Nat.reduceMod, Nat.reduceBNe, Nat.reduceBEq, Nat.reduceEqDiff, Nat.reduceAdd, Int.reduceAdd, Nat.reduceMul, Nat.reduceSub, Int.reduceToNat, Int.reduceLE, Int.reduceLT, Int.reduceEq, Int.reduceNe, reduceCtorEq, Nat.reduceLT, Nat.reduceLeDiff]
                rw [Lat.okRow_3 hi']
                have : (i != a) = true := by simp; omega
                simp only [Lat.rowB, hai, hia, this, Bool.and_self, Bool.not_true, Bool.false_and, Bool.or_self]
              | false =>
                simp only [go_sem, Nat.reduceMod, Nat.reduceBNe, Nat.reduceBEq, Nat.reduceEqDiff, Nat.reduceAdd, Int.reduceAdd, Nat.reduceMul, Nat.reduceSub, Int.reduceToNat, Int.reduceLE, Int.reduceLT, Int.reduceEq, Int.reduceNe, reduceCtorEq, Nat.reduceLT, Nat.reduceLeDiff, b64_and (Nat.lt_of_le_of_lt Nat.and_le_left (msk63 up i)) (msk63 up a)]
                refine ⟨fun h1 => ?_, fun h1 => ?_⟩
                · rw [last.1 h1 (.inr hia)]
                · exact nxt1 hi' i2 (last.2 h1 (.inr hia)) (by omega)
            · rw [last.1 h1 (.inl (by omega))]
            · exact nxt1 hi' i2 (last.2 h1 (.inl (by omega))) (by omega)
        · rw [Lat.okRow_t h haa fun j hj => i2 j (by omega)]
theorem ev_rNames (l : List (List UInt8)) : Ev X F_ref03_names [lst AV.str .ro l] (.tuple [.int .i64 (Lat.namesS l).1, .int .i64 (Lat.namesS l).2]) := by
  refine ev_of_wpc hs (A_ref03_names_ok hX) 0 ?_
  simp only [A_ref03_names, go_sem, Nat.reduceMod, Nat.reduceBNe, Nat.reduceBEq, Nat.reduceEqDiff, Nat.reduceAdd, Int.reduceAdd, Nat.reduceMul, Nat.reduceSub, Int.reduceToNat, Int.reduceLE, Int.reduceLT, Int.reduceEq, Int.reduceNe, reduceCtorEq, Nat.reduceLT, Nat.reduceLeDiff]
  refine ⟨fun h => ?_, fun h1 => ⟨fun h => ?_, fun h2 => ?_⟩⟩
  · rw [Lat.namesS_0 (by omega)]
  · rw [Lat.namesS_0 (by omega)]
  · have h12 : ¬ (l.length < 1 ∨ 8 < l.length) := by omega
    refine w_loop' hs.hm (ι := Nat) (fun i => i ≤ l.length ∧ ∀ j, j < i → Lat.nmBad l j = false) (fun i => [(4, .int .i64 i), (0, lst AV.str .ro l)]) (fun _ => []) (fun i => l.length - i) 0 ?_ fun i hi => ?_
    · simp only [go_sem, Nat.reduceMod, Nat.reduceBNe, Nat.reduceBEq, Nat.reduceEqDiff, Nat.reduceAdd, Int.reduceAdd, Nat.reduceMul, Nat.reduceSub, Int.reduceToNat, Int.reduceLE, Int.reduceLT, Int.reduceEq, Int.reduceNe, reduceCtorEq, Nat.reduceLT, Nat.reduceLeDiff]
      exact ⟨Nat.zero_le _, no_lt0⟩
    · obtain ⟨i1, i2⟩ := hi
      simp only [A_ref03_namesL0, go_sem, Nat.reduceMod, Nat.reduceBNe, Nat.reduceBEq, Nat.reduceEqDiff, Nat.reduceAdd, Int.reduceAdd, Nat.reduceMul, Nat.reduceSub, Int.reduceToNat, Int.reduceLE, Int.reduceLT, Int.reduceEq, Int.reduceNe, reduceCtorEq, Nat.reduceLT, Nat.reduceLeDiff]
      refine ⟨fun c => ⟨⟨by omega, c⟩, ?_⟩, fun c => ?_⟩
      · have hi' : i < l.length := by omega
        refine call_ev (ev_rName hX hs (l.getD i [])) ?_
        cases hn : Lat.isNm (l.getD i []) with
        | false =>
          simp only [go_sem, Nat.reduceMod, Nat.reduceBNe, Nat.reduceBEq, Nat.reduceEqDiff, Nat.reduceAdd, Int.reduceAdd, Nat.reduceMul, Nat.reduceSub, Int.reduceToNat, Int.reduceLE, Int.reduceLT, Int.reduceEq, Int.reduceNe, reduceCtorEq, Nat.reduceLT, Nat.reduceLeDiff]
          rw [Lat.namesS_b h12 hi' (by simp only [Lat.nmBad, hn, Bool.not_false, Bool.true_or]) i2, hn]
          simp
        | true =>
          simp only [go_sem, Nat.reduceMod, Nat.reduceBNe, Nat.reduceBEq, Nat.reduceEqDiff, Nat.reduceAdd, Int.reduceAdd, Nat.reduceMul, Nat.reduceSub, Int.reduceToNat, Int.reduceLE, Int.reduceLT, Int.reduceEq, Int.reduceNe, reduceCtorEq, Nat.reduceLT, Nat.reduceLeDiff]
          refine w_loop' hs.hm (ι := Nat) (fun k => k ≤ i ∧ ∀ j, j < k → l.getD j [] ≠ l.getD i []) (fun k => [(5, .int .i64 k), (4, .int .i64 i), (0, lst AV.str .ro l)]) (fun _ => []) (fun k => i - k) 0 ?_ fun k hk => ?_
          · simp only [go_sem, Nat.reduceMod, Nat.reduceBNe, Nat.reduceBEq, Nat.reduceEqDiff, Nat.reduceAdd, Int.reduceAdd, Nat.reduceMul, Nat.reduceSub, Int.reduceToNat, Int.reduceLE, Int.reduceLT, Int.reduceEq, Int.reduceNe, reduceCtorEq, Nat.reduceLT, Nat.reduceLeDiff]
            exact ⟨Nat.zero_le _, no_lt0⟩
          · obtain ⟨k1, k2⟩ := hk
            simp only [A_ref03_namesL1, go_sem, Nat.reduceMod, Nat.reduceBNe, Nat.reduceBEq, Nat.reduceEqDiff, Nat.reduceAdd, Int.reduceAdd, Nat.reduceMul, Nat.reduceSub, Int.reduceToNat, Int.reduceLE, Int.reduceLT, Int.reduceEq, Int.reduceNe, reduceCtorEq, Nat.reduceLT, Nat.reduceLeDiff]
            refine ⟨fun ck => ⟨⟨by omega, by omega⟩, ⟨by omega, c⟩, fun e => ?_, fun e => nxt1 (by omega) k2 e (by omega)⟩, fun ck => nxt1 hi' i2 ?_ (by omega)⟩
            · rw [Lat.namesS_b h12 hi' (by simp only [Lat.nmBad, Lat.take_has (x := l.getD i []) (show k < i by omega) hi' e, Bool.or_true]) i2, hn]
              simp
            · simp only [Lat.nmBad, hn, Lat.take_not hi' (fun j hj => k2 j (show j < k by omega)), Bool.not_true, Bool.or_self]
      · rw [Lat.namesS_k h12 fun j hj => i2 j (by omega)]
end
end Go.Avm

/- The reference: Check and what asks it. -/
namespace Go.Avm
open Go
section
variable {X : Cx} (hX : X.P = Go.Proofs.Tryz.prog) (hs : Std X)
include hX hs
theorem ev_nearestD (up : List UInt8) (n : Nat) (h8 : n ≤ 8) (a b : Nat) (ha : a < n) (hb : b < n) : Ev X F_ref03_nearest [lst u8 .ro (Lat.dual up n), .int .i64 a, .int .i64 b] (.int .i64 (Lat.oi (Lat.near (fun c => Lat.dn up c n) n a b))) := by
  have := ev_nearest hX hs (Lat.dual up n) a b (by rw [Lat.dual_len]; omega) (by rw [Lat.dual_len]; omega) (by rw [Lat.dual_len]; omega)
  have e : Lat.near (Lat.msk (Lat.dual up n)) n a b = Lat.near (fun c => Lat.dn up c n) n a b := by
    refine Lat.ff_congr fun c hc => ?_
    rw [Lat.dual_msk up h8 hc, Lat.dual_msk up h8 ha, Lat.dual_msk up h8 hb]
  rw [Lat.dual_len, e] at this
  exact this
theorem ev_rCheck (ns : List (List UInt8)) (up : List UInt8) : Ev X F_ref03_Check [latV ns up] (.tuple [.int .i64 (Lat.checkS ns up).1, .int .i64 (Lat.checkS ns up).2]) := by
  refine ev_of_wpc hs (A_ref03_Check_ok hX) 1 ?_
  simp only [A_ref03_Check, latV, go_sem, Nat.reduceMod, Nat.reduceBNe, Nat.reduceBEq, Nat.reduceEqDiff, Nat.reduceAdd, Int.reduceAdd, Nat.reduceMul, Nat.reduceSub, Int.reduceToNat, Int.reduceLE, Int.reduceLT, Int.reduceEq, Int.reduceNe, reduceCtorEq, Nat.reduceLT, Nat.reduceLeDiff]
  refine call_ev (ev_rNames hX hs ns) ?_
  simp only [go_sem, Nat.reduceMod, Nat.reduceBNe, Nat.reduceBEq, Nat.reduceEqDiff, Nat.reduceAdd, Int.reduceAdd, Nat.reduceMul, Nat.reduceSub, Int.reduceToNat, Int.reduceLE, Int.reduceLT, Int.reduceEq, Int.reduceNe, reduceCtorEq, Nat.reduceLT, Nat.reduceLeDiff]
  refine ⟨fun h => ?_, fun h1 => ⟨fun h => ?_, fun h2 => ?_⟩⟩
  · rw [Lat.checkS_1 h]
  · rw [Lat.checkS_2 h1 (by omega)]
  · have h2 : up.length = ns.length := by omega
    obtain ⟨n1, n8⟩ := Lat.names_8 h1
    refine w_loop' hs.hm (ι := Nat) (fun i => i ≤ ns.length ∧ ∀ j, j < i → Lat.okRow up ns.length j = true) (fun i => [(7, .int .i64 i), (6, .int .i64 ns.length), (1, .ptr 0 0)]) (fun _ => [.box [lst AV.str .ro ns, lst u8 .ro up]]) (fun i => ns.length - i) 0 ?_ fun i hi => ?_
    · simp only [go_sem, Nat.reduceMod, Nat.reduceBNe, Nat.reduceBEq, Nat.reduceEqDiff, Nat.reduceAdd, Int.reduceAdd, Nat.reduceMul, Nat.reduceSub, Int.reduceToNat, Int.reduceLE, Int.reduceLT, Int.reduceEq, Int.reduceNe, reduceCtorEq, Nat.reduceLT, Nat.reduceLeDiff]
      exact ⟨Nat.zero_le _, no_lt0⟩
    · obtain ⟨i1, i2⟩ := hi
      simp only [A_ref03_CheckL0, go_sem, Nat.reduceMod, Nat.reduceBNe, Nat.reduceBEq, Nat.reduceEqDiff, Nat.reduceAdd, Int.reduceAdd, Nat.reduceMul, Nat.reduceSub, Int.reduceToNat, Int.reduceLE, Int.reduceLT, Int.reduceEq, Int.reduceNe, reduceCtorEq, Nat.reduceLT, Nat.reduceLeDiff]
      refine ⟨fun c => ?_, fun c => ?_⟩
      · have hi' : i < ns.length := by omega
        refine call_ev (ev_ordered hX hs ns up h2 n8 i hi') ?_
        cases ho : Lat.okRow up ns.length i with
        | false =>
          simp only [go_sem, Nat.reduceMod, Nat.reduceBNe, Nat.reduceBEq, Nat.reduceEqDiff, Nat.reduceAdd, Int.reduceAdd, Nat.reduceMul, Nat.reduceSub, Int.reduceToNat, Int.reduceLE, Int.reduceLT, Int.reduceEq, Int.reduceNe, reduceCtorEq, Nat.reduceLT, Nat.reduceLeDiff]
          rw [Lat.checkS_3 h1 h2 hi' ho i2]
        | true =>
          simp only [go_sem, Nat.reduceMod, Nat.reduceBNe, Nat.reduceBEq, Nat.reduceEqDiff, Nat.reduceAdd, Int.reduceAdd, Nat.reduceMul, Nat.reduceSub, Int.reduceToNat, Int.reduceLE, Int.reduceLT, Int.reduceEq, Int.reduceNe, reduceCtorEq, Nat.reduceLT, Nat.reduceLeDiff]
          exact nxt1 hi' i2 ho (by omega)
      · have hr : ∀ j, j < ns.length → Lat.okRow up ns.length j = true := fun j hj => i2 j (by omega)
        refine call_ev (ev_downs hX hs ns up h2 n8) ?_
        simp only [go_sem, Nat.reduceMod, Nat.reduceBNe, Nat.reduceBEq, Nat.reduceEqDiff, Nat.reduceAdd, Int.reduceAdd, Nat.reduceMul, Nat.reduceSub, Int.reduceToNat, Int.reduceLE, Int.reduceLT, Int.reduceEq, Int.reduceNe, reduceCtorEq, Nat.reduceLT, Nat.reduceLeDiff]
        refine w_loop' hs.hm (ι := Nat) (fun i => i ≤ ns.length ∧ ∀ j, j < i → Lat.noNear up ns.length j = false) (fun i => [(9, .int .i64 i), (8, lst u8 .ro (Lat.dual up ns.length)), (6, .int .i64 ns.length), (1, .ptr 0 0)]) (fun _ => [.box [lst AV.str .ro ns, lst u8 .ro up]]) (fun i => ns.length - i) 0 ?_ fun a hi => ?_
        · simp only [go_sem, Nat.reduceMod, Nat.reduceBNe, Nat.reduceBEq, Nat.reduceEqDiff, Nat.reduceAdd, Int.reduceAdd, Nat.reduceMul, Nat.reduceSub, Int.reduceToNat, Int.reduceLE, Int.reduceLT, Int.reduceEq, Int.reduceNe, reduceCtorEq, Nat.reduceLT, Nat.reduceLeDiff]
          exact ⟨Nat.zero_le _, no_lt0⟩
        · obtain ⟨a1, a2⟩ := hi
          simp only [A_ref03_CheckL1, go_sem, Nat.reduceMod, Nat.reduceBNe, Nat.reduceBEq, Nat.reduceEqDiff, Nat.reduceAdd, Int.reduceAdd, Nat.reduceMul, Nat.reduceSub, Int.reduceToNat, Int.reduceLE, Int.reduceLT, Int.reduceEq, Int.reduceNe, reduceCtorEq, Nat.reduceLT, Nat.reduceLeDiff]
          refine ⟨fun ca => ?_, fun ca => ?_⟩
          · have ha : a < ns.length := by omega
            refine w_loop' hs.hm (ι := Nat) (fun b => b ≤ ns.length ∧ ∀ j, j < b → (Lat.near (Lat.msk up) ns.length a j ≠ none ∧ Lat.near (fun c => Lat.dn up c ns.length) ns.length a j ≠ none)) (fun b => [(10, .int .i64 b), (9, .int .i64 a), (8, lst u8 .ro (Lat.dual up ns.length)), (6, .int .i64 ns.length), (1, .ptr 0 0)]) (fun _ => [.box [lst AV.str .ro ns, lst u8 .ro up]]) (fun i => ns.length - i) 0 ?_ fun b hi => ?_
            · simp only [go_sem, Nat.reduceMod, Nat.reduceBNe, Nat.reduceBEq, Nat.reduceEqDiff, Nat.reduceAdd, Int.reduceAdd, Nat.reduceMul, Nat.reduceSub, Int.reduceToNat, Int.reduceLE, Int.reduceLT, Int.reduceEq, Int.reduceNe, reduceCtorEq, Nat.reduceLT, Nat.reduceLeDiff]
              exact ⟨Nat.zero_le _, no_lt0⟩
            · obtain ⟨b1, b2⟩ := hi
              simp only [A_ref03_CheckL2, go_sem, Nat.reduceMod, Nat.reduceBNe, Nat.reduceBEq, Nat.reduceEqDiff, Nat.reduceAdd, Int.reduceAdd, Nat.reduceMul, Nat.reduceSub, Int.reduceToNat, Int.reduceLE, Int.reduceLT, Int.reduceEq, Int.reduceNe, reduceCtorEq, Nat.reduceLT, Nat.reduceLeDiff]
              refine ⟨fun cb => ?_, fun cb => ?_⟩
              · have hb : b < ns.length := by omega
                refine call_ev (ev_nearest hX hs up a b (by omega) (by omega) (by omega)) ?_
                rw [h2]
                simp only [go_sem, Nat.reduceMod, Nat.reduceBNe, Nat.reduceBEq, Nat.reduceEqDiff, Nat.reduceAdd, Int.reduceAdd, Nat.reduceMul, Nat.reduceSub, Int.reduceToNat, Int.reduceLE, Int.reduceLT, Int.reduceEq, Int.reduceNe, reduceCtorEq, Nat.reduceLT, Nat.reduceLeDiff, Lat.oi_neg]
                refine ⟨fun e => ?_, fun e => ?_⟩
                · rw [Lat.checkS_4 h1 h2 hr ha (Lat.noNear_t hb (.inl e)) a2]
                · refine call_ev (ev_nearestD hX hs up ns.length n8 a b ha hb) ?_
                  simp only [go_sem, Nat.reduceMod, Nat.reduceBNe, Nat.reduceBEq, Nat.reduceEqDiff, Nat.reduceAdd, Int.reduceAdd, Nat.reduceMul, Nat.reduceSub, Int.reduceToNat, Int.reduceLE, Int.reduceLT, Int.reduceEq, Int.reduceNe, reduceCtorEq, Nat.reduceLT, Nat.reduceLeDiff, Lat.oi_neg]
                  refine ⟨fun e2 => ?_, fun e2 => ?_⟩
                  · rw [Lat.checkS_4 h1 h2 hr ha (Lat.noNear_t hb (.inr e2)) a2]
                  · exact nxt1 hb b2 ⟨e, e2⟩ (by omega)
              · exact nxt1 ha a2 (Lat.noNear_f fun b hb => b2 b (by omega)) (by omega)
          · rw [Lat.checkS_5 h1 h2 hr fun j hj => a2 j (by omega)]
end
end Go.Avm

/- The reference: what asks Check. -/
namespace Go.Avm
open Go
def askS (ns : List (List UInt8)) (up : List UInt8) (a b : Int) : Int :=
  if (Lat.checkS ns up).2 = 0 ∧ (a < 0 ∨ (ns.length : Int) ≤ a ∨ b < 0 ∨ (ns.length : Int) ≤ b) then 7 else (Lat.checkS ns up).2
theorem askS_0 {ns : List (List UInt8)} {up : List UInt8} {a b : Int} (h : askS ns up a b = 0) : (Lat.checkS ns up).2 = 0 ∧ ∃ x y : Nat, a = x ∧ b = y ∧ x < ns.length ∧ y < ns.length := by
  unfold askS at h
  split at h
  · omega
  · rename_i h1
    exact ⟨h, a.toNat, b.toNat, by omega, by omega, by omega, by omega⟩
theorem askS_n {ns : List (List UInt8)} {up : List UInt8} {a b : Nat} (h : (Lat.checkS ns up).2 = 0) (ha : a < ns.length) (hb : b < ns.length) : askS ns up a b = 0 := by
  unfold askS
  rw [if_neg (by omega), h]
theorem chk_val {ns : List (List UInt8)} {up : List UInt8} (h : (Lat.checkS ns up).2 = 0) : Lat.Val ns.length up := (Lat.checkS_val h).2
theorem ask_00 {ns : List (List UInt8)} {up : List UInt8} : askS ns up 0 0 = (Lat.checkS ns up).2 := by
  unfold askS
  split
  · rename_i h
    have := (chk_val h.1).pos
    omega
  · rfl
def leqS (ns : List (List UInt8)) (up : List UInt8) (a b : Int) : Bool := decide (askS ns up a b = 0) && below up a b
def joinS (ns : List (List UInt8)) (up : List UInt8) (a b : Int) : Int := if askS ns up a b = 0 then (Lat.jn (Lat.msk up) ns.length a.toNat b.toNat : Nat) else 0
def meetS (ns : List (List UInt8)) (up : List UInt8) (a b : Int) : Int := if askS ns up a b = 0 then (Lat.jn (fun c => Lat.dn up c ns.length) ns.length a.toNat b.toNat : Nat) else 0
def botS (ns : List (List UInt8)) (up : List UInt8) : Int := if (Lat.checkS ns up).2 = 0 then (Lat.foldJ (fun c => Lat.dn up c ns.length) ns.length ns.length : Nat) else 0
def topS (ns : List (List UInt8)) (up : List UInt8) : Int := if (Lat.checkS ns up).2 = 0 then (Lat.foldJ (Lat.msk up) ns.length ns.length : Nat) else 0
section
variable {X : Cx} (hX : X.P = Go.Proofs.Tryz.prog) (hs : Std X)
include hX hs
theorem ev_rasked (ns : List (List UInt8)) (up : List UInt8) (a b : Int) : Ev X F_ref03_asked [latV ns up, .int .i64 a, .int .i64 b] (.int .i64 (askS ns up a b)) := by
  refine ev_of_wpc hs (A_ref03_asked_ok hX) 1 ?_
  simp only [A_ref03_asked, latV, go_sem, Nat.reduceMod, Nat.reduceBNe, Nat.reduceBEq, Nat.reduceEqDiff, Nat.reduceAdd, Int.reduceAdd, Nat.reduceMul, Nat.reduceSub, Int.reduceToNat, Int.reduceLE, Int.reduceLT, Int.reduceEq, Int.reduceNe, reduceCtorEq, Nat.reduceLT, Nat.reduceLeDiff]
  refine call_ev (ev_rCheck hX hs ns up) ?_
  simp only [go_sem, Nat.reduceMod, Nat.reduceBNe, Nat.reduceBEq, Nat.reduceEqDiff, Nat.reduceAdd, Int.reduceAdd, Nat.reduceMul, Nat.reduceSub, Int.reduceToNat, Int.reduceLE, Int.reduceLT, Int.reduceEq, Int.reduceNe, reduceCtorEq, Nat.reduceLT, Nat.reduceLeDiff]
  unfold askS
  by_cases h : (Lat.checkS ns up).2 = 0
  · simp only [h, go_sem, Nat.reduceMod, Nat.reduceBNe, Nat.reduceBEq, Nat.reduceEqDiff, Nat.reduceAdd, Int.reduceAdd, Nat.reduceMul, Nat.reduceSub, Int.reduceToNat, Int.reduceLE, Int.reduceLT, Int.reduceEq, Int.reduceNe, reduceCtorEq, Nat.reduceLT, Nat.reduceLeDiff]
    grind
  · simp only [h, go_sem, Nat.reduceMod, Nat.reduceBNe, Nat.reduceBEq, Nat.reduceEqDiff, Nat.reduceAdd, Int.reduceAdd, Nat.reduceMul, Nat.reduceSub, Int.reduceToNat, Int.reduceLE, Int.reduceLT, Int.reduceEq, Int.reduceNe, reduceCtorEq, Nat.reduceLT, Nat.reduceLeDiff, false_and]
theorem ev_rJoin (ns : List (List UInt8)) (up : List UInt8) (a b : Int) : Ev X F_ref03_Join [latV ns up, .int .i64 a, .int .i64 b] (.tuple [.int .i64 (joinS ns up a b), .int .i64 (askS ns up a b)]) := by
  refine ev_of_wpc hs (A_ref03_Join_ok hX) 1 ?_
  simp only [A_ref03_Join, latV, go_sem, Nat.reduceMod, Nat.reduceBNe, Nat.reduceBEq, Nat.reduceEqDiff, Nat.reduceAdd, Int.reduceAdd, Nat.reduceMul, Nat.reduceSub, Int.reduceToNat, Int.reduceLE, Int.reduceLT, Int.reduceEq, Int.reduceNe, reduceCtorEq, Nat.reduceLT, Nat.reduceLeDiff]
  refine call_ev (ev_rasked hX hs ns up a b) ?_
  by_cases h : askS ns up a b = 0
  · simp only [h, go_sem, Nat.reduceMod, Nat.reduceBNe, Nat.reduceBEq, Nat.reduceEqDiff, Nat.reduceAdd, Int.reduceAdd, Nat.reduceMul, Nat.reduceSub, Int.reduceToNat, Int.reduceLE, Int.reduceLT, Int.reduceEq, Int.reduceNe, reduceCtorEq, Nat.reduceLT, Nat.reduceLeDiff]
    obtain ⟨h1, x, y, rfl, rfl, hx, hy⟩ := askS_0 h
    have hv := chk_val h1
    refine call_ev (ev_join hX hs ns up x y (by rw [hv.len]; exact hx) (by rw [hv.len]; exact hy) (by rw [hv.len]; have := hv.le8; omega)) ?_
    rw [hv.len, (hv.ou.near_some hx hy).1]
    simp only [joinS, h, Lat.oi, go_sem, Nat.reduceMod, Nat.reduceBNe, Nat.reduceBEq, Nat.reduceEqDiff, Nat.reduceAdd, Int.reduceAdd, Nat.reduceMul, Nat.reduceSub, Int.reduceToNat, Int.reduceLE, Int.reduceLT, Int.reduceEq, Int.reduceNe, reduceCtorEq, Nat.reduceLT, Nat.reduceLeDiff]
  · simp only [h, go_sem, Nat.reduceMod, Nat.reduceBNe, Nat.reduceBEq, Nat.reduceEqDiff, Nat.reduceAdd, Int.reduceAdd, Nat.reduceMul, Nat.reduceSub, Int.reduceToNat, Int.reduceLE, Int.reduceLT, Int.reduceEq, Int.reduceNe, reduceCtorEq, Nat.reduceLT, Nat.reduceLeDiff, joinS]
theorem ev_rMeet (ns : List (List UInt8)) (up : List UInt8) (a b : Int) : Ev X F_ref03_Meet [latV ns up, .int .i64 a, .int .i64 b] (.tuple [.int .i64 (meetS ns up a b), .int .i64 (askS ns up a b)]) := by
  refine ev_of_wpc hs (A_ref03_Meet_ok hX) 1 ?_
  simp only [A_ref03_Meet, latV, go_sem, Nat.reduceMod, Nat.reduceBNe, Nat.reduceBEq, Nat.reduceEqDiff, Nat.reduceAdd, Int.reduceAdd, Nat.reduceMul, Nat.reduceSub, Int.reduceToNat, Int.reduceLE, Int.reduceLT, Int.reduceEq, Int.reduceNe, reduceCtorEq, Nat.reduceLT, Nat.reduceLeDiff]
  refine call_ev (ev_rasked hX hs ns up a b) ?_
  by_cases h : askS ns up a b = 0
  · simp only [h, go_sem, Nat.reduceMod, Nat.reduceBNe, Nat.reduceBEq, Nat.reduceEqDiff, Nat.reduceAdd, Int.reduceAdd, Nat.reduceMul, Nat.reduceSub, Int.reduceToNat, Int.reduceLE, Int.reduceLT, Int.reduceEq, Int.reduceNe, reduceCtorEq, Nat.reduceLT, Nat.reduceLeDiff]
    obtain ⟨h1, x, y, rfl, rfl, hx, hy⟩ := askS_0 h
    have hv := chk_val h1
    refine call_ev (ev_meet hX hs ns up hv.len hv.le8 x y hx hy) ?_
    rw [(hv.od.near_some hx hy).1]
    simp only [meetS, h, Lat.oi, go_sem, Nat.reduceMod, Nat.reduceBNe, Nat.reduceBEq, Nat.reduceEqDiff, Nat.reduceAdd, Int.reduceAdd, Nat.reduceMul, Nat.reduceSub, Int.reduceToNat, Int.reduceLE, Int.reduceLT, Int.reduceEq, Int.reduceNe, reduceCtorEq, Nat.reduceLT, Nat.reduceLeDiff]
  · simp only [h, go_sem, Nat.reduceMod, Nat.reduceBNe, Nat.reduceBEq, Nat.reduceEqDiff, Nat.reduceAdd, Int.reduceAdd, Nat.reduceMul, Nat.reduceSub, Int.reduceToNat, Int.reduceLE, Int.reduceLT, Int.reduceEq, Int.reduceNe, reduceCtorEq, Nat.reduceLT, Nat.reduceLeDiff, meetS]
theorem ev_rBottom (ns : List (List UInt8)) (up : List UInt8) : Ev X F_ref03_Bottom [latV ns up] (.tuple [.int .i64 (botS ns up), .int .i64 (Lat.checkS ns up).2]) := by
  refine ev_of_wpc hs (A_ref03_Bottom_ok hX) 1 ?_
  simp only [A_ref03_Bottom, latV, go_sem, Nat.reduceMod, Nat.reduceBNe, Nat.reduceBEq, Nat.reduceEqDiff, Nat.reduceAdd, Int.reduceAdd, Nat.reduceMul, Nat.reduceSub, Int.reduceToNat, Int.reduceLE, Int.reduceLT, Int.reduceEq, Int.reduceNe, reduceCtorEq, Nat.reduceLT, Nat.reduceLeDiff]
  refine call_ev (ev_rasked hX hs ns up 0 0) ?_
  rw [ask_00]
  by_cases h : (Lat.checkS ns up).2 = 0
  · simp only [h, go_sem, Nat.reduceMod, Nat.reduceBNe, Nat.reduceBEq, Nat.reduceEqDiff, Nat.reduceAdd, Int.reduceAdd, Nat.reduceMul, Nat.reduceSub, Int.reduceToNat, Int.reduceLE, Int.reduceLT, Int.reduceEq, Int.reduceNe, reduceCtorEq, Nat.reduceLT, Nat.reduceLeDiff]
    have hv := chk_val h
    refine call_ev (ev_downs hX hs ns up hv.len hv.le8) ?_
    simp only [go_sem, Nat.reduceMod, Nat.reduceBNe, Nat.reduceBEq, Nat.reduceEqDiff, Nat.reduceAdd, Int.reduceAdd, Nat.reduceMul, Nat.reduceSub, Int.reduceToNat, Int.reduceLE, Int.reduceLT, Int.reduceEq, Int.reduceNe, reduceCtorEq, Nat.reduceLT, Nat.reduceLeDiff]
    refine w_loop' hs.hm (ι := Nat) (fun i => i ≤ ns.length) (fun i => [(7, .int .i64 i), (6, .int .i64 (Lat.foldJ (fun c => Lat.dn up c ns.length) ns.length i : Nat)), (5, lst u8 .ro (Lat.dual up ns.length)), (1, .ptr 0 0)]) (fun _ => [.box [lst AV.str .ro ns, lst u8 .ro up]]) (fun i => ns.length - i) 0 ?_ fun i hi => ?_
    · simp only [go_sem, Nat.reduceMod, Nat.reduceBNe, Nat.reduceBEq, Nat.reduceEqDiff, Nat.reduceAdd, Int.reduceAdd, Nat.reduceMul, Nat.reduceSub, Int.reduceToNat, Int.reduceLE, Int.reduceLT, Int.reduceEq, Int.reduceNe, reduceCtorEq, Nat.reduceLT, Nat.reduceLeDiff]
      exact ⟨Nat.zero_le _, rfl⟩
    · simp only [A_ref03_BottomL0, go_sem, Nat.reduceMod, Nat.reduceBNe, Nat.reduceBEq, Nat.reduceEqDiff, Nat.reduceAdd, Int.reduceAdd, Nat.reduceMul, Nat.reduceSub, Int.reduceToNat, Int.reduceLE, Int.reduceLT, Int.reduceEq, Int.reduceNe, reduceCtorEq, Nat.reduceLT, Nat.reduceLeDiff]
      refine ⟨fun c => ?_, fun c => ?_⟩
      · have hi' : i < ns.length := by omega
        have h8 := hv.le8
        have hf := (hv.od.fold hv.pos i hi).1
        refine call_ev (ev_nearestD hX hs up ns.length hv.le8 i _ hi' hf) ?_
        rw [(hv.od.near_some hi' hf).1]
        simp only [Lat.oi, go_sem, Nat.reduceMod, Nat.reduceBNe, Nat.reduceBEq, Nat.reduceEqDiff, Nat.reduceAdd, Int.reduceAdd, Nat.reduceMul, Nat.reduceSub, Int.reduceToNat, Int.reduceLE, Int.reduceLT, Int.reduceEq, Int.reduceNe, reduceCtorEq, Nat.reduceLT, Nat.reduceLeDiff]
        exact ⟨i + 1, by omega, by omega, by rw [wi64 (by omega)]; rfl, rfl⟩
      · obtain rfl : i = ns.length := by omega
        simp only [botS, h, go_sem, Nat.reduceMod, Nat.reduceBNe, Nat.reduceBEq, Nat.reduceEqDiff, Nat.reduceAdd, Int.reduceAdd, Nat.reduceMul, Nat.reduceSub, Int.reduceToNat, Int.reduceLE, Int.reduceLT, Int.reduceEq, Int.reduceNe, reduceCtorEq, Nat.reduceLT, Nat.reduceLeDiff]
  · simp only [h, go_sem, Nat.reduceMod, Nat.reduceBNe, Nat.reduceBEq, Nat.reduceEqDiff, Nat.reduceAdd, Int.reduceAdd, Nat.reduceMul, Nat.reduceSub, Int.reduceToNat, Int.reduceLE, Int.reduceLT, Int.reduceEq, Int.reduceNe, reduceCtorEq, Nat.reduceLT, Nat.reduceLeDiff, botS]
theorem ev_rTop (ns : List (List UInt8)) (up : List UInt8) : Ev X F_ref03_Top [latV ns up] (.tuple [.int .i64 (topS ns up), .int .i64 (Lat.checkS ns up).2]) := by
  refine ev_of_wpc hs (A_ref03_Top_ok hX) 1 ?_
  simp only [A_ref03_Top, latV, go_sem, Nat.reduceMod, Nat.reduceBNe, Nat.reduceBEq, Nat.reduceEqDiff, Nat.reduceAdd, Int.reduceAdd, Nat.reduceMul, Nat.reduceSub, Int.reduceToNat, Int.reduceLE, Int.reduceLT, Int.reduceEq, Int.reduceNe, reduceCtorEq, Nat.reduceLT, Nat.reduceLeDiff]
  refine call_ev (ev_rasked hX hs ns up 0 0) ?_
  rw [ask_00]
  by_cases h : (Lat.checkS ns up).2 = 0
  · simp only [h, go_sem, Nat.reduceMod, Nat.reduceBNe, Nat.reduceBEq, Nat.reduceEqDiff, Nat.reduceAdd, Int.reduceAdd, Nat.reduceMul, Nat.reduceSub, Int.reduceToNat, Int.reduceLE, Int.reduceLT, Int.reduceEq, Int.reduceNe, reduceCtorEq, Nat.reduceLT, Nat.reduceLeDiff]
    have hv := chk_val h
    refine w_loop' hs.hm (ι := Nat) (fun i => i ≤ ns.length) (fun i => [(6, .int .i64 i), (5, .int .i64 (Lat.foldJ (Lat.msk up) ns.length i : Nat)), (1, .ptr 0 0)]) (fun _ => [.box [lst AV.str .ro ns, lst u8 .ro up]]) (fun i => ns.length - i) 0 ?_ fun i hi => ?_
    · simp only [go_sem, Nat.reduceMod, Nat.reduceBNe, Nat.reduceBEq, Nat.reduceEqDiff, Nat.reduceAdd, Int.reduceAdd, Nat.reduceMul, Nat.reduceSub, Int.reduceToNat, Int.reduceLE, Int.reduceLT, Int.reduceEq, Int.reduceNe, reduceCtorEq, Nat.reduceLT, Nat.reduceLeDiff]
      exact ⟨Nat.zero_le _, rfl⟩
    · simp only [A_ref03_TopL0, go_sem, Nat.reduceMod, Nat.reduceBNe, Nat.reduceBEq, Nat.reduceEqDiff, Nat.reduceAdd, Int.reduceAdd, Nat.reduceMul, Nat.reduceSub, Int.reduceToNat, Int.reduceLE, Int.reduceLT, Int.reduceEq, Int.reduceNe, reduceCtorEq, Nat.reduceLT, Nat.reduceLeDiff]
      refine ⟨fun c => ?_, fun c => ?_⟩
      · have hi' : i < ns.length := by omega
        have h8 := hv.le8
        have hf := (hv.ou.fold hv.pos i hi).1
        refine call_ev (ev_join hX hs ns up i _ (by rw [hv.len]; exact hi') (by rw [hv.len]; exact hf) (by rw [hv.len]; have := hv.le8; omega)) ?_
        rw [hv.len, (hv.ou.near_some hi' hf).1]
        simp only [Lat.oi, go_sem, Nat.reduceMod, Nat.reduceBNe, Nat.reduceBEq, Nat.reduceEqDiff, Nat.reduceAdd, Int.reduceAdd, Nat.reduceMul, Nat.reduceSub, Int.reduceToNat, Int.reduceLE, Int.reduceLT, Int.reduceEq, Int.reduceNe, reduceCtorEq, Nat.reduceLT, Nat.reduceLeDiff]
        exact ⟨i + 1, by omega, by omega, by rw [wi64 (by omega)]; rfl, rfl⟩
      · obtain rfl : i = ns.length := by omega
        simp only [topS, h, go_sem, Nat.reduceMod, Nat.reduceBNe, Nat.reduceBEq, Nat.reduceEqDiff, Nat.reduceAdd, Int.reduceAdd, Nat.reduceMul, Nat.reduceSub, Int.reduceToNat, Int.reduceLE, Int.reduceLT, Int.reduceEq, Int.reduceNe, reduceCtorEq, Nat.reduceLT, Nat.reduceLeDiff]
  · simp only [h, go_sem, Nat.reduceMod, Nat.reduceBNe, Nat.reduceBEq, Nat.reduceEqDiff, Nat.reduceAdd, Int.reduceAdd, Nat.reduceMul, Nat.reduceSub, Int.reduceToNat, Int.reduceLE, Int.reduceLT, Int.reduceEq, Int.reduceNe, reduceCtorEq, Nat.reduceLT, Nat.reduceLeDiff, topS]
end
end Go.Avm

/- The reference: Find, Same, rows. -/
namespace Go.Avm
open Go
section
variable {X : Cx} (hX : X.P = Go.Proofs.Tryz.prog) (hs : Std X)
include hX hs
theorem ev_rFind (ns : List (List UInt8)) (up : List UInt8) (s : List UInt8) : Ev X F_ref03_Find [latV ns up, .str s] (.tuple [.int .i64 (Lat.findS ns up s).1, .int .i64 (Lat.findS ns up s).2]) := by
  refine ev_of_wpc hs (A_ref03_Find_ok hX) 1 ?_
  simp only [A_ref03_Find, latV, go_sem, Nat.reduceMod, Nat.reduceBNe, Nat.reduceBEq, Nat.reduceEqDiff, Nat.reduceAdd, Int.reduceAdd, Nat.reduceMul, Nat.reduceSub, Int.reduceToNat, Int.reduceLE, Int.reduceLT, Int.reduceEq, Int.reduceNe, reduceCtorEq, Nat.reduceLT, Nat.reduceLeDiff]
  refine call_ev (ev_rCheck hX hs ns up) ?_
  by_cases h : (Lat.checkS ns up).2 = 0
  · simp only [h, go_sem, Nat.reduceMod, Nat.reduceBNe, Nat.reduceBEq, Nat.reduceEqDiff, Nat.reduceAdd, Int.reduceAdd, Nat.reduceMul, Nat.reduceSub, Int.reduceToNat, Int.reduceLE, Int.reduceLT, Int.reduceEq, Int.reduceNe, reduceCtorEq, Nat.reduceLT, Nat.reduceLeDiff]
    have h8 := (chk_val h).le8
    refine w_loop' hs.hm (ι := Nat) (fun i => i ≤ ns.length ∧ ∀ j, j < i → (ns.getD j [] == s) = false) (fun i => [(8, .int .i64 i), (2, .ptr 0 0), (1, .str s)]) (fun _ => [.box [lst AV.str .ro ns, lst u8 .ro up]]) (fun i => ns.length - i) 0 ?_ fun i hi => ?_
    · simp only [go_sem, Nat.reduceMod, Nat.reduceBNe, Nat.reduceBEq, Nat.reduceEqDiff, Nat.reduceAdd, Int.reduceAdd, Nat.reduceMul, Nat.reduceSub, Int.reduceToNat, Int.reduceLE, Int.reduceLT, Int.reduceEq, Int.reduceNe, reduceCtorEq, Nat.reduceLT, Nat.reduceLeDiff]
      exact ⟨Nat.zero_le _, no_lt0⟩
    · obtain ⟨i1, i2⟩ := hi
      simp only [A_ref03_FindL0, go_sem, Nat.reduceMod, Nat.reduceBNe, Nat.reduceBEq, Nat.reduceEqDiff, Nat.reduceAdd, Int.reduceAdd, Nat.reduceMul, Nat.reduceSub, Int.reduceToNat, Int.reduceLE, Int.reduceLT, Int.reduceEq, Int.reduceNe, reduceCtorEq, Nat.reduceLT, Nat.reduceLeDiff]
      refine ⟨fun c => ⟨⟨by omega, c⟩, fun e => ?_, fun e => nxt1 (by omega) i2 ?_ (by omega)⟩, fun c => ?_⟩
      · have e' : (ns.getD i [] == s) = true := by rw [beq_iff_eq]; exact e
        simp only [Lat.findS, if_pos h, Lat.findO, Lat.ff_some (p := fun a => ns.getD a [] == s) (show i < ns.length by omega) e' i2]
      · rw [beq_eq_false_iff_ne]; exact e
      · simp only [Lat.findS, if_pos h, Lat.findO, Lat.ff_none (p := fun a => ns.getD a [] == s) (n := ns.length) fun j hj => i2 j (by omega)]
  · simp only [h, go_sem, Nat.reduceMod, Nat.reduceBNe, Nat.reduceBEq, Nat.reduceEqDiff, Nat.reduceAdd, Int.reduceAdd, Nat.reduceMul, Nat.reduceSub, Int.reduceToNat, Int.reduceLE, Int.reduceLT, Int.reduceEq, Int.reduceNe, reduceCtorEq, Nat.reduceLT, Nat.reduceLeDiff, Lat.findS]
end
end Go.Avm
