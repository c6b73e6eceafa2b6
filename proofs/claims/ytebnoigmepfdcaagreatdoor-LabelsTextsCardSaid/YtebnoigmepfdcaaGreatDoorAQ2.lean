/- Trim, and words.Name. -/
import Derived.Test.YtebnoigmepfdcaaGreatDoorAQ1
import Derived.Test.YtebnoigmepfdcaaGreatDoorM1
set_option linter.unusedSectionVars false
set_option linter.unusedSimpArgs false
set_option linter.unusedVariables false

/- Trim, and words.Name. -/
namespace Go.Avm
open Go
theorem any_take {s : List UInt8} {i : Nat} (hi : i < s.length) (k : Nat) : Lat.inB (s.take (i + 1)) k = (Lat.inB (s.take i) k || ((s.getD i 0).toNat == k)) := by
  rw [List.take_succ_eq_append_getElem hi]
  simp only [Lat.inB, List.any_append, List.any_cons, List.any_nil, Bool.or_false]
  rw [List.getD_eq_getElem?_getD, List.getElem?_eq_getElem hi]; rfl
section
variable {X : Cx} (hX : X.P = Go.Proofs.Tryz.prog) (hs : Std X)
include hX hs
theorem ev_contains (f : Nat → Bool) (c : UInt8) : Ev X F_strings_asciiSet_contains [.vp (tb 256 fun k => .bool (f k)), u8 c] (.bool (f c.toNat)) := by
  have hc := c.toNat_lt
  refine ev_of_wpc hs (A_strings_asciiSet_contains_ok hX) 0 ?_
  simp only [A_strings_asciiSet_contains, go_sem, Nat.reduceMod, Nat.reduceBNe, Nat.reduceBEq, Nat.reduceEqDiff, Nat.reduceAdd, Int.reduceAdd, Nat.reduceMul, Nat.reduceSub, Int.reduceToNat, Int.reduceLE, Int.reduceLT, Int.reduceEq, Int.reduceNe, reduceCtorEq, Nat.reduceLT, Nat.reduceLeDiff, Nat.mul_one, ld_tb _ hc]
  omega
theorem ev_makeSet (cs : List UInt8) (h : ∀ c ∈ cs, c.toNat < 128) (hl : cs.length < 1000000) : Ev X F_strings_makeASCIISet [.str cs] (.tuple [.agg (tb 256 fun k => .bool (Lat.inB cs k)), .bool true]) := by
  refine ev_of_wpc hs (A_strings_makeASCIISet_ok hX) 0 ?_
  simp only [A_strings_makeASCIISet, tb_rep, go_sem, Nat.reduceMod, Nat.reduceBNe, Nat.reduceBEq, Nat.reduceEqDiff, Nat.reduceAdd, Int.reduceAdd, Nat.reduceMul, Nat.reduceSub, Int.reduceToNat, Int.reduceLE, Int.reduceLT, Int.reduceEq, Int.reduceNe, reduceCtorEq, Nat.reduceLT, Nat.reduceLeDiff]
  refine w_loop' hs.hm (ι := Nat) (fun i => i ≤ cs.length) (fun i => [(4, .int .i64 i), (2, .ptr 0 0), (0, .str cs)]) (fun i => [.box (tb 256 fun k => .bool (Lat.inB (cs.take i) k))]) (fun i => cs.length - i) 0 ?_ fun i hi => ?_
  · simp only [go_sem, Nat.reduceMod, Nat.reduceBNe, Nat.reduceBEq, Nat.reduceEqDiff, Nat.reduceAdd, Int.reduceAdd, Nat.reduceMul, Nat.reduceSub, Int.reduceToNat, Int.reduceLE, Int.reduceLT, Int.reduceEq, Int.reduceNe, reduceCtorEq, Nat.reduceLT, Nat.reduceLeDiff]
    exact ⟨Nat.zero_le _, rfl⟩
  · simp only [A_strings_makeASCIISetL0, go_sem, Nat.reduceMod, Nat.reduceBNe, Nat.reduceBEq, Nat.reduceEqDiff, Nat.reduceAdd, Int.reduceAdd, Nat.reduceMul, Nat.reduceSub, Int.reduceToNat, Int.reduceLE, Int.reduceLT, Int.reduceEq, Int.reduceNe, reduceCtorEq, Nat.reduceLT, Nat.reduceLeDiff, Nat.mul_one]
    refine ⟨fun c => ⟨⟨by omega, c⟩, fun e => ?_, fun e => ⟨by omega, by omega, i + 1, by omega, by omega, by rw [wi64 (by omega)]; rfl, ?_⟩⟩, fun c => ?_⟩
    · have hi' : i < cs.length := by omega
      have := h (cs[i]) (List.getElem_mem _)
      have e2 : cs.getD i 0 = cs[i] := by rw [List.getD_eq_getElem?_getD, List.getElem?_eq_getElem hi']; rfl
      rw [e2] at e
      omega
    · rw [tb_set]
      rw [tb_congr fun k hk => ?_]
      rw [any_take (by omega) k]
      by_cases ek : k = (cs.getD i 0).toNat
      · subst ek; simp
      · have : ((cs.getD i 0).toNat == k) = false := by rw [beq_eq_false_iff_ne]; exact fun e => ek e.symm
        rw [if_neg ek, this, Bool.or_false]
    · rw [List.take_of_length_le (by omega)]
theorem ev_ltrim (cs s : List UInt8) : Ev X F_strings_trimLeftASCII [.str s, .vp (tb 256 fun k => .bool (Lat.inB cs k))] (.str (Lat.ltrim cs s)) := by
  refine ev_of_wpc hs (A_strings_trimLeftASCII_ok hX) 0 ?_
  simp only [A_strings_trimLeftASCII, go_sem, Nat.reduceMod, Nat.reduceBNe, Nat.reduceBEq, Nat.reduceEqDiff, Nat.reduceAdd, Int.reduceAdd, Nat.reduceMul, Nat.reduceSub, Int.reduceToNat, Int.reduceLE, Int.reduceLT, Int.reduceEq, Int.reduceNe, reduceCtorEq, Nat.reduceLT, Nat.reduceLeDiff]
  refine w_loop' hs.hm (ι := List UInt8) (fun t => Lat.ltrim cs s = Lat.ltrim cs t) (fun t => [(0, .str t), (1, .vp (tb 256 fun k => .bool (Lat.inB cs k)))]) (fun _ => []) (fun t => t.length) s ?_ fun t ht => ?_
  · simp only [go_sem, Nat.reduceMod, Nat.reduceBNe, Nat.reduceBEq, Nat.reduceEqDiff, Nat.reduceAdd, Int.reduceAdd, Nat.reduceMul, Nat.reduceSub, Int.reduceToNat, Int.reduceLE, Int.reduceLT, Int.reduceEq, Int.reduceNe, reduceCtorEq, Nat.reduceLT, Nat.reduceLeDiff]
  · simp only [A_strings_trimLeftASCIIL0, go_sem, Nat.reduceMod, Nat.reduceBNe, Nat.reduceBEq, Nat.reduceEqDiff, Nat.reduceAdd, Int.reduceAdd, Nat.reduceMul, Nat.reduceSub, Int.reduceToNat, Int.reduceLE, Int.reduceLT, Int.reduceEq, Int.reduceNe, reduceCtorEq, Nat.reduceLT, Nat.reduceLeDiff]
    refine ⟨fun c => ⟨c, call_ev (ev_contains hX hs (Lat.inB cs) (t.getD 0 0)) ?_⟩, fun c => ?_⟩
    · cases hc : Lat.inB cs (t.getD 0 0).toNat with
      | true =>
        simp only [go_sem, Nat.reduceMod, Nat.reduceBNe, Nat.reduceBEq, Nat.reduceEqDiff, Nat.reduceAdd, Int.reduceAdd, Nat.reduceMul, Nat.reduceSub, Int.reduceToNat, Int.reduceLE, Int.reduceLT, Int.reduceEq, Int.reduceNe, reduceCtorEq, Nat.reduceLT, Nat.reduceLeDiff]
        refine ⟨by omega, t.drop 1, by rw [List.length_drop]; omega, ?_, ?_⟩
        · rw [ht, Lat.ltrim_t (by omega) hc]
        · rw [List.take_length]
      | false =>
        simp only [go_sem, Nat.reduceMod, Nat.reduceBNe, Nat.reduceBEq, Nat.reduceEqDiff, Nat.reduceAdd, Int.reduceAdd, Nat.reduceMul, Nat.reduceSub, Int.reduceToNat, Int.reduceLE, Int.reduceLT, Int.reduceEq, Int.reduceNe, reduceCtorEq, Nat.reduceLT, Nat.reduceLeDiff]
        rw [ht, Lat.ltrim_f (by omega) hc]
    · have : t = [] := List.length_eq_zero_iff.1 (by omega)
      rw [ht, this]; rfl
theorem ev_rtrim (cs s : List UInt8) (hl : s.length < 9223372036854775807) : Ev X F_strings_trimRightASCII [.str s, .vp (tb 256 fun k => .bool (Lat.inB cs k))] (.str (Lat.rtrim cs s)) := by
  refine ev_of_wpc hs (A_strings_trimRightASCII_ok hX) 0 ?_
  simp only [A_strings_trimRightASCII, go_sem, Nat.reduceMod, Nat.reduceBNe, Nat.reduceBEq, Nat.reduceEqDiff, Nat.reduceAdd, Int.reduceAdd, Nat.reduceMul, Nat.reduceSub, Int.reduceToNat, Int.reduceLE, Int.reduceLT, Int.reduceEq, Int.reduceNe, reduceCtorEq, Nat.reduceLT, Nat.reduceLeDiff]
  refine w_loop' hs.hm (ι := List UInt8) (fun t => t.length ≤ s.length ∧ Lat.rtrim cs s = Lat.rtrim cs t) (fun t => [(0, .str t), (1, .vp (tb 256 fun k => .bool (Lat.inB cs k)))]) (fun _ => []) (fun t => t.length) s ?_ fun t ht => ?_
  · simp only [go_sem, Nat.reduceMod, Nat.reduceBNe, Nat.reduceBEq, Nat.reduceEqDiff, Nat.reduceAdd, Int.reduceAdd, Nat.reduceMul, Nat.reduceSub, Int.reduceToNat, Int.reduceLE, Int.reduceLT, Int.reduceEq, Int.reduceNe, reduceCtorEq, Nat.reduceLT, Nat.reduceLeDiff]
  · obtain ⟨t1, t2⟩ := ht
    simp only [A_strings_trimRightASCIIL0, go_sem, Nat.reduceMod, Nat.reduceBNe, Nat.reduceBEq, Nat.reduceEqDiff, Nat.reduceAdd, Int.reduceAdd, Nat.reduceMul, Nat.reduceSub, Int.reduceToNat, Int.reduceLE, Int.reduceLT, Int.reduceEq, Int.reduceNe, reduceCtorEq, Nat.reduceLT, Nat.reduceLeDiff]
    refine ⟨fun c => ?_, fun c => ?_⟩
    · have e1 : IntKind.i64.wrap ((t.length : Int) - 1) = ((t.length - 1 : Nat) : Int) := by rw [wi64 (by omega)]; omega
      rw [e1]
      simp only [go_sem, Nat.reduceMod, Nat.reduceBNe, Nat.reduceBEq, Nat.reduceEqDiff, Nat.reduceAdd, Int.reduceAdd, Nat.reduceMul, Nat.reduceSub, Int.reduceToNat, Int.reduceLE, Int.reduceLT, Int.reduceEq, Int.reduceNe, reduceCtorEq, Nat.reduceLT, Nat.reduceLeDiff]
      refine ⟨by omega, call_ev (ev_contains hX hs (Lat.inB cs) (t.getD (t.length - 1) 0)) ?_⟩
      cases hc : Lat.inB cs (t.getD (t.length - 1) 0).toNat with
      | true =>
        simp only [go_sem, Nat.reduceMod, Nat.reduceBNe, Nat.reduceBEq, Nat.reduceEqDiff, Nat.reduceAdd, Int.reduceAdd, Nat.reduceMul, Nat.reduceSub, Int.reduceToNat, Int.reduceLE, Int.reduceLT, Int.reduceEq, Int.reduceNe, reduceCtorEq, Nat.reduceLT, Nat.reduceLeDiff]
        rw [e1]
        refine ⟨by omega, t.take (t.length - 1), by rw [List.length_take]; omega, ⟨by rw [List.length_take]; omega, ?_⟩, rfl⟩
        rw [t2, Lat.rtrim_t (by omega) hc]
      | false =>
        simp only [go_sem, Nat.reduceMod, Nat.reduceBNe, Nat.reduceBEq, Nat.reduceEqDiff, Nat.reduceAdd, Int.reduceAdd, Nat.reduceMul, Nat.reduceSub, Int.reduceToNat, Int.reduceLE, Int.reduceLT, Int.reduceEq, Int.reduceNe, reduceCtorEq, Nat.reduceLT, Nat.reduceLeDiff]
        rw [t2, Lat.rtrim_f (by omega) hc]
    · have : t = [] := List.length_eq_zero_iff.1 (by omega)
      rw [t2, this]; rfl
theorem ev_Trim (cs s : List UInt8) (h : ∀ c ∈ cs, c.toNat < 128) (hl : cs.length < 1000000) (h2 : 2 ≤ cs.length) (hs2 : s.length < 9223372036854775807) : Ev X F_strings_Trim [.str s, .str cs] (.str (Lat.trimS cs s)) := by
  by_cases h0 : s = []
  · subst h0
    refine ev_of_wpc hs (A_strings_Trim_ok hX) 0 ?_
    simp only [A_strings_Trim, tb_rep, go_sem, Nat.reduceMod, Nat.reduceBNe, Nat.reduceBEq, Nat.reduceEqDiff, Nat.reduceAdd, Int.reduceAdd, Nat.reduceMul, Nat.reduceSub, Int.reduceToNat, Int.reduceLE, Int.reduceLT, Int.reduceEq, Int.reduceNe, reduceCtorEq, Nat.reduceLT, Nat.reduceLeDiff]
    rfl
  · have hc0 : cs ≠ [] := fun e => by rw [e] at h2; simp at h2
    have h1 : ¬ (cs.length : Int) = 1 := by omega
    refine ev_of_wpc hs (A_strings_Trim_ok hX) 0 ?_
    simp only [A_strings_Trim, tb_rep, go_sem, Nat.reduceMod, Nat.reduceBNe, Nat.reduceBEq, Nat.reduceEqDiff, Nat.reduceAdd, Int.reduceAdd, Nat.reduceMul, Nat.reduceSub, Int.reduceToNat, Int.reduceLE, Int.reduceLT, Int.reduceEq, Int.reduceNe, reduceCtorEq, Nat.reduceLT, Nat.reduceLeDiff, h0, hc0, h1]
    refine call_ev (ev_makeSet hX hs cs h hl) ?_
    simp only [go_sem, Nat.reduceMod, Nat.reduceBNe, Nat.reduceBEq, Nat.reduceEqDiff, Nat.reduceAdd, Int.reduceAdd, Nat.reduceMul, Nat.reduceSub, Int.reduceToNat, Int.reduceLE, Int.reduceLT, Int.reduceEq, Int.reduceNe, reduceCtorEq, Nat.reduceLT, Nat.reduceLeDiff]
    refine call_lend (r := .str (Lat.rtrim cs s)) ?_ rfl ?_
    · have := ev_rtrim hX hs cs s hs2
      simpa only [lendL, lend, List.getElem?_cons_zero, List.drop_zero, tb_dryb] using this
    · simp only [go_sem, Nat.reduceMod, Nat.reduceBNe, Nat.reduceBEq, Nat.reduceEqDiff, Nat.reduceAdd, Int.reduceAdd, Nat.reduceMul, Nat.reduceSub, Int.reduceToNat, Int.reduceLE, Int.reduceLT, Int.reduceEq, Int.reduceNe, reduceCtorEq, Nat.reduceLT, Nat.reduceLeDiff]
      refine call_lend (r := .str (Lat.ltrim cs (Lat.rtrim cs s))) ?_ rfl ?_
      · have := ev_ltrim hX hs cs (Lat.rtrim cs s)
        simpa only [lendL, lend, List.getElem?_cons_zero, List.drop_zero, tb_dryb] using this
      · simp only [go_sem, Nat.reduceMod, Nat.reduceBNe, Nat.reduceBEq, Nat.reduceEqDiff, Nat.reduceAdd, Int.reduceAdd, Nat.reduceMul, Nat.reduceSub, Int.reduceToNat, Int.reduceLE, Int.reduceLT, Int.reduceEq, Int.reduceNe, reduceCtorEq, Nat.reduceLT, Nat.reduceLeDiff]
        rfl
theorem ev_Name (s : List UInt8) : Ev X F_words_Name [.str s] (.bool (Lat.isNm s)) := by
  have hlow : Lat.lowB (s.getD 0 0) = (decide (97 ≤ (s.getD 0 0).toNat) && decide ((s.getD 0 0).toNat ≤ 122)) := rfl
  by_cases h0 : s = []
  · subst h0
    refine ev_of_wpc hs (A_words_Name_ok hX) 0 ?_
    simp only [A_words_Name, go_sem, Nat.reduceMod, Nat.reduceBNe, Nat.reduceBEq, Nat.reduceEqDiff, Nat.reduceAdd, Int.reduceAdd, Nat.reduceMul, Nat.reduceSub, Int.reduceToNat, Int.reduceLE, Int.reduceLT, Int.reduceEq, Int.reduceNe, reduceCtorEq, Nat.reduceLT, Nat.reduceLeDiff]
    rfl
  · have hl : 0 < s.length := List.length_pos_iff.2 h0
    refine ev_of_wpc hs (A_words_Name_ok hX) 0 ?_
    simp only [A_words_Name, go_sem, Nat.reduceMod, Nat.reduceBNe, Nat.reduceBEq, Nat.reduceEqDiff, Nat.reduceAdd, Int.reduceAdd, Nat.reduceMul, Nat.reduceSub, Int.reduceToNat, Int.reduceLE, Int.reduceLT, Int.reduceEq, Int.reduceNe, reduceCtorEq, Nat.reduceLT, Nat.reduceLeDiff, h0]
    refine ⟨fun h => ?_, fun h1 => ⟨by omega, fun h => ?_, fun h2 => ⟨by omega, fun h => ?_, fun h3 => ?_⟩⟩⟩
    · simp only [Lat.isNm, show ¬ s.length ≤ 16 by omega, decide_false, Bool.and_false, Bool.false_and]
    · simp only [Lat.isNm, hlow, show ¬ 97 ≤ (s.getD 0 0).toNat by omega, decide_false, Bool.and_false, Bool.false_and]
    · simp only [Lat.isNm, hlow, show ¬ (s.getD 0 0).toNat ≤ 122 by omega, decide_false, Bool.and_false, Bool.false_and]
    · refine call_ev (ev_Trim hX hs Lat.nameCs s (by decide) (by decide) (by decide) (by omega)) ?_
      simp only [go_sem, Nat.reduceMod, Nat.reduceBNe, Nat.reduceBEq, Nat.reduceEqDiff, Nat.reduceAdd, Int.reduceAdd, Nat.reduceMul, Nat.reduceSub, Int.reduceToNat, Int.reduceLE, Int.reduceLT, Int.reduceEq, Int.reduceNe, reduceCtorEq, Nat.reduceLT, Nat.reduceLeDiff]
      rw [Lat.trim_name]
      simp only [Lat.isNm, hlow, show 1 ≤ s.length by omega, show s.length ≤ 16 by omega, show 97 ≤ (s.getD 0 0).toNat by omega, show (s.getD 0 0).toNat ≤ 122 by omega, decide_true, Bool.and_self, Bool.true_and]
end
end Go.Avm

/- The program: names, bounds, ends, orders. -/
namespace Go.Avm
open Go
def ordC (n : Nat) (U D : Nat → Nat) (k : Nat) : AV := if k = 0 then .int .i64 n else if k < 9 then .int .u8 (U (k - 1)) else .int .u8 (D (k - 9))
def ordV (n : Nat) (U D : Nat → Nat) : AV := .agg (tb 17 (ordC n U D))
theorem ordC_0 (n : Nat) (U D : Nat → Nat) : ordC n U D 0 = .int .i64 n := id rfl
theorem ordC_u (n : Nat) (U D : Nat → Nat) {k : Nat} (h : k < 8) : ordC n U D (1 + k) = .int .u8 (U k) := by
  simp only [ordC, show ¬ 1 + k = 0 by omega, show 1 + k < 9 by omega, if_true, if_false, Nat.add_sub_cancel_left]
theorem ordC_d (n : Nat) (U D : Nat → Nat) (k : Nat) : ordC n U D (9 + k) = .int .u8 (D k) := by
  simp only [ordC, show ¬ 9 + k = 0 by omega, show ¬ 9 + k < 9 by omega, if_false, Nat.add_sub_cancel_left]
theorem ordS_u (n : Nat) (U D : Nat → Nat) {a : Nat} (x : Nat) (h : a < 8) : (tb 17 (ordC n U D)).set (1 + a) (.int .u8 x) = tb 17 (ordC n (fun c => if c = a then x else U c) D) := by
  rw [tb_set]
  refine tb_congr fun k hk => ?_
  by_cases e : k = 1 + a
  · rw [if_pos e, e, ordC_u _ _ _ h, if_pos rfl]
  · rw [if_neg e]
    unfold ordC
    split
    · rfl
    · split
      · simp only [show ¬ k - 1 = a by omega, if_false]
      · rfl
theorem ordS_d (n : Nat) (U D : Nat → Nat) {a : Nat} (x : Nat) (h : a < 8) : (tb 17 (ordC n U D)).set (9 + a) (.int .u8 x) = tb 17 (ordC n U (fun c => if c = a then x else D c)) := by
  rw [tb_set]
  refine tb_congr fun k hk => ?_
  by_cases e : k = 9 + a
  · rw [if_pos e, e, ordC_d, if_pos rfl]
  · rw [if_neg e]
    unfold ordC
    split
    · rfl
    · split
      · rfl
      · simp only [show ¬ k - 9 = a by omega, if_false]
theorem ord_int (n : Nat) (U D : Nat → Nat) (k : Nat) : ∃ kd x, ordC n U D k = .int kd x := by
  unfold ordC
  split
  · exact ⟨_, _, rfl⟩
  · split <;> exact ⟨_, _, rfl⟩
theorem ord_fin (H : Heap) (m n : Nat) (U D : Nat → Nat) : (tb 17 (ordC n U D)).map (fin H m) = tb 17 (ordC n U D) := by
  simp only [tb, List.map_map]
  refine List.map_congr_left fun c _ => ?_
  obtain ⟨kd, x, e⟩ := ord_int n U D c
  simp only [Function.comp, e, fi_i]
theorem ord_all (n : Nat) (U D : Nat → Nat) : (tb 17 (ordC n U D)).all scalarB = true := by
  simp only [tb, List.all_map, List.all_eq_true]
  intro c _
  obtain ⟨kd, x, e⟩ := ord_int n U D c
  simp only [Function.comp, e, scalarB]
theorem ord_dry (n : Nat) (U D : Nat → Nat) : dryL (tb 17 (ordC n U D)) = tb 17 (ordC n U D) := by
  rw [dryL_map]
  simp only [tb, List.map_map]
  refine List.map_congr_left fun c _ => ?_
  obtain ⟨kd, x, e⟩ := ord_int n U D c
  simp only [Function.comp, e, dry]
theorem ord_ups (n : Nat) (U D : Nat → Nat) : ((tb 17 (ordC n U D)).drop 1).take 8 = tb 8 fun k => .int .u8 (U k) := by
  rw [tb_sub _ (by omega)]
  exact tb_congr fun k hk => ordC_u n U D hk
theorem ord_downs (n : Nat) (U D : Nat → Nat) : ((tb 17 (ordC n U D)).drop 9).take 8 = tb 8 fun k => .int .u8 (D k) := by
  rw [tb_sub _ (by omega)]
  exact tb_congr fun k hk => ordC_d n U D k
theorem ord_get0 (n : Nat) (U D : Nat → Nat) (d : AV) : (tb 17 (ordC n U D)).getD 0 d = .int .i64 n := by
  rw [tb_getD _ _ (by omega), ordC_0]
theorem ord_lit (n : Nat) (z : Int) (h : z = n) : [AV.int .i64 z, .int .u8 0, .int .u8 0, .int .u8 0, .int .u8 0, .int .u8 0, .int .u8 0, .int .u8 0, .int .u8 0, .int .u8 0, .int .u8 0, .int .u8 0, .int .u8 0, .int .u8 0, .int .u8 0, .int .u8 0, .int .u8 0] = tb 17 (ordC n (fun _ => 0) (fun _ => 0)) := by
  subst h; rfl
attribute [go_sem] ord_fin ord_all ord_dry ord_ups ord_downs ord_get0
theorem len8_spec : ∀ n : Nat, n < 9 → ∀ x : Nat, x < 256 → (n < (S_bits_Len8.getD x 0).toNat ↔ ¬ x < 2 ^ n) := by decide +kernel
theorem pop8_spec : ∀ n : Nat, n < 9 → ∀ x : Nat, x < 256 → x < 2 ^ n → ((S_bits_OnesCount8.getD x 0).toNat < n ↔ ¬ x = 2 ^ n - 1) := by decide +kernel
section
variable {X : Cx} (hX : X.P = Go.Proofs.Tryz.prog) (hs : Std X)
include hX hs
theorem ev_Index (l : List (List UInt8)) (s : List UInt8) (hl : l.length < 1000000) : Ev X F_slices_Index_string_string [lst AV.str .ro l, .str s] (.int .i64 (Lat.oi (Lat.findO l s))) := by
  refine ev_of_wpc hs (A_slices_Index_string_string_ok hX) 0 ?_
  simp only [A_slices_Index_string_string, go_sem, Nat.reduceMod, Nat.reduceBNe, Nat.reduceBEq, Nat.reduceEqDiff, Nat.reduceAdd, Int.reduceAdd, Nat.reduceMul, Nat.reduceSub, Int.reduceToNat, Int.reduceLE, Int.reduceLT, Int.reduceEq, Int.reduceNe, reduceCtorEq, Nat.reduceLT, Nat.reduceLeDiff]
  refine w_loop' hs.hm (ι := Nat) (fun i => i ≤ l.length ∧ ∀ j, j < i → (l.getD j [] == s) = false) (fun i => [(8, .int .i64 i), (7, .int .i64 l.length), (1, .str s), (0, lst AV.str .ro l)]) (fun _ => []) (fun i => l.length - i) 0 ?_ fun i hi => ?_
  · simp only [go_sem, Nat.reduceMod, Nat.reduceBNe, Nat.reduceBEq, Nat.reduceEqDiff, Nat.reduceAdd, Int.reduceAdd, Nat.reduceMul, Nat.reduceSub, Int.reduceToNat, Int.reduceLE, Int.reduceLT, Int.reduceEq, Int.reduceNe, reduceCtorEq, Nat.reduceLT, Nat.reduceLeDiff]
    exact ⟨Nat.zero_le _, no_lt0⟩
  · obtain ⟨i1, i2⟩ := hi
    simp only [A_slices_Index_string_stringL0, go_sem, Nat.reduceMod, Nat.reduceBNe, Nat.reduceBEq, Nat.reduceEqDiff, Nat.reduceAdd, Int.reduceAdd, Nat.reduceMul, Nat.reduceSub, Int.reduceToNat, Int.reduceLE, Int.reduceLT, Int.reduceEq, Int.reduceNe, reduceCtorEq, Nat.reduceLT, Nat.reduceLeDiff]
    refine ⟨fun c => ⟨⟨by omega, c⟩, fun e => ?_, fun e => nxt1 (by omega) i2 ?_ (by omega)⟩, fun c => ?_⟩
    · have e' : (l.getD i [] == s) = true := by rw [beq_iff_eq]; exact e.symm
      rw [Lat.findO, Lat.ff_some (p := fun a => l.getD a [] == s) (show i < l.length by omega) e' i2]
      rfl
    · rw [beq_eq_false_iff_ne]; exact fun h => e h.symm
    · rw [Lat.findO, Lat.ff_none (p := fun a => l.getD a [] == s) (n := l.length) fun j hj => i2 j (by omega)]
      rfl
theorem ev_Contains (l : List (List UInt8)) (s : List UInt8) (hl : l.length < 1000000) : Ev X F_slices_Contains_string_string [lst AV.str .ro l, .str s] (.bool (Lat.findO l s).isSome) := by
  refine ev_of_wpc hs (A_slices_Contains_string_string_ok hX) 0 ?_
  simp only [A_slices_Contains_string_string, go_sem, Nat.reduceMod, Nat.reduceBNe, Nat.reduceBEq, Nat.reduceEqDiff, Nat.reduceAdd, Int.reduceAdd, Nat.reduceMul, Nat.reduceSub, Int.reduceToNat, Int.reduceLE, Int.reduceLT, Int.reduceEq, Int.reduceNe, reduceCtorEq, Nat.reduceLT, Nat.reduceLeDiff]
  refine call_ev (ev_Index hX hs l s hl) ?_
  simp only [go_sem, Nat.reduceMod, Nat.reduceBNe, Nat.reduceBEq, Nat.reduceEqDiff, Nat.reduceAdd, Int.reduceAdd, Nat.reduceMul, Nat.reduceSub, Int.reduceToNat, Int.reduceLE, Int.reduceLT, Int.reduceEq, Int.reduceNe, reduceCtorEq, Nat.reduceLT, Nat.reduceLeDiff]
  cases Lat.findO l s with
  | none => rfl
  | some c => simp [Lat.oi]
theorem ev_Len8 (x : Nat) (hx : x < 256) : Ev X F_bits_Len8 [.int .u8 x] (.int .i64 ((S_bits_Len8.getD x 0).toNat : Nat)) := by
  have hl : S_bits_Len8.length = 256 := by decide +kernel
  have hb := (S_bits_Len8.getD x 0).toNat_lt
  refine ev_of_wpc hs (A_bits_Len8_ok hX) 0 ?_
  simp only [A_bits_Len8, go_sem, Nat.reduceMod, Nat.reduceBNe, Nat.reduceBEq, Nat.reduceEqDiff, Nat.reduceAdd, Int.reduceAdd, Nat.reduceMul, Nat.reduceSub, Int.reduceToNat, Int.reduceLE, Int.reduceLT, Int.reduceEq, Int.reduceNe, reduceCtorEq, Nat.reduceLT, Nat.reduceLeDiff, hl]
  rw [wi64 (by omega)]
  exact ⟨by omega, rfl⟩
theorem ev_OnesCount8 (x : Nat) (hx : x < 256) : Ev X F_bits_OnesCount8 [.int .u8 x] (.int .i64 ((S_bits_OnesCount8.getD x 0).toNat : Nat)) := by
  have hl : S_bits_OnesCount8.length = 256 := by decide +kernel
  have hb := (S_bits_OnesCount8.getD x 0).toNat_lt
  refine ev_of_wpc hs (A_bits_OnesCount8_ok hX) 0 ?_
  simp only [A_bits_OnesCount8, go_sem, Nat.reduceMod, Nat.reduceBNe, Nat.reduceBEq, Nat.reduceEqDiff, Nat.reduceAdd, Int.reduceAdd, Nat.reduceMul, Nat.reduceSub, Int.reduceToNat, Int.reduceLE, Int.reduceLT, Int.reduceEq, Int.reduceNe, reduceCtorEq, Nat.reduceLT, Nat.reduceLeDiff, hl]
  rw [wi64 (by omega)]
  exact ⟨by omega, rfl⟩
theorem ev_boundU (U : Nat → Nat) (hU : ∀ c, U c < 256) (n a b : Nat) (hn : n ≤ 8) (ha : a < n) (hb : b < n) : Ev X F_lattice_bound_lattice_ups [.agg (tb 8 fun k => .int .u8 (U k)), .int .i64 n, .int .i64 a, .int .i64 b] (.int .i64 (Lat.oi (Lat.Ord.boundOf U n a b))) := by
  have hab : U a &&& U b < 256 := Nat.lt_of_le_of_lt Nat.and_le_left (hU a)
  refine ev_of_wpc hs (A_lattice_bound_lattice_ups_ok hX) 0 ?_
  simp only [A_lattice_bound_lattice_ups, go_sem, Nat.reduceMod, Nat.reduceBNe, Nat.reduceBEq, Nat.reduceEqDiff, Nat.reduceAdd, Int.reduceAdd, Nat.reduceMul, Nat.reduceSub, Int.reduceToNat, Int.reduceLE, Int.reduceLT, Int.reduceEq, Int.reduceNe, reduceCtorEq, Nat.reduceLT, Nat.reduceLeDiff, Nat.mul_one, tb_getD _ _ (show a < 8 by omega), tb_getD _ _ (show b < 8 by omega), bu_and (hU a) (hU b)]
  refine ⟨by omega, by omega, by omega, by omega, ?_⟩
  refine w_loop' hs.hm (ι := Nat) (fun i => i ≤ n ∧ ∀ j, j < i → ((U a &&& U b).testBit j && (U j == U a &&& U b)) = false) (fun i => [(19, .int .i64 i), (18, .int .i64 n), (9, .int .u8 ((U a &&& U b : Nat) : Int)), (4, .ptr 0 0)]) (fun _ => [.box (tb 8 fun k => .int .u8 (U k))]) (fun i => n - i) 0 ?_ fun i hi => ?_
  · simp only [go_sem, Nat.reduceMod, Nat.reduceBNe, Nat.reduceBEq, Nat.reduceEqDiff, Nat.reduceAdd, Int.reduceAdd, Nat.reduceMul, Nat.reduceSub, Int.reduceToNat, Int.reduceLE, Int.reduceLT, Int.reduceEq, Int.reduceNe, reduceCtorEq, Nat.reduceLT, Nat.reduceLeDiff]
    exact ⟨Nat.zero_le _, no_lt0⟩
  · obtain ⟨i1, i2⟩ := hi
    by_cases hi8 : i < 8
    · simp only [A_lattice_bound_lattice_upsL0, go_sem, Nat.reduceMod, Nat.reduceBNe, Nat.reduceBEq, Nat.reduceEqDiff, Nat.reduceAdd, Int.reduceAdd, Nat.reduceMul, Nat.reduceSub, Int.reduceToNat, Int.reduceLE, Int.reduceLT, Int.reduceEq, Int.reduceNe, reduceCtorEq, Nat.reduceLT, Nat.reduceLeDiff, Nat.mul_one, tb_getD _ _ hi8, bt_and i hab, if1]
      refine ⟨fun c => ⟨by omega, fun e => ⟨⟨by omega, by omega⟩, hi8, fun e2 => ?_, fun e2 => nxt1 (by omega) i2 ?_ (by omega)⟩, fun e => nxt1 (by omega) i2 ?_ (by omega)⟩, fun c => ?_⟩
      · have e3 : (U i == U a &&& U b) = true := by rw [beq_iff_eq]; omega
        rw [Lat.Ord.boundOf, Lat.ff_some (i := i) (by omega) (by rw [e, e3]; rfl) i2]
        rfl
      · have e3 : (U i == U a &&& U b) = false := by rw [beq_eq_false_iff_ne]; omega
        rw [e3, Bool.and_false]
      · rw [Bool.eq_false_iff.2 e, Bool.false_and]
      · rw [Lat.Ord.boundOf, Lat.ff_none fun j hj => i2 j (by omega)]
        rfl
    · simp only [A_lattice_bound_lattice_upsL0, go_sem, Nat.reduceMod, Nat.reduceBNe, Nat.reduceBEq, Nat.reduceEqDiff, Nat.reduceAdd, Int.reduceAdd, Nat.reduceMul, Nat.reduceSub, Int.reduceToNat, Int.reduceLE, Int.reduceLT, Int.reduceEq, Int.reduceNe, reduceCtorEq, Nat.reduceLT, Nat.reduceLeDiff, show ¬ (i : Int) < n by omega]
      rw [Lat.Ord.boundOf, Lat.ff_none fun j hj => i2 j (by omega)]
      rfl
theorem ev_boundD (U : Nat → Nat) (hU : ∀ c, U c < 256) (n a b : Nat) (hn : n ≤ 8) (ha : a < n) (hb : b < n) : Ev X F_lattice_bound_lattice_downs [.agg (tb 8 fun k => .int .u8 (U k)), .int .i64 n, .int .i64 a, .int .i64 b] (.int .i64 (Lat.oi (Lat.Ord.boundOf U n a b))) := by
  have hab : U a &&& U b < 256 := Nat.lt_of_le_of_lt Nat.and_le_left (hU a)
  refine ev_of_wpc hs (A_lattice_bound_lattice_downs_ok hX) 0 ?_
  simp only [A_lattice_bound_lattice_downs, go_sem, Nat.reduceMod, Nat.reduceBNe, Nat.reduceBEq, Nat.reduceEqDiff, Nat.reduceAdd, Int.reduceAdd, Nat.reduceMul, Nat.reduceSub, Int.reduceToNat, Int.reduceLE, Int.reduceLT, Int.reduceEq, Int.reduceNe, reduceCtorEq, Nat.reduceLT, Nat.reduceLeDiff, Nat.mul_one, tb_getD _ _ (show a < 8 by omega), tb_getD _ _ (show b < 8 by omega), bu_and (hU a) (hU b)]
  refine ⟨by omega, by omega, by omega, by omega, ?_⟩
  refine w_loop' hs.hm (ι := Nat) (fun i => i ≤ n ∧ ∀ j, j < i → ((U a &&& U b).testBit j && (U j == U a &&& U b)) = false) (fun i => [(19, .int .i64 i), (18, .int .i64 n), (9, .int .u8 ((U a &&& U b : Nat) : Int)), (4, .ptr 0 0)]) (fun _ => [.box (tb 8 fun k => .int .u8 (U k))]) (fun i => n - i) 0 ?_ fun i hi => ?_
  · simp only [go_sem, Nat.reduceMod, Nat.reduceBNe, Nat.reduceBEq, Nat.reduceEqDiff, Nat.reduceAdd, Int.reduceAdd, Nat.reduceMul, Nat.reduceSub, Int.reduceToNat, Int.reduceLE, Int.reduceLT, Int.reduceEq, Int.reduceNe, reduceCtorEq, Nat.reduceLT, Nat.reduceLeDiff]
    exact ⟨Nat.zero_le _, no_lt0⟩
  · obtain ⟨i1, i2⟩ := hi
    by_cases hi8 : i < 8
    · simp only [A_lattice_bound_lattice_downsL0, go_sem, Nat.reduceMod, Nat.reduceBNe, Nat.reduceBEq, Nat.reduceEqDiff, Nat.reduceAdd, Int.reduceAdd, Nat.reduceMul, Nat.reduceSub, Int.reduceToNat, Int.reduceLE, Int.reduceLT, Int.reduceEq, Int.reduceNe, reduceCtorEq, Nat.reduceLT, Nat.reduceLeDiff, Nat.mul_one, tb_getD _ _ hi8, bt_and i hab, if1]
      refine ⟨fun c => ⟨by omega, fun e => ⟨⟨by omega, by omega⟩, hi8, fun e2 => ?_, fun e2 => nxt1 (by omega) i2 ?_ (by omega)⟩, fun e => nxt1 (by omega) i2 ?_ (by omega)⟩, fun c => ?_⟩
      · have e3 : (U i == U a &&& U b) = true := by rw [beq_iff_eq]; omega
        rw [Lat.Ord.boundOf, Lat.ff_some (i := i) (by omega) (by rw [e, e3]; rfl) i2]
        rfl
      · have e3 : (U i == U a &&& U b) = false := by rw [beq_eq_false_iff_ne]; omega
        rw [e3, Bool.and_false]
      · rw [Bool.eq_false_iff.2 e, Bool.false_and]
      · rw [Lat.Ord.boundOf, Lat.ff_none fun j hj => i2 j (by omega)]
        rfl
    · simp only [A_lattice_bound_lattice_downsL0, go_sem, Nat.reduceMod, Nat.reduceBNe, Nat.reduceBEq, Nat.reduceEqDiff, Nat.reduceAdd, Int.reduceAdd, Nat.reduceMul, Nat.reduceSub, Int.reduceToNat, Int.reduceLE, Int.reduceLT, Int.reduceEq, Int.reduceNe, reduceCtorEq, Nat.reduceLT, Nat.reduceLeDiff, show ¬ (i : Int) < n by omega]
      rw [Lat.Ord.boundOf, Lat.ff_none fun j hj => i2 j (by omega)]
      rfl
theorem ev_of (ns : List (List UInt8)) (up : List UInt8) (hl : up.length = ns.length) (h8 : ns.length ≤ 8) : Ev X F_lattice_of [.vp [lst AV.str .ro ns, lst u8 .ro up]] (ordV ns.length (Lat.msk up) (fun b => if b < ns.length then Lat.dn up b ns.length else 0)) := by
  refine ev_of_wpc hs (A_lattice_of_ok hX) 0 ?_
  simp only [A_lattice_of, go_sem, Nat.reduceMod, Nat.reduceBNe, Nat.reduceBEq, Nat.reduceEqDiff, Nat.reduceAdd, Int.reduceAdd, Nat.reduceMul, Nat.reduceSub, Int.reduceToNat, Int.reduceLE, Int.reduceLT, Int.reduceEq, Int.reduceNe, reduceCtorEq, Nat.reduceLT, Nat.reduceLeDiff]
  rw [ord_lit ns.length _ rfl, ord_lit 0 0 rfl]
  refine w_loop' hs.hm (ι := Nat) (fun i => i ≤ ns.length) (fun i => [(18, .int .i64 i), (17, .int .i64 up.length), (16, lst u8 .ro up), (3, .ptr 1 0), (2, .ptr 0 0)]) (fun i => [.box (tb 17 (ordC 0 (fun _ => 0) (fun _ => 0))), .box (tb 17 (ordC ns.length (fun a => if a < i then Lat.msk up a else 0) (fun b => if b < ns.length then Lat.dn up b i else 0)))]) (fun i => ns.length - i) 0 ?_ fun i hi => ?_
  · simp only [go_sem, Nat.reduceMod, Nat.reduceBNe, Nat.reduceBEq, Nat.reduceEqDiff, Nat.reduceAdd, Int.reduceAdd, Nat.reduceMul, Nat.reduceSub, Int.reduceToNat, Int.reduceLE, Int.reduceLT, Int.reduceEq, Int.reduceNe, reduceCtorEq, Nat.reduceLT, Nat.reduceLeDiff, Nat.not_lt_zero, Lat.dn, ite_self]
    exact Nat.zero_le _
  · by_cases hi8 : i < ns.length
    · have h8i : i < 8 := by omega
      simp only [A_lattice_ofL0, go_sem, Nat.reduceMod, Nat.reduceBNe, Nat.reduceBEq, Nat.reduceEqDiff, Nat.reduceAdd, Int.reduceAdd, Nat.reduceMul, Nat.reduceSub, Int.reduceToNat, Int.reduceLE, Int.reduceLT, Int.reduceEq, Int.reduceNe, reduceCtorEq, Nat.reduceLT, Nat.reduceLeDiff, Nat.mul_one, getD_def, ordS_u _ _ _ _ h8i, ord_get0]
      refine ⟨fun c => ⟨by omega, by omega, by omega, ?_⟩, fun c => by omega⟩
      refine w_loop' hs.hm (ι := Nat) (fun k => k ≤ ns.length) (fun k => [(29, .int .i64 k), (28, .int .i64 ns.length), (5, .int .u8 (Lat.msk up i)), (4, .int .i64 i), (18, .int .i64 i), (17, .int .i64 up.length), (16, lst u8 .ro up), (3, .ptr 1 0), (2, .ptr 0 0)]) (fun k => [.box (tb 17 (ordC 0 (fun _ => 0) (fun _ => 0))), .box (tb 17 (ordC ns.length (fun a => if a < i + 1 then Lat.msk up a else 0) (fun b => if b < ns.length then (if b < k then Lat.dn up b (i + 1) else Lat.dn up b i) else 0)))]) (fun k => ns.length - k) 0 ?_ fun k hk => ?_
      · simp only [go_sem, Nat.reduceMod, Nat.reduceBNe, Nat.reduceBEq, Nat.reduceEqDiff, Nat.reduceAdd, Int.reduceAdd, Nat.reduceMul, Nat.reduceSub, Int.reduceToNat, Int.reduceLE, Int.reduceLT, Int.reduceEq, Int.reduceNe, reduceCtorEq, Nat.reduceLT, Nat.reduceLeDiff, Nat.not_lt_zero]
        refine ⟨Nat.zero_le _, ?_⟩
        have : (fun c => if c = i then Lat.msk up i else if c < i then Lat.msk up c else 0) = (fun a => if a < i + 1 then Lat.msk up a else 0) := by
          funext c
          by_cases e : c = i
          · subst e; simp
          · simp only [e, if_false, show c < i + 1 ↔ c < i by omega]
        rw [this]
      · by_cases hk8 : k < ns.length
        · have h8k : k < 8 := by omega
          have hD := Lat.dn_lt8 up k (show i ≤ 8 by omega)
          simp only [A_lattice_ofL1, go_sem, Nat.reduceMod, Nat.reduceBNe, Nat.reduceBEq, Nat.reduceEqDiff, Nat.reduceAdd, Int.reduceAdd, Nat.reduceMul, Nat.reduceSub, Int.reduceToNat, Int.reduceLE, Int.reduceLT, Int.reduceEq, Int.reduceNe, reduceCtorEq, Nat.reduceLT, Nat.reduceLeDiff, Nat.mul_one, tb_getD _ _ (show 9 + k < 17 by omega), ordC_d, hk8, Nat.lt_irrefl, bt_and k (Lat.msk_lt up i), shl8if h8i]
          have e1 : (if Lat.le up i k = true then 1 <<< i else 0) < 256 := by
            split
            · rw [Nat.one_shiftLeft]; exact Nat.lt_of_lt_of_le (Nat.pow_lt_pow_right (by omega) h8i) (by decide)
            · decide
          have e2 := bu_or hD e1
          refine ⟨fun c => ⟨by omega, by omega, by omega, by omega, by omega, by omega, k + 1, by omega, by omega, by rw [wi64 (by omega)]; rfl, ?_⟩, fun c => by omega⟩
          rw [show (if (Lat.msk up i).testBit k = true then 1 <<< i else 0) = (if Lat.le up i k = true then 1 <<< i else 0) from rfl, e2, ordS_d _ _ _ _ h8k]
          have : (fun c => if c = k then Lat.dn up k i ||| (if Lat.le up i k = true then 1 <<< i else 0) else if c < ns.length then (if c < k then Lat.dn up c (i + 1) else Lat.dn up c i) else 0) = (fun b => if b < ns.length then (if b < k + 1 then Lat.dn up b (i + 1) else Lat.dn up b i) else 0) := by
            funext c
            by_cases e : c = k
            · subst e; simp [hk8, Lat.dn]
            · simp only [e, if_false, show c < k + 1 ↔ c < k by omega]
          rw [this]
        · simp only [A_lattice_ofL1, go_sem, Nat.reduceMod, Nat.reduceBNe, Nat.reduceBEq, Nat.reduceEqDiff, Nat.reduceAdd, Int.reduceAdd, Nat.reduceMul, Nat.reduceSub, Int.reduceToNat, Int.reduceLE, Int.reduceLT, Int.reduceEq, Int.reduceNe, reduceCtorEq, Nat.reduceLT, Nat.reduceLeDiff, show ¬ (k : Int) < ns.length by omega]
          refine ⟨i + 1, by omega, by omega, by rw [wi64 (by omega)]; rfl, ?_⟩
          have : (fun b => if b < ns.length then (if b < k then Lat.dn up b (i + 1) else Lat.dn up b i) else 0) = (fun b => if b < ns.length then Lat.dn up b (i + 1) else 0) := by
            funext c
            by_cases e : c < ns.length
            · simp only [e, if_true, show c < k by omega]
            · simp only [e, if_false]
          rw [this]
    · obtain rfl : i = ns.length := by omega
      simp only [A_lattice_ofL0, go_sem, Nat.reduceMod, Nat.reduceBNe, Nat.reduceBEq, Nat.reduceEqDiff, Nat.reduceAdd, Int.reduceAdd, Nat.reduceMul, Nat.reduceSub, Int.reduceToNat, Int.reduceLE, Int.reduceLT, Int.reduceEq, Int.reduceNe, reduceCtorEq, Nat.reduceLT, Nat.reduceLeDiff, hl, Int.lt_irrefl]
      have : (fun a => if a < ns.length then Lat.msk up a else 0) = Lat.msk up := by
        funext c
        by_cases e : c < ns.length
        · rw [if_pos e]
        · rw [if_neg e]
          unfold Lat.msk
          rw [List.getD_eq_getElem?_getD, List.getElem?_eq_none (by omega)]; rfl
      rw [this]
      rfl
end
end Go.Avm

/- The program: names, Check. -/
namespace Go.Avm
open Go
theorem findO_take {l : List (List UInt8)} {s : List UInt8} : (Lat.findO l s).isSome = l.contains s := by
  rw [Bool.eq_iff_iff, List.contains_iff_mem]
  constructor
  · intro h
    obtain ⟨a, ha⟩ := Option.isSome_iff_exists.1 h
    obtain ⟨h1, h2, _⟩ := Lat.ff_eq_some.1 ha
    rw [beq_iff_eq] at h2
    rw [← h2, List.getD_eq_getElem?_getD, List.getElem?_eq_getElem h1]
    exact List.getElem_mem _
  · intro h
    obtain ⟨i, hi, e⟩ := List.getElem_of_mem h
    cases hq : Lat.findO l s with
    | some a => rfl
    | none =>
      have := Lat.ff_eq_none.1 hq i hi
      rw [beq_eq_false_iff_ne] at this
      exact absurd (by rw [List.getD_eq_getElem?_getD, List.getElem?_eq_getElem hi]; exact e) this
theorem bdU {up : List UInt8} {n : Nat} (hr : ∀ a, a < n → Lat.le up a a = true) (a b : Nat) : Lat.Ord.boundOf (Lat.msk up) n a b = Lat.near (Lat.msk up) n a b := Lat.bound_near hr a b
theorem bdD {up : List UInt8} {n : Nat} (hr : ∀ a, a < n → Lat.le up a a = true) {a b : Nat} (ha : a < n) (hb : b < n) : Lat.Ord.boundOf (fun b => if b < n then Lat.dn up b n else 0) n a b = Lat.near (fun c => Lat.dn up c n) n a b := by
  rw [Lat.bound_near (M := fun b => if b < n then Lat.dn up b n else 0) (fun a ha => by simp only [ha, if_true]; rw [Lat.dn_in ha]; exact hr a ha)]
  refine Lat.ff_congr fun c hc => ?_
  simp only [ha, hb, hc, if_true]
theorem okRow_refl {up : List UInt8} {n a : Nat} (h : Lat.okRow up n a = true) : Lat.le up a a = true := by
  cases hl : Lat.le up a a with
  | true => rfl
  | false => rw [Lat.okRow_2 hl] at h; exact absurd h (by simp)
theorem dlt {up : List UInt8} {n : Nat} (h8 : n ≤ 8) (c : Nat) : (if c < n then Lat.dn up c n else 0) < 256 := by
  split
  · exact Lat.dn_lt8 up c h8
  · decide
section
variable {X : Cx} (hX : X.P = Go.Proofs.Tryz.prog) (hs : Std X)
include hX hs
theorem call_of {ns : List (List UInt8)} {up : List UInt8} {i : Nat} {d : Option Nat} {fr : Fr} {H : Heap} {K : Fr → Heap → Prop} (hH : H[i]? = some (.box [lst AV.str .ro ns, lst u8 .ro up])) (hl : up.length = ns.length) (h8 : ns.length ≤ 8)
    (hK : K (fr.updo d (ordV ns.length (Lat.msk up) (fun b => if b < ns.length then Lat.dn up b ns.length else 0))) H) : CallOk X F_lattice_of [.ptr i 0] d fr H K := by
  refine call_lend ?_ rfl hK
  have := ev_of hX hs ns up hl h8
  simp only [lendL, lend, hH, List.drop_zero, dryL, dry, lst]
  exact this
theorem ev_named (l : List (List UInt8)) : Ev X F_lattice_named [lst AV.str .ro l] (.tuple [.int .i64 (Lat.namesS l).1, .int .i64 (Lat.namesS l).2]) := by
  refine ev_of_wpc hs (A_lattice_named_ok hX) 0 ?_
  simp only [A_lattice_named, go_sem, Nat.reduceMod, Nat.reduceBNe, Nat.reduceBEq, Nat.reduceEqDiff, Nat.reduceAdd, Int.reduceAdd, Nat.reduceMul, Nat.reduceSub, Int.reduceToNat, Int.reduceLE, Int.reduceLT, Int.reduceEq, Int.reduceNe, reduceCtorEq, Nat.reduceLT, Nat.reduceLeDiff]
  refine ⟨fun h => ?_, fun h1 => ⟨fun h => ?_, fun h2 => ?_⟩⟩
  · rw [Lat.namesS_0 (by omega)]
  · rw [Lat.namesS_0 (by omega)]
  · have h12 : ¬ (l.length < 1 ∨ 8 < l.length) := by omega
    refine w_loop' hs.hm (ι := Nat) (fun i => i ≤ l.length ∧ ∀ j, j < i → Lat.nmBad l j = false) (fun i => [(16, .int .i64 i), (15, .int .i64 l.length), (14, lst AV.str .ro l), (0, lst AV.str .ro l)]) (fun _ => []) (fun i => l.length - i) 0 ?_ fun i hi => ?_
    · simp only [go_sem, Nat.reduceMod, Nat.reduceBNe, Nat.reduceBEq, Nat.reduceEqDiff, Nat.reduceAdd, Int.reduceAdd, Nat.reduceMul, Nat.reduceSub, Int.reduceToNat, Int.reduceLE, Int.reduceLT, Int.reduceEq, Int.reduceNe, reduceCtorEq, Nat.reduceLT, Nat.reduceLeDiff]
      exact ⟨Nat.zero_le _, no_lt0⟩
    · obtain ⟨i1, i2⟩ := hi
      simp only [A_lattice_namedL0, go_sem, Nat.reduceMod, Nat.reduceBNe, Nat.reduceBEq, Nat.reduceEqDiff, Nat.reduceAdd, Int.reduceAdd, Nat.reduceMul, Nat.reduceSub, Int.reduceToNat, Int.reduceLE, Int.reduceLT, Int.reduceEq, Int.reduceNe, reduceCtorEq, Nat.reduceLT, Nat.reduceLeDiff]
      refine ⟨fun c => ⟨⟨by omega, c⟩, ?_⟩, fun c => ?_⟩
      · have hi' : i < l.length := by omega
        refine call_ev (ev_Name hX hs (l.getD i [])) ?_
        cases hn : Lat.isNm (l.getD i []) with
        | false =>
          simp only [go_sem, Nat.reduceMod, Nat.reduceBNe, Nat.reduceBEq, Nat.reduceEqDiff, Nat.reduceAdd, Int.reduceAdd, Nat.reduceMul, Nat.reduceSub, Int.reduceToNat, Int.reduceLE, Int.reduceLT, Int.reduceEq, Int.reduceNe, reduceCtorEq, Nat.reduceLT, Nat.reduceLeDiff]
          rw [Lat.namesS_b h12 hi' (by simp only [Lat.nmBad, hn, Bool.not_false, Bool.true_or]) i2, hn]
          simp
        | true =>
          simp only [go_sem, Nat.reduceMod, Nat.reduceBNe, Nat.reduceBEq, Nat.reduceEqDiff, Nat.reduceAdd, Int.reduceAdd, Nat.reduceMul, Nat.reduceSub, Int.reduceToNat, Int.reduceLE, Int.reduceLT, Int.reduceEq, Int.reduceNe, reduceCtorEq, Nat.reduceLT, Nat.reduceLeDiff]
          refine ⟨by omega, call_ev (ev_Contains hX hs (l.take i) (l.getD i []) (by rw [List.length_take]; omega)) ?_⟩
          rw [findO_take]
          cases hc : (l.take i).contains (l.getD i []) with
          | true =>
            simp only [go_sem, Nat.reduceMod, Nat.reduceBNe, Nat.reduceBEq, Nat.reduceEqDiff, Nat.reduceAdd, Int.reduceAdd, Nat.reduceMul, Nat.reduceSub, Int.reduceToNat, Int.reduceLE, Int.reduceLT, Int.reduceEq, Int.reduceNe, reduceCtorEq, Nat.reduceLT, Nat.reduceLeDiff]
            rw [Lat.namesS_b h12 hi' (by simp only [Lat.nmBad, hc, Bool.or_true]) i2, hn]
            simp
          | false =>
            simp only [go_sem, Nat.reduceMod, Nat.reduceBNe, Nat.reduceBEq, Nat.reduceEqDiff, Nat.reduceAdd, Int.reduceAdd, Nat.reduceMul, Nat.reduceSub, Int.reduceToNat, Int.reduceLE, Int.reduceLT, Int.reduceEq, Int.reduceNe, reduceCtorEq, Nat.reduceLT, Nat.reduceLeDiff]
            exact nxt1 hi' i2 (by simp only [Lat.nmBad, hn, hc, Bool.not_true, Bool.or_self]) (by omega)
      · rw [Lat.namesS_k h12 fun j hj => i2 j (by omega)]
theorem ev_Check (ns : List (List UInt8)) (up : List UInt8) : Ev X F_lattice_Check [latV ns up] (.tuple [.int .i64 (Lat.checkS ns up).1, .int .i64 (Lat.checkS ns up).2]) := by
  refine ev_of_wpc hs (A_lattice_Check_ok hX) 1 ?_
  simp only [A_lattice_Check, latV, go_sem, Nat.reduceMod, Nat.reduceBNe, Nat.reduceBEq, Nat.reduceEqDiff, Nat.reduceAdd, Int.reduceAdd, Nat.reduceMul, Nat.reduceSub, Int.reduceToNat, Int.reduceLE, Int.reduceLT, Int.reduceEq, Int.reduceNe, reduceCtorEq, Nat.reduceLT, Nat.reduceLeDiff]
  refine call_ev (ev_named hX hs ns) ?_
  simp only [go_sem, Nat.reduceMod, Nat.reduceBNe, Nat.reduceBEq, Nat.reduceEqDiff, Nat.reduceAdd, Int.reduceAdd, Nat.reduceMul, Nat.reduceSub, Int.reduceToNat, Int.reduceLE, Int.reduceLT, Int.reduceEq, Int.reduceNe, reduceCtorEq, Nat.reduceLT, Nat.reduceLeDiff]
  refine ⟨fun h => ?_, fun h1 => ⟨fun h => ?_, fun h2 => ⟨by omega, ?_⟩⟩⟩
  · rw [Lat.checkS_1 h]
  · rw [Lat.checkS_2 h1 (by omega)]
  · have h2 : up.length = ns.length := by omega
    obtain ⟨n1, n8⟩ := Lat.names_8 h1
    rw [all8 n8]
    refine w_loop' hs.hm (ι := Nat) (fun i => i ≤ ns.length ∧ ∀ j, j < i → Lat.okRow up ns.length j = true) (fun i => [(39, .int .i64 i), (38, .int .i64 ns.length), (37, lst u8 .ro up), (7, .int .u8 ((2 ^ ns.length - 1 : Nat) : Int)), (6, .int .i64 ns.length), (1, .ptr 0 0)]) (fun _ => [.box [lst AV.str .ro ns, lst u8 .ro up]]) (fun i => ns.length - i) 0 ?_ fun i hi => ?_
    · simp only [go_sem, Nat.reduceMod, Nat.reduceBNe, Nat.reduceBEq, Nat.reduceEqDiff, Nat.reduceAdd, Int.reduceAdd, Nat.reduceMul, Nat.reduceSub, Int.reduceToNat, Int.reduceLE, Int.reduceLT, Int.reduceEq, Int.reduceNe, reduceCtorEq, Nat.reduceLT, Nat.reduceLeDiff, h2]
      exact ⟨Nat.zero_le _, no_lt0⟩
    · obtain ⟨i1, i2⟩ := hi
      have p2 : 2 ^ ns.length - 1 < 256 := by
        have : 2 ^ ns.length ≤ 2 ^ 8 := Nat.pow_le_pow_right (by omega) n8
        omega
      simp only [A_lattice_CheckL0, go_sem, Nat.reduceMod, Nat.reduceBNe, Nat.reduceBEq, Nat.reduceEqDiff, Nat.reduceAdd, Int.reduceAdd, Nat.reduceMul, Nat.reduceSub, Int.reduceToNat, Int.reduceLE, Int.reduceLT, Int.reduceEq, Int.reduceNe, reduceCtorEq, Nat.reduceLT, Nat.reduceLeDiff, getD_def]
      refine ⟨fun c => ⟨by omega, ?_⟩, fun c => ?_⟩
      · have hi' : i < ns.length := by omega
        refine call_ev (ev_Len8 hX hs (Lat.msk up i) (Lat.msk_lt up i)) ?_
        have hlen := len8_spec ns.length (by omega) (Lat.msk up i) (Lat.msk_lt up i)
        simp only [go_sem, Nat.reduceMod, Nat.reduceBNe, Nat.reduceBEq, Nat.reduceEqDiff, Nat.reduceAdd, Int.reduceAdd, Nat.reduceMul, Nat.reduceSub, Int.reduceToNat, Int.reduceLE, Int.reduceLT, Int.reduceEq, Int.reduceNe, reduceCtorEq, Nat.reduceLT, Nat.reduceLeDiff, bt_and i (Lat.msk_lt up i), if0]
        refine ⟨fun e => ?_, fun e => ⟨by omega, fun e2 => ?_, fun e2 => ?_⟩⟩
        · rw [Lat.checkS_3 h1 h2 hi' (Lat.okRow_1 (hlen.1 (by omega))) i2]
        · rw [Lat.checkS_3 h1 h2 hi' (Lat.okRow_2 e2) i2]
        · have r1 : Lat.msk up i < 2 ^ ns.length := by
            apply Classical.byContradiction
            intro h
            have := hlen.2 h
            omega
          have r2 : Lat.le up i i = true := Bool.of_not_eq_false e2
          refine w_loop' hs.hm (ι := Nat) (fun b => b < ns.length ∧ ∀ j, j < b → Lat.rowB up ns.length i j = true) (fun b => [(59, .int .i64 b), (58, .int .i64 ns.length), (57, lst u8 .ro up), (9, .int .u8 (Lat.msk up i)), (8, .int .i64 i), (39, .int .i64 i), (38, .int .i64 ns.length), (37, lst u8 .ro up), (7, .int .u8 ((2 ^ ns.length - 1 : Nat) : Int)), (6, .int .i64 ns.length), (1, .ptr 0 0)]) (fun _ => [.box [lst AV.str .ro ns, lst u8 .ro up]]) (fun i => ns.length - i) 0 ?_ fun b hb => ?_
          · simp only [go_sem, Nat.reduceMod, Nat.reduceBNe, Nat.reduceBEq, Nat.reduceEqDiff, Nat.reduceAdd, Int.reduceAdd, Nat.reduceMul, Nat.reduceSub, Int.reduceToNat, Int.reduceLE, Int.reduceLT, Int.reduceEq, Int.reduceNe, reduceCtorEq, Nat.reduceLT, Nat.reduceLeDiff, h2]
            exact ⟨by omega, no_lt0⟩
          · obtain ⟨b1, b2⟩ := hb
            have lastB : Lat.rowB up ns.length i b = true → ((b : Int) = IntKind.i64.wrap (ns.length - 1) → ∃ j, ns.length - j < ns.length - i ∧ (j ≤ ns.length ∧ ∀ k, k < j → Lat.okRow up ns.length k = true) ∧ AV.int .i64 (IntKind.i64.wrap (i + 1)) = AV.int .i64 j) ∧
                (¬ (b : Int) = IntKind.i64.wrap (ns.length - 1) → ∃ j, ns.length - j < ns.length - b ∧ (j < ns.length ∧ ∀ k, k < j → Lat.rowB up ns.length i k = true) ∧ AV.int .i64 (IntKind.i64.wrap (b + 1)) = AV.int .i64 j) := fun hr => by
              have b3 : ∀ j, j < b + 1 → Lat.rowB up ns.length i j = true := fun j hj => by
                by_cases e : j = b
                · rw [e]; exact hr
                · exact b2 j (by omega)
              rw [wi64 (by omega)]
              refine ⟨fun e => nxt1 hi' i2 (Lat.okRow_t r1 r2 fun j hj => b3 j (by omega)) (by omega), fun e => ⟨b + 1, by omega, ⟨by omega, b3⟩, by rw [wi64 (by omega)]; rfl⟩⟩
            simp only [A_lattice_CheckL1, go_sem, Nat.reduceMod, Nat.reduceBNe, Nat.reduceBEq, Nat.reduceEqDiff, Nat.reduceAdd, Int.reduceAdd, Nat.reduceMul, Nat.reduceSub, Int.reduceToNat, Int.reduceLE, Int.reduceLT, Int.reduceEq, Int.reduceNe, reduceCtorEq, Nat.reduceLT, Nat.reduceLeDiff, getD_def, bt_and b (Lat.msk_lt up i), bt_and i (Lat.msk_lt up b), if0, if1, bu_and (Lat.msk_lt up b) p2, bu_andNot (Nat.lt_of_le_of_lt Nat.and_le_left (Lat.msk_lt up b)) (Lat.msk_lt up i)]
            have hm1 : Lat.msk up b &&& 2 ^ ns.length - 1 < 256 := Nat.lt_of_le_of_lt Nat.and_le_left (Lat.msk_lt up b)
            have a0 := andNot0 hm1 (Lat.msk_lt up i)
            have kf : Lat.le up i b = true → ¬ ((Lat.msk up b &&& 2 ^ ns.length - 1 &&& 255 - Lat.msk up i : Nat) : Int) = 0 → Lat.rowB up ns.length i b = false := fun x y => by
              have : ¬ (Lat.msk up b &&& 2 ^ ns.length - 1 &&& Lat.msk up i) = (Lat.msk up b &&& 2 ^ ns.length - 1) := fun z => y (by rw [a0.2 z]; rfl)
              simp only [Lat.rowB, x, beq_false_of_ne this, Bool.and_false, Bool.not_true, Bool.or_self]
            have kt : Lat.le up i b = true → ((Lat.msk up b &&& 2 ^ ns.length - 1 &&& 255 - Lat.msk up i : Nat) : Int) = 0 → (b = i ∨ Lat.le up b i = false) → Lat.rowB up ns.length i b = true := fun x y z => by
              have y : (Lat.msk up b &&& 2 ^ ns.length - 1 &&& 255 - Lat.msk up i : Nat) = 0 := by omega
              have h3 : (b != i && Lat.le up b i) = false := by
                rcases z with z | z
                · subst z; simp
                · rw [z, Bool.and_false]
              simp only [Lat.rowB, a0.1 y, h3, beq_self_eq_true, Bool.not_false, Bool.and_true, Bool.or_true]
            refine ⟨fun cb => ⟨by omega, by omega, fun f => lastB (by simp only [Lat.rowB, show Lat.le up i b = false from f, Bool.not_false, Bool.true_or]), fun f => ?_⟩, fun cb => by omega⟩
            have f : Lat.le up i b = true := Bool.of_not_eq_false f
            refine ⟨fun hne => ⟨by omega, fun g => ⟨fun _ => ?_, fun g2 => absurd g g2⟩, fun g => ⟨fun h => ?_, fun h => lastB (kt f h (.inr (Bool.eq_false_iff.2 g)))⟩⟩, fun he => ⟨fun h => ?_, fun h => lastB (kt f h (.inl (by omega)))⟩⟩
            · have : (b != i) = true := by simp; omega
              rw [Lat.checkS_3 h1 h2 hi' (Lat.okRow_3 b1 (by simp only [Lat.rowB, f, this, show Lat.le up b i = true from g, Bool.and_self, Bool.not_true, Bool.false_and, Bool.or_self])) i2]
            · rw [Lat.checkS_3 h1 h2 hi' (Lat.okRow_3 b1 (kf f h)) i2]
            · rw [Lat.checkS_3 h1 h2 hi' (Lat.okRow_3 b1 (kf f h)) i2]
      · have hr : ∀ j, j < ns.length → Lat.okRow up ns.length j = true := fun j hj => i2 j (by omega)
        have hrf : ∀ j, j < ns.length → Lat.le up j j = true := fun j hj => okRow_refl (hr j hj)
        refine call_of hX hs rfl h2 n8 ?_
        simp only [ordV, go_sem, Nat.reduceMod, Nat.reduceBNe, Nat.reduceBEq, Nat.reduceEqDiff, Nat.reduceAdd, Int.reduceAdd, Nat.reduceMul, Nat.reduceSub, Int.reduceToNat, Int.reduceLE, Int.reduceLT, Int.reduceEq, Int.reduceNe, reduceCtorEq, Nat.reduceLT, Nat.reduceLeDiff]
        refine w_loop' hs.hm (ι := Nat) (fun i => i ≤ ns.length ∧ ∀ j, j < i → Lat.noNear up ns.length j = false) (fun i => [(96, .int .i64 i), (95, .int .i64 ns.length), (12, .ptr 1 0), (6, .int .i64 ns.length)]) (fun _ => [.box [lst AV.str .ro ns, lst u8 .ro up], .box (tb 17 (ordC ns.length (Lat.msk up) (fun b => if b < ns.length then Lat.dn up b ns.length else 0)))]) (fun i => ns.length - i) 0 ?_ fun a hi => ?_
        · simp only [go_sem, Nat.reduceMod, Nat.reduceBNe, Nat.reduceBEq, Nat.reduceEqDiff, Nat.reduceAdd, Int.reduceAdd, Nat.reduceMul, Nat.reduceSub, Int.reduceToNat, Int.reduceLE, Int.reduceLT, Int.reduceEq, Int.reduceNe, reduceCtorEq, Nat.reduceLT, Nat.reduceLeDiff]
          exact ⟨Nat.zero_le _, no_lt0⟩
        · obtain ⟨a1, a2⟩ := hi
          simp only [A_lattice_CheckL2, go_sem, Nat.reduceMod, Nat.reduceBNe, Nat.reduceBEq, Nat.reduceEqDiff, Nat.reduceAdd, Int.reduceAdd, Nat.reduceMul, Nat.reduceSub, Int.reduceToNat, Int.reduceLE, Int.reduceLT, Int.reduceEq, Int.reduceNe, reduceCtorEq, Nat.reduceLT, Nat.reduceLeDiff]
          refine ⟨fun ca => ?_, fun ca => ?_⟩
          · have ha : a < ns.length := by omega
            refine w_loop' hs.hm (ι := Nat) (fun b => b ≤ ns.length ∧ ∀ j, j < b → (Lat.near (Lat.msk up) ns.length a j ≠ none ∧ Lat.near (fun c => Lat.dn up c ns.length) ns.length a j ≠ none)) (fun b => [(100, .int .i64 b), (99, .int .i64 ns.length), (13, .int .i64 a), (96, .int .i64 a), (95, .int .i64 ns.length), (12, .ptr 1 0), (6, .int .i64 ns.length)]) (fun _ => [.box [lst AV.str .ro ns, lst u8 .ro up], .box (tb 17 (ordC ns.length (Lat.msk up) (fun b => if b < ns.length then Lat.dn up b ns.length else 0)))]) (fun i => ns.length - i) 0 ?_ fun b hi => ?_
            · simp only [go_sem, Nat.reduceMod, Nat.reduceBNe, Nat.reduceBEq, Nat.reduceEqDiff, Nat.reduceAdd, Int.reduceAdd, Nat.reduceMul, Nat.reduceSub, Int.reduceToNat, Int.reduceLE, Int.reduceLT, Int.reduceEq, Int.reduceNe, reduceCtorEq, Nat.reduceLT, Nat.reduceLeDiff]
              exact ⟨Nat.zero_le _, no_lt0⟩
            · obtain ⟨b1, b2⟩ := hi
              simp only [A_lattice_CheckL3, go_sem, Nat.reduceMod, Nat.reduceBNe, Nat.reduceBEq, Nat.reduceEqDiff, Nat.reduceAdd, Int.reduceAdd, Nat.reduceMul, Nat.reduceSub, Int.reduceToNat, Int.reduceLE, Int.reduceLT, Int.reduceEq, Int.reduceNe, reduceCtorEq, Nat.reduceLT, Nat.reduceLeDiff]
              refine ⟨fun cb => ?_, fun cb => ?_⟩
              · have hb : b < ns.length := by omega
                refine call_ev (r := .int .i64 (Lat.oi (Lat.near (Lat.msk up) ns.length a b))) ?_ ?_
                · have := ev_boundU hX hs (Lat.msk up) (Lat.msk_lt up) ns.length a b n8 ha hb
                  rw [bdU hrf] at this
                  simpa only [dryL, dry, tb_dry] using this
                simp only [go_sem, Nat.reduceMod, Nat.reduceBNe, Nat.reduceBEq, Nat.reduceEqDiff, Nat.reduceAdd, Int.reduceAdd, Nat.reduceMul, Nat.reduceSub, Int.reduceToNat, Int.reduceLE, Int.reduceLT, Int.reduceEq, Int.reduceNe, reduceCtorEq, Nat.reduceLT, Nat.reduceLeDiff, Lat.oi_neg]
                refine ⟨fun e => ?_, fun e => ?_⟩
                · rw [Lat.checkS_4 h1 h2 hr ha (Lat.noNear_t hb (.inl e)) a2]
                · refine call_ev (r := .int .i64 (Lat.oi (Lat.near (fun c => Lat.dn up c ns.length) ns.length a b))) ?_ ?_
                  · have := ev_boundD hX hs (fun b => if b < ns.length then Lat.dn up b ns.length else 0) (dlt n8) ns.length a b n8 ha hb
                    rw [bdD hrf ha hb] at this
                    simpa only [dryL, dry, tb_dry] using this
                  simp only [go_sem, Nat.reduceMod, Nat.reduceBNe, Nat.reduceBEq, Nat.reduceEqDiff, Nat.reduceAdd, Int.reduceAdd, Nat.reduceMul, Nat.reduceSub, Int.reduceToNat, Int.reduceLE, Int.reduceLT, Int.reduceEq, Int.reduceNe, reduceCtorEq, Nat.reduceLT, Nat.reduceLeDiff, Lat.oi_neg]
                  refine ⟨fun e2 => ?_, fun e2 => ?_⟩
                  · rw [Lat.checkS_4 h1 h2 hr ha (Lat.noNear_t hb (.inr e2)) a2]
                  · exact nxt1 hb b2 ⟨e, e2⟩ (by omega)
              · exact nxt1 ha a2 (Lat.noNear_f fun b hb => b2 b (by omega)) (by omega)
          · rw [Lat.checkS_5 h1 h2 hr fun j hj => a2 j (by omega)]
end
end Go.Avm
