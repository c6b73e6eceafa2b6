/- The reference's small functions. -/
import Derived.Test.YtabdnpjbofiknaaGreatDoorAG2
import Derived.Test.YtabdnpjbofiknaaGreatDoorAB
import Derived.Test.YtabdnpjbofiknaaGreatDoorM1
import Derived.Test.YtabdnpjbofiknaaGreatDoorAT3
set_option linter.all false
/- The reference's small functions. -/
namespace Go.Avm
open Go
def below (up : List UInt8) (a b : Int) : Bool := decide (0 ≤ a) && decide (a < up.length) && decide (0 ≤ b) && Lat.le up a.toNat b.toNat
section
variable {X : Cx} (hX : X.P = Go.Proofs.Tryz.prog) (hs : Std X)
include hX hs
end
end Go.Avm

/- The reference: names, rows, Check. -/
namespace Go.Avm
open Go
section
variable {X : Cx} (hX : X.P = Go.Proofs.Tryz.prog) (hs : Std X)
include hX hs
end
end Go.Avm

/- The reference: Check and what asks it. -/
namespace Go.Avm
open Go
section
variable {X : Cx} (hX : X.P = Go.Proofs.Tryz.prog) (hs : Std X)
include hX hs
end
end Go.Avm

/- The reference: what asks Check. -/
namespace Go.Avm
open Go
section
variable {X : Cx} (hX : X.P = Go.Proofs.Tryz.prog) (hs : Std X)
include hX hs
end
end Go.Avm

/- The reference: Find, Same, rows. -/
namespace Go.Avm
open Go
section
variable {X : Cx} (hX : X.P = Go.Proofs.Tryz.prog) (hs : Std X)
include hX hs
end
end Go.Avm

/- Trim, and words.Name. -/
namespace Go.Avm
open Go
theorem any_take {s : List UInt8} {i : Nat} (hi : i < s.length) (k : Nat) : Lat.inB (s.take (i + 1)) k = (Lat.inB (s.take i) k || ((s.getD i 0).toNat == k)) := by
  rw [List.take_succ_eq_append_getElem hi]
  simp only [Lat.inB, List.any_append, List.any_cons, List.any_nil, Bool.or_false]
  rw [List.getD_eq_getElem?_getD, List.getElem?_eq_getElem hi]; rfl
section
variable {X : Cx} (hX : X.P = Go.Proofs.Tryz.prog) (hs : Std X)
include hX hs
theorem ev_contains (f : Nat → Bool) (c : UInt8) : Ev X F_strings_asciiSet_contains [.vp (tb 256 fun k => .bool (f k)), u8 c] (.bool (f c.toNat)) := by
  have hc := c.toNat_lt
  refine ev_of_wpc hs (A_strings_asciiSet_contains_ok hX) 0 ?_
  simp only [A_strings_asciiSet_contains, go_sem, Nat.reduceMod, Nat.reduceBNe, Nat.reduceBEq, Nat.reduceEqDiff, Nat.reduceAdd, Int.reduceAdd, Nat.reduceMul, Nat.reduceSub, Int.reduceToNat, Int.reduceLE, Int.reduceLT, Int.reduceEq, Int.reduceNe, reduceCtorEq, Nat.reduceLT, Nat.reduceLeDiff, Nat.mul_one, ld_tb _ hc]
  omega
theorem ev_makeSet (cs : List UInt8) (h : ∀ c ∈ cs, c.toNat < 128) (hl : cs.length < 1000000) : Ev X F_strings_makeASCIISet [.str cs] (.tuple [.agg (tb 256 fun k => .bool (Lat.inB cs k)), .bool true]) := by
  refine ev_of_wpc hs (A_strings_makeASCIISet_ok hX) 0 ?_
  simp only [A_strings_makeASCIISet, tb_rep, go_sem, Nat.reduceMod, Nat.reduceBNe, Nat.reduceBEq, Nat.reduceEqDiff, Nat.reduceAdd, Int.reduceAdd, Nat.reduceMul, Nat.reduceSub, Int.reduceToNat, Int.reduceLE, Int.reduceLT, Int.reduceEq, Int.reduceNe, reduceCtorEq, Nat.reduceLT, Nat.reduceLeDiff]
  refine w_loop' hs.hm (ι := Nat) (fun i => i ≤ cs.length) (fun i => [(4, .int .i64 i), (2, .ptr 0 0), (0, .str cs)]) (fun i => [.box (tb 256 fun k => .bool (Lat.inB (cs.take i) k))]) (fun i => cs.length - i) 0 ?_ fun i hi => ?_
  · simp only [go_sem, Nat.reduceMod, Nat.reduceBNe, Nat.reduceBEq, Nat.reduceEqDiff, Nat.reduceAdd, Int.reduceAdd, Nat.reduceMul, Nat.reduceSub, Int.reduceToNat, Int.reduceLE, Int.reduceLT, Int.reduceEq, Int.reduceNe, reduceCtorEq, Nat.reduceLT, Nat.reduceLeDiff]
    exact ⟨Nat.zero_le _, rfl⟩
  · simp only [A_strings_makeASCIISetL0, go_sem, Nat.reduceMod, Nat.reduceBNe, Nat.reduceBEq, Nat.reduceEqDiff, Nat.reduceAdd, Int.reduceAdd, Nat.reduceMul, Nat.reduceSub, Int.reduceToNat, Int.reduceLE, Int.reduceLT, Int.reduceEq, Int.reduceNe, reduceCtorEq, Nat.reduceLT, Nat.reduceLeDiff, Nat.mul_one]
    refine ⟨fun c => ⟨⟨by omega, c⟩, fun e => ?_, fun e => ⟨by omega, by omega, i + 1, by omega, by omega, by rw [wi64 (by omega)]; rfl, ?_⟩⟩, fun c => ?_⟩
    · have hi' : i < cs.length := by omega
      have := h (cs[i]) (List.getElem_mem _)
      have e2 : cs.getD i 0 = cs[i] := by rw [List.getD_eq_getElem?_getD, List.getElem?_eq_getElem hi']; rfl
      rw [e2] at e
      omega
    · rw [tb_set]
      rw [tb_congr fun k hk => ?_]
      rw [any_take (by omega) k]
      by_cases ek : k = (cs.getD i 0).toNat
      · subst ek; simp
      · have : ((cs.getD i 0).toNat == k) = false := by rw [beq_eq_false_iff_ne]; exact fun e => ek e.symm
        rw [if_neg ek, this, Bool.or_false]
    · rw [List.take_of_length_le (by omega)]
theorem ev_ltrim (cs s : List UInt8) : Ev X F_strings_trimLeftASCII [.str s, .vp (tb 256 fun k => .bool (Lat.inB cs k))] (.str (Lat.ltrim cs s)) := by
  refine ev_of_wpc hs (A_strings_trimLeftASCII_ok hX) 0 ?_
  simp only [A_strings_trimLeftASCII, go_sem, Nat.reduceMod, Nat.reduceBNe, Nat.reduceBEq, Nat.reduceEqDiff, Nat.reduceAdd, Int.reduceAdd, Nat.reduceMul, Nat.reduceSub, Int.reduceToNat, Int.reduceLE, Int.reduceLT, Int.reduceEq, Int.reduceNe, reduceCtorEq, Nat.reduceLT, Nat.reduceLeDiff]
  refine w_loop' hs.hm (ι := List UInt8) (fun t => Lat.ltrim cs s = Lat.ltrim cs t) (fun t => [(0, .str t), (1, .vp (tb 256 fun k => .bool (Lat.inB cs k)))]) (fun _ => []) (fun t => t.length) s ?_ fun t ht => ?_
  · simp only [go_sem, Nat.reduceMod, Nat.reduceBNe, Nat.reduceBEq, Nat.reduceEqDiff, Nat.reduceAdd, Int.reduceAdd, Nat.reduceMul, Nat.reduceSub, Int.reduceToNat, Int.reduceLE, Int.reduceLT, Int.reduceEq, Int.reduceNe, reduceCtorEq, Nat.reduceLT, Nat.reduceLeDiff]
  · simp only [A_strings_trimLeftASCIIL0, go_sem, Nat.reduceMod, Nat.reduceBNe, Nat.reduceBEq, Nat.reduceEqDiff, Nat.reduceAdd, Int.reduceAdd, Nat.reduceMul, Nat.reduceSub, Int.reduceToNat, Int.reduceLE, Int.reduceLT, Int.reduceEq, Int.reduceNe, reduceCtorEq, Nat.reduceLT, Nat.reduceLeDiff]
    refine ⟨fun c => ⟨c, call_ev (ev_contains hX hs (Lat.inB cs) (t.getD 0 0)) ?_⟩, fun c => ?_⟩
    · cases hc : Lat.inB cs (t.getD 0 0).toNat with
      | true =>
        simp only [go_sem, Nat.reduceMod, Nat.reduceBNe, Nat.reduceBEq, Nat.reduceEqDiff, Nat.reduceAdd, Int.reduceAdd, Nat.reduceMul, Nat.reduceSub, Int.reduceToNat, Int.reduceLE, Int.reduceLT, Int.reduceEq, Int.reduceNe, reduceCtorEq, Nat.reduceLT, Nat.reduceLeDiff]
        refine ⟨by omega, t.drop 1, by rw [List.length_drop]; omega, ?_, ?_⟩
        · rw [ht, Lat.ltrim_t (by omega) hc]
        · rw [List.take_length]
      | false =>
        simp only [go_sem, Nat.reduceMod, Nat.reduceBNe, Nat.reduceBEq, Nat.reduceEqDiff, Nat.reduceAdd, Int.reduceAdd, Nat.reduceMul, Nat.reduceSub, Int.reduceToNat, Int.reduceLE, Int.reduceLT, Int.reduceEq, Int.reduceNe, reduceCtorEq, Nat.reduceLT, Nat.reduceLeDiff]
        rw [ht, Lat.ltrim_f (by omega) hc]
    · have : t = [] := List.length_eq_zero_iff.1 (by omega)
      rw [ht, this]; rfl
theorem ev_rtrim (cs s : List UInt8) (hl : s.length < 9223372036854775807) : Ev X F_strings_trimRightASCII [.str s, .vp (tb 256 fun k => .bool (Lat.inB cs k))] (.str (Lat.rtrim cs s)) := by
  refine ev_of_wpc hs (A_strings_trimRightASCII_ok hX) 0 ?_
  simp only [A_strings_trimRightASCII, go_sem, Nat.reduceMod, Nat.reduceBNe, Nat.reduceBEq, Nat.reduceEqDiff, Nat.reduceAdd, Int.reduceAdd, Nat.reduceMul, Nat.reduceSub, Int.reduceToNat, Int.reduceLE, Int.reduceLT, Int.reduceEq, Int.reduceNe, reduceCtorEq, Nat.reduceLT, Nat.reduceLeDiff]
  refine w_loop' hs.hm (ι := List UInt8) (fun t => t.length ≤ s.length ∧ Lat.rtrim cs s = Lat.rtrim cs t) (fun t => [(0, .str t), (1, .vp (tb 256 fun k => .bool (Lat.inB cs k)))]) (fun _ => []) (fun t => t.length) s ?_ fun t ht => ?_
  · simp only [go_sem, Nat.reduceMod, Nat.reduceBNe, Nat.reduceBEq, Nat.reduceEqDiff, Nat.reduceAdd, Int.reduceAdd, Nat.reduceMul, Nat.reduceSub, Int.reduceToNat, Int.reduceLE, Int.reduceLT, Int.reduceEq, Int.reduceNe, reduceCtorEq, Nat.reduceLT, Nat.reduceLeDiff]
  · obtain ⟨t1, t2⟩ := ht
    simp only [A_strings_trimRightASCIIL0, go_sem, Nat.reduceMod, Nat.reduceBNe, Nat.reduceBEq, Nat.reduceEqDiff, Nat.reduceAdd, Int.reduceAdd, Nat.reduceMul, Nat.reduceSub, Int.reduceToNat, Int.reduceLE, Int.reduceLT, Int.reduceEq, Int.reduceNe, reduceCtorEq, Nat.reduceLT, Nat.reduceLeDiff]
    refine ⟨fun c => ?_, fun c => ?_⟩
    · have e1 : IntKind.i64.wrap ((t.length : Int) - 1) = ((t.length - 1 : Nat) : Int) := by rw [wi64 (by omega)]; omega
      rw [e1]
      simp only [go_sem, Nat.reduceMod, Nat.reduceBNe, Nat.reduceBEq, Nat.reduceEqDiff, Nat.reduceAdd, Int.reduceAdd, Nat.reduceMul, Nat.reduceSub, Int.reduceToNat, Int.reduceLE, Int.reduceLT, Int.reduceEq, Int.reduceNe, reduceCtorEq, Nat.reduceLT, Nat.reduceLeDiff]
      refine ⟨by omega, call_ev (ev_contains hX hs (Lat.inB cs) (t.getD (t.length - 1) 0)) ?_⟩
      cases hc : Lat.inB cs (t.getD (t.length - 1) 0).toNat with
      | true =>
        simp only [go_sem, Nat.reduceMod, Nat.reduceBNe, Nat.reduceBEq, Nat.reduceEqDiff, Nat.reduceAdd, Int.reduceAdd, Nat.reduceMul, Nat.reduceSub, Int.reduceToNat, Int.reduceLE, Int.reduceLT, Int.reduceEq, Int.reduceNe, reduceCtorEq, Nat.reduceLT, Nat.reduceLeDiff]
        rw [e1]
        refine ⟨by omega, t.take (t.length - 1), by rw [List.length_take]; omega, ⟨by rw [List.length_take]; omega, ?_⟩, rfl⟩
        rw [t2, Lat.rtrim_t (by omega) hc]
      | false =>
        simp only [go_sem, Nat.reduceMod, Nat.reduceBNe, Nat.reduceBEq, Nat.reduceEqDiff, Nat.reduceAdd, Int.reduceAdd, Nat.reduceMul, Nat.reduceSub, Int.reduceToNat, Int.reduceLE, Int.reduceLT, Int.reduceEq, Int.reduceNe, reduceCtorEq, Nat.reduceLT, Nat.reduceLeDiff]
        rw [t2, Lat.rtrim_f (by omega) hc]
    · have : t = [] := List.length_eq_zero_iff.1 (by omega)
      rw [t2, this]; rfl
theorem ev_Trim (cs s : List UInt8) (h : ∀ c ∈ cs, c.toNat < 128) (hl : cs.length < 1000000) (h2 : 2 ≤ cs.length) (hs2 : s.length < 9223372036854775807) : Ev X F_strings_Trim [.str s, .str cs] (.str (Lat.trimS cs s)) := by
  by_cases h0 : s = []
  · subst h0
    refine ev_of_wpc hs (A_strings_Trim_ok hX) 0 ?_
    simp only [A_strings_Trim, tb_rep, go_sem, Nat.reduceMod, Nat.reduceBNe, Nat.reduceBEq, Nat.reduceEqDiff, Nat.reduceAdd, Int.reduceAdd, Nat.reduceMul, Nat.reduceSub, Int.reduceToNat, Int.reduceLE, Int.reduceLT, Int.reduceEq, Int.reduceNe, reduceCtorEq, Nat.reduceLT, Nat.reduceLeDiff]
    rfl
  · have hc0 : cs ≠ [] := fun e => by rw [e] at h2; simp at h2
    have h1 : ¬ (cs.length : Int) = 1 := by omega
    refine ev_of_wpc hs (A_strings_Trim_ok hX) 0 ?_
    simp only [A_strings_Trim, tb_rep, go_sem, Nat.reduceMod, Nat.reduceBNe, Nat.reduceBEq, Nat.reduceEqDiff, Nat.reduceAdd, Int.reduceAdd, Nat.reduceMul, Nat.reduceSub, Int.reduceToNat, Int.reduceLE, Int.reduceLT, Int.reduceEq, Int.reduceNe, reduceCtorEq, Nat.reduceLT, Nat.reduceLeDiff, h0, hc0, h1]
    refine call_ev (ev_makeSet hX hs cs h hl) ?_
    simp only [go_sem, Nat.reduceMod, Nat.reduceBNe, Nat.reduceBEq, Nat.reduceEqDiff, Nat.reduceAdd, Int.reduceAdd, Nat.reduceMul, Nat.reduceSub, Int.reduceToNat, Int.reduceLE, Int.reduceLT, Int.reduceEq, Int.reduceNe, reduceCtorEq, Nat.reduceLT, Nat.reduceLeDiff]
    refine call_lend (r := .str (Lat.rtrim cs s)) ?_ rfl ?_
    · have := ev_rtrim hX hs cs s hs2
      simpa only [lendL, lend, List.getElem?_cons_zero, List.drop_zero, tb_dryb] using this
    · simp only [go_sem, Nat.reduceMod, Nat.reduceBNe, Nat.reduceBEq, Nat.reduceEqDiff, Nat.reduceAdd, Int.reduceAdd, Nat.reduceMul, Nat.reduceSub, Int.reduceToNat, Int.reduceLE, Int.reduceLT, Int.reduceEq, Int.reduceNe, reduceCtorEq, Nat.reduceLT, Nat.reduceLeDiff]
      refine call_lend (r := .str (Lat.ltrim cs (Lat.rtrim cs s))) ?_ rfl ?_
      · have := ev_ltrim hX hs cs (Lat.rtrim cs s)
        simpa only [lendL, lend, List.getElem?_cons_zero, List.drop_zero, tb_dryb] using this
      · simp only [go_sem, Nat.reduceMod, Nat.reduceBNe, Nat.reduceBEq, Nat.reduceEqDiff, Nat.reduceAdd, Int.reduceAdd, Nat.reduceMul, Nat.reduceSub, Int.reduceToNat, Int.reduceLE, Int.reduceLT, Int.reduceEq, Int.reduceNe, reduceCtorEq, Nat.reduceLT, Nat.reduceLeDiff]
        rfl
theorem ev_Name (s : List UInt8) : Ev X F_words_Name [.str s] (.bool (Lat.isNm s)) := by
  have hlow : Lat.lowB (s.getD 0 0) = (decide (97 ≤ (s.getD 0 0).toNat) && decide ((s.getD 0 0).toNat ≤ 122)) := rfl
  by_cases h0 : s = []
  · subst h0
    refine ev_of_wpc hs (A_words_Name_ok hX) 0 ?_
    simp only [A_words_Name, go_sem, Nat.reduceMod, Nat.reduceBNe, Nat.reduceBEq, Nat.reduceEqDiff, Nat.reduceAdd, Int.reduceAdd, Nat.reduceMul, Nat.reduceSub, Int.reduceToNat, Int.reduceLE, Int.reduceLT, Int.reduceEq, Int.reduceNe, reduceCtorEq, Nat.reduceLT, Nat.reduceLeDiff]
    rfl
  · have hl : 0 < s.length := List.length_pos_iff.2 h0
    refine ev_of_wpc hs (A_words_Name_ok hX) 0 ?_
    simp only [A_words_Name, go_sem, Nat.reduceMod, Nat.reduceBNe, Nat.reduceBEq, Nat.reduceEqDiff, Nat.reduceAdd, Int.reduceAdd, Nat.reduceMul, Nat.reduceSub, Int.reduceToNat, Int.reduceLE, Int.reduceLT, Int.reduceEq, Int.reduceNe, reduceCtorEq, Nat.reduceLT, Nat.reduceLeDiff, h0]
    refine ⟨fun h => ?_, fun h1 => ⟨by omega, fun h => ?_, fun h2 => ⟨by omega, fun h => ?_, fun h3 => ?_⟩⟩⟩
    · simp only [Lat.isNm, show ¬ s.length ≤ 16 by omega, decide_false, Bool.and_false, Bool.false_and]
    · simp only [Lat.isNm, hlow, show ¬ 97 ≤ (s.getD 0 0).toNat by omega, decide_false, Bool.and_false, Bool.false_and]
    · simp only [Lat.isNm, hlow, show ¬ (s.getD 0 0).toNat ≤ 122 by omega, decide_false, Bool.and_false, Bool.false_and]
    · refine call_ev (ev_Trim hX hs Lat.nameCs s (by decide) (by decide) (by decide) (by omega)) ?_
      simp only [go_sem, Nat.reduceMod, Nat.reduceBNe, Nat.reduceBEq, Nat.reduceEqDiff, Nat.reduceAdd, Int.reduceAdd, Nat.reduceMul, Nat.reduceSub, Int.reduceToNat, Int.reduceLE, Int.reduceLT, Int.reduceEq, Int.reduceNe, reduceCtorEq, Nat.reduceLT, Nat.reduceLeDiff]
      rw [Lat.trim_name]
      simp only [Lat.isNm, hlow, show 1 ≤ s.length by omega, show s.length ≤ 16 by omega, show 97 ≤ (s.getD 0 0).toNat by omega, show (s.getD 0 0).toNat ≤ 122 by omega, decide_true, Bool.and_self, Bool.true_and]
end
end Go.Avm

/- The program: names, bounds, ends, orders. -/
namespace Go.Avm
open Go
def ordC (n : Nat) (U D : Nat → Nat) (k : Nat) : AV := if k = 0 then .int .i64 n else if k < 9 then .int .u8 (U (k - 1)) else .int .u8 (D (k - 9))
theorem ordC_0 (n : Nat) (U D : Nat → Nat) : ordC n U D 0 = .int .i64 n := id rfl
theorem ordC_u (n : Nat) (U D : Nat → Nat) {k : Nat} (h : k < 8) : ordC n U D (1 + k) = .int .u8 (U k) := by
  simp only [ordC, show ¬ 1 + k = 0 by omega, show 1 + k < 9 by omega, if_true, if_false, Nat.add_sub_cancel_left]
theorem ordC_d (n : Nat) (U D : Nat → Nat) (k : Nat) : ordC n U D (9 + k) = .int .u8 (D k) := by
  simp only [ordC, show ¬ 9 + k = 0 by omega, show ¬ 9 + k < 9 by omega, if_false, Nat.add_sub_cancel_left]
theorem ord_int (n : Nat) (U D : Nat → Nat) (k : Nat) : ∃ kd x, ordC n U D k = .int kd x := by
  unfold ordC
  split
  · exact ⟨_, _, rfl⟩
  · split <;> exact ⟨_, _, rfl⟩
theorem ord_fin (H : Heap) (m n : Nat) (U D : Nat → Nat) : (tb 17 (ordC n U D)).map (fin H m) = tb 17 (ordC n U D) := by
  simp only [tb, List.map_map]
  refine List.map_congr_left fun c _ => ?_
  obtain ⟨kd, x, e⟩ := ord_int n U D c
  simp only [Function.comp, e, fi_i]
theorem ord_all (n : Nat) (U D : Nat → Nat) : (tb 17 (ordC n U D)).all scalarB = true := by
  simp only [tb, List.all_map, List.all_eq_true]
  intro c _
  obtain ⟨kd, x, e⟩ := ord_int n U D c
  simp only [Function.comp, e, scalarB]
theorem ord_dry (n : Nat) (U D : Nat → Nat) : dryL (tb 17 (ordC n U D)) = tb 17 (ordC n U D) := by
  rw [dryL_map]
  simp only [tb, List.map_map]
  refine List.map_congr_left fun c _ => ?_
  obtain ⟨kd, x, e⟩ := ord_int n U D c
  simp only [Function.comp, e, dry]
theorem ord_ups (n : Nat) (U D : Nat → Nat) : ((tb 17 (ordC n U D)).drop 1).take 8 = tb 8 fun k => .int .u8 (U k) := by
  rw [tb_sub _ (by omega)]
  exact tb_congr fun k hk => ordC_u n U D hk
theorem ord_downs (n : Nat) (U D : Nat → Nat) : ((tb 17 (ordC n U D)).drop 9).take 8 = tb 8 fun k => .int .u8 (D k) := by
  rw [tb_sub _ (by omega)]
  exact tb_congr fun k hk => ordC_d n U D k
theorem ord_get0 (n : Nat) (U D : Nat → Nat) (d : AV) : (tb 17 (ordC n U D)).getD 0 d = .int .i64 n := by
  rw [tb_getD _ _ (by omega), ordC_0]
attribute [go_sem] ord_fin ord_all ord_dry ord_ups ord_downs ord_get0
section
variable {X : Cx} (hX : X.P = Go.Proofs.Tryz.prog) (hs : Std X)
include hX hs
theorem ev_Index (l : List (List UInt8)) (s : List UInt8) (hl : l.length < 1000000) : Ev X F_slices_Index_string_string [lst AV.str .ro l, .str s] (.int .i64 (Lat.oi (Lat.findO l s))) := by
  refine ev_of_wpc hs (A_slices_Index_string_string_ok hX) 0 ?_
  simp only [A_slices_Index_string_string, go_sem, Nat.reduceMod, Nat.reduceBNe, Nat.reduceBEq, Nat.reduceEqDiff, Nat.reduceAdd, Int.reduceAdd, Nat.reduceMul, Nat.reduceSub, Int.reduceToNat, Int.reduceLE, Int.reduceLT, Int.reduceEq, Int.reduceNe, reduceCtorEq, Nat.reduceLT, Nat.reduceLeDiff]
  refine w_loop' hs.hm (ι := Nat) (fun i => i ≤ l.length ∧ ∀ j, j < i → (l.getD j [] == s) = false) (fun i => [(8, .int .i64 i), (7, .int .i64 l.length), (1, .str s), (0, lst AV.str .ro l)]) (fun _ => []) (fun i => l.length - i) 0 ?_ fun i hi => ?_
  · simp only [go_sem, Nat.reduceMod, Nat.reduceBNe, Nat.reduceBEq, Nat.reduceEqDiff, Nat.reduceAdd, Int.reduceAdd, Nat.reduceMul, Nat.reduceSub, Int.reduceToNat, Int.reduceLE, Int.reduceLT, Int.reduceEq, Int.reduceNe, reduceCtorEq, Nat.reduceLT, Nat.reduceLeDiff]
    exact ⟨Nat.zero_le _, no_lt0⟩
  · obtain ⟨i1, i2⟩ := hi
    simp only [A_slices_Index_string_stringL0, go_sem, Nat.reduceMod, Nat.reduceBNe, Nat.reduceBEq, Nat.reduceEqDiff, Nat.reduceAdd, Int.reduceAdd, Nat.reduceMul, Nat.reduceSub, Int.reduceToNat, Int.reduceLE, Int.reduceLT, Int.reduceEq, Int.reduceNe, reduceCtorEq, Nat.reduceLT, Nat.reduceLeDiff]
    refine ⟨fun c => ⟨⟨by omega, c⟩, fun e => ?_, fun e => nxt1 (by omega) i2 ?_ (by omega)⟩, fun c => ?_⟩
    · have e' : (l.getD i [] == s) = true := by rw [beq_iff_eq]; exact e.symm
      rw [Lat.findO, Lat.ff_some (p := fun a => l.getD a [] == s) (show i < l.length by omega) e' i2]
      rfl
    · rw [beq_eq_false_iff_ne]; exact fun h => e h.symm
    · rw [Lat.findO, Lat.ff_none (p := fun a => l.getD a [] == s) (n := l.length) fun j hj => i2 j (by omega)]
      rfl
end
end Go.Avm

/- Shapes and arrays. -/
namespace Go.Avm
open Go
section
variable {X : Cx} (hX : X.P = Go.Proofs.Tryz.prog) (hs : Std X)
include hX hs
theorem ev_IndexFuncI (l : List Int) (f : Nat) (cs : List AV) (hd : dryL cs = cs) (p : Int → Bool) (hp : ∀ x ∈ l, Ev X f (.int .i64 x :: cs) (.bool (p x))) (hl : l.length < 1000000) : Ev X F_slices_IndexFunc_int_int [lst (AV.int .i64) .ro l, .clo f [] cs] (.int .i64 (Lat.oi (Lat.ff l.length fun i => p (l.getD i 0)))) := by
  refine ev_of_wpc hs (A_slices_IndexFunc_int_int_ok hX) 0 ?_
  simp only [A_slices_IndexFunc_int_int, go_sem, Nat.reduceMod, Nat.reduceBNe, Nat.reduceBEq, Nat.reduceEqDiff, Nat.reduceAdd, Int.reduceAdd, Nat.reduceMul, Nat.reduceSub, Int.reduceToNat, Int.reduceLE, Int.reduceLT, Int.reduceEq, Int.reduceNe, reduceCtorEq, Nat.reduceLT, Nat.reduceLeDiff]
  refine w_loop' hs.hm (ι := Nat) (fun i => i ≤ l.length ∧ ∀ j, j < i → p (l.getD j 0) = false) (fun i => [(8, .int .i64 i), (7, .int .i64 l.length), (1, .clo f [] cs), (0, lst (AV.int .i64) .ro l)]) (fun _ => []) (fun i => l.length - i) 0 ?_ fun i hi => ?_
  · simp only [go_sem, Nat.reduceMod, Nat.reduceBNe, Nat.reduceBEq, Nat.reduceEqDiff, Nat.reduceAdd, Int.reduceAdd, Nat.reduceMul, Nat.reduceSub, Int.reduceToNat, Int.reduceLE, Int.reduceLT, Int.reduceEq, Int.reduceNe, reduceCtorEq, Nat.reduceLT, Nat.reduceLeDiff]
    exact ⟨Nat.zero_le _, no_lt0⟩
  · obtain ⟨i1, i2⟩ := hi
    simp only [A_slices_IndexFunc_int_intL0, go_sem, Nat.reduceMod, Nat.reduceBNe, Nat.reduceBEq, Nat.reduceEqDiff, Nat.reduceAdd, Int.reduceAdd, Nat.reduceMul, Nat.reduceSub, Int.reduceToNat, Int.reduceLE, Int.reduceLT, Int.reduceEq, Int.reduceNe, reduceCtorEq, Nat.reduceLT, Nat.reduceLeDiff]
    refine ⟨fun c => ⟨⟨by omega, c⟩, call_ev (r := .bool (p (l.getD i 0))) ?_ ?_⟩, fun c => ?_⟩
    · simp only [dryL, dry, hd]
      refine hp _ ?_
      rw [List.getD_eq_getElem?_getD, List.getElem?_eq_getElem (show i < l.length by omega)]
      exact List.getElem_mem _
    · cases e : p (l.getD i 0) with
      | true =>
        simp only [go_sem, Nat.reduceMod, Nat.reduceBNe, Nat.reduceBEq, Nat.reduceEqDiff, Nat.reduceAdd, Int.reduceAdd, Nat.reduceMul, Nat.reduceSub, Int.reduceToNat, Int.reduceLE, Int.reduceLT, Int.reduceEq, Int.reduceNe, reduceCtorEq, Nat.reduceLT, Nat.reduceLeDiff]
        rw [Lat.ff_some (p := fun a => p (l.getD a 0)) (show i < l.length by omega) e i2]
        rfl
      | false =>
        simp only [go_sem, Nat.reduceMod, Nat.reduceBNe, Nat.reduceBEq, Nat.reduceEqDiff, Nat.reduceAdd, Int.reduceAdd, Nat.reduceMul, Nat.reduceSub, Int.reduceToNat, Int.reduceLE, Int.reduceLT, Int.reduceEq, Int.reduceNe, reduceCtorEq, Nat.reduceLT, Nat.reduceLeDiff]
        exact nxt1 (by omega) i2 e (by omega)
    · rw [Lat.ff_none (p := fun a => p (l.getD a 0)) (n := l.length) fun j hj => i2 j (by omega)]
      rfl
theorem ev_ContainsFuncI (l : List Int) (f : Nat) (cs : List AV) (hd : dryL cs = cs) (p : Int → Bool) (hp : ∀ x ∈ l, Ev X f (.int .i64 x :: cs) (.bool (p x))) (hl : l.length < 1000000) : Ev X F_slices_ContainsFunc_int_int [lst (AV.int .i64) .ro l, .clo f [] cs] (.bool (l.any p)) := by
  refine ev_of_wpc hs (A_slices_ContainsFunc_int_int_ok hX) 0 ?_
  simp only [A_slices_ContainsFunc_int_int, go_sem, Nat.reduceMod, Nat.reduceBNe, Nat.reduceBEq, Nat.reduceEqDiff, Nat.reduceAdd, Int.reduceAdd, Nat.reduceMul, Nat.reduceSub, Int.reduceToNat, Int.reduceLE, Int.reduceLT, Int.reduceEq, Int.reduceNe, reduceCtorEq, Nat.reduceLT, Nat.reduceLeDiff]
  refine call_ev (r := .int .i64 (Lat.oi (Lat.ff l.length fun i => p (l.getD i 0)))) ?_ ?_
  · simp only [dryL, dry, lst, hd]
    exact ev_IndexFuncI hX hs l f cs hd p hp hl
  · simp only [go_sem, Nat.reduceMod, Nat.reduceBNe, Nat.reduceBEq, Nat.reduceEqDiff, Nat.reduceAdd, Int.reduceAdd, Nat.reduceMul, Nat.reduceSub, Int.reduceToNat, Int.reduceLE, Int.reduceLT, Int.reduceEq, Int.reduceNe, reduceCtorEq, Nat.reduceLT, Nat.reduceLeDiff]
    rw [show l.any p = (Lat.ff l.length fun i => p (l.getD i 0)).isSome from ?_]
    · cases Lat.ff l.length fun i => p (l.getD i 0) with
      | none => rfl
      | some c => simp [Lat.oi]
    · rw [Bool.eq_iff_iff, List.any_eq_true]
      constructor
      · rintro ⟨x, hx, hpx⟩
        obtain ⟨i, hi, e⟩ := List.getElem_of_mem hx
        cases hq : Lat.ff l.length fun i => p (l.getD i 0) with
        | some c => rfl
        | none =>
          have := Lat.ff_eq_none.1 hq i hi
          rw [List.getD_eq_getElem?_getD, List.getElem?_eq_getElem hi, Option.getD_some, e, hpx] at this
          exact absurd this (by decide)
      · intro h
        obtain ⟨a, ha⟩ := Option.isSome_iff_exists.1 h
        obtain ⟨h1, h2, _⟩ := Lat.ff_eq_some.1 ha
        exact ⟨_, List.getElem_mem h1, by rw [List.getD_eq_getElem?_getD, List.getElem?_eq_getElem h1] at h2; exact h2⟩
end
def arrV (a : Lat.Arr) : AV := .agg [.int .i64 a.k, .int .i64 a.r, .int .i64 a.l0, .int .i64 a.l1, lst (AV.int .i64) .ro a.c]
theorem shapeE_0 {r l0 l1 : Int} (h : Lat.shapeE r l0 l1 = 0) : (0 ≤ r ∧ r ≤ 2) ∧ (0 ≤ l0 ∧ l0 ≤ 400) ∧ (0 ≤ l1 ∧ l1 ≤ 400) := by
  unfold Lat.shapeE at h
  split at h
  · omega
  · split at h
    · omega
    · split at h
      · omega
      · split at h
        · omega
        · omega
section
variable {X : Cx} (hX : X.P = Go.Proofs.Tryz.prog) (hs : Std X)
include hX hs
theorem ev_sc1 (x : Int) : Ev X F_shapes_Check_1 [.int .i64 x] (.bool (decide (x < 0))) := by
  refine ev_of_wpc hs (A_shapes_Check_1_ok hX) 1 ?_
  simp only [A_shapes_Check_1, go_sem, Nat.reduceMod, Nat.reduceBNe, Nat.reduceBEq, Nat.reduceEqDiff, Nat.reduceAdd, Int.reduceAdd, Nat.reduceMul, Nat.reduceSub, Int.reduceToNat, Int.reduceLE, Int.reduceLT, Int.reduceEq, Int.reduceNe, reduceCtorEq, Nat.reduceLT, Nat.reduceLeDiff]
theorem ev_sc2 (x : Int) : Ev X F_shapes_Check_2 [.int .i64 x] (.bool (!decide (x = 0))) := by
  refine ev_of_wpc hs (A_shapes_Check_2_ok hX) 1 ?_
  simp only [A_shapes_Check_2, go_sem, Nat.reduceMod, Nat.reduceBNe, Nat.reduceBEq, Nat.reduceEqDiff, Nat.reduceAdd, Int.reduceAdd, Nat.reduceMul, Nat.reduceSub, Int.reduceToNat, Int.reduceLE, Int.reduceLT, Int.reduceEq, Int.reduceNe, reduceCtorEq, Nat.reduceLT, Nat.reduceLeDiff]
theorem ev_sc3 (x : Int) : Ev X F_shapes_Check_3 [.int .i64 x] (.bool (decide (400 < x))) := by
  refine ev_of_wpc hs (A_shapes_Check_3_ok hX) 1 ?_
  simp only [A_shapes_Check_3, go_sem, Nat.reduceMod, Nat.reduceBNe, Nat.reduceBEq, Nat.reduceEqDiff, Nat.reduceAdd, Int.reduceAdd, Nat.reduceMul, Nat.reduceSub, Int.reduceToNat, Int.reduceLE, Int.reduceLT, Int.reduceEq, Int.reduceNe, reduceCtorEq, Nat.reduceLT, Nat.reduceLeDiff, gt_iff_lt]
theorem ev_product (n : Nat) (hn : n ≤ 2) (l0 l1 : Int) (h0 : 0 ≤ l0 ∧ l0 ≤ 400) (h1 : 0 ≤ l1 ∧ l1 ≤ 400) : Ev X F_shapes_product [.int .i64 n, .agg [.int .i64 l0, .int .i64 l1]] (.int .i64 (Lat.many n l0 l1)) := by
  refine ev_of_wpc hs (A_shapes_product_ok hX) 1 ?_
  have hm : 0 ≤ l1 * l0 ∧ l1 * l0 ≤ 400 * 400 := ⟨Int.mul_nonneg h1.1 h0.1, Int.mul_le_mul h1.2 h0.2 h0.1 (by decide)⟩
  have : n = 0 ∨ n = 1 ∨ n = 2 := by omega
  rcases this with rfl | rfl | rfl
  · simp only [A_shapes_product, go_sem, Nat.reduceMod, Nat.reduceBNe, Nat.reduceBEq, Nat.reduceEqDiff, Nat.reduceAdd, Int.reduceAdd, Nat.reduceMul, Nat.reduceSub, Int.reduceToNat, Int.reduceLE, Int.reduceLT, Int.reduceEq, Int.reduceNe, reduceCtorEq, Nat.reduceLT, Nat.reduceLeDiff]
    simp [Lat.many]
  · simp only [A_shapes_product, go_sem, Nat.reduceMod, Nat.reduceBNe, Nat.reduceBEq, Nat.reduceEqDiff, Nat.reduceAdd, Int.reduceAdd, Nat.reduceMul, Nat.reduceSub, Int.reduceToNat, Int.reduceLE, Int.reduceLT, Int.reduceEq, Int.reduceNe, reduceCtorEq, Nat.reduceLT, Nat.reduceLeDiff]
    rw [wi64 (by omega)]
    simp [Lat.many]
  · simp only [A_shapes_product, go_sem, Nat.reduceMod, Nat.reduceBNe, Nat.reduceBEq, Nat.reduceEqDiff, Nat.reduceAdd, Int.reduceAdd, Nat.reduceMul, Nat.reduceSub, Int.reduceToNat, Int.reduceLE, Int.reduceLT, Int.reduceEq, Int.reduceNe, reduceCtorEq, Nat.reduceLT, Nat.reduceLeDiff, Int.one_mul]
    rw [wi64 (n := l1) (by omega), wi64 (by omega)]
    simp [Lat.many, Int.mul_comm]
theorem ev_sCheck (r l0 l1 : Int) : Ev X F_shapes_Check [.int .i64 r, .agg [.int .i64 l0, .int .i64 l1]] (.int .i64 (Lat.shapeE r l0 l1)) := by
  refine ev_of_wpc hs (A_shapes_Check_ok hX) 1 ?_
  by_cases hr : r < 0 ∨ 2 < r
  · simp only [A_shapes_Check, go_sem, Nat.reduceMod, Nat.reduceBNe, Nat.reduceBEq, Nat.reduceEqDiff, Nat.reduceAdd, Int.reduceAdd, Nat.reduceMul, Nat.reduceSub, Int.reduceToNat, Int.reduceLE, Int.reduceLT, Int.reduceEq, Int.reduceNe, reduceCtorEq, Nat.reduceLT, Nat.reduceLeDiff]
    have e : Lat.shapeE r l0 l1 = 7 := if_pos hr
    rw [e]
    refine ⟨fun _ => rfl, fun h => ⟨fun _ => rfl, fun h2 => absurd hr (by omega)⟩⟩
  · have : r = 0 ∨ r = 1 ∨ r = 2 := by omega
    rcases this with rfl | rfl | rfl
    · simp only [A_shapes_Check, go_sem, Nat.reduceMod, Nat.reduceBNe, Nat.reduceBEq, Nat.reduceEqDiff, Nat.reduceAdd, Int.reduceAdd, Nat.reduceMul, Nat.reduceSub, Int.reduceToNat, Int.reduceLE, Int.reduceLT, Int.reduceEq, Int.reduceNe, reduceCtorEq, Nat.reduceLT, Nat.reduceLeDiff]
      refine call_lend (r := .bool (([] : List Int).any fun x => decide (x < 0))) (ev_ContainsFuncI hX hs [] F_shapes_Check_1 [] rfl _ (fun x hx => ev_sc1 hX hs x) (by simp)) rfl ?_
      simp only [List.any_nil, go_sem, Nat.reduceMod, Nat.reduceBNe, Nat.reduceBEq, Nat.reduceEqDiff, Nat.reduceAdd, Int.reduceAdd, Nat.reduceMul, Nat.reduceSub, Int.reduceToNat, Int.reduceLE, Int.reduceLT, Int.reduceEq, Int.reduceNe, reduceCtorEq, Nat.reduceLT, Nat.reduceLeDiff]
      refine call_lend (r := .bool (([l0, l1] : List Int).any fun x => !decide (x = 0))) (ev_ContainsFuncI hX hs [l0, l1] F_shapes_Check_2 [] rfl _ (fun x hx => ev_sc2 hX hs x) (by simp)) rfl ?_
      cases e : ([l0, l1] : List Int).any fun x => !decide (x = 0) with
      | true =>
        simp only [go_sem, Nat.reduceMod, Nat.reduceBNe, Nat.reduceBEq, Nat.reduceEqDiff, Nat.reduceAdd, Int.reduceAdd, Nat.reduceMul, Nat.reduceSub, Int.reduceToNat, Int.reduceLE, Int.reduceLT, Int.reduceEq, Int.reduceNe, reduceCtorEq, Nat.reduceLT, Nat.reduceLeDiff]
        simp only [List.any_cons, List.any_nil, Bool.or_false, Bool.or_eq_true, Bool.not_eq_true', decide_eq_false_iff_not] at e
        simp only [Lat.shapeE, Lat.many]
        grind
      | false =>
        simp only [go_sem, Nat.reduceMod, Nat.reduceBNe, Nat.reduceBEq, Nat.reduceEqDiff, Nat.reduceAdd, Int.reduceAdd, Nat.reduceMul, Nat.reduceSub, Int.reduceToNat, Int.reduceLE, Int.reduceLT, Int.reduceEq, Int.reduceNe, reduceCtorEq, Nat.reduceLT, Nat.reduceLeDiff]
        refine call_lend (r := .bool (([] : List Int).any fun x => decide (400 < x))) (ev_ContainsFuncI hX hs [] F_shapes_Check_3 [] rfl _ (fun x hx => ev_sc3 hX hs x) (by simp)) rfl ?_
        simp only [List.any_nil, go_sem, Nat.reduceMod, Nat.reduceBNe, Nat.reduceBEq, Nat.reduceEqDiff, Nat.reduceAdd, Int.reduceAdd, Nat.reduceMul, Nat.reduceSub, Int.reduceToNat, Int.reduceLE, Int.reduceLT, Int.reduceEq, Int.reduceNe, reduceCtorEq, Nat.reduceLT, Nat.reduceLeDiff]
        simp only [List.any_cons, List.any_nil, Bool.or_false, Bool.or_eq_false_iff, Bool.not_eq_false', decide_eq_true_eq] at e
        refine call_ev (ev_product hX hs 0 (by omega) l0 l1 (by omega) (by omega)) ?_
        simp only [go_sem, Nat.reduceMod, Nat.reduceBNe, Nat.reduceBEq, Nat.reduceEqDiff, Nat.reduceAdd, Int.reduceAdd, Nat.reduceMul, Nat.reduceSub, Int.reduceToNat, Int.reduceLE, Int.reduceLT, Int.reduceEq, Int.reduceNe, reduceCtorEq, Nat.reduceLT, Nat.reduceLeDiff, Lat.shapeE, Lat.many, gt_iff_lt]
        grind
    · simp only [A_shapes_Check, go_sem, Nat.reduceMod, Nat.reduceBNe, Nat.reduceBEq, Nat.reduceEqDiff, Nat.reduceAdd, Int.reduceAdd, Nat.reduceMul, Nat.reduceSub, Int.reduceToNat, Int.reduceLE, Int.reduceLT, Int.reduceEq, Int.reduceNe, reduceCtorEq, Nat.reduceLT, Nat.reduceLeDiff]
      refine call_lend (r := .bool (([l0] : List Int).any fun x => decide (x < 0))) (ev_ContainsFuncI hX hs [l0] F_shapes_Check_1 [] rfl _ (fun x hx => ev_sc1 hX hs x) (by simp)) rfl ?_
      cases e : ([l0] : List Int).any fun x => decide (x < 0) with
      | true =>
        simp only [go_sem, Nat.reduceMod, Nat.reduceBNe, Nat.reduceBEq, Nat.reduceEqDiff, Nat.reduceAdd, Int.reduceAdd, Nat.reduceMul, Nat.reduceSub, Int.reduceToNat, Int.reduceLE, Int.reduceLT, Int.reduceEq, Int.reduceNe, reduceCtorEq, Nat.reduceLT, Nat.reduceLeDiff]
        simp only [List.any_cons, List.any_nil, Bool.or_false, decide_eq_true_eq] at e
        simp only [Lat.shapeE, Lat.many]
        grind
      | false =>
        simp only [go_sem, Nat.reduceMod, Nat.reduceBNe, Nat.reduceBEq, Nat.reduceEqDiff, Nat.reduceAdd, Int.reduceAdd, Nat.reduceMul, Nat.reduceSub, Int.reduceToNat, Int.reduceLE, Int.reduceLT, Int.reduceEq, Int.reduceNe, reduceCtorEq, Nat.reduceLT, Nat.reduceLeDiff]
        simp only [List.any_cons, List.any_nil, Bool.or_false, decide_eq_false_iff_not] at e
        refine call_lend (r := .bool (([l1] : List Int).any fun x => !decide (x = 0))) (ev_ContainsFuncI hX hs [l1] F_shapes_Check_2 [] rfl _ (fun x hx => ev_sc2 hX hs x) (by simp)) rfl ?_
        cases e2 : ([l1] : List Int).any fun x => !decide (x = 0) with
        | true =>
          simp only [go_sem, Nat.reduceMod, Nat.reduceBNe, Nat.reduceBEq, Nat.reduceEqDiff, Nat.reduceAdd, Int.reduceAdd, Nat.reduceMul, Nat.reduceSub, Int.reduceToNat, Int.reduceLE, Int.reduceLT, Int.reduceEq, Int.reduceNe, reduceCtorEq, Nat.reduceLT, Nat.reduceLeDiff]
          simp only [List.any_cons, List.any_nil, Bool.or_false, Bool.not_eq_true', decide_eq_false_iff_not] at e2
          simp only [Lat.shapeE, Lat.many]
          grind
        | false =>
          simp only [go_sem, Nat.reduceMod, Nat.reduceBNe, Nat.reduceBEq, Nat.reduceEqDiff, Nat.reduceAdd, Int.reduceAdd, Nat.reduceMul, Nat.reduceSub, Int.reduceToNat, Int.reduceLE, Int.reduceLT, Int.reduceEq, Int.reduceNe, reduceCtorEq, Nat.reduceLT, Nat.reduceLeDiff]
          simp only [List.any_cons, List.any_nil, Bool.or_false, Bool.not_eq_false', decide_eq_true_eq] at e2
          refine call_lend (r := .bool (([l0] : List Int).any fun x => decide (400 < x))) (ev_ContainsFuncI hX hs [l0] F_shapes_Check_3 [] rfl _ (fun x hx => ev_sc3 hX hs x) (by simp)) rfl ?_
          cases e3 : ([l0] : List Int).any fun x => decide (400 < x) with
          | true =>
            simp only [go_sem, Nat.reduceMod, Nat.reduceBNe, Nat.reduceBEq, Nat.reduceEqDiff, Nat.reduceAdd, Int.reduceAdd, Nat.reduceMul, Nat.reduceSub, Int.reduceToNat, Int.reduceLE, Int.reduceLT, Int.reduceEq, Int.reduceNe, reduceCtorEq, Nat.reduceLT, Nat.reduceLeDiff]
            simp only [List.any_cons, List.any_nil, Bool.or_false, decide_eq_true_eq] at e3
            simp only [Lat.shapeE, Lat.many]
            grind
          | false =>
            simp only [go_sem, Nat.reduceMod, Nat.reduceBNe, Nat.reduceBEq, Nat.reduceEqDiff, Nat.reduceAdd, Int.reduceAdd, Nat.reduceMul, Nat.reduceSub, Int.reduceToNat, Int.reduceLE, Int.reduceLT, Int.reduceEq, Int.reduceNe, reduceCtorEq, Nat.reduceLT, Nat.reduceLeDiff]
            simp only [List.any_cons, List.any_nil, Bool.or_false, decide_eq_false_iff_not] at e3
            refine call_ev (ev_product hX hs 1 (by omega) l0 l1 (by omega) (by omega)) ?_
            simp only [go_sem, Nat.reduceMod, Nat.reduceBNe, Nat.reduceBEq, Nat.reduceEqDiff, Nat.reduceAdd, Int.reduceAdd, Nat.reduceMul, Nat.reduceSub, Int.reduceToNat, Int.reduceLE, Int.reduceLT, Int.reduceEq, Int.reduceNe, reduceCtorEq, Nat.reduceLT, Nat.reduceLeDiff, Lat.shapeE, Lat.many, gt_iff_lt]
            grind
    · simp only [A_shapes_Check, go_sem, Nat.reduceMod, Nat.reduceBNe, Nat.reduceBEq, Nat.reduceEqDiff, Nat.reduceAdd, Int.reduceAdd, Nat.reduceMul, Nat.reduceSub, Int.reduceToNat, Int.reduceLE, Int.reduceLT, Int.reduceEq, Int.reduceNe, reduceCtorEq, Nat.reduceLT, Nat.reduceLeDiff]
      refine call_lend (r := .bool (([l0, l1] : List Int).any fun x => decide (x < 0))) (ev_ContainsFuncI hX hs [l0, l1] F_shapes_Check_1 [] rfl _ (fun x hx => ev_sc1 hX hs x) (by simp)) rfl ?_
      cases e : ([l0, l1] : List Int).any fun x => decide (x < 0) with
      | true =>
        simp only [go_sem, Nat.reduceMod, Nat.reduceBNe, Nat.reduceBEq, Nat.reduceEqDiff, Nat.reduceAdd, Int.reduceAdd, Nat.reduceMul, Nat.reduceSub, Int.reduceToNat, Int.reduceLE, Int.reduceLT, Int.reduceEq, Int.reduceNe, reduceCtorEq, Nat.reduceLT, Nat.reduceLeDiff]
        simp only [List.any_cons, List.any_nil, Bool.or_false, Bool.or_eq_true, decide_eq_true_eq] at e
        simp only [Lat.shapeE, Lat.many]
        grind
      | false =>
        simp only [go_sem, Nat.reduceMod, Nat.reduceBNe, Nat.reduceBEq, Nat.reduceEqDiff, Nat.reduceAdd, Int.reduceAdd, Nat.reduceMul, Nat.reduceSub, Int.reduceToNat, Int.reduceLE, Int.reduceLT, Int.reduceEq, Int.reduceNe, reduceCtorEq, Nat.reduceLT, Nat.reduceLeDiff]
        simp only [List.any_cons, List.any_nil, Bool.or_false, Bool.or_eq_false_iff, decide_eq_false_iff_not] at e
        refine call_lend (r := .bool (([] : List Int).any fun x => !decide (x = 0))) (ev_ContainsFuncI hX hs [] F_shapes_Check_2 [] rfl _ (fun x hx => ev_sc2 hX hs x) (by simp)) rfl ?_
        simp only [List.any_nil, go_sem, Nat.reduceMod, Nat.reduceBNe, Nat.reduceBEq, Nat.reduceEqDiff, Nat.reduceAdd, Int.reduceAdd, Nat.reduceMul, Nat.reduceSub, Int.reduceToNat, Int.reduceLE, Int.reduceLT, Int.reduceEq, Int.reduceNe, reduceCtorEq, Nat.reduceLT, Nat.reduceLeDiff]
        refine call_lend (r := .bool (([l0, l1] : List Int).any fun x => decide (400 < x))) (ev_ContainsFuncI hX hs [l0, l1] F_shapes_Check_3 [] rfl _ (fun x hx => ev_sc3 hX hs x) (by simp)) rfl ?_
        cases e3 : ([l0, l1] : List Int).any fun x => decide (400 < x) with
        | true =>
          simp only [go_sem, Nat.reduceMod, Nat.reduceBNe, Nat.reduceBEq, Nat.reduceEqDiff, Nat.reduceAdd, Int.reduceAdd, Nat.reduceMul, Nat.reduceSub, Int.reduceToNat, Int.reduceLE, Int.reduceLT, Int.reduceEq, Int.reduceNe, reduceCtorEq, Nat.reduceLT, Nat.reduceLeDiff]
          simp only [List.any_cons, List.any_nil, Bool.or_false, Bool.or_eq_true, decide_eq_true_eq] at e3
          simp only [Lat.shapeE, Lat.many]
          grind
        | false =>
          simp only [go_sem, Nat.reduceMod, Nat.reduceBNe, Nat.reduceBEq, Nat.reduceEqDiff, Nat.reduceAdd, Int.reduceAdd, Nat.reduceMul, Nat.reduceSub, Int.reduceToNat, Int.reduceLE, Int.reduceLT, Int.reduceEq, Int.reduceNe, reduceCtorEq, Nat.reduceLT, Nat.reduceLeDiff]
          simp only [List.any_cons, List.any_nil, Bool.or_false, Bool.or_eq_false_iff, decide_eq_false_iff_not] at e3
          refine call_ev (ev_product hX hs 2 (by omega) l0 l1 (by omega) (by omega)) ?_
          simp only [go_sem, Nat.reduceMod, Nat.reduceBNe, Nat.reduceBEq, Nat.reduceEqDiff, Nat.reduceAdd, Int.reduceAdd, Nat.reduceMul, Nat.reduceSub, Int.reduceToNat, Int.reduceLE, Int.reduceLT, Int.reduceEq, Int.reduceNe, reduceCtorEq, Nat.reduceLT, Nat.reduceLeDiff, Lat.shapeE, Lat.many, gt_iff_lt]
          grind
theorem ev_Cells (r l0 l1 : Int) : Ev X F_shapes_Cells [.int .i64 r, .agg [.int .i64 l0, .int .i64 l1]] (.tuple [.int .i64 (if Lat.shapeE r l0 l1 = 0 then Lat.many r l0 l1 else 0), .int .i64 (Lat.shapeE r l0 l1)]) := by
  refine ev_of_wpc hs (A_shapes_Cells_ok hX) 1 ?_
  simp only [A_shapes_Cells, go_sem, Nat.reduceMod, Nat.reduceBNe, Nat.reduceBEq, Nat.reduceEqDiff, Nat.reduceAdd, Int.reduceAdd, Nat.reduceMul, Nat.reduceSub, Int.reduceToNat, Int.reduceLE, Int.reduceLT, Int.reduceEq, Int.reduceNe, reduceCtorEq, Nat.reduceLT, Nat.reduceLeDiff]
  refine call_ev (ev_sCheck hX hs r l0 l1) ?_
  by_cases h : Lat.shapeE r l0 l1 = 0
  · simp only [h, go_sem, Nat.reduceMod, Nat.reduceBNe, Nat.reduceBEq, Nat.reduceEqDiff, Nat.reduceAdd, Int.reduceAdd, Nat.reduceMul, Nat.reduceSub, Int.reduceToNat, Int.reduceLE, Int.reduceLT, Int.reduceEq, Int.reduceNe, reduceCtorEq, Nat.reduceLT, Nat.reduceLeDiff]
    obtain ⟨h1, h2, h3⟩ := shapeE_0 h
    obtain ⟨n, rfl⟩ : ∃ n : Nat, r = n := ⟨r.toNat, by omega⟩
    refine call_ev (ev_product hX hs n (by omega) l0 l1 h2 h3) ?_
    simp only [go_sem, Nat.reduceMod, Nat.reduceBNe, Nat.reduceBEq, Nat.reduceEqDiff, Nat.reduceAdd, Int.reduceAdd, Nat.reduceMul, Nat.reduceSub, Int.reduceToNat, Int.reduceLE, Int.reduceLT, Int.reduceEq, Int.reduceNe, reduceCtorEq, Nat.reduceLT, Nat.reduceLeDiff]
  · simp only [h, go_sem, Nat.reduceMod, Nat.reduceBNe, Nat.reduceBEq, Nat.reduceEqDiff, Nat.reduceAdd, Int.reduceAdd, Nat.reduceMul, Nat.reduceSub, Int.reduceToNat, Int.reduceLE, Int.reduceLT, Int.reduceEq, Int.reduceNe, reduceCtorEq, Nat.reduceLT, Nat.reduceLeDiff]
theorem ev_IndexFuncL (l : List Int) (f : Nat) (cs : List AV) (hd : dryL cs = cs) (p : Int → Bool) (hp : ∀ x ∈ l, Ev X f (.int .i64 x :: cs) (.bool (p x))) (hl : l.length < 1000000) : Ev X F_slices_IndexFunc_int64_int64 [lst (AV.int .i64) .ro l, .clo f [] cs] (.int .i64 (Lat.oi (Lat.ff l.length fun i => p (l.getD i 0)))) := by
  refine ev_of_wpc hs (A_slices_IndexFunc_int64_int64_ok hX) 0 ?_
  simp only [A_slices_IndexFunc_int64_int64, go_sem, Nat.reduceMod, Nat.reduceBNe, Nat.reduceBEq, Nat.reduceEqDiff, Nat.reduceAdd, Int.reduceAdd, Nat.reduceMul, Nat.reduceSub, Int.reduceToNat, Int.reduceLE, Int.reduceLT, Int.reduceEq, Int.reduceNe, reduceCtorEq, Nat.reduceLT, Nat.reduceLeDiff]
  refine w_loop' hs.hm (ι := Nat) (fun i => i ≤ l.length ∧ ∀ j, j < i → p (l.getD j 0) = false) (fun i => [(8, .int .i64 i), (7, .int .i64 l.length), (1, .clo f [] cs), (0, lst (AV.int .i64) .ro l)]) (fun _ => []) (fun i => l.length - i) 0 ?_ fun i hi => ?_
  · simp only [go_sem, Nat.reduceMod, Nat.reduceBNe, Nat.reduceBEq, Nat.reduceEqDiff, Nat.reduceAdd, Int.reduceAdd, Nat.reduceMul, Nat.reduceSub, Int.reduceToNat, Int.reduceLE, Int.reduceLT, Int.reduceEq, Int.reduceNe, reduceCtorEq, Nat.reduceLT, Nat.reduceLeDiff]
    exact ⟨Nat.zero_le _, no_lt0⟩
  · obtain ⟨i1, i2⟩ := hi
    simp only [A_slices_IndexFunc_int64_int64L0, go_sem, Nat.reduceMod, Nat.reduceBNe, Nat.reduceBEq, Nat.reduceEqDiff, Nat.reduceAdd, Int.reduceAdd, Nat.reduceMul, Nat.reduceSub, Int.reduceToNat, Int.reduceLE, Int.reduceLT, Int.reduceEq, Int.reduceNe, reduceCtorEq, Nat.reduceLT, Nat.reduceLeDiff]
    refine ⟨fun c => ⟨⟨by omega, c⟩, call_ev (r := .bool (p (l.getD i 0))) ?_ ?_⟩, fun c => ?_⟩
    · simp only [dryL, dry, hd]
      refine hp _ ?_
      rw [List.getD_eq_getElem?_getD, List.getElem?_eq_getElem (show i < l.length by omega)]
      exact List.getElem_mem _
    · cases e : p (l.getD i 0) with
      | true =>
        simp only [go_sem, Nat.reduceMod, Nat.reduceBNe, Nat.reduceBEq, Nat.reduceEqDiff, Nat.reduceAdd, Int.reduceAdd, Nat.reduceMul, Nat.reduceSub, Int.reduceToNat, Int.reduceLE, Int.reduceLT, Int.reduceEq, Int.reduceNe, reduceCtorEq, Nat.reduceLT, Nat.reduceLeDiff]
        rw [Lat.ff_some (p := fun a => p (l.getD a 0)) (show i < l.length by omega) e i2]
        rfl
      | false =>
        simp only [go_sem, Nat.reduceMod, Nat.reduceBNe, Nat.reduceBEq, Nat.reduceEqDiff, Nat.reduceAdd, Int.reduceAdd, Nat.reduceMul, Nat.reduceSub, Int.reduceToNat, Int.reduceLE, Int.reduceLT, Int.reduceEq, Int.reduceNe, reduceCtorEq, Nat.reduceLT, Nat.reduceLeDiff]
        exact nxt1 (by omega) i2 e (by omega)
    · rw [Lat.ff_none (p := fun a => p (l.getD a 0)) (n := l.length) fun j hj => i2 j (by omega)]
      rfl
theorem ev_ContainsFuncL (l : List Int) (f : Nat) (cs : List AV) (hd : dryL cs = cs) (p : Int → Bool) (hp : ∀ x ∈ l, Ev X f (.int .i64 x :: cs) (.bool (p x))) (hl : l.length < 1000000) : Ev X F_slices_ContainsFunc_int64_int64 [lst (AV.int .i64) .ro l, .clo f [] cs] (.bool (l.any p)) := by
  refine ev_of_wpc hs (A_slices_ContainsFunc_int64_int64_ok hX) 0 ?_
  simp only [A_slices_ContainsFunc_int64_int64, go_sem, Nat.reduceMod, Nat.reduceBNe, Nat.reduceBEq, Nat.reduceEqDiff, Nat.reduceAdd, Int.reduceAdd, Nat.reduceMul, Nat.reduceSub, Int.reduceToNat, Int.reduceLE, Int.reduceLT, Int.reduceEq, Int.reduceNe, reduceCtorEq, Nat.reduceLT, Nat.reduceLeDiff]
  refine call_ev (r := .int .i64 (Lat.oi (Lat.ff l.length fun i => p (l.getD i 0)))) ?_ ?_
  · simp only [dryL, dry, lst, hd]
    exact ev_IndexFuncL hX hs l f cs hd p hp hl
  · simp only [go_sem, Nat.reduceMod, Nat.reduceBNe, Nat.reduceBEq, Nat.reduceEqDiff, Nat.reduceAdd, Int.reduceAdd, Nat.reduceMul, Nat.reduceSub, Int.reduceToNat, Int.reduceLE, Int.reduceLT, Int.reduceEq, Int.reduceNe, reduceCtorEq, Nat.reduceLT, Nat.reduceLeDiff]
    rw [show l.any p = (Lat.ff l.length fun i => p (l.getD i 0)).isSome from ?_]
    · cases Lat.ff l.length fun i => p (l.getD i 0) with
      | none => rfl
      | some c => simp [Lat.oi]
    · rw [Bool.eq_iff_iff, List.any_eq_true]
      constructor
      · rintro ⟨x, hx, hpx⟩
        obtain ⟨i, hi, e⟩ := List.getElem_of_mem hx
        cases hq : Lat.ff l.length fun i => p (l.getD i 0) with
        | some c => rfl
        | none =>
          have := Lat.ff_eq_none.1 hq i hi
          rw [List.getD_eq_getElem?_getD, List.getElem?_eq_getElem hi, Option.getD_some, e, hpx] at this
          exact absurd this (by decide)
      · intro h
        obtain ⟨a, ha⟩ := Option.isSome_iff_exists.1 h
        obtain ⟨h1, h2, _⟩ := Lat.ff_eq_some.1 ha
        exact ⟨_, List.getElem_mem h1, by rw [List.getD_eq_getElem?_getD, List.getElem?_eq_getElem h1] at h2; exact h2⟩
theorem ev_ValidRune (x : Int) (hx : 0 ≤ x ∧ x ≤ 1114111) : Ev X F_utf8_ValidRune [.int .i32 x] (.bool (Lat.runeI x)) := by
  refine ev_of_wpc hs (A_utf8_ValidRune_ok hX) 1 ?_
  simp only [A_utf8_ValidRune, go_sem, Nat.reduceMod, Nat.reduceBNe, Nat.reduceBEq, Nat.reduceEqDiff, Nat.reduceAdd, Int.reduceAdd, Nat.reduceMul, Nat.reduceSub, Int.reduceToNat, Int.reduceLE, Int.reduceLT, Int.reduceEq, Int.reduceNe, reduceCtorEq, Nat.reduceLT, Nat.reduceLeDiff, Lat.runeI]
  have h1 : (0 ≤ x) = True := eq_true hx.1
  have h2 : (x ≤ 1114111) = True := eq_true hx.2
  simp only [h1, h2, go_sem, Nat.reduceMod, Nat.reduceBNe, Nat.reduceBEq, Nat.reduceEqDiff, Nat.reduceAdd, Int.reduceAdd, Nat.reduceMul, Nat.reduceSub, Int.reduceToNat, Int.reduceLE, Int.reduceLT, Int.reduceEq, Int.reduceNe, reduceCtorEq, Nat.reduceLT, Nat.reduceLeDiff]
  grind
theorem ev_right (k x : Int) : Ev X F_arrays_right [.int .i64 k, .int .i64 x] (.bool (decide (k = 1) || Lat.runeI x)) := by
  refine ev_of_wpc hs (A_arrays_right_ok hX) 1 ?_
  simp only [A_arrays_right, go_sem, Nat.reduceMod, Nat.reduceBNe, Nat.reduceBEq, Nat.reduceEqDiff, Nat.reduceAdd, Int.reduceAdd, Nat.reduceMul, Nat.reduceSub, Int.reduceToNat, Int.reduceLE, Int.reduceLT, Int.reduceEq, Int.reduceNe, reduceCtorEq, Nat.reduceLT, Nat.reduceLeDiff]
  refine ⟨fun h => ?_, fun h => ⟨fun h2 => ⟨fun h3 => ?_, fun h3 => ?_⟩, fun h2 => ?_⟩⟩
  · simp [h]
  · rw [wi32 (by omega)]
    refine call_ev (ev_ValidRune hX hs x ⟨h2, h3⟩) ?_
    simp only [go_sem, Nat.reduceMod, Nat.reduceBNe, Nat.reduceBEq, Nat.reduceEqDiff, Nat.reduceAdd, Int.reduceAdd, Nat.reduceMul, Nat.reduceSub, Int.reduceToNat, Int.reduceLE, Int.reduceLT, Int.reduceEq, Int.reduceNe, reduceCtorEq, Nat.reduceLT, Nat.reduceLeDiff, h]
  · simp [h, Lat.runeI, h3]
  · simp [h, Lat.runeI, h2]
theorem ev_aC1 (k r a b : Int) (c : AV) (x : Int) : Ev X F_arrays_Check_1 [.int .i64 x, .vp [.int .i64 k, .int .i64 r, .int .i64 a, .int .i64 b, c]] (.bool (!(decide (k = 1) || Lat.runeI x))) := by
  refine ev_of_wpc hs (A_arrays_Check_1_ok hX) 1 ?_
  simp only [A_arrays_Check_1, go_sem, Nat.reduceMod, Nat.reduceBNe, Nat.reduceBEq, Nat.reduceEqDiff, Nat.reduceAdd, Int.reduceAdd, Nat.reduceMul, Nat.reduceSub, Int.reduceToNat, Int.reduceLE, Int.reduceLT, Int.reduceEq, Int.reduceNe, reduceCtorEq, Nat.reduceLT, Nat.reduceLeDiff]
  refine call_ev (ev_right hX hs k x) ?_
  simp only [go_sem, Nat.reduceMod, Nat.reduceBNe, Nat.reduceBEq, Nat.reduceEqDiff, Nat.reduceAdd, Int.reduceAdd, Nat.reduceMul, Nat.reduceSub, Int.reduceToNat, Int.reduceLE, Int.reduceLT, Int.reduceEq, Int.reduceNe, reduceCtorEq, Nat.reduceLT, Nat.reduceLeDiff]
theorem ev_aCheck (a : Lat.Arr) (hl : a.c.length < 1000000) : Ev X F_arrays_Check [arrV a] (.int .i64 (Lat.arrE a)) := by
  obtain ⟨k, r, l0, l1, c⟩ := a
  refine ev_of_wpc hs (A_arrays_Check_ok hX) 1 ?_
  by_cases hk : k = 1 ∨ k = 2
  · simp only [Lat.arrE, show ¬ (k ≠ 1 ∧ k ≠ 2) by omega, if_false]
    rcases hk with rfl | rfl <;> simp only [A_arrays_Check, arrV, go_sem, Nat.reduceMod, Nat.reduceBNe, Nat.reduceBEq, Nat.reduceEqDiff, Nat.reduceAdd, Int.reduceAdd, Nat.reduceMul, Nat.reduceSub, Int.reduceToNat, Int.reduceLE, Int.reduceLT, Int.reduceEq, Int.reduceNe, reduceCtorEq, Nat.reduceLT, Nat.reduceLeDiff]
    · refine call_ev (ev_Cells hX hs r l0 l1) ?_
      by_cases h : Lat.shapeE r l0 l1 = 0
      · simp only [h, go_sem, Nat.reduceMod, Nat.reduceBNe, Nat.reduceBEq, Nat.reduceEqDiff, Nat.reduceAdd, Int.reduceAdd, Nat.reduceMul, Nat.reduceSub, Int.reduceToNat, Int.reduceLE, Int.reduceLT, Int.reduceEq, Int.reduceNe, reduceCtorEq, Nat.reduceLT, Nat.reduceLeDiff, ne_eq]
        refine ⟨fun e => ?_, fun e => ?_⟩
        · rw [if_pos e]
        · refine call_lend (r := .bool (c.any fun x => !(decide (((1 : Int)) = 1) || Lat.runeI x))) (ev_ContainsFuncL hX hs c F_arrays_Check_1 [.vp [.int .i64 1, .int .i64 r, .int .i64 l0, .int .i64 l1, lst (AV.int .i64) .ro c]] rfl _ (fun x hx => ev_aC1 hX hs 1 r l0 l1 _ x) hl) rfl ?_
          rw [if_neg (fun z => z e)]
          simp only [decide_true, Bool.true_or, Bool.not_true, go_sem, Nat.reduceMod, Nat.reduceBNe, Nat.reduceBEq, Nat.reduceEqDiff, Nat.reduceAdd, Int.reduceAdd, Nat.reduceMul, Nat.reduceSub, Int.reduceToNat, Int.reduceLE, Int.reduceLT, Int.reduceEq, Int.reduceNe, reduceCtorEq, Nat.reduceLT, Nat.reduceLeDiff]
          have e2 : (c.any fun _ => false) = false := by simp
          simp only [e2, false_and, go_sem, Nat.reduceMod, Nat.reduceBNe, Nat.reduceBEq, Nat.reduceEqDiff, Nat.reduceAdd, Int.reduceAdd, Nat.reduceMul, Nat.reduceSub, Int.reduceToNat, Int.reduceLE, Int.reduceLT, Int.reduceEq, Int.reduceNe, reduceCtorEq, Nat.reduceLT, Nat.reduceLeDiff]
      · simp only [h, go_sem, Nat.reduceMod, Nat.reduceBNe, Nat.reduceBEq, Nat.reduceEqDiff, Nat.reduceAdd, Int.reduceAdd, Nat.reduceMul, Nat.reduceSub, Int.reduceToNat, Int.reduceLE, Int.reduceLT, Int.reduceEq, Int.reduceNe, reduceCtorEq, Nat.reduceLT, Nat.reduceLeDiff, ne_eq]
    · refine call_ev (ev_Cells hX hs r l0 l1) ?_
      by_cases h : Lat.shapeE r l0 l1 = 0
      · simp only [h, go_sem, Nat.reduceMod, Nat.reduceBNe, Nat.reduceBEq, Nat.reduceEqDiff, Nat.reduceAdd, Int.reduceAdd, Nat.reduceMul, Nat.reduceSub, Int.reduceToNat, Int.reduceLE, Int.reduceLT, Int.reduceEq, Int.reduceNe, reduceCtorEq, Nat.reduceLT, Nat.reduceLeDiff, ne_eq]
        refine ⟨fun e => ?_, fun e => ?_⟩
        · rw [if_pos e]
        · refine call_lend (r := .bool (c.any fun x => !(decide (((2 : Int)) = 1) || Lat.runeI x))) (ev_ContainsFuncL hX hs c F_arrays_Check_1 [.vp [.int .i64 2, .int .i64 r, .int .i64 l0, .int .i64 l1, lst (AV.int .i64) .ro c]] rfl _ (fun x hx => ev_aC1 hX hs 2 r l0 l1 _ x) hl) rfl ?_
          rw [if_neg (fun z => z e)]
          simp only [show decide ((2 : Int) = 1) = false from rfl, Bool.false_or]
          cases e2 : c.any fun x => !Lat.runeI x <;> simp only [go_sem, Nat.reduceMod, Nat.reduceBNe, Nat.reduceBEq, Nat.reduceEqDiff, Nat.reduceAdd, Int.reduceAdd, Nat.reduceMul, Nat.reduceSub, Int.reduceToNat, Int.reduceLE, Int.reduceLT, Int.reduceEq, Int.reduceNe, reduceCtorEq, Nat.reduceLT, Nat.reduceLeDiff]
          
      · simp only [h, go_sem, Nat.reduceMod, Nat.reduceBNe, Nat.reduceBEq, Nat.reduceEqDiff, Nat.reduceAdd, Int.reduceAdd, Nat.reduceMul, Nat.reduceSub, Int.reduceToNat, Int.reduceLE, Int.reduceLT, Int.reduceEq, Int.reduceNe, reduceCtorEq, Nat.reduceLT, Nat.reduceLeDiff, ne_eq]
  · have e : Lat.arrE ⟨k, r, l0, l1, c⟩ = 2 := if_pos (by simp only; omega)
    rw [e]
    have h1 : (k = 1) = False := eq_false (by omega)
    have h2 : (k = 2) = False := eq_false (by omega)
    simp only [A_arrays_Check, arrV, go_sem, Nat.reduceMod, Nat.reduceBNe, Nat.reduceBEq, Nat.reduceEqDiff, Nat.reduceAdd, Int.reduceAdd, Nat.reduceMul, Nat.reduceSub, Int.reduceToNat, Int.reduceLE, Int.reduceLT, Int.reduceEq, Int.reduceNe, reduceCtorEq, Nat.reduceLT, Nat.reduceLeDiff, h1, h2]
end
end Go.Avm

/- Check of tables. -/
namespace Go.Avm
open Go Go.Tb
set_option maxRecDepth 10000
instance : Elt arrV 5 := ⟨fun _ => rfl, fun _ => rfl, fun _ => rfl, fun a => by obtain ⟨k, r, l0, l1, c⟩ := a; simp only [arrV, go_sem, Nat.reduceMod, Nat.reduceBNe, Nat.reduceBEq, Nat.reduceEqDiff, Nat.reduceAdd, Int.reduceAdd, Nat.reduceMul, Nat.reduceSub, Int.reduceToNat, Int.reduceLE, Int.reduceLT, Int.reduceEq, Int.reduceNe, reduceCtorEq, Nat.reduceLT, Nat.reduceLeDiff]⟩
def tabV (t : Tab) : AV := .agg [lst AV.str .ro t.n, lst arrV .ro t.c]
def tabP (t : Tab) : AV := .vp [lst AV.str .ro t.n, lst arrV .ro t.c]
theorem arr_cells (a : Lat.Arr) : (arrV a).cells = [.int .i64 a.k, .int .i64 a.r, .int .i64 a.l0, .int .i64 a.l1, lst (AV.int .i64) .ro a.c] := id rfl
theorem chk_long {t : Tab} (h : 16 < t.n.length) : chk t = (-1, 3) := if_pos h
theorem chk_form {t : Tab} (h : t.n.length ≤ 16) (h2 : t.c.length ≠ t.n.length) : chk t = (-1, 6) := by unfold chk; rw [if_neg (by omega), if_pos h2]
theorem col_mem {t : Tab} {i : Nat} (h : i < t.c.length) : t.col i ∈ t.c := by
  unfold Tab.col
  rw [List.getD_eq_getElem?_getD, List.getElem?_eq_getElem h]
  exact List.getElem_mem h
theorem gx0 {α : Type} (G : List α) (x : α) (r : List α) : (G ++ x :: r)[G.length]? = some x := by simp
theorem gs0 {α : Type} (G : List α) (x z : α) (r : List α) : (G ++ x :: r).set G.length z = G ++ z :: r := by
  rw [List.set_append_right _ _ (Nat.le_refl _), Nat.sub_self]; rfl
section
variable {X : Cx} (hX : X.P = Go.Proofs.Tryz.prog) (hs : Std X)
include hX hs
theorem ev_many (t : Tab) : Ev X F_tables_many [tabP t] (.int .i64 (many t)) := by
  refine ev_of_wpc hs (A_tables_many_ok hX) 0 ?_
  simp only [A_tables_many, tabP, arr_cells, go_sem, Nat.reduceMod, Nat.reduceBNe, Nat.reduceBEq, Nat.reduceEqDiff, Nat.reduceAdd, Int.reduceAdd, Nat.reduceMul, Nat.reduceSub, Int.reduceToNat, Int.reduceLE, Int.reduceLT, Int.reduceEq, Int.reduceNe, reduceCtorEq, Nat.reduceLT, Nat.reduceLeDiff]
  unfold many
  refine ⟨fun h => ?_, fun h => ⟨by omega, ?_⟩⟩
  · rw [if_pos (by omega)]
  · rw [if_neg (by omega)]; rfl
theorem ev_Check (t : Tab) (hl : ∀ a ∈ t.c, a.c.length < 1000000) : Ev X F_tables_Check [tabV t] (.tuple [.int .i64 (chk t).1, .int .i64 (chk t).2]) := by
  refine ev_of_wpc hs (A_tables_Check_ok hX) 0 ?_
  simp only [A_tables_Check, tabV, go_sem, Nat.reduceMod, Nat.reduceBNe, Nat.reduceBEq, Nat.reduceEqDiff, Nat.reduceAdd, Int.reduceAdd, Nat.reduceMul, Nat.reduceSub, Int.reduceToNat, Int.reduceLE, Int.reduceLT, Int.reduceEq, Int.reduceNe, reduceCtorEq, Nat.reduceLT, Nat.reduceLeDiff]
  refine ⟨fun h => ?_, fun h => ⟨fun h2 => ?_, fun h2 => ?_⟩⟩
  · rw [chk_long (by omega)]
  · rw [chk_form (by omega) (by omega)]
  have hlen : t.n.length ≤ 16 := by omega
  have heq : t.c.length = t.n.length := by omega
  refine w_loop' hs.hm (ι := Nat × Heap) (fun x => x.1 ≤ t.n.length ∧ ∀ j, j < x.1 → colE t j = 0) (fun x => [(26, .int .i64 x.1), (25, .int .i64 t.n.length), (24, lst AV.str .ro t.n), (4, .mp 1), (1, .ptr 0 0)]) (fun x => .box [lst AV.str .ro t.n, lst arrV .ro t.c] :: .mpb (t.n.take x.1) :: x.2) (fun x => t.n.length - x.1) (0, []) ?_ fun x hx => ?_
  · simp only [go_sem, Nat.reduceMod, Nat.reduceBNe, Nat.reduceBEq, Nat.reduceEqDiff, Nat.reduceAdd, Int.reduceAdd, Nat.reduceMul, Nat.reduceSub, Int.reduceToNat, Int.reduceLE, Int.reduceLT, Int.reduceEq, Int.reduceNe, reduceCtorEq, Nat.reduceLT, Nat.reduceLeDiff, List.take_zero]
    exact ⟨Nat.zero_le _, no_lt0⟩
  obtain ⟨i, G⟩ := x
  obtain ⟨i1, i2⟩ := hx
  dsimp only at i1 i2 ⊢
  by_cases hi : i < t.n.length
  · have hi' : (i : Int) < t.n.length := by omega
    have hic : (i : Int) < t.c.length := by omega
    have hic0 : (0 : Int) < t.c.length := by omega
    simp only [A_tables_CheckL0, go_sem, Nat.reduceMod, Nat.reduceBNe, Nat.reduceBEq, Nat.reduceEqDiff, Nat.reduceAdd, Int.reduceAdd, Nat.reduceMul, Nat.reduceSub, Int.reduceToNat, Int.reduceLE, Int.reduceLT, Int.reduceEq, Int.reduceNe, reduceCtorEq, Nat.reduceLT, Nat.reduceLeDiff, hi', hic, hic0, arr_cells]
    refine ⟨by omega, by omega, ?_⟩
    have e0 : ∀ d, t.c.getD i d = t.col i := fun d => by unfold Tab.col; rw [List.getD_eq_getElem?_getD, List.getD_eq_getElem?_getD, List.getElem?_eq_getElem (by omega)]; rfl
    have e00 : ∀ d, t.c.getD 0 d = t.col 0 := fun d => by unfold Tab.col; rw [List.getD_eq_getElem?_getD, List.getD_eq_getElem?_getD, List.getElem?_eq_getElem (by omega)]; rfl
    have en : ∀ d, t.n.getD i d = t.nm i := fun d => by unfold Tab.nm; rw [List.getD_eq_getElem?_getD, List.getD_eq_getElem?_getD, List.getElem?_eq_getElem (by omega)]; rfl
    rw [e0, en]
    have hcE : colE t i ≠ 0 → ∀ k : Int, k = colE t i → AV.tuple [.int .i64 i, .int .i64 k] = AV.tuple [.int .i64 (chk t).1, .int .i64 (chk t).2] := fun h k hk => by rw [chk_col hlen heq hi i2 h, hk]
    refine call_ev (ev_aCheck hX hs (t.col i) (hl _ (col_mem (by omega)))) ?_
    simp only [go_sem, Nat.reduceMod, Nat.reduceBNe, Nat.reduceBEq, Nat.reduceEqDiff, Nat.reduceAdd, Int.reduceAdd, Nat.reduceMul, Nat.reduceSub, Int.reduceToNat, Int.reduceLE, Int.reduceLT, Int.reduceEq, Int.reduceNe, reduceCtorEq, Nat.reduceLT, Nat.reduceLeDiff]
    refine call_ev (ev_Name hX hs (t.nm i)) ?_
    cases hN : Lat.isNm (t.nm i) with
    | false =>
      simp only [go_sem, Nat.reduceMod, Nat.reduceBNe, Nat.reduceBEq, Nat.reduceEqDiff, Nat.reduceAdd, Int.reduceAdd, Nat.reduceMul, Nat.reduceSub, Int.reduceToNat, Int.reduceLE, Int.reduceLT, Int.reduceEq, Int.reduceNe, reduceCtorEq, Nat.reduceLT, Nat.reduceLeDiff]
      have e : colE t i = 6 := if_pos hN
      exact hcE (by rw [e]; decide) 6 e.symm
    | true =>
      have hN' : ¬ Lat.isNm (t.nm i) = false := by rw [hN]; decide
      simp only [go_sem, Nat.reduceMod, Nat.reduceBNe, Nat.reduceBEq, Nat.reduceEqDiff, Nat.reduceAdd, Int.reduceAdd, Nat.reduceMul, Nat.reduceSub, Int.reduceToNat, Int.reduceLE, Int.reduceLT, Int.reduceEq, Int.reduceNe, reduceCtorEq, Nat.reduceLT, Nat.reduceLeDiff]
      cases hC : (t.n.take i).contains (t.nm i) with
      | true =>
        simp only [go_sem, Nat.reduceMod, Nat.reduceBNe, Nat.reduceBEq, Nat.reduceEqDiff, Nat.reduceAdd, Int.reduceAdd, Nat.reduceMul, Nat.reduceSub, Int.reduceToNat, Int.reduceLE, Int.reduceLT, Int.reduceEq, Int.reduceNe, reduceCtorEq, Nat.reduceLT, Nat.reduceLeDiff]
        have e : colE t i = 8 := by unfold colE; rw [if_neg hN', if_pos hC]
        exact hcE (by rw [e]; decide) 8 e.symm
      | false =>
        have hC' : ¬ (t.n.take i).contains (t.nm i) = true := by rw [hC]; decide
        simp only [go_sem, Nat.reduceMod, Nat.reduceBNe, Nat.reduceBEq, Nat.reduceEqDiff, Nat.reduceAdd, Int.reduceAdd, Nat.reduceMul, Nat.reduceSub, Int.reduceToNat, Int.reduceLE, Int.reduceLT, Int.reduceEq, Int.reduceNe, reduceCtorEq, Nat.reduceLT, Nat.reduceLeDiff]
        by_cases hA : Lat.arrE (t.col i) = 0
        · simp only [go_sem, Nat.reduceMod, Nat.reduceBNe, Nat.reduceBEq, Nat.reduceEqDiff, Nat.reduceAdd, Int.reduceAdd, Nat.reduceMul, Nat.reduceSub, Int.reduceToNat, Int.reduceLE, Int.reduceLT, Int.reduceEq, Int.reduceNe, reduceCtorEq, Nat.reduceLT, Nat.reduceLeDiff, hA, gx0]
          by_cases hr : (t.col i).r = 1
          · simp only [go_sem, Nat.reduceMod, Nat.reduceBNe, Nat.reduceBEq, Nat.reduceEqDiff, Nat.reduceAdd, Int.reduceAdd, Nat.reduceMul, Nat.reduceSub, Int.reduceToNat, Int.reduceLE, Int.reduceLT, Int.reduceEq, Int.reduceNe, reduceCtorEq, Nat.reduceLT, Nat.reduceLeDiff, hr, gx0, e00, arr_cells]
            by_cases h5 : (t.col i).l0 = (t.col 0).l0 ∧ (t.col i).l1 = (t.col 0).l1
            · have hb : (((t.col i).l0 == (t.col 0).l0) && ((t.col i).l1 == (t.col 0).l1)) = true := by simp [h5.1, h5.2]
              have hw : IntKind.i64.wrap ((i : Int) + 1) = ((i + 1 : Nat) : Int) := by rw [wi64 (by omega)]; omega
              refine ⟨by omega, fun h => absurd (hb.symm.trans h) (by decide), fun _ => ?_⟩
              rw [if_neg hC']
              simp only [go_sem, Nat.reduceMod, Nat.reduceBNe, Nat.reduceBEq, Nat.reduceEqDiff, Nat.reduceAdd, Int.reduceAdd, Nat.reduceMul, Nat.reduceSub, Int.reduceToNat, Int.reduceLE, Int.reduceLT, Int.reduceEq, Int.reduceNe, reduceCtorEq, Nat.reduceLT, Nat.reduceLeDiff, hw]
              have e : colE t i = 0 := by unfold colE; rw [if_neg hN', if_neg hC', if_neg (fun h => h hA), if_neg (fun h => h hr), if_neg (fun h => h h5)]
              have ht : t.n.take i ++ [t.nm i] = t.n.take (i + 1) := by
                rw [List.take_succ_eq_append_getElem hi]
                have : t.n[i] = t.nm i := by unfold Tab.nm; rw [List.getD_eq_getElem?_getD, List.getElem?_eq_getElem hi]; rfl
                rw [this]
              rw [ht]
              refine ⟨(i + 1, _), by dsimp only; omega, ⟨by dsimp only; omega, fun j hj => ?_⟩, rfl, rfl⟩
              dsimp only at hj
              by_cases ej : j = i
              · rw [ej, e]
              · exact i2 j (by omega)
            · have hb : (((t.col i).l0 == (t.col 0).l0) && ((t.col i).l1 == (t.col 0).l1)) = false := by
                rw [Bool.eq_false_iff]; intro h; simp only [Bool.and_eq_true, beq_iff_eq] at h; exact h5 h
              refine ⟨by omega, fun h => ?_, fun h => absurd h (by simpa using h5)⟩
              have e : colE t i = 11 := by unfold colE; rw [if_neg hN', if_neg hC', if_neg (fun h => h hA), if_neg (fun h => h hr), if_pos h5]
              exact hcE (by rw [e]; decide) 11 e.symm
          · simp only [go_sem, Nat.reduceMod, Nat.reduceBNe, Nat.reduceBEq, Nat.reduceEqDiff, Nat.reduceAdd, Int.reduceAdd, Nat.reduceMul, Nat.reduceSub, Int.reduceToNat, Int.reduceLE, Int.reduceLT, Int.reduceEq, Int.reduceNe, reduceCtorEq, Nat.reduceLT, Nat.reduceLeDiff, hr]
            have e : colE t i = 22 := by unfold colE; rw [if_neg hN', if_neg hC', if_neg (fun h => h hA), if_pos hr]
            exact hcE (by rw [e]; decide) 22 e.symm
        · simp only [go_sem, Nat.reduceMod, Nat.reduceBNe, Nat.reduceBEq, Nat.reduceEqDiff, Nat.reduceAdd, Int.reduceAdd, Nat.reduceMul, Nat.reduceSub, Int.reduceToNat, Int.reduceLE, Int.reduceLT, Int.reduceEq, Int.reduceNe, reduceCtorEq, Nat.reduceLT, Nat.reduceLeDiff, hA]
          have e : colE t i = Lat.arrE (t.col i) := by unfold colE; rw [if_neg hN', if_neg hC', if_pos hA]
          exact hcE (by rw [e]; exact hA) _ e.symm
  · have hi' : ¬ (i : Int) < t.n.length := by omega
    simp only [A_tables_CheckL0, go_sem, Nat.reduceMod, Nat.reduceBNe, Nat.reduceBEq, Nat.reduceEqDiff, Nat.reduceAdd, Int.reduceAdd, Nat.reduceMul, Nat.reduceSub, Int.reduceToNat, Int.reduceLE, Int.reduceLT, Int.reduceEq, Int.reduceNe, reduceCtorEq, Nat.reduceLT, Nat.reduceLeDiff, hi']
    rw [chk_ok ⟨hlen, heq, fun j hj => i2 j (by omega)⟩]
end
end Go.Avm
