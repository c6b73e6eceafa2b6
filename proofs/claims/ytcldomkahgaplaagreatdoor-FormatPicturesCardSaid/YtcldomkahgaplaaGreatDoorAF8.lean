/- Runes: what is one, its bytes. -/
import Derived.Test.YtcldomkahgaplaaGreatDoorAV2
import Derived.Test.YtcldomkahgaplaaGreatDoorM1
import Derived.Test.YtcldomkahgaplaaGreatDoorAF6
import Derived.Test.YtcldomkahgaplaaGreatDoorAF7
import Derived.Test.YtcldomkahgaplaaGreatDoorM2
set_option linter.unusedSectionVars false
set_option linter.unusedSimpArgs false
set_option linter.unusedVariables false

/- Runes: what is one, its bytes. -/
namespace Go.Avm
open Go Go.Rn
set_option maxRecDepth 4000
section
variable {X : Cx} (hX : X.P = Go.Proofs.Tryz.prog) (hs : Std X)
include hX hs
theorem ev_valid (n : Int) : Ev X F_utf8_ValidRune [.int .i32 n] (.bool (valid n)) := by
  refine ev_of_wpc hs (A_utf8_ValidRune_ok hX) 0 ?_
  simp only [A_utf8_ValidRune, go_sem, Nat.reduceMod, Nat.reduceBNe, Nat.reduceBEq, Nat.reduceEqDiff, Nat.reduceAdd, Int.reduceAdd, Nat.reduceMul, Nat.reduceSub, Int.reduceToNat, Int.reduceLE, Int.reduceLT, Int.reduceEq, Int.reduceNe, reduceCtorEq, Nat.reduceLT, Nat.reduceLeDiff, valid, AV.bool.injEq]
  grind
theorem ev_is (n : Int) (hn : -9223372036854775808 ≤ n ∧ n < 9223372036854775808) : Ev X F_runes_is [.int .i64 n] (.bool (valid n)) := by
  refine ev_of_wpc hs (A_runes_is_ok hX) 0 ?_
  simp only [A_runes_is, go_sem, Nat.reduceMod, Nat.reduceBNe, Nat.reduceBEq, Nat.reduceEqDiff, Nat.reduceAdd, Int.reduceAdd, Nat.reduceMul, Nat.reduceSub, Int.reduceToNat, Int.reduceLE, Int.reduceLT, Int.reduceEq, Int.reduceNe, reduceCtorEq, Nat.reduceLT, Nat.reduceLeDiff]
  have h32 : -2147483648 ≤ IntKind.i32.wrap n ∧ IntKind.i32.wrap n < 2147483648 := by rw [w_i32]; split <;> omega
  have e : IntKind.i64.wrap (IntKind.i32.wrap n) = IntKind.i32.wrap n := wi64 (by omega)
  refine ⟨fun h => call_ev (ev_valid hX hs _) ?_, fun h => ?_⟩
  · rw [e] at h
    simp only [go_sem, Nat.reduceMod, Nat.reduceBNe, Nat.reduceBEq, Nat.reduceEqDiff, Nat.reduceAdd, Int.reduceAdd, Nat.reduceMul, Nat.reduceSub, Int.reduceToNat, Int.reduceLE, Int.reduceLT, Int.reduceEq, Int.reduceNe, reduceCtorEq, Nat.reduceLT, Nat.reduceLeDiff, ← h]
  · simp only [AV.bool.injEq, valid]
    rw [e] at h
    by_cases hr : 0 ≤ n ∧ n < 2147483648
    · exact absurd (wi32 (by omega)).symm h
    · grind
theorem ev_refIs (n : Int) : Ev X F_ref02_Is [.int .i64 n] (.bool (valid n)) := by
  refine ev_of_wpc hs (A_ref02_Is_ok hX) 0 ?_
  simp only [A_ref02_Is, go_sem, Nat.reduceMod, Nat.reduceBNe, Nat.reduceBEq, Nat.reduceEqDiff, Nat.reduceAdd, Int.reduceAdd, Nat.reduceMul, Nat.reduceSub, Int.reduceToNat, Int.reduceLE, Int.reduceLT, Int.reduceEq, Int.reduceNe, reduceCtorEq, Nat.reduceLT, Nat.reduceLeDiff, valid, AV.bool.injEq]
  grind
end
section
variable {X : Cx} (hX : X.P = Go.Proofs.Tryz.prog) (hs : Std X)
include hX hs
def rlen (n : Int) : Int := if n < 0 then -1 else if n ≤ 127 then 1 else if n ≤ 2047 then 2 else if 55296 ≤ n ∧ n ≤ 57343 then -1 else if n ≤ 65535 then 3 else if n ≤ 1114111 then 4 else -1
theorem ev_runeLen (n : Int) : Ev X F_utf8_RuneLen [.int .i32 n] (.int .i64 (rlen n)) := by
  refine ev_of_wpc hs (A_utf8_RuneLen_ok hX) 0 ?_
  simp only [A_utf8_RuneLen, go_sem, Nat.reduceMod, Nat.reduceBNe, Nat.reduceBEq, Nat.reduceEqDiff, Nat.reduceAdd, Int.reduceAdd, Nat.reduceMul, Nat.reduceSub, Int.reduceToNat, Int.reduceLE, Int.reduceLT, Int.reduceEq, Int.reduceNe, reduceCtorEq, Nat.reduceLT, Nat.reduceLeDiff, AV.int.injEq, rlen]
  grind
/-- put: out[at] = byte(n); at++ -/
theorem ev_put (n k : Int) (i j : Nat) (b0 b1 b2 b3 : AV) (H : Heap) (hi : H[i]? = some (.box [b0, b1, b2, b3])) (hj : H[j]? = some (.box [.int .i64 k])) (hk : 0 ≤ k ∧ k < 4) (hij : i ≠ j) :
    EvM X F_runes_Encode_1 [.int .i64 n, .ptr i 0, .ptr j 0] H fun r H' => r = .tuple [] ∧ H' = (H.set i (.box ([b0, b1, b2, b3].set k.toNat (.int .u8 (IntKind.u8.wrap n))))).set j (.box [.int .i64 (k + 1)]) := by
  refine evM_of_wpc hs (A_runes_Encode_1_ok hX) ?_
  simp only [A_runes_Encode_1, go_sem, Nat.reduceMod, Nat.reduceBNe, Nat.reduceBEq, Nat.reduceEqDiff, Nat.reduceAdd, Int.reduceAdd, Nat.reduceMul, Nat.reduceSub, Int.reduceToNat, Int.reduceLE, Int.reduceLT, Int.reduceEq, Int.reduceNe, reduceCtorEq, Nat.reduceLT, Nat.reduceLeDiff, hi, hj]
  refine ⟨by simpa using hk, by omega, ?_⟩
  simp only [List.getElem?_set_ne hij, hj, go_sem, Nat.reduceMod, Nat.reduceBNe, Nat.reduceBEq, Nat.reduceEqDiff, Nat.reduceAdd, Int.reduceAdd, Nat.reduceMul, Nat.reduceSub, Int.reduceToNat, Int.reduceLE, Int.reduceLT, Int.reduceEq, Int.reduceNe, reduceCtorEq, Nat.reduceLT, Nat.reduceLeDiff]
  rw [wi64 (by omega), Nat.mul_one]
end
theorem shr64 (n : Int) (k : Nat) (hk : k ≤ 64) : n.fdiv (2 ^ min k 64) = n / 2 ^ k := shr_i64 n k hk
section
variable {X : Cx} (hX : X.P = Go.Proofs.Tryz.prog) (hs : Std X)
include hX hs
theorem ev_Encode (n : Int) (hn : -9223372036854775808 ≤ n ∧ n < 9223372036854775808) : Ev X F_runes_Encode [.int .i64 n] (.tuple [lst u8 (if valid n then .ro else .ex) (enc n), .int .i64 (fault (valid n))]) := by
  by_cases hv : valid n = false
  · refine ev_of_wpc hs (A_runes_Encode_ok hX) 2 ?_
    simp only [A_runes_Encode, go_sem, Nat.reduceMod, Nat.reduceBNe, Nat.reduceBEq, Nat.reduceEqDiff, Nat.reduceAdd, Int.reduceAdd, Nat.reduceMul, Nat.reduceSub, Int.reduceToNat, Int.reduceLE, Int.reduceLT, Int.reduceEq, Int.reduceNe, reduceCtorEq, Nat.reduceLT, Nat.reduceLeDiff]
    refine call_ev (ev_is hX hs n (by omega)) ?_
    simp only [go_sem, Nat.reduceMod, Nat.reduceBNe, Nat.reduceBEq, Nat.reduceEqDiff, Nat.reduceAdd, Int.reduceAdd, Nat.reduceMul, Nat.reduceSub, Int.reduceToNat, Int.reduceLE, Int.reduceLT, Int.reduceEq, Int.reduceNe, reduceCtorEq, Nat.reduceLT, Nat.reduceLeDiff, hv]
    simp [enc, hv, fault, lst]
  rw [Bool.not_eq_false] at hv
  have hn : 0 ≤ n ∧ n ≤ 1114111 := valid_rng hv
  have hw : IntKind.i32.wrap n = n := wi32 (by omega)
  have hr : rlen n = if n < 128 then 1 else if n < 2048 then 2 else if n < 65536 then 3 else 4 := by
    have := (valid_iff n).1 hv
    simp only [rlen]; grind
  rw [if_pos hv]
  by_cases h1 : n < 128
  · rw [if_pos h1] at hr
    refine ev_of_wpc hs (A_runes_Encode_ok hX) 2 ?_
    simp only [A_runes_Encode, go_sem, Nat.reduceMod, Nat.reduceBNe, Nat.reduceBEq, Nat.reduceEqDiff, Nat.reduceAdd, Int.reduceAdd, Nat.reduceMul, Nat.reduceSub, Int.reduceToNat, Int.reduceLE, Int.reduceLT, Int.reduceEq, Int.reduceNe, reduceCtorEq, Nat.reduceLT, Nat.reduceLeDiff]
    refine call_ev (ev_is hX hs n (by omega)) ?_
    simp only [go_sem, Nat.reduceMod, Nat.reduceBNe, Nat.reduceBEq, Nat.reduceEqDiff, Nat.reduceAdd, Int.reduceAdd, Nat.reduceMul, Nat.reduceSub, Int.reduceToNat, Int.reduceLE, Int.reduceLT, Int.reduceEq, Int.reduceNe, reduceCtorEq, Nat.reduceLT, Nat.reduceLeDiff, hv]
    refine call_ev (r := .int .i64 1) (by rw [hw, ← hr]; exact ev_runeLen hX hs n) ?_
    simp only [go_sem, Nat.reduceMod, Nat.reduceBNe, Nat.reduceBEq, Nat.reduceEqDiff, Nat.reduceAdd, Int.reduceAdd, Nat.reduceMul, Nat.reduceSub, Int.reduceToNat, Int.reduceLE, Int.reduceLT, Int.reduceEq, Int.reduceNe, reduceCtorEq, Nat.reduceLT, Nat.reduceLeDiff]
    refine call_evm (ev_put hX hs _ 0 0 1 _ _ _ _ _ rfl rfl (by omega) (by omega)) ?_
    rintro r H' ⟨rfl, rfl⟩
    simp only [go_sem, Nat.reduceMod, Nat.reduceBNe, Nat.reduceBEq, Nat.reduceEqDiff, Nat.reduceAdd, Int.reduceAdd, Nat.reduceMul, Nat.reduceSub, Int.reduceToNat, Int.reduceLE, Int.reduceLT, Int.reduceEq, Int.reduceNe, reduceCtorEq, Nat.reduceLT, Nat.reduceLeDiff, Int.reduceToNat, Int.reducePow, Int.fdiv_eq_ediv_of_nonneg, Int.reduceLE, Int.reduceLT, Int.reduceEq, Nat.reducePow, Int.reduceMul]
    simp (disch := omega) only [enc, hv, if_true, encI, if_pos h1, wu8, fault]
    simp only [lst, List.map_cons, List.map_nil, u8_byteI (x := n) (by omega)]
  rw [if_neg h1] at hr
  by_cases h2 : n < 2048
  · rw [if_pos h2] at hr
    refine ev_of_wpc hs (A_runes_Encode_ok hX) 2 ?_
    simp only [A_runes_Encode, go_sem, Nat.reduceMod, Nat.reduceBNe, Nat.reduceBEq, Nat.reduceEqDiff, Nat.reduceAdd, Int.reduceAdd, Nat.reduceMul, Nat.reduceSub, Int.reduceToNat, Int.reduceLE, Int.reduceLT, Int.reduceEq, Int.reduceNe, reduceCtorEq, Nat.reduceLT, Nat.reduceLeDiff]
    refine call_ev (ev_is hX hs n (by omega)) ?_
    simp only [go_sem, Nat.reduceMod, Nat.reduceBNe, Nat.reduceBEq, Nat.reduceEqDiff, Nat.reduceAdd, Int.reduceAdd, Nat.reduceMul, Nat.reduceSub, Int.reduceToNat, Int.reduceLE, Int.reduceLT, Int.reduceEq, Int.reduceNe, reduceCtorEq, Nat.reduceLT, Nat.reduceLeDiff, hv]
    refine call_ev (r := .int .i64 2) (by rw [hw, ← hr]; exact ev_runeLen hX hs n) ?_
    simp only [go_sem, Nat.reduceMod, Nat.reduceBNe, Nat.reduceBEq, Nat.reduceEqDiff, Nat.reduceAdd, Int.reduceAdd, Nat.reduceMul, Nat.reduceSub, Int.reduceToNat, Int.reduceLE, Int.reduceLT, Int.reduceEq, Int.reduceNe, reduceCtorEq, Nat.reduceLT, Nat.reduceLeDiff]
    rw [shr64 _ _ (by omega), i64_or192 (by omega) (by omega)]
    refine call_evm (ev_put hX hs _ 0 0 1 _ _ _ _ _ rfl rfl (by omega) (by omega)) ?_
    rintro r H' ⟨rfl, rfl⟩
    simp only [go_sem, Nat.reduceMod, Nat.reduceBNe, Nat.reduceBEq, Nat.reduceEqDiff, Nat.reduceAdd, Int.reduceAdd, Nat.reduceMul, Nat.reduceSub, Int.reduceToNat, Int.reduceLE, Int.reduceLT, Int.reduceEq, Int.reduceNe, reduceCtorEq, Nat.reduceLT, Nat.reduceLeDiff, Int.reduceToNat, Int.reducePow, Int.fdiv_eq_ediv_of_nonneg, Int.reduceLE, Int.reduceLT, Int.reduceEq, Nat.reducePow, Int.reduceMul]
    rw [i64_and63 (by omega) (by omega), i64_or128 (by omega) (by omega)]
    refine call_evm (ev_put hX hs _ 1 0 1 _ _ _ _ _ rfl rfl (by omega) (by omega)) ?_
    rintro r H' ⟨rfl, rfl⟩
    simp only [go_sem, Nat.reduceMod, Nat.reduceBNe, Nat.reduceBEq, Nat.reduceEqDiff, Nat.reduceAdd, Int.reduceAdd, Nat.reduceMul, Nat.reduceSub, Int.reduceToNat, Int.reduceLE, Int.reduceLT, Int.reduceEq, Int.reduceNe, reduceCtorEq, Nat.reduceLT, Nat.reduceLeDiff, Int.reduceToNat, Int.reducePow, Int.fdiv_eq_ediv_of_nonneg, Int.reduceLE, Int.reduceLT, Int.reduceEq, Nat.reducePow, Int.reduceMul]
    simp (disch := omega) only [enc, hv, if_true, encI, if_neg h1, if_pos h2, wu8, fault, lst, List.map_cons, List.map_nil, u8_byteI]
  rw [if_neg h2] at hr
  by_cases h3 : n < 65536
  · rw [if_pos h3] at hr
    refine ev_of_wpc hs (A_runes_Encode_ok hX) 2 ?_
    simp only [A_runes_Encode, go_sem, Nat.reduceMod, Nat.reduceBNe, Nat.reduceBEq, Nat.reduceEqDiff, Nat.reduceAdd, Int.reduceAdd, Nat.reduceMul, Nat.reduceSub, Int.reduceToNat, Int.reduceLE, Int.reduceLT, Int.reduceEq, Int.reduceNe, reduceCtorEq, Nat.reduceLT, Nat.reduceLeDiff]
    refine call_ev (ev_is hX hs n (by omega)) ?_
    simp only [go_sem, Nat.reduceMod, Nat.reduceBNe, Nat.reduceBEq, Nat.reduceEqDiff, Nat.reduceAdd, Int.reduceAdd, Nat.reduceMul, Nat.reduceSub, Int.reduceToNat, Int.reduceLE, Int.reduceLT, Int.reduceEq, Int.reduceNe, reduceCtorEq, Nat.reduceLT, Nat.reduceLeDiff, hv]
    refine call_ev (r := .int .i64 3) (by rw [hw, ← hr]; exact ev_runeLen hX hs n) ?_
    simp only [go_sem, Nat.reduceMod, Nat.reduceBNe, Nat.reduceBEq, Nat.reduceEqDiff, Nat.reduceAdd, Int.reduceAdd, Nat.reduceMul, Nat.reduceSub, Int.reduceToNat, Int.reduceLE, Int.reduceLT, Int.reduceEq, Int.reduceNe, reduceCtorEq, Nat.reduceLT, Nat.reduceLeDiff]
    rw [shr64 _ _ (by omega), i64_or224 (by omega) (by omega)]
    refine call_evm (ev_put hX hs _ 0 0 1 _ _ _ _ _ rfl rfl (by omega) (by omega)) ?_
    rintro r H' ⟨rfl, rfl⟩
    simp only [go_sem, Nat.reduceMod, Nat.reduceBNe, Nat.reduceBEq, Nat.reduceEqDiff, Nat.reduceAdd, Int.reduceAdd, Nat.reduceMul, Nat.reduceSub, Int.reduceToNat, Int.reduceLE, Int.reduceLT, Int.reduceEq, Int.reduceNe, reduceCtorEq, Nat.reduceLT, Nat.reduceLeDiff, Int.reduceToNat, Int.reducePow, Int.fdiv_eq_ediv_of_nonneg, Int.reduceLE, Int.reduceLT, Int.reduceEq, Nat.reducePow, Int.reduceMul]
    rw [shr64 _ _ (by omega), i64_and63 (by omega) (by omega), i64_or128 (by omega) (by omega)]
    refine call_evm (ev_put hX hs _ 1 0 1 _ _ _ _ _ rfl rfl (by omega) (by omega)) ?_
    rintro r H' ⟨rfl, rfl⟩
    simp only [go_sem, Nat.reduceMod, Nat.reduceBNe, Nat.reduceBEq, Nat.reduceEqDiff, Nat.reduceAdd, Int.reduceAdd, Nat.reduceMul, Nat.reduceSub, Int.reduceToNat, Int.reduceLE, Int.reduceLT, Int.reduceEq, Int.reduceNe, reduceCtorEq, Nat.reduceLT, Nat.reduceLeDiff, Int.reduceToNat, Int.reducePow, Int.fdiv_eq_ediv_of_nonneg, Int.reduceLE, Int.reduceLT, Int.reduceEq, Nat.reducePow, Int.reduceMul]
    rw [i64_and63 (by omega) (by omega), i64_or128 (by omega) (by omega)]
    refine call_evm (ev_put hX hs _ 2 0 1 _ _ _ _ _ rfl rfl (by omega) (by omega)) ?_
    rintro r H' ⟨rfl, rfl⟩
    simp only [go_sem, Nat.reduceMod, Nat.reduceBNe, Nat.reduceBEq, Nat.reduceEqDiff, Nat.reduceAdd, Int.reduceAdd, Nat.reduceMul, Nat.reduceSub, Int.reduceToNat, Int.reduceLE, Int.reduceLT, Int.reduceEq, Int.reduceNe, reduceCtorEq, Nat.reduceLT, Nat.reduceLeDiff, Int.reduceToNat, Int.reducePow, Int.fdiv_eq_ediv_of_nonneg, Int.reduceLE, Int.reduceLT, Int.reduceEq, Nat.reducePow, Int.reduceMul]
    simp (disch := omega) only [enc, hv, if_true, encI, if_neg h1, if_neg h2, if_pos h3, wu8, fault, lst, List.map_cons, List.map_nil, u8_byteI]
  · rw [if_neg h3] at hr
    refine ev_of_wpc hs (A_runes_Encode_ok hX) 2 ?_
    simp only [A_runes_Encode, go_sem, Nat.reduceMod, Nat.reduceBNe, Nat.reduceBEq, Nat.reduceEqDiff, Nat.reduceAdd, Int.reduceAdd, Nat.reduceMul, Nat.reduceSub, Int.reduceToNat, Int.reduceLE, Int.reduceLT, Int.reduceEq, Int.reduceNe, reduceCtorEq, Nat.reduceLT, Nat.reduceLeDiff]
    refine call_ev (ev_is hX hs n (by omega)) ?_
    simp only [go_sem, Nat.reduceMod, Nat.reduceBNe, Nat.reduceBEq, Nat.reduceEqDiff, Nat.reduceAdd, Int.reduceAdd, Nat.reduceMul, Nat.reduceSub, Int.reduceToNat, Int.reduceLE, Int.reduceLT, Int.reduceEq, Int.reduceNe, reduceCtorEq, Nat.reduceLT, Nat.reduceLeDiff, hv]
    refine call_ev (r := .int .i64 4) (by rw [hw, ← hr]; exact ev_runeLen hX hs n) ?_
    simp only [go_sem, Nat.reduceMod, Nat.reduceBNe, Nat.reduceBEq, Nat.reduceEqDiff, Nat.reduceAdd, Int.reduceAdd, Nat.reduceMul, Nat.reduceSub, Int.reduceToNat, Int.reduceLE, Int.reduceLT, Int.reduceEq, Int.reduceNe, reduceCtorEq, Nat.reduceLT, Nat.reduceLeDiff]
    rw [shr64 _ _ (by omega), i64_or240 (by omega) (by omega)]
    refine call_evm (ev_put hX hs _ 0 0 1 _ _ _ _ _ rfl rfl (by omega) (by omega)) ?_
    rintro r H' ⟨rfl, rfl⟩
    simp only [go_sem, Nat.reduceMod, Nat.reduceBNe, Nat.reduceBEq, Nat.reduceEqDiff, Nat.reduceAdd, Int.reduceAdd, Nat.reduceMul, Nat.reduceSub, Int.reduceToNat, Int.reduceLE, Int.reduceLT, Int.reduceEq, Int.reduceNe, reduceCtorEq, Nat.reduceLT, Nat.reduceLeDiff, Int.reduceToNat, Int.reducePow, Int.fdiv_eq_ediv_of_nonneg, Int.reduceLE, Int.reduceLT, Int.reduceEq, Nat.reducePow, Int.reduceMul]
    rw [shr64 _ _ (by omega), i64_and63 (by omega) (by omega), i64_or128 (by omega) (by omega)]
    refine call_evm (ev_put hX hs _ 1 0 1 _ _ _ _ _ rfl rfl (by omega) (by omega)) ?_
    rintro r H' ⟨rfl, rfl⟩
    simp only [go_sem, Nat.reduceMod, Nat.reduceBNe, Nat.reduceBEq, Nat.reduceEqDiff, Nat.reduceAdd, Int.reduceAdd, Nat.reduceMul, Nat.reduceSub, Int.reduceToNat, Int.reduceLE, Int.reduceLT, Int.reduceEq, Int.reduceNe, reduceCtorEq, Nat.reduceLT, Nat.reduceLeDiff, Int.reduceToNat, Int.reducePow, Int.fdiv_eq_ediv_of_nonneg, Int.reduceLE, Int.reduceLT, Int.reduceEq, Nat.reducePow, Int.reduceMul]
    rw [shr64 _ _ (by omega), i64_and63 (by omega) (by omega), i64_or128 (by omega) (by omega)]
    refine call_evm (ev_put hX hs _ 2 0 1 _ _ _ _ _ rfl rfl (by omega) (by omega)) ?_
    rintro r H' ⟨rfl, rfl⟩
    simp only [go_sem, Nat.reduceMod, Nat.reduceBNe, Nat.reduceBEq, Nat.reduceEqDiff, Nat.reduceAdd, Int.reduceAdd, Nat.reduceMul, Nat.reduceSub, Int.reduceToNat, Int.reduceLE, Int.reduceLT, Int.reduceEq, Int.reduceNe, reduceCtorEq, Nat.reduceLT, Nat.reduceLeDiff, Int.reduceToNat, Int.reducePow, Int.fdiv_eq_ediv_of_nonneg, Int.reduceLE, Int.reduceLT, Int.reduceEq, Nat.reducePow, Int.reduceMul]
    rw [i64_and63 (by omega) (by omega), i64_or128 (by omega) (by omega)]
    refine call_evm (ev_put hX hs _ 3 0 1 _ _ _ _ _ rfl rfl (by omega) (by omega)) ?_
    rintro r H' ⟨rfl, rfl⟩
    simp only [go_sem, Nat.reduceMod, Nat.reduceBNe, Nat.reduceBEq, Nat.reduceEqDiff, Nat.reduceAdd, Int.reduceAdd, Nat.reduceMul, Nat.reduceSub, Int.reduceToNat, Int.reduceLE, Int.reduceLT, Int.reduceEq, Int.reduceNe, reduceCtorEq, Nat.reduceLT, Nat.reduceLeDiff, Int.reduceToNat, Int.reducePow, Int.fdiv_eq_ediv_of_nonneg, Int.reduceLE, Int.reduceLT, Int.reduceEq, Nat.reducePow, Int.reduceMul]
    simp (disch := omega) only [enc, hv, if_true, encI, if_neg h1, if_neg h2, if_neg h3, wu8, fault, lst, List.map_cons, List.map_nil, u8_byteI]
end
end Go.Avm

/- Cell. -/
namespace Go.Avm
open Go Go.Fm
set_option maxRecDepth 10000
def cellR (k v : Int) : List UInt8 × Int := if k ≠ 1 ∧ k ≠ 2 then ([], 2) else if k = 2 ∧ Rn.valid v = false then ([], 7) else (cellS k v, 0)
section
variable {X : Cx} (hX : X.P = Go.Proofs.Tryz.prog) (hs : Std X)
include hX hs
theorem ev_r33Cell (k v : Int) (hv : -9223372036854775808 ≤ v ∧ v ≤ 9223372036854775807) : Ev X F_ref33_Cell [.int .i64 k, .int .i64 v] (.tuple [.str (cellR k v).1, .int .i64 (cellR k v).2]) := by
  have hc := ev_r33cell hX hs k v hv
  refine ev_of_wpc hs (A_ref33_Cell_ok hX) 0 ?_
  by_cases h1 : k = 1
  · subst h1
    have e : cellR 1 v = (cellS 1 v, 0) := by unfold cellR; rw [if_neg (by decide), if_neg (fun h => absurd h.1 (by decide))]
    rw [e]
    simp only [A_ref33_Cell, go_sem, Nat.reduceMod, Nat.reduceBNe, Nat.reduceBEq, Nat.reduceEqDiff, Nat.reduceAdd, Int.reduceAdd, Nat.reduceMul, Nat.reduceSub, Int.reduceToNat, Int.reduceLE, Int.reduceLT, Int.reduceEq, Int.reduceNe, reduceCtorEq, Nat.reduceLT, Nat.reduceLeDiff]
    refine call_ev hc ?_
    simp only [go_sem, Nat.reduceMod, Nat.reduceBNe, Nat.reduceBEq, Nat.reduceEqDiff, Nat.reduceAdd, Int.reduceAdd, Nat.reduceMul, Nat.reduceSub, Int.reduceToNat, Int.reduceLE, Int.reduceLT, Int.reduceEq, Int.reduceNe, reduceCtorEq, Nat.reduceLT, Nat.reduceLeDiff]
  · by_cases h2 : k = 2
    · subst h2
      simp only [A_ref33_Cell, go_sem, Nat.reduceMod, Nat.reduceBNe, Nat.reduceBEq, Nat.reduceEqDiff, Nat.reduceAdd, Int.reduceAdd, Nat.reduceMul, Nat.reduceSub, Int.reduceToNat, Int.reduceLE, Int.reduceLT, Int.reduceEq, Int.reduceNe, reduceCtorEq, Nat.reduceLT, Nat.reduceLeDiff]
      refine call_ev (ev_refIs hX hs v) ?_
      cases hb : Rn.valid v with
      | true =>
        have e : cellR 2 v = (cellS 2 v, 0) := by unfold cellR; rw [if_neg (by decide), if_neg (fun h => by rw [hb] at h; exact absurd h.2 (by decide))]
        rw [e]
        simp only [go_sem, Nat.reduceMod, Nat.reduceBNe, Nat.reduceBEq, Nat.reduceEqDiff, Nat.reduceAdd, Int.reduceAdd, Nat.reduceMul, Nat.reduceSub, Int.reduceToNat, Int.reduceLE, Int.reduceLT, Int.reduceEq, Int.reduceNe, reduceCtorEq, Nat.reduceLT, Nat.reduceLeDiff]
        refine call_ev hc ?_
        simp only [go_sem, Nat.reduceMod, Nat.reduceBNe, Nat.reduceBEq, Nat.reduceEqDiff, Nat.reduceAdd, Int.reduceAdd, Nat.reduceMul, Nat.reduceSub, Int.reduceToNat, Int.reduceLE, Int.reduceLT, Int.reduceEq, Int.reduceNe, reduceCtorEq, Nat.reduceLT, Nat.reduceLeDiff]
      | false =>
        have e : cellR 2 v = ([], 7) := by unfold cellR; rw [if_neg (by decide), if_pos ⟨rfl, hb⟩]
        rw [e]
        simp only [go_sem, Nat.reduceMod, Nat.reduceBNe, Nat.reduceBEq, Nat.reduceEqDiff, Nat.reduceAdd, Int.reduceAdd, Nat.reduceMul, Nat.reduceSub, Int.reduceToNat, Int.reduceLE, Int.reduceLT, Int.reduceEq, Int.reduceNe, reduceCtorEq, Nat.reduceLT, Nat.reduceLeDiff]
    · have e : cellR k v = ([], 2) := by unfold cellR; rw [if_pos ⟨h1, h2⟩]
      rw [e]
      simp only [A_ref33_Cell, go_sem, Nat.reduceMod, Nat.reduceBNe, Nat.reduceBEq, Nat.reduceEqDiff, Nat.reduceAdd, Int.reduceAdd, Nat.reduceMul, Nat.reduceSub, Int.reduceToNat, Int.reduceLE, Int.reduceLT, Int.reduceEq, Int.reduceNe, reduceCtorEq, Nat.reduceLT, Nat.reduceLeDiff, h1, h2]
variable (hP : X.G (sRen.g 17) = some tabQ)
include hP
theorem ev_Cell (k v : Int) (hv : -9223372036854775808 ≤ v ∧ v ≤ 9223372036854775807) : Ev X F_format_Cell [.int .i64 k, .int .i64 v] (.tuple [.str (cellR k v).1, .int .i64 (cellR k v).2]) := by
  have hc := ev_cell hX hs hP k v hv
  refine ev_of_wpc hs (A_format_Cell_ok hX) 0 ?_
  by_cases h1 : k = 1
  · subst h1
    have e : cellR 1 v = (cellS 1 v, 0) := by unfold cellR; rw [if_neg (by decide), if_neg (fun h => absurd h.1 (by decide))]
    rw [e]
    simp only [A_format_Cell, go_sem, Nat.reduceMod, Nat.reduceBNe, Nat.reduceBEq, Nat.reduceEqDiff, Nat.reduceAdd, Int.reduceAdd, Nat.reduceMul, Nat.reduceSub, Int.reduceToNat, Int.reduceLE, Int.reduceLT, Int.reduceEq, Int.reduceNe, reduceCtorEq, Nat.reduceLT, Nat.reduceLeDiff]
    refine call_ev hc ?_
    simp only [go_sem, Nat.reduceMod, Nat.reduceBNe, Nat.reduceBEq, Nat.reduceEqDiff, Nat.reduceAdd, Int.reduceAdd, Nat.reduceMul, Nat.reduceSub, Int.reduceToNat, Int.reduceLE, Int.reduceLT, Int.reduceEq, Int.reduceNe, reduceCtorEq, Nat.reduceLT, Nat.reduceLeDiff]
  · by_cases h2 : k = 2
    · subst h2
      simp only [A_format_Cell, go_sem, Nat.reduceMod, Nat.reduceBNe, Nat.reduceBEq, Nat.reduceEqDiff, Nat.reduceAdd, Int.reduceAdd, Nat.reduceMul, Nat.reduceSub, Int.reduceToNat, Int.reduceLE, Int.reduceLT, Int.reduceEq, Int.reduceNe, reduceCtorEq, Nat.reduceLT, Nat.reduceLeDiff]
      refine call_ev (ev_Encode hX hs v (by omega)) ?_
      cases hb : Rn.valid v with
      | true =>
        have e : cellR 2 v = (cellS 2 v, 0) := by unfold cellR; rw [if_neg (by decide), if_neg (fun h => by rw [hb] at h; exact absurd h.2 (by decide))]
        rw [e]
        simp only [go_sem, Nat.reduceMod, Nat.reduceBNe, Nat.reduceBEq, Nat.reduceEqDiff, Nat.reduceAdd, Int.reduceAdd, Nat.reduceMul, Nat.reduceSub, Int.reduceToNat, Int.reduceLE, Int.reduceLT, Int.reduceEq, Int.reduceNe, reduceCtorEq, Nat.reduceLT, Nat.reduceLeDiff, Rn.fault]
        refine call_ev hc ?_
        simp only [go_sem, Nat.reduceMod, Nat.reduceBNe, Nat.reduceBEq, Nat.reduceEqDiff, Nat.reduceAdd, Int.reduceAdd, Nat.reduceMul, Nat.reduceSub, Int.reduceToNat, Int.reduceLE, Int.reduceLT, Int.reduceEq, Int.reduceNe, reduceCtorEq, Nat.reduceLT, Nat.reduceLeDiff]
      | false =>
        have e : cellR 2 v = ([], 7) := by unfold cellR; rw [if_neg (by decide), if_pos ⟨rfl, hb⟩]
        rw [e]
        simp only [go_sem, Nat.reduceMod, Nat.reduceBNe, Nat.reduceBEq, Nat.reduceEqDiff, Nat.reduceAdd, Int.reduceAdd, Nat.reduceMul, Nat.reduceSub, Int.reduceToNat, Int.reduceLE, Int.reduceLT, Int.reduceEq, Int.reduceNe, reduceCtorEq, Nat.reduceLT, Nat.reduceLeDiff, Rn.fault]
    · have e : cellR k v = ([], 2) := by unfold cellR; rw [if_pos ⟨h1, h2⟩]
      rw [e]
      simp only [A_format_Cell, go_sem, Nat.reduceMod, Nat.reduceBNe, Nat.reduceBEq, Nat.reduceEqDiff, Nat.reduceAdd, Int.reduceAdd, Nat.reduceMul, Nat.reduceSub, Int.reduceToNat, Int.reduceLE, Int.reduceLT, Int.reduceEq, Int.reduceNe, reduceCtorEq, Nat.reduceLT, Nat.reduceLeDiff, h1, h2]
end
end Go.Avm

/- The reference's pictures. -/
namespace Go.Avm
open Go Go.Fm
set_option maxRecDepth 10000
section
variable {X : Cx} (hX : X.P = Go.Proofs.Tryz.prog) (hs : Std X)
include hX hs
theorem rpic_L2 {Q : Exit → Fr → Heap → Prop} {F : FL} (k r l0 l1 : Int) (c : List Int) (rows cols j : Nat) (K : Heap) (v5 v6 v7 v8 v10 : AV) (hc : c.length = rows * cols) (b0 : rows ≤ 400) (b1 : cols ≤ 400) (hj : j < cols) (h5 : v5 = .int .i64 rows) (h6 : v6 = .int .i64 cols)
    (hF : FL.has F.get [(12, .int .i64 0), (1, .ptr 0 0), (5, v5), (6, v6), (7, v7), (8, v8), (9, .int .i64 j), (10, v10), (11, .sl .ex [])])
    (hQ : ∀ (F' : FL) (G : Heap) (tk : Nat), FL.has F'.get [(11, lst (AV.int .i64) (.tok tk 1) (colL cols rows j c)), (1, .ptr 0 0), (5, v5), (6, v6), (7, v7), (8, v8), (9, .int .i64 j), (10, v10)] → Q (.exit 4) F'.get (.box [.int .i64 k, .int .i64 r, .int .i64 l0, .int .i64 l1, lst (AV.int .i64) .ro c] :: (K ++ G))) :
    wpc X 102 (.loop A_ref33_PictureL2) Q F.get (.box [.int .i64 k, .int .i64 r, .int .i64 l0, .int .i64 l1, lst (AV.int .i64) .ro c] :: K) := by
  subst h5 h6
  have hcb : c.length ≤ 160000 := by rw [hc]; exact Nat.mul_le_mul b0 b1
  refine w_loop hs.hm (ι := Nat) (fun n => n ≤ rows) (fun n => [(12, .int .i64 n), (1, .ptr 0 0), (5, .int .i64 rows), (6, .int .i64 cols), (7, v7), (8, v8), (9, .int .i64 j), (10, v10), (11, lst (AV.int .i64) (.tok (K.length + 1) 1) (colL cols n j c))]) (fun n => .box [.int .i64 k, .int .i64 r, .int .i64 l0, .int .i64 l1, lst (AV.int .i64) .ro c] :: (K ++ [.tok n])) (fun n => rows - n) 0 ⟨Nat.zero_le _, _, _, wk_tok 11 1 hF.2.2.2.2.2.2.2.2.1, ?_⟩ fun n hn => ?_
  · obtain ⟨f1, f2, f3, f4, f5, f6, f7, f8, f9, _⟩ := hF
    exact ⟨⟨f1, f2, f3, f4, f5, f6, f7, f8, rfl, trivial⟩, rfl⟩
  by_cases hn' : n < rows
  · have h1 : (n : Int) < rows := by omega
    have hw : IntKind.i64.wrap ((n : Int) + 1) = ((n + 1 : Nat) : Int) := by rw [wi64 (by omega)]; omega
    have h2 : j + n * cols < c.length := by
      rw [hc]
      have := Nat.mul_le_mul_right cols hn'
      rw [Nat.succ_mul] at this
      omega
    have em : (n : Int) * (cols : Nat) = ((n * cols : Nat) : Int) := by simp
    have hw2 : IntKind.i64.wrap ((n : Int) * (cols : Nat)) = ((n * cols : Nat) : Int) := by rw [em, wi64 (by omega)]
    have hw3 : IntKind.i64.wrap (((n * cols : Nat) : Int) + (j : Nat)) = ((j + n * cols : Nat) : Int) := by rw [wi64 (by omega)]; omega
    simp only [A_ref33_PictureL2, go_sem, Nat.reduceMod, Nat.reduceBNe, Nat.reduceBEq, Nat.reduceEqDiff, Nat.reduceAdd, Int.reduceAdd, Nat.reduceMul, Nat.reduceSub, Int.reduceToNat, Int.reduceLE, Int.reduceLT, Int.reduceEq, Int.reduceNe, reduceCtorEq, Nat.reduceLT, Nat.reduceLeDiff, h1, hw, hw2, hw3, def0, app1, gx0, gs0, colL_len, ← colL_succ]
    exact ⟨by omega, ⟨by omega, by omega⟩, n + 1, by omega, hn', ⟨rfl, rfl⟩, rfl⟩
  · have h1 : ¬ (n : Int) < rows := by omega
    have en : n = rows := by omega
    subst en
    simp only [A_ref33_PictureL2, go_sem, Nat.reduceMod, Nat.reduceBNe, Nat.reduceBEq, Nat.reduceEqDiff, Nat.reduceAdd, Int.reduceAdd, Nat.reduceMul, Nat.reduceSub, Int.reduceToNat, Int.reduceLE, Int.reduceLT, Int.reduceEq, Int.reduceNe, reduceCtorEq, Nat.reduceLT, Nat.reduceLeDiff, h1]
    exact hQ _ _ (K.length + 1) ⟨rfl, rfl, rfl, rfl, rfl, rfl, rfl, rfl, trivial⟩
theorem rpic_L1 {Q : Exit → Fr → Heap → Prop} {F : FL} (k r l0 l1 : Int) (c : List Int) (rows cols i : Nat) (T : List UInt8) (K : Heap) (hv : ∀ v ∈ c, -9223372036854775808 ≤ v ∧ v ≤ 9223372036854775807) (hc : c.length = rows * cols) (b0 : rows ≤ 400) (b1 : cols ≤ 400) (hi : i < rows) (hT : T.length ≤ 100000000)
    (hF : FL.has F.get [(9, .int .i64 0), (1, .ptr 0 0), (5, .int .i64 rows), (6, .int .i64 cols), (7, .str T), (8, .int .i64 i)])
    (hQ : ∀ (F' : FL) (G : Heap), FL.has F'.get [(1, .ptr 0 0), (5, .int .i64 rows), (6, .int .i64 cols), (7, .str (T ++ rowQ k c rows cols (decide (r = 2)) i cols)), (8, .int .i64 i)] → Q (.exit 2) F'.get (.box [.int .i64 k, .int .i64 r, .int .i64 l0, .int .i64 l1, lst (AV.int .i64) .ro c] :: G)) :
    wpc X 102 (.loop A_ref33_PictureL1) Q F.get (.box [.int .i64 k, .int .i64 r, .int .i64 l0, .int .i64 l1, lst (AV.int .i64) .ro c] :: K) := by
  have hcb : c.length ≤ 160000 := by rw [hc]; exact Nat.mul_le_mul b0 b1
  refine w_loop' hs.hm (ι := Nat × Heap) (fun x => x.1 ≤ cols) (fun x => [(9, .int .i64 x.1), (1, .ptr 0 0), (5, .int .i64 rows), (6, .int .i64 cols), (7, .str (T ++ rowQ k c rows cols (decide (r = 2)) i x.1)), (8, .int .i64 i)]) (fun x => .box [.int .i64 k, .int .i64 r, .int .i64 l0, .int .i64 l1, lst (AV.int .i64) .ro c] :: x.2) (fun x => cols - x.1) (0, K) ⟨Nat.zero_le _, ?_, rfl⟩ fun x hx => ?_
  · obtain ⟨f1, f2, f3, f4, f5, f6, _⟩ := hF
    exact ⟨f1, f2, f3, f4, by rw [f5]; simp [rowQ, Lib.join_nil], f6, trivial⟩
  obtain ⟨j, G⟩ := x
  dsimp only at hx ⊢
  by_cases hj : j < cols
  · have h1 : (j : Int) < cols := by omega
    have hw : IntKind.i64.wrap ((j : Int) + 1) = ((j + 1 : Nat) : Int) := by rw [wi64 (by omega)]; omega
    have h2 : i * cols + j < c.length := by
      rw [hc]
      have := Nat.mul_le_mul_right cols hi
      rw [Nat.succ_mul] at this
      omega
    have em : (i : Int) * (cols : Nat) = ((i * cols : Nat) : Int) := by simp
    have hw2 : IntKind.i64.wrap ((i : Int) * (cols : Nat)) = ((i * cols : Nat) : Int) := by rw [em, wi64 (by omega)]
    have hw3 : IntKind.i64.wrap (((i * cols : Nat) : Int) + (j : Nat)) = ((i * cols + j : Nat) : Int) := by rw [wi64 (by omega)]; omega
    have hcv := hv (c.getD (i * cols + j) 0) (by rw [List.getD_eq_getElem?_getD, List.getElem?_eq_getElem h2]; exact List.getElem_mem _)
    have hcl := cellS_len (k := k) hcv
    have hrq := rowQ_succ k c rows cols (decide (r = 2)) i j
    have hrl := rowQ_len (k := k) hv rows cols (decide (r = 2)) i j
    have hpl := plc_len (k := k) hv rows cols (decide (r = 2)) i j
    simp only [A_ref33_PictureL1, go_sem, Nat.reduceMod, Nat.reduceBNe, Nat.reduceBEq, Nat.reduceEqDiff, Nat.reduceAdd, Int.reduceAdd, Nat.reduceMul, Nat.reduceSub, Int.reduceToNat, Int.reduceLE, Int.reduceLT, Int.reduceEq, Int.reduceNe, reduceCtorEq, Nat.reduceLT, Nat.reduceLeDiff, h1, hw2, hw3, def0]
    refine ⟨by omega, callq_ev (ev_r33cell hX hs k _ hcv) ?_⟩
    by_cases hk : k = 1
    · subst hk
      by_cases hr : r = 2
      · subst hr
        have ep : plc 1 c rows cols true i j = padB true (wid 1 (colL cols rows j c) 0) (cellS 1 (c.getD (i * cols + j) 0)) := if_pos ⟨rfl, rfl⟩
        simp only [go_sem, Nat.reduceMod, Nat.reduceBNe, Nat.reduceBEq, Nat.reduceEqDiff, Nat.reduceAdd, Int.reduceAdd, Nat.reduceMul, Nat.reduceSub, Int.reduceToNat, Int.reduceLE, Int.reduceLT, Int.reduceEq, Int.reduceNe, reduceCtorEq, Nat.reduceLT, Nat.reduceLeDiff]
        refine rpic_L2 hX hs 1 2 l0 l1 c rows cols j G _ _ (.str (T ++ rowQ 1 c rows cols true i j)) (.int .i64 i) (.str (cellS 1 (c.getD (i * cols + j) 0))) hc b0 b1 hj rfl rfl ⟨rfl, rfl, rfl, rfl, rfl, rfl, rfl, rfl, rfl, trivial⟩ fun F' G' tk hF' => ?_
        obtain ⟨g1, g2, g3, g4, g5, g6, g7, g8, _⟩ := hF'
        have hwd := ev_r33widest hX hs 1 (colL cols rows j c) [] (colL_in hv _ _ _) (by rw [colL_len]; omega) (by decide)
        simp only [go_sem, Nat.reduceMod, Nat.reduceBNe, Nat.reduceBEq, Nat.reduceEqDiff, Nat.reduceAdd, Int.reduceAdd, Nat.reduceMul, Nat.reduceSub, Int.reduceToNat, Int.reduceLE, Int.reduceLT, Int.reduceEq, Int.reduceNe, reduceCtorEq, Nat.reduceLT, Nat.reduceLeDiff, g1, g2, g3, g4, g5, g6, g7, g8]
        refine call_ev hwd ?_
        have hww : IntKind.i64.wrap (((wid 1 (colL cols rows j c) 0 : Nat) : Int) - ((cellS 1 (c.getD (i * cols + j) 0)).length : Nat)) = ((wid 1 (colL cols rows j c) 0 : Nat) : Int) - ((cellS 1 (c.getD (i * cols + j) 0)).length : Nat) := by
          have := wid_le (k := 1) (l := colL cols rows j c) (n := 0) (m := 21) (colL_in hv _ _ _) (by decide) (by decide)
          rw [wi64 (by omega)]
        have hbl := ev_r33blanks hX hs (((wid 1 (colL cols rows j c) 0 : Nat) : Int) - ((cellS 1 (c.getD (i * cols + j) 0)).length : Nat)) 32 (by
          have := wid_le (k := 1) (l := colL cols rows j c) (n := 0) (m := 21) (colL_in hv _ _ _) (by decide) (by decide)
          omega)
        have hpe : List.replicate ((((wid 1 (colL cols rows j c) 0 : Nat) : Int) - ((cellS 1 (c.getD (i * cols + j) 0)).length : Nat)).toNat) 32 ++ cellS 1 (c.getD (i * cols + j) 0) = plc 1 c rows cols true i j := by
          rw [ep, padB, if_pos rfl, blk]
          congr 2
          omega
        have hpel := congrArg List.length hpe
        rw [List.length_append] at hpel
        simp only [decide_true] at hpl hrq hrl
        simp only [go_sem, Nat.reduceMod, Nat.reduceBNe, Nat.reduceBEq, Nat.reduceEqDiff, Nat.reduceAdd, Int.reduceAdd, Nat.reduceMul, Nat.reduceSub, Int.reduceToNat, Int.reduceLE, Int.reduceLT, Int.reduceEq, Int.reduceNe, reduceCtorEq, Nat.reduceLT, Nat.reduceLeDiff, g1, g2, g3, g4, g5, g6, g7, g8, hww]
        refine call_ev hbl ?_
        simp only [go_sem, Nat.reduceMod, Nat.reduceBNe, Nat.reduceBEq, Nat.reduceEqDiff, Nat.reduceAdd, Int.reduceAdd, Nat.reduceMul, Nat.reduceSub, Int.reduceToNat, Int.reduceLE, Int.reduceLT, Int.reduceEq, Int.reduceNe, reduceCtorEq, Nat.reduceLT, Nat.reduceLeDiff, g1, g2, g3, g4, g5, g6, g7, g8, hpe]
        refine ⟨by omega, fun hj0 => ?_, fun hj0 => ?_⟩
        · rw [if_pos (by first | exact ⟨rfl, by omega⟩ | exact ⟨trivial, by omega⟩ | (simp; omega) | omega)] at hrq
          exact ⟨by omega, by simp only [List.length_append]; omega, (j + 1, G ++ G'), by dsimp only; omega, hj, ⟨by rw [hw], by rw [hrq, ← List.append_assoc]; rfl⟩, rfl⟩
        · rw [if_neg (by intro h; have := h.2; omega)] at hrq
          exact ⟨by simp only [List.length_append]; omega, (j + 1, G ++ G'), by dsimp only; omega, hj, ⟨by rw [hw], by rw [hrq, ← List.append_assoc]; rfl⟩, rfl⟩
      · have ep : plc 1 c rows cols (decide (r = 2)) i j = cellS 1 (c.getD (i * cols + j) 0) := if_neg (fun h => hr (of_decide_eq_true h.2))
        rw [ep] at hrq hpl
        rw [decide_eq_false hr] at hrq hrl
        simp only [go_sem, Nat.reduceMod, Nat.reduceBNe, Nat.reduceBEq, Nat.reduceEqDiff, Nat.reduceAdd, Int.reduceAdd, Nat.reduceMul, Nat.reduceSub, Int.reduceToNat, Int.reduceLE, Int.reduceLT, Int.reduceEq, Int.reduceNe, reduceCtorEq, Nat.reduceLT, Nat.reduceLeDiff, hr]
        refine ⟨fun hj0 => ?_, fun hj0 => ?_⟩
        · rw [if_pos (by first | exact ⟨rfl, by omega⟩ | exact ⟨trivial, by omega⟩ | (simp; omega) | omega)] at hrq
          exact ⟨by omega, by simp only [List.length_append]; omega, (j + 1, G), by dsimp only; omega, hj, ⟨by rw [hw], by rw [hrq, ← List.append_assoc]; rfl⟩, rfl⟩
        · rw [if_neg (fun h => by omega)] at hrq
          exact ⟨by simp only [List.length_append]; omega, (j + 1, G), by dsimp only; omega, hj, ⟨by rw [hw], by rw [hrq, ← List.append_assoc]; rfl⟩, rfl⟩
    · have ep : plc k c rows cols (decide (r = 2)) i j = cellS k (c.getD (i * cols + j) 0) := if_neg (fun h => hk h.1)
      rw [ep, if_neg (fun h => hk h.1)] at hrq
      simp only [go_sem, Nat.reduceMod, Nat.reduceBNe, Nat.reduceBEq, Nat.reduceEqDiff, Nat.reduceAdd, Int.reduceAdd, Nat.reduceMul, Nat.reduceSub, Int.reduceToNat, Int.reduceLE, Int.reduceLT, Int.reduceEq, Int.reduceNe, reduceCtorEq, Nat.reduceLT, Nat.reduceLeDiff, hk]
      exact ⟨by simp only [List.length_append]; omega, (j + 1, G), by dsimp only; omega, hj, ⟨by rw [hw], by rw [hrq, ← List.append_assoc]; simp⟩, rfl⟩
  · have h1 : ¬ (j : Int) < cols := by omega
    have ej : j = cols := by omega
    subst ej
    simp only [A_ref33_PictureL1, go_sem, Nat.reduceMod, Nat.reduceBNe, Nat.reduceBEq, Nat.reduceEqDiff, Nat.reduceAdd, Int.reduceAdd, Nat.reduceMul, Nat.reduceSub, Int.reduceToNat, Int.reduceLE, Int.reduceLT, Int.reduceEq, Int.reduceNe, reduceCtorEq, Nat.reduceLT, Nat.reduceLeDiff, h1]
    exact hQ _ _ ⟨rfl, rfl, rfl, rfl, rfl, trivial⟩
theorem rpic_L0 {Q : Exit → Fr → Heap → Prop} {F : FL} (k r l0 l1 : Int) (c : List Int) (rows cols : Nat) (hv : ∀ v ∈ c, -9223372036854775808 ≤ v ∧ v ≤ 9223372036854775807) (hc : c.length = rows * cols) (b0 : rows ≤ 400) (b1 : cols ≤ 400)
    (hF : FL.has F.get [(8, .int .i64 0), (7, .str []), (6, .int .i64 cols), (5, .int .i64 rows), (1, .ptr 0 0)])
    (hQ : ∀ (F' : FL) (G : Heap), FL.has F'.get [(7, .str (picQ k c rows cols (decide (r = 2)) rows))] → Q (.exit 0) F'.get (.box [.int .i64 k, .int .i64 r, .int .i64 l0, .int .i64 l1, lst (AV.int .i64) .ro c] :: G)) :
    wpc X 102 (.loop A_ref33_PictureL0) Q F.get [.box [.int .i64 k, .int .i64 r, .int .i64 l0, .int .i64 l1, lst (AV.int .i64) .ro c]] := by
  refine w_loop' hs.hm (ι := Nat × Heap) (fun x => x.1 ≤ rows) (fun x => [(8, .int .i64 x.1), (7, .str (picQ k c rows cols (decide (r = 2)) x.1)), (6, .int .i64 cols), (5, .int .i64 rows), (1, .ptr 0 0)]) (fun x => .box [.int .i64 k, .int .i64 r, .int .i64 l0, .int .i64 l1, lst (AV.int .i64) .ro c] :: x.2) (fun x => rows - x.1) (0, []) ⟨Nat.zero_le _, hF, rfl⟩ fun x hx => ?_
  obtain ⟨i, G⟩ := x
  dsimp only at hx ⊢
  by_cases hi : i < rows
  · have h1 : (i : Int) < rows := by omega
    have hw : IntKind.i64.wrap ((i : Int) + 1) = ((i + 1 : Nat) : Int) := by rw [wi64 (by omega)]; omega
    have hps := picQ_succ k c rows cols (decide (r = 2)) i
    have hpl := picQ_len (k := k) hv rows cols (decide (r = 2)) i
    have hpb : i * (cols * 102 + 1) ≤ 400 * (400 * 102 + 1) := Nat.mul_le_mul (by omega) (by omega)
    have hrl := rowQ_len (k := k) hv rows cols (decide (r = 2)) i cols
    simp only [A_ref33_PictureL0, go_sem, Nat.reduceMod, Nat.reduceBNe, Nat.reduceBEq, Nat.reduceEqDiff, Nat.reduceAdd, Int.reduceAdd, Nat.reduceMul, Nat.reduceSub, Int.reduceToNat, Int.reduceLE, Int.reduceLT, Int.reduceEq, Int.reduceNe, reduceCtorEq, Nat.reduceLT, Nat.reduceLeDiff, h1]
    refine rpic_L1 hX hs k r l0 l1 c rows cols i _ G hv hc b0 b1 hi (by omega) ⟨rfl, rfl, rfl, rfl, rfl, rfl, trivial⟩ fun F' G' hF' => ?_
    obtain ⟨g1, g2, g3, g4, g5, _⟩ := hF'
    simp only [go_sem, Nat.reduceMod, Nat.reduceBNe, Nat.reduceBEq, Nat.reduceEqDiff, Nat.reduceAdd, Int.reduceAdd, Nat.reduceMul, Nat.reduceSub, Int.reduceToNat, Int.reduceLE, Int.reduceLT, Int.reduceEq, Int.reduceNe, reduceCtorEq, Nat.reduceLT, Nat.reduceLeDiff, g1, g2, g3, g4, g5]
    exact ⟨by simp only [List.length_append]; omega, (i + 1, G'), by dsimp only; omega, hi, ⟨by rw [hw], by rw [hps, ← List.append_assoc]⟩, rfl⟩
  · have h1 : ¬ (i : Int) < rows := by omega
    have ei : i = rows := by omega
    subst ei
    simp only [A_ref33_PictureL0, go_sem, Nat.reduceMod, Nat.reduceBNe, Nat.reduceBEq, Nat.reduceEqDiff, Nat.reduceAdd, Int.reduceAdd, Nat.reduceMul, Nat.reduceSub, Int.reduceToNat, Int.reduceLE, Int.reduceLT, Int.reduceEq, Int.reduceNe, reduceCtorEq, Nat.reduceLT, Nat.reduceLeDiff, h1]
    exact hQ _ _ ⟨rfl, trivial⟩
theorem ev_r33Picture (a : Lat.Arr) (hv : ∀ v ∈ a.c, -9223372036854775808 ≤ v ∧ v ≤ 9223372036854775807) (hl : a.c.length < 1000000) :
    Ev X F_ref33_Picture [arrV a] (.tuple [.str (picR a).1, .int .i64 (picR a).2]) := by
  refine ev_of_k (evK_of_wpc hs (A_ref33_Picture_ok hX) ?_)
  have hck := ev_r6Check hX hs a hl
  by_cases h : Lat.arrE a = 0
  · obtain ⟨gr, g0, g1, gc, gk⟩ := arrG h
    have e0 : picR a = (pic1 a, 0) := if_neg (by omega)
    rw [e0]
    have h2 := fun (hr : ¬ a.r < 2) => arr2 h hr
    have hp : pic1 a = picQ a.k a.c (if a.r = 2 then a.l0.toNat else 1) (if a.r = 2 then a.l1.toNat else a.c.length) (decide (a.r = 2)) (if a.r = 2 then a.l0.toNat else 1) := by
      unfold pic1
      by_cases hr : a.r < 2
      · rw [if_pos hr, if_neg (by omega), if_neg (by omega), decide_eq_false (by omega), picQ_one]
      · rw [if_neg hr, if_pos (by omega), if_pos (by omega), decide_eq_true (by omega), picQ_eq _ _ _ _ _ (Nat.le_refl _)]
    have hcc : a.c.length = (if a.r = 2 then a.l0.toNat else 1) * (if a.r = 2 then a.l1.toNat else a.c.length) := by
      by_cases hr : a.r = 2
      · obtain ⟨m0, m1, q0, q1, q2, _⟩ := h2 (by omega)
        rw [if_pos hr, if_pos hr, q2, q0, q1]; rfl
      · rw [if_neg hr, if_neg hr, Nat.one_mul]
    have hrows : (if a.r = 2 then a.l0.toNat else 1) ≤ 400 := by split <;> omega
    have hcols : (if a.r = 2 then a.l1.toNat else a.c.length) ≤ 400 := by split <;> omega
    obtain ⟨k, r, l0, l1, c⟩ := a
    dsimp only at *
    rw [hp]
    simp only [A_ref33_Picture, arrV, go_sem, Nat.reduceMod, Nat.reduceBNe, Nat.reduceBEq, Nat.reduceEqDiff, Nat.reduceAdd, Int.reduceAdd, Nat.reduceMul, Nat.reduceSub, Int.reduceToNat, Int.reduceLE, Int.reduceLT, Int.reduceEq, Int.reduceNe, reduceCtorEq, Nat.reduceLT, Nat.reduceLeDiff]
    refine call_ev hck ?_
    simp only [h, go_sem, Nat.reduceMod, Nat.reduceBNe, Nat.reduceBEq, Nat.reduceEqDiff, Nat.reduceAdd, Int.reduceAdd, Nat.reduceMul, Nat.reduceSub, Int.reduceToNat, Int.reduceLE, Int.reduceLT, Int.reduceEq, Int.reduceNe, reduceCtorEq, Nat.reduceLT, Nat.reduceLeDiff]
    refine ⟨fun hr => ?_, fun hr => ?_⟩
    · obtain ⟨m0, m1, q0, q1, q2, _⟩ := h2 (by omega)
      subst hr q0 q1
      simp only [if_true, Int.toNat_natCast] at hrows hcols hcc ⊢
      exact rpic_L0 hX hs k 2 _ _ c m0 m1 hv hcc hrows hcols ⟨rfl, rfl, rfl, rfl, rfl, trivial⟩ fun F' G hF' => by
        obtain ⟨f1, _⟩ := hF'
        simp only [go_sem, Nat.reduceMod, Nat.reduceBNe, Nat.reduceBEq, Nat.reduceEqDiff, Nat.reduceAdd, Int.reduceAdd, Nat.reduceMul, Nat.reduceSub, Int.reduceToNat, Int.reduceLE, Int.reduceLT, Int.reduceEq, Int.reduceNe, reduceCtorEq, Nat.reduceLT, Nat.reduceLeDiff, f1]
        exact ⟨⟨_, rfl⟩, rfl⟩
    · simp only [hr, if_false] at hrows hcols hcc ⊢
      exact rpic_L0 hX hs k r _ _ c 1 c.length hv hcc hrows hcols ⟨rfl, rfl, rfl, rfl, rfl, trivial⟩ fun F' G hF' => by
        obtain ⟨f1, _⟩ := hF'
        simp only [go_sem, Nat.reduceMod, Nat.reduceBNe, Nat.reduceBEq, Nat.reduceEqDiff, Nat.reduceAdd, Int.reduceAdd, Nat.reduceMul, Nat.reduceSub, Int.reduceToNat, Int.reduceLE, Int.reduceLT, Int.reduceEq, Int.reduceNe, reduceCtorEq, Nat.reduceLT, Nat.reduceLeDiff, f1]
        exact ⟨⟨_, rfl⟩, by simp only [hr, decide_false]; rfl⟩
  · have e0 : picR a = ([], Lat.arrE a) := if_pos h
    rw [e0]
    simp only [A_ref33_Picture, arrV, go_sem, Nat.reduceMod, Nat.reduceBNe, Nat.reduceBEq, Nat.reduceEqDiff, Nat.reduceAdd, Int.reduceAdd, Nat.reduceMul, Nat.reduceSub, Int.reduceToNat, Int.reduceLE, Int.reduceLT, Int.reduceEq, Int.reduceNe, reduceCtorEq, Nat.reduceLT, Nat.reduceLeDiff]
    refine call_ev hck ?_
    simp only [h, go_sem, Nat.reduceMod, Nat.reduceBNe, Nat.reduceBEq, Nat.reduceEqDiff, Nat.reduceAdd, Int.reduceAdd, Nat.reduceMul, Nat.reduceSub, Int.reduceToNat, Int.reduceLE, Int.reduceLT, Int.reduceEq, Int.reduceNe, reduceCtorEq, Nat.reduceLT, Nat.reduceLeDiff]
    exact ⟨⟨_, rfl⟩, rfl⟩
end
end Go.Avm

/- The law of pictures. -/
namespace Go.Avm
open Go Go.Fm
set_option maxRecDepth 10000
section
variable {X : Cx} (hX : X.P = Go.Proofs.Tryz.prog) (hs : Std X) (hP : X.G (sRen.g 17) = some tabQ) {te : Nat} (hR : X.G (sRen.g 16) = some [.ifc te .undef])
include hX hs hP hR
theorem ev_FormatPictures (a : Lat.Arr) (k v : Int) (hv : ∀ v ∈ a.c, -9223372036854775808 ≤ v ∧ v ≤ 9223372036854775807) (hw : -9223372036854775808 ≤ v ∧ v ≤ 9223372036854775807) : Ev X F_law33_FormatPictures [arrV a, .int .i64 k, .int .i64 v] (.bool true) := by
  refine ev_of_k (evK_of_wpc hs (A_law33_FormatPictures_ok hX) ?_)
  have hf := ev_Far33 hX hs a
  have h3 := ev_Cell hX hs hP k v hw
  have h4 := ev_r33Cell hX hs k v hw
  generalize cellR k v = W at h3 h4
  obtain ⟨w, e⟩ := W
  cases hfar : farA a with
  | true =>
    rw [hfar] at hf
    obtain ⟨k', r, l0, l1, c⟩ := a
    simp only [A_law33_FormatPictures, arrV, go_sem, Nat.reduceMod, Nat.reduceBNe, Nat.reduceBEq, Nat.reduceEqDiff, Nat.reduceAdd, Int.reduceAdd, Nat.reduceMul, Nat.reduceSub, Int.reduceToNat, Int.reduceLE, Int.reduceLT, Int.reduceEq, Int.reduceNe, reduceCtorEq, Nat.reduceLT, Nat.reduceLeDiff]
    refine call_ev hf ?_
    simp only [go_sem, Nat.reduceMod, Nat.reduceBNe, Nat.reduceBEq, Nat.reduceEqDiff, Nat.reduceAdd, Int.reduceAdd, Nat.reduceMul, Nat.reduceSub, Int.reduceToNat, Int.reduceLE, Int.reduceLT, Int.reduceEq, Int.reduceNe, reduceCtorEq, Nat.reduceLT, Nat.reduceLeDiff]
    refine call_ev (ev_shown hX hs hP hR) ?_
    simp only [go_sem, Nat.reduceMod, Nat.reduceBNe, Nat.reduceBEq, Nat.reduceEqDiff, Nat.reduceAdd, Int.reduceAdd, Nat.reduceMul, Nat.reduceSub, Int.reduceToNat, Int.reduceLE, Int.reduceLT, Int.reduceEq, Int.reduceNe, reduceCtorEq, Nat.reduceLT, Nat.reduceLeDiff]
    exact ⟨⟨_, rfl⟩, rfl⟩
  | false =>
    rw [hfar] at hf
    have hl : a.c.length < 1000000 := by
      unfold farA at hfar
      simp only [Bool.or_eq_false_iff, decide_eq_false_iff_not] at hfar
      omega
    have h1 := ev_Picture hX hs hP a hv hl
    have h2 := ev_r33Picture hX hs a hv hl
    generalize picR a = T at h1 h2
    obtain ⟨s, f⟩ := T
    obtain ⟨k', r, l0, l1, c⟩ := a
    dsimp only at h1 h2 h3 h4
    simp only [A_law33_FormatPictures, arrV, go_sem, Nat.reduceMod, Nat.reduceBNe, Nat.reduceBEq, Nat.reduceEqDiff, Nat.reduceAdd, Int.reduceAdd, Nat.reduceMul, Nat.reduceSub, Int.reduceToNat, Int.reduceLE, Int.reduceLT, Int.reduceEq, Int.reduceNe, reduceCtorEq, Nat.reduceLT, Nat.reduceLeDiff]
    refine call_ev hf ?_
    simp only [go_sem, Nat.reduceMod, Nat.reduceBNe, Nat.reduceBEq, Nat.reduceEqDiff, Nat.reduceAdd, Int.reduceAdd, Nat.reduceMul, Nat.reduceSub, Int.reduceToNat, Int.reduceLE, Int.reduceLT, Int.reduceEq, Int.reduceNe, reduceCtorEq, Nat.reduceLT, Nat.reduceLeDiff]
    refine call_ev h1 ?_
    simp only [go_sem, Nat.reduceMod, Nat.reduceBNe, Nat.reduceBEq, Nat.reduceEqDiff, Nat.reduceAdd, Int.reduceAdd, Nat.reduceMul, Nat.reduceSub, Int.reduceToNat, Int.reduceLE, Int.reduceLT, Int.reduceEq, Int.reduceNe, reduceCtorEq, Nat.reduceLT, Nat.reduceLeDiff]
    refine call_ev h2 ?_
    simp only [go_sem, Nat.reduceMod, Nat.reduceBNe, Nat.reduceBEq, Nat.reduceEqDiff, Nat.reduceAdd, Int.reduceAdd, Nat.reduceMul, Nat.reduceSub, Int.reduceToNat, Int.reduceLE, Int.reduceLT, Int.reduceEq, Int.reduceNe, reduceCtorEq, Nat.reduceLT, Nat.reduceLeDiff]
    refine call_ev h3 ?_
    simp only [go_sem, Nat.reduceMod, Nat.reduceBNe, Nat.reduceBEq, Nat.reduceEqDiff, Nat.reduceAdd, Int.reduceAdd, Nat.reduceMul, Nat.reduceSub, Int.reduceToNat, Int.reduceLE, Int.reduceLT, Int.reduceEq, Int.reduceNe, reduceCtorEq, Nat.reduceLT, Nat.reduceLeDiff]
    refine call_ev h4 ?_
    simp only [go_sem, Nat.reduceMod, Nat.reduceBNe, Nat.reduceBEq, Nat.reduceEqDiff, Nat.reduceAdd, Int.reduceAdd, Nat.reduceMul, Nat.reduceSub, Int.reduceToNat, Int.reduceLE, Int.reduceLT, Int.reduceEq, Int.reduceNe, reduceCtorEq, Nat.reduceLT, Nat.reduceLeDiff]
    refine call_ev (ev_shown hX hs hP hR) ?_
    simp only [go_sem, Nat.reduceMod, Nat.reduceBNe, Nat.reduceBEq, Nat.reduceEqDiff, Nat.reduceAdd, Int.reduceAdd, Nat.reduceMul, Nat.reduceSub, Int.reduceToNat, Int.reduceLE, Int.reduceLT, Int.reduceEq, Int.reduceNe, reduceCtorEq, Nat.reduceLT, Nat.reduceLeDiff]
    exact ⟨⟨_, rfl⟩, rfl⟩
end
theorem ev_LPictures {X : Cx} (hX : X.P = Go.Proofs.Tryz.prog) (hs : Std X) (he : GEnv X) (a : Lat.Arr) (k v : Int) (hv : ∀ v ∈ a.c, -9223372036854775808 ≤ v ∧ v ≤ 9223372036854775807) (hw : -9223372036854775808 ≤ v ∧ v ≤ 9223372036854775807) : Ev X F_law33_FormatPictures [arrV a, .int .i64 k, .int .i64 v] (.bool true) := by
  obtain ⟨hP, te, hR⟩ := he
  exact ev_FormatPictures hX hs hP hR a k v hv hw
end Go.Avm
