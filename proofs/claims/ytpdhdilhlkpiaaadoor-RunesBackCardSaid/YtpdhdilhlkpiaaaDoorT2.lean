/- Contracts of the functions that the statements reach. -/
import Derived.Test.YtpdhdilhlkpiaaaDoorT1
import Derived.Test.YtpdhdilhlkpiaaaDoorS1
set_option linter.unusedSectionVars false
set_option linter.unusedSimpArgs false
set_option linter.unusedVariables false

namespace Go.Avm
open Go
section
variable {X : Cx} (hX : X.P = Go.Proofs.Tryd.prog) (hs : Std X)
include hX hs
theorem ev_valid (n : Int) : Ev X 52 [.int .i32 n] (.bool (valid n)) := by
  refine ev_of_wpc hs (A52_ok hX) 0 ?_
  simp only [A52, go_sem, Nat.reduceBEq, Nat.reduceEqDiff, Nat.reduceAdd, Int.reduceAdd, Nat.reduceMul, Nat.reduceSub, Int.reduceToNat, Int.reduceLE, Int.reduceLT, Int.reduceEq, Int.reduceNe, reduceCtorEq, Nat.reduceLT, Nat.reduceLeDiff, valid, AV.bool.injEq]
  grind
theorem ev_is (n : Int) (hn : -9223372036854775808 ≤ n ∧ n < 9223372036854775808) : Ev X 38 [.int .i64 n] (.bool (valid n)) := by
  refine ev_of_wpc hs (A38_ok hX) 0 ?_
  simp only [A38, go_sem, Nat.reduceBEq, Nat.reduceEqDiff, Nat.reduceAdd, Int.reduceAdd, Nat.reduceMul, Nat.reduceSub, Int.reduceToNat, Int.reduceLE, Int.reduceLT, Int.reduceEq, Int.reduceNe, reduceCtorEq, Nat.reduceLT, Nat.reduceLeDiff]
  have h32 : -2147483648 ≤ IntKind.i32.wrap n ∧ IntKind.i32.wrap n < 2147483648 := by rw [w_i32]; split <;> omega
  have e : IntKind.i64.wrap (IntKind.i32.wrap n) = IntKind.i32.wrap n := wi64 (by omega)
  refine ⟨fun h => call_ev (ev_valid hX hs _) ?_, fun h => ?_⟩
  · rw [e] at h
    simp only [go_sem, Nat.reduceBEq, Nat.reduceEqDiff, Nat.reduceAdd, Int.reduceAdd, Nat.reduceMul, Nat.reduceSub, Int.reduceToNat, Int.reduceLE, Int.reduceLT, Int.reduceEq, Int.reduceNe, reduceCtorEq, Nat.reduceLT, Nat.reduceLeDiff, ← h]
  · simp only [AV.bool.injEq, valid]
    rw [e] at h
    by_cases hr : 0 ≤ n ∧ n < 2147483648
    · exact absurd (wi32 (by omega)).symm h
    · grind
theorem ev_refIs (n : Int) : Ev X 41 [.int .i64 n] (.bool (valid n)) := by
  refine ev_of_wpc hs (A41_ok hX) 0 ?_
  simp only [A41, go_sem, Nat.reduceBEq, Nat.reduceEqDiff, Nat.reduceAdd, Int.reduceAdd, Nat.reduceMul, Nat.reduceSub, Int.reduceToNat, Int.reduceLE, Int.reduceLT, Int.reduceEq, Int.reduceNe, reduceCtorEq, Nat.reduceLT, Nat.reduceLeDiff, valid, AV.bool.injEq]
  grind
theorem ev_one (n : Int) (s : List UInt8) (hl : s.length < 9223372036854775807) : Ev X 44 [.int .i64 n, .str s] (.bool (s.any fun b => decide ((b.toNat : Int) = n))) := by
  refine ev_of_wpc hs (A44_ok hX) 0 ?_
  simp only [A44, go_sem, Nat.reduceBEq, Nat.reduceEqDiff, Nat.reduceAdd, Int.reduceAdd, Nat.reduceMul, Nat.reduceSub, Int.reduceToNat, Int.reduceLE, Int.reduceLT, Int.reduceEq, Int.reduceNe, reduceCtorEq, Nat.reduceLT, Nat.reduceLeDiff]
  refine w_loop' hs.hm (ι := Nat) (fun i => i ≤ s.length ∧ ((s.take i).any fun b => decide ((b.toNat : Int) = n)) = false) (fun i => [(5, .int .i64 i), (0, .int .i64 n), (1, .str s)]) (fun _ => []) (fun i => s.length - i) 0 ?_ fun i hi => ?_
  · simp only [go_sem, Nat.reduceBEq, Nat.reduceEqDiff, Nat.reduceAdd, Int.reduceAdd, Nat.reduceMul, Nat.reduceSub, Int.reduceToNat, Int.reduceLE, Int.reduceLT, Int.reduceEq, Int.reduceNe, reduceCtorEq, Nat.reduceLT, Nat.reduceLeDiff]
    simp
  · obtain ⟨h1, h2⟩ := hi
    simp only [A44L0, go_sem, Nat.reduceBEq, Nat.reduceEqDiff, Nat.reduceAdd, Int.reduceAdd, Nat.reduceMul, Nat.reduceSub, Int.reduceToNat, Int.reduceLE, Int.reduceLT, Int.reduceEq, Int.reduceNe, reduceCtorEq, Nat.reduceLT, Nat.reduceLeDiff]
    have hb : ∀ j : Nat, (0 : Int) ≤ ((s.getD j 0).toNat : Int) ∧ ((s.getD j 0).toNat : Int) < 256 := fun j => by have := (s.getD j 0).toNat_lt; omega
    have hw : ∀ j : Nat, IntKind.i64.wrap ((s.getD j 0).toNat : Int) = ((s.getD j 0).toNat : Int) := fun j => wi64 (by have := hb j; omega)
    refine ⟨fun hlt => ⟨⟨by simp, by simpa using hlt⟩, fun heq => ?_, fun hne => ⟨i + 1, by omega, ⟨by omega, ?_⟩, ?_⟩⟩, fun hge => ?_⟩
    · rw [hw] at heq
      have hlt' : i < s.length := by omega
      have : (s.any fun b => decide ((b.toNat : Int) = n)) = true := List.any_eq_true.2 ⟨s[i], List.getElem_mem _, by simpa [List.getD, hlt'] using heq⟩
      rw [this]
    · have hlt' : i < s.length := by omega
      rw [List.take_succ_eq_append_getElem hlt', List.any_append, h2]
      rw [hw] at hne
      simpa [List.getD, hlt'] using hne
    · rw [wi64 (by omega)]; simp
    · have : i = s.length := by omega
      subst this
      rw [List.take_length] at h2
      rw [h2]
end
end Go.Avm

namespace Go.Avm
open Go

section
variable {X : Cx} (hX : X.P = Go.Proofs.Tryd.prog) (hs : Std X)
include hX hs
theorem ev_refEncode (n : Int) : Ev X 15 [.int .i64 n] (.tuple [lst u8 .ex (enc n), .int .i64 (fault (valid n))]) := by
  refine ev_of_wpc hs (A15_ok hX) 0 ?_
  simp only [A15, go_sem, Nat.reduceBEq, Nat.reduceEqDiff, Nat.reduceAdd, Int.reduceAdd, Nat.reduceMul, Nat.reduceSub, Int.reduceToNat, Int.reduceLE, Int.reduceLT, Int.reduceEq, Int.reduceNe, reduceCtorEq, Nat.reduceLT, Nat.reduceLeDiff]
  refine call_ev (ev_refIs hX hs n) ?_
  simp only [go_sem, Nat.reduceBEq, Nat.reduceEqDiff, Nat.reduceAdd, Int.reduceAdd, Nat.reduceMul, Nat.reduceSub, Int.reduceToNat, Int.reduceLE, Int.reduceLT, Int.reduceEq, Int.reduceNe, reduceCtorEq, Nat.reduceLT, Nat.reduceLeDiff]
  refine ⟨fun hv => ?_, fun hv => ?_⟩
  · simp only [enc, fault, hv]; rfl
  · have hv' : 0 ≤ n ∧ n ≤ 1114111 := by simp [valid] at hv; omega
    have hb : ∀ l : List Int, (∀ x ∈ l, 0 ≤ x ∧ x < 256) → lst u8 .ex (l.map byteI) = .sl .ex (l.map (AV.int .u8)) := fun l hl => by
      simp only [lst, List.map_map, AV.sl.injEq, true_and]
      exact List.map_congr_left fun x hx => u8_byteI (hl x hx)
    simp (disch := omega) only [Int.tdiv_eq_ediv_of_nonneg, Int.tmod_eq_emod_of_nonneg, wi64, wu8, enc, hv, if_true, fault, encI]
    refine ⟨fun h => ?_, fun h => ⟨fun h2 => ?_, fun h2 => ⟨fun h3 => ?_, fun h3 => ?_⟩⟩⟩
    · rw [if_pos h, hb _ (by simp; omega)]; simp (disch := omega) only [wu8, List.map_cons, List.map_nil]
    · rw [if_neg h, if_pos h2, hb _ (by simp; omega)]; simp (disch := omega) only [wu8, List.map_cons, List.map_nil]
    · rw [if_neg h, if_neg h2, if_pos h3, hb _ (by simp; omega)]; simp (disch := omega) only [wu8, List.map_cons, List.map_nil]
    · rw [if_neg h, if_neg h2, if_neg h3, hb _ (by simp; omega)]; simp (disch := omega) only [wu8, List.map_cons, List.map_nil]
end
end Go.Avm

namespace Go.Avm
open Go
section
variable {X : Cx} (hX : X.P = Go.Proofs.Tryd.prog) (hs : Std X)
include hX hs
def rlen (n : Int) : Int := if n < 0 then -1 else if n ≤ 127 then 1 else if n ≤ 2047 then 2 else if 55296 ≤ n ∧ n ≤ 57343 then -1 else if n ≤ 65535 then 3 else if n ≤ 1114111 then 4 else -1
theorem ev_runeLen (n : Int) : Ev X 40 [.int .i32 n] (.int .i64 (rlen n)) := by
  refine ev_of_wpc hs (A40_ok hX) 0 ?_
  simp only [A40, go_sem, Nat.reduceBEq, Nat.reduceEqDiff, Nat.reduceAdd, Int.reduceAdd, Nat.reduceMul, Nat.reduceSub, Int.reduceToNat, Int.reduceLE, Int.reduceLT, Int.reduceEq, Int.reduceNe, reduceCtorEq, Nat.reduceLT, Nat.reduceLeDiff, AV.int.injEq, rlen]
  grind
/-- put: out[at] = byte(n); at++ -/
theorem ev_put (n k : Int) (i j : Nat) (b0 b1 b2 b3 : AV) (H : Heap) (hi : H[i]? = some (.box [b0, b1, b2, b3])) (hj : H[j]? = some (.box [.int .i64 k])) (hk : 0 ≤ k ∧ k < 4) (hij : i ≠ j) :
    EvM X 39 [.int .i64 n, .ptr i 0, .ptr j 0] H fun r H' => r = .tuple [] ∧ H' = (H.set i (.box ([b0, b1, b2, b3].set k.toNat (.int .u8 (IntKind.u8.wrap n))))).set j (.box [.int .i64 (k + 1)]) := by
  refine evM_of_wpc hs (A39_ok hX) ?_
  simp only [A39, go_sem, Nat.reduceBEq, Nat.reduceEqDiff, Nat.reduceAdd, Int.reduceAdd, Nat.reduceMul, Nat.reduceSub, Int.reduceToNat, Int.reduceLE, Int.reduceLT, Int.reduceEq, Int.reduceNe, reduceCtorEq, Nat.reduceLT, Nat.reduceLeDiff, hi, hj]
  refine ⟨by simpa using hk, by omega, ?_⟩
  simp only [List.getElem?_set_ne hij, hj, go_sem, Nat.reduceBEq, Nat.reduceEqDiff, Nat.reduceAdd, Int.reduceAdd, Nat.reduceMul, Nat.reduceSub, Int.reduceToNat, Int.reduceLE, Int.reduceLT, Int.reduceEq, Int.reduceNe, reduceCtorEq, Nat.reduceLT, Nat.reduceLeDiff]
  rw [wi64 (by omega), Nat.mul_one]
theorem ev_Encode1 (n : Int) (hv : valid n = true) (h : n < 128) : Ev X 14 [.int .i64 n] (.tuple [lst u8 .ro (enc n), .int .i64 (fault (valid n))]) := by
  have hn : 0 ≤ n ∧ n ≤ 1114111 := by simp [valid] at hv; omega
  have hw : IntKind.i32.wrap n = n := wi32 (by omega)
  refine ev_of_wpc hs (A14_ok hX) 2 ?_
  simp only [A14, go_sem, Nat.reduceBEq, Nat.reduceEqDiff, Nat.reduceAdd, Int.reduceAdd, Nat.reduceMul, Nat.reduceSub, Int.reduceToNat, Int.reduceLE, Int.reduceLT, Int.reduceEq, Int.reduceNe, reduceCtorEq, Nat.reduceLT, Nat.reduceLeDiff]
  refine call_ev (ev_is hX hs n (by omega)) ?_
  simp only [go_sem, Nat.reduceBEq, Nat.reduceEqDiff, Nat.reduceAdd, Int.reduceAdd, Nat.reduceMul, Nat.reduceSub, Int.reduceToNat, Int.reduceLE, Int.reduceLT, Int.reduceEq, Int.reduceNe, reduceCtorEq, Nat.reduceLT, Nat.reduceLeDiff, hv]
  refine call_ev (r := .int .i64 1) ?_ ?_
  · rw [hw]
    have : rlen n = 1 := by simp only [rlen]; grind
    rw [← this]; exact ev_runeLen hX hs n
  simp only [go_sem, Nat.reduceBEq, Nat.reduceEqDiff, Nat.reduceAdd, Int.reduceAdd, Nat.reduceMul, Nat.reduceSub, Int.reduceToNat, Int.reduceLE, Int.reduceLT, Int.reduceEq, Int.reduceNe, reduceCtorEq, Nat.reduceLT, Nat.reduceLeDiff]
  refine call_evm (ev_put hX hs n 0 0 1 _ _ _ _ _ rfl rfl (by omega) (by omega)) ?_
  rintro r H' ⟨rfl, rfl⟩
  simp only [go_sem, Nat.reduceBEq, Nat.reduceEqDiff, Nat.reduceAdd, Int.reduceAdd, Nat.reduceMul, Nat.reduceSub, Int.reduceToNat, Int.reduceLE, Int.reduceLT, Int.reduceEq, Int.reduceNe, reduceCtorEq, Nat.reduceLT, Nat.reduceLeDiff, Int.reduceToNat, Int.reducePow, Int.fdiv_eq_ediv_of_nonneg, Int.reduceLE, Int.reduceLT, Int.reduceEq, Nat.reducePow, Int.reduceMul]
  simp (disch := omega) only [enc, hv, if_true, encI, if_pos h, wu8, fault]
  simp only [lst, List.map_cons, List.map_nil, u8_byteI (x := n) (by omega)]
end
end Go.Avm

namespace Go.Avm
open Go
theorem shr64 (n : Int) (k : Nat) (hk : k ≤ 64) : n.fdiv (2 ^ min k 64) = n / 2 ^ k := shr_i64 n k hk
section
variable {X : Cx} (hX : X.P = Go.Proofs.Tryd.prog) (hs : Std X)
include hX hs
theorem ev_Encode (n : Int) (hn : -9223372036854775808 ≤ n ∧ n < 9223372036854775808) : Ev X 14 [.int .i64 n] (.tuple [lst u8 (if valid n then .ro else .ex) (enc n), .int .i64 (fault (valid n))]) := by
  by_cases hv : valid n = false
  · refine ev_of_wpc hs (A14_ok hX) 2 ?_
    simp only [A14, go_sem, Nat.reduceBEq, Nat.reduceEqDiff, Nat.reduceAdd, Int.reduceAdd, Nat.reduceMul, Nat.reduceSub, Int.reduceToNat, Int.reduceLE, Int.reduceLT, Int.reduceEq, Int.reduceNe, reduceCtorEq, Nat.reduceLT, Nat.reduceLeDiff]
    refine call_ev (ev_is hX hs n (by omega)) ?_
    simp only [go_sem, Nat.reduceBEq, Nat.reduceEqDiff, Nat.reduceAdd, Int.reduceAdd, Nat.reduceMul, Nat.reduceSub, Int.reduceToNat, Int.reduceLE, Int.reduceLT, Int.reduceEq, Int.reduceNe, reduceCtorEq, Nat.reduceLT, Nat.reduceLeDiff, hv]
    simp [enc, hv, fault, lst]
  rw [Bool.not_eq_false] at hv
  have hn : 0 ≤ n ∧ n ≤ 1114111 := valid_rng hv
  have hw : IntKind.i32.wrap n = n := wi32 (by omega)
  have hr : rlen n = if n < 128 then 1 else if n < 2048 then 2 else if n < 65536 then 3 else 4 := by
    have := (valid_iff n).1 hv
    simp only [rlen]; grind
  rw [if_pos hv]
  by_cases h1 : n < 128
  · rw [if_pos h1] at hr
    refine ev_of_wpc hs (A14_ok hX) 2 ?_
    simp only [A14, go_sem, Nat.reduceBEq, Nat.reduceEqDiff, Nat.reduceAdd, Int.reduceAdd, Nat.reduceMul, Nat.reduceSub, Int.reduceToNat, Int.reduceLE, Int.reduceLT, Int.reduceEq, Int.reduceNe, reduceCtorEq, Nat.reduceLT, Nat.reduceLeDiff]
    refine call_ev (ev_is hX hs n (by omega)) ?_
    simp only [go_sem, Nat.reduceBEq, Nat.reduceEqDiff, Nat.reduceAdd, Int.reduceAdd, Nat.reduceMul, Nat.reduceSub, Int.reduceToNat, Int.reduceLE, Int.reduceLT, Int.reduceEq, Int.reduceNe, reduceCtorEq, Nat.reduceLT, Nat.reduceLeDiff, hv]
    refine call_ev (r := .int .i64 1) (by rw [hw, ← hr]; exact ev_runeLen hX hs n) ?_
    simp only [go_sem, Nat.reduceBEq, Nat.reduceEqDiff, Nat.reduceAdd, Int.reduceAdd, Nat.reduceMul, Nat.reduceSub, Int.reduceToNat, Int.reduceLE, Int.reduceLT, Int.reduceEq, Int.reduceNe, reduceCtorEq, Nat.reduceLT, Nat.reduceLeDiff]
    refine call_evm (ev_put hX hs _ 0 0 1 _ _ _ _ _ rfl rfl (by omega) (by omega)) ?_
    rintro r H' ⟨rfl, rfl⟩
    simp only [go_sem, Nat.reduceBEq, Nat.reduceEqDiff, Nat.reduceAdd, Int.reduceAdd, Nat.reduceMul, Nat.reduceSub, Int.reduceToNat, Int.reduceLE, Int.reduceLT, Int.reduceEq, Int.reduceNe, reduceCtorEq, Nat.reduceLT, Nat.reduceLeDiff, Int.reduceToNat, Int.reducePow, Int.fdiv_eq_ediv_of_nonneg, Int.reduceLE, Int.reduceLT, Int.reduceEq, Nat.reducePow, Int.reduceMul]
    simp (disch := omega) only [enc, hv, if_true, encI, if_pos h1, wu8, fault]
    simp only [lst, List.map_cons, List.map_nil, u8_byteI (x := n) (by omega)]
  rw [if_neg h1] at hr
  by_cases h2 : n < 2048
  · rw [if_pos h2] at hr
    refine ev_of_wpc hs (A14_ok hX) 2 ?_
    simp only [A14, go_sem, Nat.reduceBEq, Nat.reduceEqDiff, Nat.reduceAdd, Int.reduceAdd, Nat.reduceMul, Nat.reduceSub, Int.reduceToNat, Int.reduceLE, Int.reduceLT, Int.reduceEq, Int.reduceNe, reduceCtorEq, Nat.reduceLT, Nat.reduceLeDiff]
    refine call_ev (ev_is hX hs n (by omega)) ?_
    simp only [go_sem, Nat.reduceBEq, Nat.reduceEqDiff, Nat.reduceAdd, Int.reduceAdd, Nat.reduceMul, Nat.reduceSub, Int.reduceToNat, Int.reduceLE, Int.reduceLT, Int.reduceEq, Int.reduceNe, reduceCtorEq, Nat.reduceLT, Nat.reduceLeDiff, hv]
    refine call_ev (r := .int .i64 2) (by rw [hw, ← hr]; exact ev_runeLen hX hs n) ?_
    simp only [go_sem, Nat.reduceBEq, Nat.reduceEqDiff, Nat.reduceAdd, Int.reduceAdd, Nat.reduceMul, Nat.reduceSub, Int.reduceToNat, Int.reduceLE, Int.reduceLT, Int.reduceEq, Int.reduceNe, reduceCtorEq, Nat.reduceLT, Nat.reduceLeDiff]
    rw [shr64 _ _ (by omega), i64_or192 (by omega) (by omega)]
    refine call_evm (ev_put hX hs _ 0 0 1 _ _ _ _ _ rfl rfl (by omega) (by omega)) ?_
    rintro r H' ⟨rfl, rfl⟩
    simp only [go_sem, Nat.reduceBEq, Nat.reduceEqDiff, Nat.reduceAdd, Int.reduceAdd, Nat.reduceMul, Nat.reduceSub, Int.reduceToNat, Int.reduceLE, Int.reduceLT, Int.reduceEq, Int.reduceNe, reduceCtorEq, Nat.reduceLT, Nat.reduceLeDiff, Int.reduceToNat, Int.reducePow, Int.fdiv_eq_ediv_of_nonneg, Int.reduceLE, Int.reduceLT, Int.reduceEq, Nat.reducePow, Int.reduceMul]
    rw [i64_and63 (by omega) (by omega), i64_or128 (by omega) (by omega)]
    refine call_evm (ev_put hX hs _ 1 0 1 _ _ _ _ _ rfl rfl (by omega) (by omega)) ?_
    rintro r H' ⟨rfl, rfl⟩
    simp only [go_sem, Nat.reduceBEq, Nat.reduceEqDiff, Nat.reduceAdd, Int.reduceAdd, Nat.reduceMul, Nat.reduceSub, Int.reduceToNat, Int.reduceLE, Int.reduceLT, Int.reduceEq, Int.reduceNe, reduceCtorEq, Nat.reduceLT, Nat.reduceLeDiff, Int.reduceToNat, Int.reducePow, Int.fdiv_eq_ediv_of_nonneg, Int.reduceLE, Int.reduceLT, Int.reduceEq, Nat.reducePow, Int.reduceMul]
    simp (disch := omega) only [enc, hv, if_true, encI, if_neg h1, if_pos h2, wu8, fault, lst, List.map_cons, List.map_nil, u8_byteI]
  rw [if_neg h2] at hr
  by_cases h3 : n < 65536
  · rw [if_pos h3] at hr
    refine ev_of_wpc hs (A14_ok hX) 2 ?_
    simp only [A14, go_sem, Nat.reduceBEq, Nat.reduceEqDiff, Nat.reduceAdd, Int.reduceAdd, Nat.reduceMul, Nat.reduceSub, Int.reduceToNat, Int.reduceLE, Int.reduceLT, Int.reduceEq, Int.reduceNe, reduceCtorEq, Nat.reduceLT, Nat.reduceLeDiff]
    refine call_ev (ev_is hX hs n (by omega)) ?_
    simp only [go_sem, Nat.reduceBEq, Nat.reduceEqDiff, Nat.reduceAdd, Int.reduceAdd, Nat.reduceMul, Nat.reduceSub, Int.reduceToNat, Int.reduceLE, Int.reduceLT, Int.reduceEq, Int.reduceNe, reduceCtorEq, Nat.reduceLT, Nat.reduceLeDiff, hv]
    refine call_ev (r := .int .i64 3) (by rw [hw, ← hr]; exact ev_runeLen hX hs n) ?_
    simp only [go_sem, Nat.reduceBEq, Nat.reduceEqDiff, Nat.reduceAdd, Int.reduceAdd, Nat.reduceMul, Nat.reduceSub, Int.reduceToNat, Int.reduceLE, Int.reduceLT, Int.reduceEq, Int.reduceNe, reduceCtorEq, Nat.reduceLT, Nat.reduceLeDiff]
    rw [shr64 _ _ (by omega), i64_or224 (by omega) (by omega)]
    refine call_evm (ev_put hX hs _ 0 0 1 _ _ _ _ _ rfl rfl (by omega) (by omega)) ?_
    rintro r H' ⟨rfl, rfl⟩
    simp only [go_sem, Nat.reduceBEq, Nat.reduceEqDiff, Nat.reduceAdd, Int.reduceAdd, Nat.reduceMul, Nat.reduceSub, Int.reduceToNat, Int.reduceLE, Int.reduceLT, Int.reduceEq, Int.reduceNe, reduceCtorEq, Nat.reduceLT, Nat.reduceLeDiff, Int.reduceToNat, Int.reducePow, Int.fdiv_eq_ediv_of_nonneg, Int.reduceLE, Int.reduceLT, Int.reduceEq, Nat.reducePow, Int.reduceMul]
    rw [shr64 _ _ (by omega), i64_and63 (by omega) (by omega), i64_or128 (by omega) (by omega)]
    refine call_evm (ev_put hX hs _ 1 0 1 _ _ _ _ _ rfl rfl (by omega) (by omega)) ?_
    rintro r H' ⟨rfl, rfl⟩
    simp only [go_sem, Nat.reduceBEq, Nat.reduceEqDiff, Nat.reduceAdd, Int.reduceAdd, Nat.reduceMul, Nat.reduceSub, Int.reduceToNat, Int.reduceLE, Int.reduceLT, Int.reduceEq, Int.reduceNe, reduceCtorEq, Nat.reduceLT, Nat.reduceLeDiff, Int.reduceToNat, Int.reducePow, Int.fdiv_eq_ediv_of_nonneg, Int.reduceLE, Int.reduceLT, Int.reduceEq, Nat.reducePow, Int.reduceMul]
    rw [i64_and63 (by omega) (by omega), i64_or128 (by omega) (by omega)]
    refine call_evm (ev_put hX hs _ 2 0 1 _ _ _ _ _ rfl rfl (by omega) (by omega)) ?_
    rintro r H' ⟨rfl, rfl⟩
    simp only [go_sem, Nat.reduceBEq, Nat.reduceEqDiff, Nat.reduceAdd, Int.reduceAdd, Nat.reduceMul, Nat.reduceSub, Int.reduceToNat, Int.reduceLE, Int.reduceLT, Int.reduceEq, Int.reduceNe, reduceCtorEq, Nat.reduceLT, Nat.reduceLeDiff, Int.reduceToNat, Int.reducePow, Int.fdiv_eq_ediv_of_nonneg, Int.reduceLE, Int.reduceLT, Int.reduceEq, Nat.reducePow, Int.reduceMul]
    simp (disch := omega) only [enc, hv, if_true, encI, if_neg h1, if_neg h2, if_pos h3, wu8, fault, lst, List.map_cons, List.map_nil, u8_byteI]
  · rw [if_neg h3] at hr
    refine ev_of_wpc hs (A14_ok hX) 2 ?_
    simp only [A14, go_sem, Nat.reduceBEq, Nat.reduceEqDiff, Nat.reduceAdd, Int.reduceAdd, Nat.reduceMul, Nat.reduceSub, Int.reduceToNat, Int.reduceLE, Int.reduceLT, Int.reduceEq, Int.reduceNe, reduceCtorEq, Nat.reduceLT, Nat.reduceLeDiff]
    refine call_ev (ev_is hX hs n (by omega)) ?_
    simp only [go_sem, Nat.reduceBEq, Nat.reduceEqDiff, Nat.reduceAdd, Int.reduceAdd, Nat.reduceMul, Nat.reduceSub, Int.reduceToNat, Int.reduceLE, Int.reduceLT, Int.reduceEq, Int.reduceNe, reduceCtorEq, Nat.reduceLT, Nat.reduceLeDiff, hv]
    refine call_ev (r := .int .i64 4) (by rw [hw, ← hr]; exact ev_runeLen hX hs n) ?_
    simp only [go_sem, Nat.reduceBEq, Nat.reduceEqDiff, Nat.reduceAdd, Int.reduceAdd, Nat.reduceMul, Nat.reduceSub, Int.reduceToNat, Int.reduceLE, Int.reduceLT, Int.reduceEq, Int.reduceNe, reduceCtorEq, Nat.reduceLT, Nat.reduceLeDiff]
    rw [shr64 _ _ (by omega), i64_or240 (by omega) (by omega)]
    refine call_evm (ev_put hX hs _ 0 0 1 _ _ _ _ _ rfl rfl (by omega) (by omega)) ?_
    rintro r H' ⟨rfl, rfl⟩
    simp only [go_sem, Nat.reduceBEq, Nat.reduceEqDiff, Nat.reduceAdd, Int.reduceAdd, Nat.reduceMul, Nat.reduceSub, Int.reduceToNat, Int.reduceLE, Int.reduceLT, Int.reduceEq, Int.reduceNe, reduceCtorEq, Nat.reduceLT, Nat.reduceLeDiff, Int.reduceToNat, Int.reducePow, Int.fdiv_eq_ediv_of_nonneg, Int.reduceLE, Int.reduceLT, Int.reduceEq, Nat.reducePow, Int.reduceMul]
    rw [shr64 _ _ (by omega), i64_and63 (by omega) (by omega), i64_or128 (by omega) (by omega)]
    refine call_evm (ev_put hX hs _ 1 0 1 _ _ _ _ _ rfl rfl (by omega) (by omega)) ?_
    rintro r H' ⟨rfl, rfl⟩
    simp only [go_sem, Nat.reduceBEq, Nat.reduceEqDiff, Nat.reduceAdd, Int.reduceAdd, Nat.reduceMul, Nat.reduceSub, Int.reduceToNat, Int.reduceLE, Int.reduceLT, Int.reduceEq, Int.reduceNe, reduceCtorEq, Nat.reduceLT, Nat.reduceLeDiff, Int.reduceToNat, Int.reducePow, Int.fdiv_eq_ediv_of_nonneg, Int.reduceLE, Int.reduceLT, Int.reduceEq, Nat.reducePow, Int.reduceMul]
    rw [shr64 _ _ (by omega), i64_and63 (by omega) (by omega), i64_or128 (by omega) (by omega)]
    refine call_evm (ev_put hX hs _ 2 0 1 _ _ _ _ _ rfl rfl (by omega) (by omega)) ?_
    rintro r H' ⟨rfl, rfl⟩
    simp only [go_sem, Nat.reduceBEq, Nat.reduceEqDiff, Nat.reduceAdd, Int.reduceAdd, Nat.reduceMul, Nat.reduceSub, Int.reduceToNat, Int.reduceLE, Int.reduceLT, Int.reduceEq, Int.reduceNe, reduceCtorEq, Nat.reduceLT, Nat.reduceLeDiff, Int.reduceToNat, Int.reducePow, Int.fdiv_eq_ediv_of_nonneg, Int.reduceLE, Int.reduceLT, Int.reduceEq, Nat.reducePow, Int.reduceMul]
    rw [i64_and63 (by omega) (by omega), i64_or128 (by omega) (by omega)]
    refine call_evm (ev_put hX hs _ 3 0 1 _ _ _ _ _ rfl rfl (by omega) (by omega)) ?_
    rintro r H' ⟨rfl, rfl⟩
    simp only [go_sem, Nat.reduceBEq, Nat.reduceEqDiff, Nat.reduceAdd, Int.reduceAdd, Nat.reduceMul, Nat.reduceSub, Int.reduceToNat, Int.reduceLE, Int.reduceLT, Int.reduceEq, Int.reduceNe, reduceCtorEq, Nat.reduceLT, Nat.reduceLeDiff, Int.reduceToNat, Int.reducePow, Int.fdiv_eq_ediv_of_nonneg, Int.reduceLE, Int.reduceLT, Int.reduceEq, Nat.reducePow, Int.reduceMul]
    simp (disch := omega) only [enc, hv, if_true, encI, if_neg h1, if_neg h2, if_neg h3, wu8, fault, lst, List.map_cons, List.map_nil, u8_byteI]
end
end Go.Avm
