/- Contracts of the functions that the statements reach. -/
import Derived.Test.YtpdhdilhlkpiaaaDoorT8
set_option linter.unusedSectionVars false
set_option linter.unusedSimpArgs false
set_option linter.unusedVariables false

namespace Go.Avm
open Go
set_option maxRecDepth 8000
section
variable {X : Cx} (hX : X.P = Go.Proofs.Tryd.prog) (hs : Std X) (hG0 : X.G 0 = some tab0) (hG1 : X.G 1 = some tab1)
include hX hs hG0 hG1
theorem aw1 : Ev X 14 [.int .i64 8364] (.tuple [lst u8 .ro [226, 130, 172], .int .i64 0]) := ev_Encode hX hs 8364 (by decide)
theorem aw2 : Ev X 12 [.sl .ro [.int .u8 195, .int .u8 169, .int .u8 0], .int .i64 0] (.tuple [.int .i64 233, .int .i64 2, .int .i64 0]) := ev_Decode hX hs hG0 hG1 [195, 169, 0] 0 (by decide)
theorem aw3 : Ev X 12 [.sl .ro [.int .u8 195], .int .i64 0] (.tuple [.int .i64 0, .int .i64 0, .int .i64 370]) := ev_Decode hX hs hG0 hG1 [195] 0 (by decide)
theorem aw4 : Ev X 12 [.sl .ro [.int .u8 237, .int .u8 160, .int .u8 128], .int .i64 0] (.tuple [.int .i64 0, .int .i64 0, .int .i64 6]) := ev_Decode hX hs hG0 hG1 [237, 160, 128] 0 (by decide)
theorem aw5 : Ev X 20 [.sl .ro [.int .u8 97, .int .u8 195, .int .u8 169]] (.tuple [lst (AV.int .i64) .ro [0, 1, 3], .int .i64 0]) := ev_Starts hX hs hG0 hG1 [97, 195, 169]
theorem aw6 : Ev X 16 [.int .i64 91] (.tuple [.int .i64 3, .int .i64 0]) := ev_Class hX hs 91 (by decide)
theorem aw7 : Ev X 22 [lst (AV.int .i64) .ro [0, 1, 3], .sl .ro [.int .i64 0, .int .i64 1, .int .i64 3]] (.bool true) := ev_sameInts hX hs [0, 1, 3] [0, 1, 3] (by decide)
theorem ev_awake : Ev X 11 [] (.bool true) := by
  refine ev_of_wpc hs (A11_ok hX) 0 ?_
  simp only [A11, go_sem, Nat.reduceBEq, Nat.reduceEqDiff, Nat.reduceAdd, Int.reduceAdd, Nat.reduceMul, Nat.reduceSub, Int.reduceToNat, Int.reduceLE, Int.reduceLT, Int.reduceEq, Int.reduceNe, reduceCtorEq, Nat.reduceLT, Nat.reduceLeDiff]
  refine call_ev (aw1 hX hs hG0 hG1) ?_
  simp only [go_sem, Nat.reduceBEq, Nat.reduceEqDiff, Nat.reduceAdd, Int.reduceAdd, Nat.reduceMul, Nat.reduceSub, Int.reduceToNat, Int.reduceLE, Int.reduceLT, Int.reduceEq, Int.reduceNe, reduceCtorEq, Nat.reduceLT, Nat.reduceLeDiff]
  refine call_ev (aw2 hX hs hG0 hG1) ?_
  simp only [go_sem, Nat.reduceBEq, Nat.reduceEqDiff, Nat.reduceAdd, Int.reduceAdd, Nat.reduceMul, Nat.reduceSub, Int.reduceToNat, Int.reduceLE, Int.reduceLT, Int.reduceEq, Int.reduceNe, reduceCtorEq, Nat.reduceLT, Nat.reduceLeDiff]
  refine call_ev (aw3 hX hs hG0 hG1) ?_
  simp only [go_sem, Nat.reduceBEq, Nat.reduceEqDiff, Nat.reduceAdd, Int.reduceAdd, Nat.reduceMul, Nat.reduceSub, Int.reduceToNat, Int.reduceLE, Int.reduceLT, Int.reduceEq, Int.reduceNe, reduceCtorEq, Nat.reduceLT, Nat.reduceLeDiff]
  refine call_ev (aw4 hX hs hG0 hG1) ?_
  simp only [go_sem, Nat.reduceBEq, Nat.reduceEqDiff, Nat.reduceAdd, Int.reduceAdd, Nat.reduceMul, Nat.reduceSub, Int.reduceToNat, Int.reduceLE, Int.reduceLT, Int.reduceEq, Int.reduceNe, reduceCtorEq, Nat.reduceLT, Nat.reduceLeDiff]
  refine call_ev (aw5 hX hs hG0 hG1) ?_
  simp only [go_sem, Nat.reduceBEq, Nat.reduceEqDiff, Nat.reduceAdd, Int.reduceAdd, Nat.reduceMul, Nat.reduceSub, Int.reduceToNat, Int.reduceLE, Int.reduceLT, Int.reduceEq, Int.reduceNe, reduceCtorEq, Nat.reduceLT, Nat.reduceLeDiff]
  refine call_ev (aw6 hX hs hG0 hG1) ?_
  simp only [go_sem, Nat.reduceBEq, Nat.reduceEqDiff, Nat.reduceAdd, Int.reduceAdd, Nat.reduceMul, Nat.reduceSub, Int.reduceToNat, Int.reduceLE, Int.reduceLT, Int.reduceEq, Int.reduceNe, reduceCtorEq, Nat.reduceLT, Nat.reduceLeDiff]
  refine call_ev (aw7 hX hs hG0 hG1) ?_
  simp only [go_sem, Nat.reduceBEq, Nat.reduceEqDiff, Nat.reduceAdd, Int.reduceAdd, Nat.reduceMul, Nat.reduceSub, Int.reduceToNat, Int.reduceLE, Int.reduceLT, Int.reduceEq, Int.reduceNe, reduceCtorEq, Nat.reduceLT, Nat.reduceLeDiff]
theorem ev_EncodeR (n : Int) (hn : -9223372036854775808 ≤ n ∧ n < 9223372036854775808) : Ev X 14 [.int .i64 n] (.tuple [lst u8 .ro (enc n), .int .i64 (fault (valid n))]) := ev_ro (ev_Encode hX hs n hn)
theorem ev_dec2 (b : List UInt8) (i : Int) (hb : b.length < 9223372036854775800) : ∃ x n e : Int, Ev X 12 [lst u8 .ro b, .int .i64 i] (.tuple [.int .i64 x, .int .i64 n, .int .i64 e]) ∧ Ev X 13 [lst u8 .ro b, .int .i64 i] (.tuple [.int .i64 x, .int .i64 n, .int .i64 e]) := by
  by_cases hi : 0 ≤ i ∧ i < b.length
  · have h1 := ev_Decode hX hs hG0 hG1 b i hi
    have h2 := ev_refDecode hX hs b i.toNat (by omega) hb
    rw [Int.toNat_of_nonneg hi.1] at h2
    cases hd : dec (b.drop i.toNat) with
    | some x =>
      obtain ⟨r, n⟩ := x
      simp only [dcv, hd] at h1 h2
      exact ⟨_, _, _, h1, h2⟩
    | none =>
      simp only [dcv, hd] at h1 h2
      exact ⟨_, _, _, h1, h2⟩
  · exact ⟨_, _, _, ev_DecodeOut hX hs hG0 hG1 b i hi, ev_refDecodeOut hX hs b i hi⟩
end
end Go.Avm
