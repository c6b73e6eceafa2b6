/- FormatInt at base 16. -/
import Derived.Test.YtcldomkahgaplaaGreatDoorAR2
import Derived.Test.YtcldomkahgaplaaGreatDoorML2
import Derived.Test.YtcldomkahgaplaaGreatDoorM1
set_option linter.all false
namespace Go.Avm
open Go Go.Rn Go.Lx
def db64 : List Int := [0, 1, 56, 2, 57, 49, 28, 3, 61, 58, 42, 50, 38, 29, 17, 4, 62, 47, 59, 36, 45, 43, 51, 22, 53, 39, 33, 30, 24, 18, 12, 5, 63, 55, 48, 27, 60, 41, 37, 16, 46, 35, 44, 21, 52, 32, 23, 11, 54, 26, 40, 15, 34, 20, 31, 10, 25, 14, 19, 9, 13, 8, 7, 6]
def tabB : List AV := db64.map (AV.int .u8)
def hexS : List UInt8 := [48, 49, 50, 51, 52, 53, 54, 55, 56, 57, 97, 98, 99, 100, 101, 102, 103, 104, 105, 106, 107, 108, 109, 110, 111, 112, 113, 114, 115, 116, 117, 118, 119, 120, 121, 122]
theorem hexS_at : ∀ n : Nat, n < 16 → hexS.getD n 0 = Wo.hexd n := by decide
theorem hexL_at {n : Nat} (h : n < 16) : List.getD [48, 49, 50, 51, 52, 53, 54, 55, 56, 57, 97, 98, 99, 100, 101, 102, 103, 104, 105, 106, 107, 108, 109, 110, 111, 112, 113, 114, 115, 116, 117, 118, 119, 120, 121, 122] n (0 : UInt8) = Wo.hexd n := hexS_at n h
def bufA (t : List UInt8) : List AV := List.replicate (65 - t.length) (.int .u8 0) ++ t.map u8
theorem bufA_len {t : List UInt8} (h : t.length ≤ 65) : (bufA t).length = 65 := by simp [bufA]; omega
theorem bufA_set {t : List UInt8} (h : t.length < 65) (d : UInt8) : (bufA t).set (65 - t.length - 1) (u8 d) = bufA (d :: t) := by
 unfold bufA
 obtain ⟨k, hk⟩ : ∃ k, 65 - t.length = k + 1 := ⟨64 - t.length, by omega⟩
 rw [hk, List.length_cons, show 65 - (t.length + 1) = k by omega, show k + 1 - 1 = k by omega, List.replicate_succ', List.append_assoc]
 rw [List.set_append_right _ _ (by simp), List.length_replicate, Nat.sub_self]
 rfl
theorem bufA_drop (t : List UInt8) (h : t.length ≤ 65) : (bufA t).drop (65 - t.length) = t.map u8 := by
 unfold bufA
 rw [List.drop_append_of_le_length (by simp), List.drop_eq_nil_of_le (by simp), List.nil_append]
theorem and15 {u : Int} (h0 : 0 ≤ u) (h1 : u < 2 ^ 64) : bits .and .u64 u 15 = u % 16 := by
 have := bits_mask .u64 64 (by decide) wraps_u64 4 (by decide) u h0 h1
 simpa using this
set_option maxRecDepth 10000
section
variable {X : Cx} (hX : X.P = Go.Proofs.Tryz.prog) (hs : Std X)
include hX hs
theorem ev_tz16 (hB : X.G 8 = some tabB) : Ev X F_bits_TrailingZeros [.int .u64 16] (.int .i64 4) := by
 have h64 : Ev X F_bits_TrailingZeros64 [.int .u64 16] (.int .i64 4) := by
  refine ev_of_wpc hs (A_bits_TrailingZeros64_ok hX) 0 ?_
  have e1 : IntKind.u64.wrap (0 - 16) = 18446744073709551600 := by decide
  have e2 : bits .and .u64 16 18446744073709551600 = 16 := by decide
  have e3 : IntKind.u64.wrap (16 * 285870213051353865) = 4573923408821661840 := by decide
  have e4 : Int.fdiv 4573923408821661840 (2 ^ min 58 64) = 15 := by decide
  have e5 : IntKind.i64.wrap 4 = 4 := by decide
  have e6 : tabB.drop 15 = .int .u8 4 :: tabB.drop 16 := rfl
  simp only [A_bits_TrailingZeros64, go_sem, Nat.reduceEqDiff, Nat.reduceMul, Int.reduceToNat, Int.reduceLE, Int.reduceLT, Int.reduceEq, reduceCtorEq, hB, e1, e2, e3, e4, e5, e6]
 refine ev_of_wpc hs (A_bits_TrailingZeros_ok hX) 0 ?_
 simp only [A_bits_TrailingZeros, go_sem, Nat.reduceEqDiff, reduceCtorEq]
 refine call_ev h64 ?_
 simp only [go_sem, Nat.reduceEqDiff, reduceCtorEq]
theorem ev_pow2 : Ev X F_strconv_isPowerOfTwo [.int .i64 16] (.bool true) := by
 refine ev_of_wpc hs (A_strconv_isPowerOfTwo_ok hX) 0 ?_
 have e1 : IntKind.i64.wrap (16 - 1) = 15 := by decide
 have e2 : bits .and .i64 16 15 = 0 := by decide
 simp only [A_strconv_isPowerOfTwo, go_sem, Nat.reduceEqDiff, reduceCtorEq, e1, e2]
theorem ev_formatBits (hB : X.G 8 = some tabB) (n : Nat) (hn : n < 1114112) : Ev X F_strconv_formatBits [.sl .ro [], .int .u64 n, .int .i64 16, .bool false, .bool false] (.tuple [.sl .ex [], .str (Lx.hexs n)]) := by
 refine ev_of_wpc hs (A_strconv_formatBits_ok hX) 0 ?_
 simp only [A_strconv_formatBits, go_sem, Nat.reduceEqDiff, Nat.reduceAdd, Int.reduceLT, Int.reduceEq, reduceCtorEq]
 refine call_ev (ev_pow2 hX hs) ?_
 simp only [go_sem, Nat.reduceEqDiff, reduceCtorEq]
 have k1 : IntKind.u64.wrap 16 = 16 := by decide
 have k2 : IntKind.u64.wrap 4 = 4 := by decide
 have k3 : IntKind.u64.wrap (16 - 1) = 15 := by decide
 rw [k1]
 refine call_ev (ev_tz16 hX hs hB) ?_
 simp only [go_sem, Nat.reduceEqDiff, reduceCtorEq, k1, k2, k3]
 have hl6 : (Lx.hexs n).length ≤ 6 := hexs_len 5 n (by rw [show (16 : Nat) ^ (5 + 1) = 16777216 by rfl]; omega)
 refine w_loop' hs.hm (ι := Nat × List UInt8) (fun x => Lx.hexs x.1 ++ x.2 = Lx.hexs n ∧ x.1 < 1114112) (fun x => [(0, .sl .ro []), (1, .int .u64 x.1), (2, .int .i64 16), (3, .bool false), (4, .bool false), (10, .sl .ex []), (11, .str []), (12, .ptr 0 0), (13, .int .i64 ((65 - x.2.length : Nat) : Int)), (14, .int .u64 4), (15, .int .u64 16), (16, .int .u64 15)]) (fun x => [.box (bufA x.2)]) (fun x => x.1) (n, []) ?_ fun x hx => ?_
 ·simp only [go_sem, Nat.reduceEqDiff, Nat.reduceSub, reduceCtorEq]
  exact ⟨hn, rfl⟩
 ·obtain ⟨u, t⟩ := x
  obtain ⟨h1, h2⟩ := hx
  dsimp only at h1 h2 ⊢
  have hpos : 1 ≤ (Lx.hexs u).length := by
   cases hq : Lx.hexs u with
   | nil => exact absurd hq (hexs_all u).2.2
   | cons => simp
  have htl : t.length ≤ 5 := by
   have := congrArg List.length h1
   rw [List.length_append] at this
   omega
  have hbl := bufA_len (t := t) (by omega)
  have w13 : IntKind.i64.wrap (((65 - t.length : Nat) : Int) - 1) = ((65 - t.length - 1 : Nat) : Int) := by rw [wi64 (by omega)]; omega
  have a15 : bits .and .u64 (u : Int) 15 = ((u % 16 : Nat) : Int) := by rw [and15 (by omega) (by omega)]; omega
  have sh4 : Int.fdiv (u : Int) (2 ^ min 4 64) = ((u / 16 : Nat) : Int) := by
   rw [show (2 : Int) ^ min 4 64 = 16 by decide, Int.fdiv_eq_ediv_of_nonneg _ (by omega)]; omega
  have hm : u % 16 < 16 := Nat.mod_lt _ (by decide)
  have hsc : ∀ c : UInt8, setCells (bufA t) (65 - t.length - 1) [.int .u8 ((c.toNat : Nat) : Int)] = bufA (c :: t) := fun c => bufA_set (by omega) c
  simp only [A_strconv_formatBitsL0, go_sem, Nat.reduceEqDiff, Nat.reduceAdd, Int.reduceToNat, Int.reduceLE, reduceCtorEq, Nat.reduceLeDiff, w13, a15, sh4, hexL_at hm, hbl, hsc, Nat.mul_one]
  refine ⟨fun c => ⟨⟨by omega, by omega⟩, ⟨by omega, by omega⟩, by omega, (u / 16, Wo.hexd (u % 16) :: t), ?_, ⟨?_, ?_⟩, ⟨rfl, ?_⟩, rfl⟩, fun c => ⟨⟨by omega, by omega⟩, ⟨by omega, by omega⟩, by omega, ⟨by omega, by omega⟩, ?_⟩⟩
  ·exact Nat.div_lt_self (by omega) (by decide)
  ·rw [← h1, hexs_big (n := u) (by omega), List.append_assoc]; rfl
  ·exact Nat.lt_of_le_of_lt (Nat.div_le_self _ _) h2
  ·simp only [List.length_cons]; congr 1
  ·have hu : u < 16 := by omega
   rw [hexL_at hu]
   have e1 : b2sA [Blk.box (bufA (Wo.hexd u :: t))] (AV.rsl 0 (65 - t.length - 1) (65 - (65 - t.length - 1)) (65 - (65 - t.length - 1)) 1) = lst u8 .ro (Wo.hexd u :: t) := by
    have hd := bufA_drop (Wo.hexd u :: t) (by simp only [List.length_cons]; omega)
    rw [List.length_cons, show 65 - (t.length + 1) = 65 - t.length - 1 by omega] at hd
    have hb := bufA_len (t := Wo.hexd u :: t) (by simp only [List.length_cons]; omega)
    simp only [b2sA, cpySrc, List.getElem?_cons_zero]
    rw [if_pos ⟨trivial, by rw [hb]; omega⟩, hd]
    simp only
    rw [List.take_of_length_le (by rw [List.length_map, List.length_cons]; omega)]; rfl
   rw [e1]
   simp only [go_sem, Nat.reduceEqDiff, reduceCtorEq]
   rw [← h1, hexs_small hu]; rfl
theorem ev_FormatHex (hB : X.G 8 = some tabB) (n : Nat) (hn : n < 1114112) : Ev X F_strconv_FormatInt [.int .i64 n, .int .i64 16] (.str (Lx.hexs n)) := by
 refine ev_of_wpc hs (A_strconv_FormatInt_ok hX) 0 ?_
 simp only [A_strconv_FormatInt, go_sem, Nat.reduceEqDiff, Nat.reduceAdd, reduceCtorEq]
 refine call_ev (r := .str (Lx.hexs n)) ?_ ?_
 ·refine ev_of_wpc hs (A_strconv_FormatInt_124_ok hX) 0 ?_
  have h0 : ¬ (n : Int) < 0 := by omega
  have hw : IntKind.u64.wrap (n : Int) = n := wu64 (by omega)
  simp only [A_strconv_FormatInt_124, go_sem, Nat.reduceEqDiff, Nat.reduceAdd, Int.reduceEq, reduceCtorEq, h0, hw]
  refine call_ev (ev_formatBits hX hs hB n hn) ?_
  simp only [go_sem, Nat.reduceEqDiff, Nat.reduceAdd, reduceCtorEq, Nat.reduceLT]
 ·simp only [go_sem, Nat.reduceEqDiff, reduceCtorEq]
end
end Go.Avm
namespace Go.Avm
open Go Go.Rn Go.Lx
section
variable {X : Cx} (hX : X.P = Go.Proofs.Tryz.prog) (hs : Std X)
include hX hs
end
set_option maxRecDepth 10000
section
variable {X : Cx} (hX : X.P = Go.Proofs.Tryz.prog) (hs : Std X)
include hX hs
end
end Go.Avm
namespace Go.Avm
open Go Go.Rn Go.Lx
set_option maxRecDepth 10000
section
variable {X : Cx} (hX : X.P = Go.Proofs.Tryz.prog) (hs : Std X)
include hX hs
end
end Go.Avm
