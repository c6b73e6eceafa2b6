/- The reference's cells. -/
import Derived.Test.YtcldomkahgaplaaGreatDoorAF4
import Derived.Test.YtcldomkahgaplaaGreatDoorAK2
import Derived.Test.YtcldomkahgaplaaGreatDoorAV2
import Derived.Test.YtcldomkahgaplaaGreatDoorM2
set_option linter.unusedSectionVars false
set_option linter.unusedSimpArgs false
set_option linter.unusedVariables false

/- The reference's cells. -/
namespace Go.Avm
open Go Go.Fm
set_option maxRecDepth 10000
section
variable {X : Cx} (hX : X.P = Go.Proofs.Tryz.prog) (hs : Std X)
include hX hs
theorem ev_r33digits (v : Int) (hv : -9223372036854775808 ≤ v ∧ v ≤ 9223372036854775807) : Ev X F_ref33_digits [.int .i64 v] (.str (Lib.itoa v)) := by
  refine ev_of_wpc hs (A_ref33_digits_ok hX) 0 ?_
  simp only [A_ref33_digits, go_sem, Nat.reduceMod, Nat.reduceBNe, Nat.reduceBEq, Nat.reduceEqDiff, Nat.reduceAdd, Int.reduceAdd, Nat.reduceMul, Nat.reduceSub, Int.reduceToNat, Int.reduceLE, Int.reduceLT, Int.reduceEq, Int.reduceNe, reduceCtorEq, Nat.reduceLT, Nat.reduceLeDiff]
  refine call_ev (ev_rDigits hX hs v hv) ?_
  simp only [go_sem, Nat.reduceMod, Nat.reduceBNe, Nat.reduceBEq, Nat.reduceEqDiff, Nat.reduceAdd, Int.reduceAdd, Nat.reduceMul, Nat.reduceSub, Int.reduceToNat, Int.reduceLE, Int.reduceLT, Int.reduceEq, Int.reduceNe, reduceCtorEq, Nat.reduceLT, Nat.reduceLeDiff]
theorem ev_r33cell (k v : Int) (hv : -9223372036854775808 ≤ v ∧ v ≤ 9223372036854775807) : Ev X F_ref33_cell [.int .i64 k, .int .i64 v] (.str (cellS k v)) := by
  refine ev_of_wpc hs (A_ref33_cell_ok hX) 0 ?_
  simp only [A_ref33_cell, go_sem, Nat.reduceMod, Nat.reduceBNe, Nat.reduceBEq, Nat.reduceEqDiff, Nat.reduceAdd, Int.reduceAdd, Nat.reduceMul, Nat.reduceSub, Int.reduceToNat, Int.reduceLE, Int.reduceLT, Int.reduceEq, Int.reduceNe, reduceCtorEq, Nat.reduceLT, Nat.reduceLeDiff]
  refine ⟨fun h => ?_, fun h => ?_⟩
  · refine call_ev (ev_r33digits hX hs v hv) ?_
    simp only [go_sem, Nat.reduceMod, Nat.reduceBNe, Nat.reduceBEq, Nat.reduceEqDiff, Nat.reduceAdd, Int.reduceAdd, Nat.reduceMul, Nat.reduceSub, Int.reduceToNat, Int.reduceLE, Int.reduceLT, Int.reduceEq, Int.reduceNe, reduceCtorEq, Nat.reduceLT, Nat.reduceLeDiff]
    rw [cellS, if_pos h]
  · by_cases h3 : 32 ≤ v
    · by_cases h4 : v ≤ 126
      · have hb : b2sX (.sl .ex [.int .u8 (IntKind.u8.wrap v)]) = some (true, .str [UInt8.ofNat v.toNat], none) := by
          have e : ([.int .u8 (IntKind.u8.wrap v)] : List AV) = [u8 (UInt8.ofNat v.toNat)] := by
            rw [wu8 (by omega)]
            simp only [u8, UInt8.toNat_ofNat']
            congr 2
            omega
          rw [e]
          exact bs_1 .ex _
        simp only [go_sem, Nat.reduceMod, Nat.reduceBNe, Nat.reduceBEq, Nat.reduceEqDiff, Nat.reduceAdd, Int.reduceAdd, Nat.reduceMul, Nat.reduceSub, Int.reduceToNat, Int.reduceLE, Int.reduceLT, Int.reduceEq, Int.reduceNe, reduceCtorEq, Nat.reduceLT, Nat.reduceLeDiff, h3, h4, hb]
        rw [cellS, if_neg h, if_pos ⟨h3, h4⟩]
      · simp only [go_sem, Nat.reduceMod, Nat.reduceBNe, Nat.reduceBEq, Nat.reduceEqDiff, Nat.reduceAdd, Int.reduceAdd, Nat.reduceMul, Nat.reduceSub, Int.reduceToNat, Int.reduceLE, Int.reduceLT, Int.reduceEq, Int.reduceNe, reduceCtorEq, Nat.reduceLT, Nat.reduceLeDiff, h3, h4]
        rw [cellS, if_neg h, if_neg (fun c => h4 c.2)]
    · simp only [go_sem, Nat.reduceMod, Nat.reduceBNe, Nat.reduceBEq, Nat.reduceEqDiff, Nat.reduceAdd, Int.reduceAdd, Nat.reduceMul, Nat.reduceSub, Int.reduceToNat, Int.reduceLE, Int.reduceLT, Int.reduceEq, Int.reduceNe, reduceCtorEq, Nat.reduceLT, Nat.reduceLeDiff, h3]
      rw [cellS, if_neg h, if_neg (fun c => h3 c.1)]
theorem ev_r33blanks (n : Int) (c : UInt8) (hn : n ≤ 100000) : Ev X F_ref33_blanks [.int .i64 n, .str [c]] (.str (List.replicate n.toNat c)) := by
  refine ev_of_wpc hs (A_ref33_blanks_ok hX) 0 ?_
  simp only [A_ref33_blanks, go_sem, Nat.reduceMod, Nat.reduceBNe, Nat.reduceBEq, Nat.reduceEqDiff, Nat.reduceAdd, Int.reduceAdd, Nat.reduceMul, Nat.reduceSub, Int.reduceToNat, Int.reduceLE, Int.reduceLT, Int.reduceEq, Int.reduceNe, reduceCtorEq, Nat.reduceLT, Nat.reduceLeDiff]
  refine w_loop' hs.hm (ι := Nat) (fun i => i ≤ n.toNat) (fun i => [(6, .int .i64 i), (0, .int .i64 n), (1, .str [c]), (5, .str (List.replicate i c))]) (fun _ => []) (fun i => n.toNat - i) 0 ⟨Nat.zero_le _, ⟨rfl, rfl, rfl, rfl, trivial⟩, rfl⟩ fun i hi => ?_
  by_cases hi' : i < n.toNat
  · have h1 : (i : Int) < n := by omega
    have hw : IntKind.i64.wrap ((i : Int) + 1) = ((i + 1 : Nat) : Int) := by rw [wi64 (by omega)]; omega
    simp only [A_ref33_blanksL0, go_sem, Nat.reduceMod, Nat.reduceBNe, Nat.reduceBEq, Nat.reduceEqDiff, Nat.reduceAdd, Int.reduceAdd, Nat.reduceMul, Nat.reduceSub, Int.reduceToNat, Int.reduceLE, Int.reduceLT, Int.reduceEq, Int.reduceNe, reduceCtorEq, Nat.reduceLT, Nat.reduceLeDiff, h1, hw, List.length_replicate]
    exact ⟨by omega, i + 1, by omega, hi', rfl, by rw [List.replicate_succ']⟩
  · have h1 : ¬ (i : Int) < n := by omega
    simp only [A_ref33_blanksL0, go_sem, Nat.reduceMod, Nat.reduceBNe, Nat.reduceBEq, Nat.reduceEqDiff, Nat.reduceAdd, Int.reduceAdd, Nat.reduceMul, Nat.reduceSub, Int.reduceToNat, Int.reduceLE, Int.reduceLT, Int.reduceEq, Int.reduceNe, reduceCtorEq, Nat.reduceLT, Nat.reduceLeDiff, h1]
    rw [show i = n.toNat by omega]
theorem ev_r33widest (k : Int) (l : List Int) (s : List UInt8) (hv : ∀ v ∈ l, -9223372036854775808 ≤ v ∧ v ≤ 9223372036854775807) (hl : l.length < 1000000) (hn : s.length ≤ 1000) :
    Ev X F_ref33_widest [.int .i64 k, lst (AV.int .i64) .ro l, .str s] (.int .i64 (wid k l s.length : Nat)) := by
  refine ev_of_wpc hs (A_ref33_widest_ok hX) 0 ?_
  simp only [A_ref33_widest, go_sem, Nat.reduceMod, Nat.reduceBNe, Nat.reduceBEq, Nat.reduceEqDiff, Nat.reduceAdd, Int.reduceAdd, Nat.reduceMul, Nat.reduceSub, Int.reduceToNat, Int.reduceLE, Int.reduceLT, Int.reduceEq, Int.reduceNe, reduceCtorEq, Nat.reduceLT, Nat.reduceLeDiff]
  refine w_loop' hs.hm (ι := Nat) (fun i => i ≤ l.length) (fun i => [(8, .int .i64 i), (0, .int .i64 k), (1, lst (AV.int .i64) .ro l), (7, .int .i64 (wid k (l.take i) s.length : Nat))]) (fun _ => []) (fun i => l.length - i) 0 ⟨Nat.zero_le _, ⟨rfl, rfl, rfl, rfl, trivial⟩, rfl⟩ fun i hi => ?_
  by_cases hi' : i < l.length
  · have h1 : (i : Int) < l.length := by omega
    have hw : IntKind.i64.wrap ((i : Int) + 1) = ((i + 1 : Nat) : Int) := by rw [wi64 (by omega)]; omega
    have hr := hv (l.getD i 0) (by rw [List.getD_eq_getElem?_getD, List.getElem?_eq_getElem hi']; exact List.getElem_mem _)
    have ew := wid_take (k := k) (n := s.length) hi'
    simp only [A_ref33_widestL0, go_sem, Nat.reduceMod, Nat.reduceBNe, Nat.reduceBEq, Nat.reduceEqDiff, Nat.reduceAdd, Int.reduceAdd, Nat.reduceMul, Nat.reduceSub, Int.reduceToNat, Int.reduceLE, Int.reduceLT, Int.reduceEq, Int.reduceNe, reduceCtorEq, Nat.reduceLT, Nat.reduceLeDiff, h1, hw, def0]
    refine ⟨by omega, call_ev (ev_r33cell hX hs k _ hr) ?_⟩
    simp only [go_sem, Nat.reduceMod, Nat.reduceBNe, Nat.reduceBEq, Nat.reduceEqDiff, Nat.reduceAdd, Int.reduceAdd, Nat.reduceMul, Nat.reduceSub, Int.reduceToNat, Int.reduceLE, Int.reduceLT, Int.reduceEq, Int.reduceNe, reduceCtorEq, Nat.reduceLT, Nat.reduceLeDiff, hw]
    refine ⟨fun h => ⟨i + 1, by omega, hi', rfl, ?_⟩, fun h => ⟨i + 1, by omega, hi', rfl, ?_⟩⟩
    · rw [ew, show max (wid k (l.take i) s.length) (cellS k (l.getD i 0)).length = (cellS k (l.getD i 0)).length by omega]
    · rw [ew, show max (wid k (l.take i) s.length) (cellS k (l.getD i 0)).length = wid k (l.take i) s.length by omega]
  · have h1 : ¬ (i : Int) < l.length := by omega
    simp only [A_ref33_widestL0, go_sem, Nat.reduceMod, Nat.reduceBNe, Nat.reduceBEq, Nat.reduceEqDiff, Nat.reduceAdd, Int.reduceAdd, Nat.reduceMul, Nat.reduceSub, Int.reduceToNat, Int.reduceLE, Int.reduceLT, Int.reduceEq, Int.reduceNe, reduceCtorEq, Nat.reduceLT, Nat.reduceLeDiff, h1]
    rw [List.take_of_length_le (by omega)]
end
end Go.Avm

/- The reference's tables. -/
namespace Go.Avm
open Go Go.Fm
set_option maxRecDepth 10000
section
variable {X : Cx} (hX : X.P = Go.Proofs.Tryz.prog) (hs : Std X)
include hX hs
end
end Go.Avm
