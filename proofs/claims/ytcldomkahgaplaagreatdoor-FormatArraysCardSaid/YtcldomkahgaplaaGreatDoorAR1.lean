/- Runes: what is one, its bytes. -/
import Derived.Test.YtcldomkahgaplaaGreatDoorAV2
import Derived.Test.YtcldomkahgaplaaGreatDoorML
import Derived.Lib.IndexAny
set_option linter.all false
namespace Go.Avm
open Go Go.Rn
set_option maxRecDepth 4000
section
variable {X : Cx} (hX : X.P = Go.Proofs.Tryz.prog) (hs : Std X)
include hX hs
theorem ev_valid (n : Int) : Ev X F_utf8_ValidRune [.int .i32 n] (.bool (valid n)) := by
  refine ev_of_wpc hs (A_utf8_ValidRune_ok hX) 0 ?_
  simp only [A_utf8_ValidRune, go_sem, Nat.reduceEqDiff, reduceCtorEq, valid, AV.bool.injEq]
  grind
theorem ev_is (n : Int) (hn : -9223372036854775808 ≤ n ∧ n < 9223372036854775808) : Ev X F_runes_is [.int .i64 n] (.bool (valid n)) := by
  refine ev_of_wpc hs (A_runes_is_ok hX) 0 ?_
  simp only [A_runes_is, go_sem, Nat.reduceEqDiff, reduceCtorEq]
  have h32 : -2147483648 ≤ IntKind.i32.wrap n ∧ IntKind.i32.wrap n < 2147483648 := by rw [w_i32]; split <;> omega
  have e : IntKind.i64.wrap (IntKind.i32.wrap n) = IntKind.i32.wrap n := wi64 (by omega)
  refine ⟨fun h => call_ev (ev_valid hX hs _) ?_, fun h => ?_⟩
  · rw [e] at h
    simp only [go_sem, Nat.reduceEqDiff, reduceCtorEq, ← h]
  · simp only [AV.bool.injEq, valid]
    rw [e] at h
    by_cases hr : 0 ≤ n ∧ n < 2147483648
    · exact absurd (wi32 (by omega)).symm h
    · grind
theorem ev_refIs (n : Int) : Ev X F_ref02_Is [.int .i64 n] (.bool (valid n)) := by
  refine ev_of_wpc hs (A_ref02_Is_ok hX) 0 ?_
  simp only [A_ref02_Is, go_sem, Nat.reduceEqDiff, reduceCtorEq, valid, AV.bool.injEq]
  grind
theorem ev_refEncode (n : Int) : Ev X F_ref02_Encode [.int .i64 n] (.tuple [lst u8 .ex (enc n), .int .i64 (fault (valid n))]) := by
  refine ev_of_wpc hs (A_ref02_Encode_ok hX) 0 ?_
  simp only [A_ref02_Encode, go_sem, Nat.reduceEqDiff, reduceCtorEq]
  refine call_ev (ev_refIs hX hs n) ?_
  simp only [go_sem, Nat.reduceEqDiff, Nat.reduceAdd, Int.reduceNe, reduceCtorEq, Nat.reduceLT]
  refine ⟨fun hv => ?_, fun hv => ?_⟩
  · simp only [enc, fault, hv]; rfl
  · have hv' : 0 ≤ n ∧ n ≤ 1114111 := by simp [valid] at hv; omega
    have hb : ∀ l : List Int, (∀ x ∈ l, 0 ≤ x ∧ x < 256) → lst u8 .ex (l.map byteI) = .sl .ex (l.map (AV.int .u8)) := fun l hl => by
      simp only [lst, List.map_map, AV.sl.injEq, true_and]
      exact List.map_congr_left fun x hx => u8_byteI (hl x hx)
    simp (disch := omega) only [Int.tdiv_eq_ediv_of_nonneg, Int.tmod_eq_emod_of_nonneg, wi64, wu8, enc, hv, if_true, fault, encI]
    refine ⟨fun h => ?_, fun h => ⟨fun h2 => ?_, fun h2 => ⟨fun h3 => ?_, fun h3 => ?_⟩⟩⟩
    · rw [if_pos h, hb _ (by simp; omega)]; simp (disch := omega) only [wu8, List.map_cons, List.map_nil]
    · rw [if_neg h, if_pos h2, hb _ (by simp; omega)]; simp (disch := omega) only [wu8, List.map_cons, List.map_nil]
    · rw [if_neg h, if_neg h2, if_pos h3, hb _ (by simp; omega)]; simp (disch := omega) only [wu8, List.map_cons, List.map_nil]
    · rw [if_neg h, if_neg h2, if_neg h3, hb _ (by simp; omega)]; simp (disch := omega) only [List.map_cons, List.map_nil]
end
section
variable {X : Cx} (hX : X.P = Go.Proofs.Tryz.prog) (hs : Std X)
include hX hs
end
section
variable {X : Cx} (hX : X.P = Go.Proofs.Tryz.prog) (hs : Std X)
include hX hs
end
end Go.Avm
namespace Go.Avm
open Go Go.Rn
set_option maxRecDepth 4000
section
variable {X : Cx} (hX : X.P = Go.Proofs.Tryz.prog) (hs : Std X)
include hX hs
end
section
variable {X : Cx} (hX : X.P = Go.Proofs.Tryz.prog) (hs : Std X)
include hX hs
end
section
variable {X : Cx} (hX : X.P = Go.Proofs.Tryz.prog) (hs : Std X)
include hX hs
end
end Go.Avm
namespace Go.Avm
open Go Go.Rn
theorem bt_def (l : List UInt8) (i : Nat) : (((l.getD i default).toNat : Nat) : Int) = bt l i := rfl
def racc (l : List UInt8) (low : Int) : Nat → Int
  | 0 => 0
  | 1 => bt l 0 - low
  | (i + 1) => 64 * racc l low i + bt l i - 128
theorem racc_rng (l : List UInt8) (low : Int) (h : 0 ≤ bt l 0 - low ∧ bt l 0 - low < 64) (i : Nat) (hi : 1 ≤ i ∧ i ≤ 4) (hj : ∀ j, 1 ≤ j → j < i → 128 ≤ bt l j ∧ bt l j < 192) : 0 ≤ racc l low i ∧ racc l low i < 16777216 := by
  match i, hi with
  | 1, _ => simp only [racc]; omega
  | 2, _ => have := hj 1 (by omega) (by omega); simp only [racc]; omega
  | 3, _ => have := hj 1 (by omega) (by omega); have := hj 2 (by omega) (by omega); simp only [racc]; omega
  | 4, _ => have := hj 1 (by omega) (by omega); have := hj 2 (by omega) (by omega); have := hj 3 (by omega) (by omega); simp only [racc]; omega
theorem numI_bad (l : List UInt8) (i : Nat) (h1 : 1 ≤ i) (h2 : i < l.length) (h : ¬ (128 ≤ bt l i ∧ bt l i < 192)) : numI l = -1 := by
  simp only [numI]
  split
  · omega
  split
  · rcases (by omega : i = 1) with rfl; rw [if_neg (by omega)]
  split
  · rcases (by omega : i = 1 ∨ i = 2) with rfl | rfl <;> rw [if_neg (by omega)]
  split
  · rcases (by omega : i = 1 ∨ i = 2 ∨ i = 3) with rfl | rfl | rfl <;> rw [if_neg (by omega)]
  · rfl
theorem numI_good (l : List UInt8) (low : Int) (n : Nat) (hn : (n = 2 ∧ low = 192 ∧ bt l 0 < 224) ∨ (n = 3 ∧ low = 224 ∧ bt l 0 < 240) ∨ (n = 4 ∧ low = 240 ∧ bt l 0 < 248)) (hl : l.length = n) (h0 : low ≤ bt l 0) (hj : ∀ j, 1 ≤ j → j < n → 128 ≤ bt l j ∧ bt l j < 192) : numI l = racc l low n := by
  simp only [numI, hl]
  rcases hn with ⟨rfl, rfl, h⟩ | ⟨rfl, rfl, h⟩ | ⟨rfl, rfl, h⟩
  · have := hj 1 (by omega) (by omega)
    rw [if_neg (by omega), if_pos rfl, if_pos (by omega)]; simp only [racc]
  · have := hj 1 (by omega) (by omega); have := hj 2 (by omega) (by omega)
    rw [if_neg (by omega), if_neg (by omega), if_pos rfl, if_pos (by omega)]; simp only [racc]
  · have := hj 1 (by omega) (by omega); have := hj 2 (by omega) (by omega); have := hj 3 (by omega) (by omega)
    rw [if_neg (by omega), if_neg (by omega), if_neg (by omega), if_pos rfl, if_pos (by omega)]; simp only [racc]
set_option maxRecDepth 4000
section
variable {X : Cx} (hX : X.P = Go.Proofs.Tryz.prog) (hs : Std X)
include hX hs
theorem ev_number (l : List UInt8) (hl : 1 ≤ l.length ∧ l.length ≤ 4) : Ev X F_ref02_number [lst u8 .ro l] (.int .i64 (numI l)) := by
  have b0 := bt_rng l 0
  refine ev_of_wpc hs (A_ref02_number_ok hX) 1 ?_
  simp only [A_ref02_number, go_sem, Nat.reduceEqDiff, Nat.reduceAdd, Int.reduceToNat, Int.reduceLE, reduceCtorEq, Nat.reduceLeDiff, bt_def]
  rw [wi64 (by omega)]
  refine ⟨by omega, ?_⟩
  refine w_loop' hs.hm (ι := Nat) (fun n => 2 ≤ n ∧ n ≤ 5 ∧ (2 < n → ¬ (l.length = 2 ∧ 192 ≤ bt l 0 ∧ bt l 0 < 224)) ∧ (3 < n → ¬ (l.length = 3 ∧ 224 ≤ bt l 0 ∧ bt l 0 < 240)) ∧ (4 < n → ¬ (l.length = 4 ∧ 240 ≤ bt l 0 ∧ bt l 0 < 248))) (fun n => [(0, lst u8 .ro l), (3, .int .i64 (bt l 0)), (4, .ptr 0 0), (5, .int .i64 n)]) (fun _ => [.box [.int .i64 0, .int .i64 0, .int .i64 192, .int .i64 224, .int .i64 240]]) (fun n => 5 - n) 2 ?_ fun n hn => ?_
  · simp only [go_sem, Nat.reduceEqDiff, reduceCtorEq, Nat.reduceLT, Nat.reduceLeDiff]
  · obtain ⟨n1, n2, n3, n4, n5⟩ := hn
    rcases (by omega : n = 2 ∨ n = 3 ∨ n = 4 ∨ n = 5) with rfl | rfl | rfl | rfl
    · have k1 : IntKind.u64.wrap 2 = 2 := by decide
      have k2 : IntKind.i64.wrap (192 + IntKind.i64.wrap (Int.fdiv 64 (2 ^ min (Int.toNat 2) 64) * 2)) = 224 := by decide
      have k2' : IntKind.i64.wrap (192 + IntKind.i64.wrap (Int.fdiv 64 (2 ^ min 2 64) * 2)) = 224 := by decide
      have k3 : IntKind.i64.wrap 3 = 3 := by decide
      simp only [A_ref02_numberL0, go_sem, Nat.reduceEqDiff, Nat.reduceAdd, Int.reduceAdd, Nat.reduceMul, Nat.reduceSub, Int.reduceToNat, Int.reduceLE, Int.reduceLT, reduceCtorEq, Nat.reduceLT, Int.reduceToNat, Int.reduceLE, Int.reduceLT, k1, k2', k3]
      refine ⟨fun c => ⟨3, by omega, ⟨by omega, by omega, by omega, by omega, by omega⟩, rfl⟩, fun c => ⟨fun c1 => ⟨3, by omega, ⟨by omega, by omega, by omega, by omega, by omega⟩, rfl⟩, fun c1 => ⟨fun c2 => ⟨3, by omega, ⟨by omega, by omega, by omega, by omega, by omega⟩, rfl⟩, fun c2 => ?_⟩⟩⟩
      refine w_loop' hs.hm (ι := Nat) (fun i => 1 ≤ i ∧ i ≤ 2 ∧ ∀ j, 1 ≤ j → j < i → 128 ≤ bt l j ∧ bt l j < 192) (fun i => [(0, lst u8 .ro l), (5, .int .i64 2), (7, .int .i64 (racc l 192 i)), (8, .int .i64 i)]) (fun _ => [.box [.int .i64 0, .int .i64 0, .int .i64 192, .int .i64 224, .int .i64 240]]) (fun i => 2 - i) 1 ?_ fun i hi => ?_
      · simp only [go_sem, Nat.reduceEqDiff, reduceCtorEq, Nat.reduceLeDiff, racc]
        rw [wi64 (by omega)]
        refine ⟨fun j _ _ => by omega, rfl⟩
      · obtain ⟨i1, i2, i3⟩ := hi
        have hr := racc_rng l 192 (by omega) i (by omega) i3
        have bi := bt_rng l i
        have hs : racc l 192 (i + 1) = 64 * racc l 192 i + bt l i - 128 := by match i, i1 with | i + 1, _ => rfl
        simp only [A_ref02_numberL1, go_sem, Nat.reduceEqDiff, reduceCtorEq, bt_def]
        simp (disch := omega) only [wi64]
        refine ⟨fun c => ⟨by omega, fun c1 => ?_, fun c1 => ⟨by omega, fun c2 => ?_, fun c2 => ⟨by omega, ⟨i + 1, by omega, ⟨by omega, by omega, fun j j1 j2 => ?_⟩, ?_, by simp⟩⟩⟩⟩, fun c => ?_⟩
        · rw [numI_bad l i i1 (by omega) (by omega)]
        · rw [numI_bad l i i1 (by omega) (by omega)]
        · rcases (by omega : j = i ∨ j < i) with rfl | hj
          · omega
          · exact i3 j j1 hj
        · rw [hs]
        · have : i = 2 := by omega
          subst this
          rw [numI_good l 192 2 (by omega) (by omega) (by omega) i3]
    · have k1 : IntKind.u64.wrap 3 = 3 := by decide
      have k2 : IntKind.i64.wrap (224 + IntKind.i64.wrap (Int.fdiv 64 (2 ^ min (Int.toNat 3) 64) * 2)) = 240 := by decide
      have k2' : IntKind.i64.wrap (224 + IntKind.i64.wrap (Int.fdiv 64 (2 ^ min 3 64) * 2)) = 240 := by decide
      have k3 : IntKind.i64.wrap 4 = 4 := by decide
      simp only [A_ref02_numberL0, go_sem, Nat.reduceEqDiff, Nat.reduceAdd, Int.reduceAdd, Nat.reduceMul, Nat.reduceSub, Int.reduceToNat, Int.reduceLE, Int.reduceLT, reduceCtorEq, Nat.reduceLT, Int.reduceToNat, Int.reduceLE, Int.reduceLT, k1, k2', k3]
      refine ⟨fun c => ⟨4, by omega, ⟨by omega, by omega, by omega, by omega, by omega⟩, rfl⟩, fun c => ⟨fun c1 => ⟨4, by omega, ⟨by omega, by omega, by omega, by omega, by omega⟩, rfl⟩, fun c1 => ⟨fun c2 => ⟨4, by omega, ⟨by omega, by omega, by omega, by omega, by omega⟩, rfl⟩, fun c2 => ?_⟩⟩⟩
      refine w_loop' hs.hm (ι := Nat) (fun i => 1 ≤ i ∧ i ≤ 3 ∧ ∀ j, 1 ≤ j → j < i → 128 ≤ bt l j ∧ bt l j < 192) (fun i => [(0, lst u8 .ro l), (5, .int .i64 3), (7, .int .i64 (racc l 224 i)), (8, .int .i64 i)]) (fun _ => [.box [.int .i64 0, .int .i64 0, .int .i64 192, .int .i64 224, .int .i64 240]]) (fun i => 3 - i) 1 ?_ fun i hi => ?_
      · simp only [go_sem, Nat.reduceEqDiff, reduceCtorEq, Nat.reduceLeDiff, racc]
        rw [wi64 (by omega)]
        refine ⟨fun j _ _ => by omega, rfl⟩
      · obtain ⟨i1, i2, i3⟩ := hi
        have hr := racc_rng l 224 (by omega) i (by omega) i3
        have bi := bt_rng l i
        have hs : racc l 224 (i + 1) = 64 * racc l 224 i + bt l i - 128 := by match i, i1 with | i + 1, _ => rfl
        simp only [A_ref02_numberL1, go_sem, Nat.reduceEqDiff, reduceCtorEq, bt_def]
        simp (disch := omega) only [wi64]
        refine ⟨fun c => ⟨by omega, fun c1 => ?_, fun c1 => ⟨by omega, fun c2 => ?_, fun c2 => ⟨by omega, ⟨i + 1, by omega, ⟨by omega, by omega, fun j j1 j2 => ?_⟩, ?_, by simp⟩⟩⟩⟩, fun c => ?_⟩
        · rw [numI_bad l i i1 (by omega) (by omega)]
        · rw [numI_bad l i i1 (by omega) (by omega)]
        · rcases (by omega : j = i ∨ j < i) with rfl | hj
          · omega
          · exact i3 j j1 hj
        · rw [hs]
        · have : i = 3 := by omega
          subst this
          rw [numI_good l 224 3 (by omega) (by omega) (by omega) i3]
    · have k1 : IntKind.u64.wrap 4 = 4 := by decide
      have k2 : IntKind.i64.wrap (240 + IntKind.i64.wrap (Int.fdiv 64 (2 ^ min (Int.toNat 4) 64) * 2)) = 248 := by decide
      have k2' : IntKind.i64.wrap (240 + IntKind.i64.wrap (Int.fdiv 64 (2 ^ min 4 64) * 2)) = 248 := by decide
      have k3 : IntKind.i64.wrap 5 = 5 := by decide
      simp only [A_ref02_numberL0, go_sem, Nat.reduceEqDiff, Nat.reduceAdd, Int.reduceAdd, Nat.reduceMul, Nat.reduceSub, Int.reduceToNat, Int.reduceLE, Int.reduceLT, reduceCtorEq, Nat.reduceLT, Int.reduceToNat, Int.reduceLE, Int.reduceLT, k1, k2', k3]
      refine ⟨fun c => ⟨5, by omega, ⟨by omega, by omega, by omega, by omega, by omega⟩, rfl⟩, fun c => ⟨fun c1 => ⟨5, by omega, ⟨by omega, by omega, by omega, by omega, by omega⟩, rfl⟩, fun c1 => ⟨fun c2 => ⟨5, by omega, ⟨by omega, by omega, by omega, by omega, by omega⟩, rfl⟩, fun c2 => ?_⟩⟩⟩
      refine w_loop' hs.hm (ι := Nat) (fun i => 1 ≤ i ∧ i ≤ 4 ∧ ∀ j, 1 ≤ j → j < i → 128 ≤ bt l j ∧ bt l j < 192) (fun i => [(0, lst u8 .ro l), (5, .int .i64 4), (7, .int .i64 (racc l 240 i)), (8, .int .i64 i)]) (fun _ => [.box [.int .i64 0, .int .i64 0, .int .i64 192, .int .i64 224, .int .i64 240]]) (fun i => 4 - i) 1 ?_ fun i hi => ?_
      · simp only [go_sem, Nat.reduceEqDiff, reduceCtorEq, Nat.reduceLeDiff, racc]
        rw [wi64 (by omega)]
        refine ⟨fun j _ _ => by omega, rfl⟩
      · obtain ⟨i1, i2, i3⟩ := hi
        have hr := racc_rng l 240 (by omega) i (by omega) i3
        have bi := bt_rng l i
        have hs : racc l 240 (i + 1) = 64 * racc l 240 i + bt l i - 128 := by match i, i1 with | i + 1, _ => rfl
        simp only [A_ref02_numberL1, go_sem, Nat.reduceEqDiff, reduceCtorEq, bt_def]
        simp (disch := omega) only [wi64]
        refine ⟨fun c => ⟨by omega, fun c1 => ?_, fun c1 => ⟨by omega, fun c2 => ?_, fun c2 => ⟨by omega, ⟨i + 1, by omega, ⟨by omega, by omega, fun j j1 j2 => ?_⟩, ?_, by simp⟩⟩⟩⟩, fun c => ?_⟩
        · rw [numI_bad l i i1 (by omega) (by omega)]
        · rw [numI_bad l i i1 (by omega) (by omega)]
        · rcases (by omega : j = i ∨ j < i) with rfl | hj
          · omega
          · exact i3 j j1 hj
        · rw [hs]
        · have : i = 4 := by omega
          subst this
          rw [numI_good l 240 4 (by omega) (by omega) (by omega) i3]
    · simp only [A_ref02_numberL0, go_sem, Nat.reduceEqDiff, Int.reduceLE, reduceCtorEq, Int.reduceLE]
      simp only [AV.int.injEq, true_and, numI]
      refine ⟨fun h => ⟨fun h1 => ?_, fun h1 => ?_⟩, fun h => ?_⟩
      · rw [if_pos (by omega), if_pos h1]
      · rw [if_pos (by omega), if_neg h1]
      · rw [if_neg (by omega)]
        split
        · rw [if_neg (by omega)]
        split
        · rw [if_neg (by omega)]
        split
        · rw [if_neg (by omega)]
        · rfl
theorem ev_stands (l : List UInt8) (hl : 1 ≤ l.length ∧ l.length ≤ 4) : Ev X F_ref02_stands [lst u8 .ro l] (.tuple [.int .i64 (if valid (numI l) then numI l else 0), .bool (sb l)]) := by
  refine ev_of_wpc hs (A_ref02_stands_ok hX) 0 ?_
  simp only [A_ref02_stands, go_sem, Nat.reduceEqDiff, reduceCtorEq]
  refine call_ev (ev_number hX hs l hl) ?_
  simp only [go_sem, Nat.reduceEqDiff, reduceCtorEq]
  refine call_ev (ev_refIs hX hs (numI l)) ?_
  simp only [go_sem, Nat.reduceEqDiff, reduceCtorEq]
  cases hv : valid (numI l) with
  | false =>
    have : sb l = false := by
      rw [← Bool.not_eq_true, sb_iff, hv]; simp
    simp only [go_sem, reduceCtorEq, this]
  | true =>
    simp only [go_sem, reduceCtorEq]
    refine call_ev (ev_refEncode hX hs (numI l)) ?_
    simp only [go_sem, Nat.reduceEqDiff, Nat.reduceAdd, reduceCtorEq, Nat.reduceLT]
    rw [AV.tuple.injEq]
    simp only [List.cons.injEq, AV.bool.injEq, true_and, and_true]
    rw [Bool.eq_iff_iff, sb_iff, hv]
    simp [eq_comm]
end
end Go.Avm
namespace Go.Avm
open Go Go.Rn
set_option maxRecDepth 4000
section
variable {X : Cx} (hX : X.P = Go.Proofs.Tryz.prog) (hs : Std X)
include hX hs
theorem ev_begins (l : List UInt8) (hl : 1 ≤ l.length ∧ l.length ≤ 3) : Ev X F_ref02_begins [lst u8 .ro l] (.bool (more l)) := by
  have b0 := bt_rng l 0
  have hno : many (bt l 0) ≤ l.length → more l = false := fun h => by
    rw [← Bool.not_eq_true]; intro h'
    have := more_many l h'; omega
  refine ev_of_wpc hs (A_ref02_begins_ok hX) 2 ?_
  simp only [A_ref02_begins, go_sem, Nat.reduceEqDiff, Int.reduceToNat, Int.reduceLE, reduceCtorEq, bt_def]
  simp (disch := omega) only [wi64]
  by_cases c2 : 192 ≤ bt l 0 ∧ bt l 0 < 224
  · have hm : many (bt l 0) = 2 := by simp only [many]; rw [if_pos c2]
    simp only [c2, go_sem]
    refine ⟨by omega, fun c => by rw [hno (by omega)], fun c => ?_⟩
    refine w_loop' hs.hm (ι := Nat) (fun k => k ≤ 2 ∧ ∀ i < k, sb (l ++ List.replicate (2 - l.length) (byteI (128 + 63 * i))) = false) (fun k => [(0, lst u8 .ro l), (3, .int .i64 2), (5, .int .i64 (128 + 63 * k))]) (fun k => List.replicate k (.tok 2)) (fun k => 3 - k) 0 ?_ fun k hk => ?_
    · simp only [go_sem, Nat.reduceEqDiff, reduceCtorEq, Nat.reduceLeDiff]
      simp
    · obtain ⟨h1, h2⟩ := hk
      rcases (by omega : k = 0 ∨ k = 1 ∨ k = 2) with rfl | rfl | rfl
      · simp only [A_ref02_beginsL0, go_sem, Nat.reduceEqDiff, Int.reduceAdd, Int.reduceLE, reduceCtorEq, Int.reduceLE, Int.reduceMul, List.replicate_zero]
        refine ⟨⟨by omega, by omega⟩, ?_⟩
        refine w_loop' hs.hm (ι := Nat) (fun j => l.length + j ≤ 2) (fun j => [(0, lst u8 .ro l), (3, .int .i64 2), (5, .int .i64 128), (6, lst u8 (.tok 0 1) (l ++ List.replicate j (byteI 128)))]) (fun j => [.tok (l.length + j)]) (fun j => 2 - (l.length + j)) 0 ?_ fun j hj => ?_
        · simp only [go_sem, Nat.reduceEqDiff, reduceCtorEq]
          exact ⟨by omega, by simp⟩
        · have e : AV.int .u8 (IntKind.u8.wrap 128) = u8 (byteI 128) := by rw [wu8 (by omega), u8_byteI (by omega)]
          have k3 : IntKind.i64.wrap 191 = 191 := by decide
          simp only [A_ref02_beginsL1, go_sem, Nat.reduceEqDiff, reduceCtorEq, Nat.reduceLT, Nat.reduceLeDiff, List.length_append, List.length_replicate, e]
          refine ⟨fun c => ⟨⟨by omega, by omega⟩, j + 1, by omega, by omega, ?_, ?_⟩, fun c => ?_⟩
          · rw [List.append_assoc, List.replicate_succ']
          · simp; omega
          · have hj2 : j = 2 - l.length := by omega
            subst hj2
            refine call_ev (ev_stands hX hs _ (by simp; omega)) ?_
            simp only [go_sem, Nat.reduceEqDiff, Nat.reduceAdd, Int.reduceAdd, Nat.reduceSub, reduceCtorEq, Nat.reduceLT]
            cases hb : sb (l ++ List.replicate (2 - l.length) (byteI 128)) with
            | true =>
              simp only [go_sem, reduceCtorEq]
              rw [more_rep l hl.1 (by omega), hm, hb]; simp
            | false =>
              simp only [go_sem, reduceCtorEq, k3]
              refine ⟨1, by omega, ⟨by omega, fun i hi => ?_⟩, rfl, ?_⟩
              · rcases (by omega : i = 0 ∨ i < 0) with rfl | hi'
                · exact hb
                · exact h2 i hi'
              · simp; omega
      · simp only [A_ref02_beginsL0, go_sem, Nat.reduceEqDiff, Int.reduceAdd, Int.reduceLE, reduceCtorEq, Int.reduceLE, Int.reduceMul, List.replicate_succ, List.replicate_zero]
        refine ⟨⟨by omega, by omega⟩, ?_⟩
        refine w_loop' hs.hm (ι := Nat) (fun j => l.length + j ≤ 2) (fun j => [(0, lst u8 .ro l), (3, .int .i64 2), (5, .int .i64 191), (6, lst u8 (.tok 1 1) (l ++ List.replicate j (byteI 191)))]) (fun j => [.tok 2, .tok (l.length + j)]) (fun j => 2 - (l.length + j)) 0 ?_ fun j hj => ?_
        · simp only [go_sem, Nat.reduceEqDiff, reduceCtorEq]
          exact ⟨by omega, by simp⟩
        · have e : AV.int .u8 (IntKind.u8.wrap 191) = u8 (byteI 191) := by rw [wu8 (by omega), u8_byteI (by omega)]
          have k3 : IntKind.i64.wrap 254 = 254 := by decide
          simp only [A_ref02_beginsL1, go_sem, Nat.reduceEqDiff, reduceCtorEq, Nat.reduceLT, Nat.reduceLeDiff, List.length_append, List.length_replicate, e]
          refine ⟨fun c => ⟨⟨by omega, by omega⟩, j + 1, by omega, by omega, ?_, ?_⟩, fun c => ?_⟩
          · rw [List.append_assoc, List.replicate_succ']
          · simp; omega
          · have hj2 : j = 2 - l.length := by omega
            subst hj2
            refine call_ev (ev_stands hX hs _ (by simp; omega)) ?_
            simp only [go_sem, Nat.reduceEqDiff, Nat.reduceAdd, Int.reduceAdd, Nat.reduceSub, reduceCtorEq, Nat.reduceLT]
            cases hb : sb (l ++ List.replicate (2 - l.length) (byteI 191)) with
            | true =>
              simp only [go_sem, reduceCtorEq]
              rw [more_rep l hl.1 (by omega), hm, hb]; simp
            | false =>
              simp only [go_sem, reduceCtorEq, k3]
              refine ⟨2, by omega, ⟨by omega, fun i hi => ?_⟩, rfl, ?_⟩
              · rcases (by omega : i = 1 ∨ i < 1) with rfl | hi'
                · exact hb
                · exact h2 i hi'
              · simp; omega
      · simp only [A_ref02_beginsL0, go_sem, Nat.reduceEqDiff, Int.reduceAdd, Int.reduceLE, reduceCtorEq, Int.reduceLE, Int.reduceMul]
        have a0 := h2 0 (by omega); have a1 := h2 1 (by omega)
        simp at a0 a1
        rw [more_rep l hl.1 (by omega), hm, a0, a1]; rfl
  by_cases c3 : 224 ≤ bt l 0 ∧ bt l 0 < 240
  · have hm : many (bt l 0) = 3 := by simp only [many]; rw [if_neg (by omega), if_pos c3]
    simp only [(show (192:Int) ≤ bt l 0 by omega), (show ¬ bt l 0 < 224 by omega), c3, go_sem]
    refine ⟨by omega, fun c => by rw [hno (by omega)], fun c => ?_⟩
    refine w_loop' hs.hm (ι := Nat) (fun k => k ≤ 2 ∧ ∀ i < k, sb (l ++ List.replicate (3 - l.length) (byteI (128 + 63 * i))) = false) (fun k => [(0, lst u8 .ro l), (3, .int .i64 3), (5, .int .i64 (128 + 63 * k))]) (fun k => List.replicate k (.tok 3)) (fun k => 3 - k) 0 ?_ fun k hk => ?_
    · simp only [go_sem, Nat.reduceEqDiff, reduceCtorEq, Nat.reduceLeDiff]
      simp
    · obtain ⟨h1, h2⟩ := hk
      rcases (by omega : k = 0 ∨ k = 1 ∨ k = 2) with rfl | rfl | rfl
      · simp only [A_ref02_beginsL0, go_sem, Nat.reduceEqDiff, Int.reduceAdd, Int.reduceLE, reduceCtorEq, Int.reduceLE, Int.reduceMul, List.replicate_zero]
        refine ⟨⟨by omega, by omega⟩, ?_⟩
        refine w_loop' hs.hm (ι := Nat) (fun j => l.length + j ≤ 3) (fun j => [(0, lst u8 .ro l), (3, .int .i64 3), (5, .int .i64 128), (6, lst u8 (.tok 0 1) (l ++ List.replicate j (byteI 128)))]) (fun j => [.tok (l.length + j)]) (fun j => 3 - (l.length + j)) 0 ?_ fun j hj => ?_
        · simp only [go_sem, Nat.reduceEqDiff, reduceCtorEq]
          exact ⟨by omega, by simp⟩
        · have e : AV.int .u8 (IntKind.u8.wrap 128) = u8 (byteI 128) := by rw [wu8 (by omega), u8_byteI (by omega)]
          have k3 : IntKind.i64.wrap 191 = 191 := by decide
          simp only [A_ref02_beginsL1, go_sem, Nat.reduceEqDiff, reduceCtorEq, Nat.reduceLT, Nat.reduceLeDiff, List.length_append, List.length_replicate, e]
          refine ⟨fun c => ⟨⟨by omega, by omega⟩, j + 1, by omega, by omega, ?_, ?_⟩, fun c => ?_⟩
          · rw [List.append_assoc, List.replicate_succ']
          · simp; omega
          · have hj2 : j = 3 - l.length := by omega
            subst hj2
            refine call_ev (ev_stands hX hs _ (by simp; omega)) ?_
            simp only [go_sem, Nat.reduceEqDiff, Nat.reduceAdd, Int.reduceAdd, Nat.reduceSub, reduceCtorEq, Nat.reduceLT]
            cases hb : sb (l ++ List.replicate (3 - l.length) (byteI 128)) with
            | true =>
              simp only [go_sem, reduceCtorEq]
              rw [more_rep l hl.1 (by omega), hm, hb]; simp
            | false =>
              simp only [go_sem, reduceCtorEq, k3]
              refine ⟨1, by omega, ⟨by omega, fun i hi => ?_⟩, rfl, ?_⟩
              · rcases (by omega : i = 0 ∨ i < 0) with rfl | hi'
                · exact hb
                · exact h2 i hi'
              · simp; omega
      · simp only [A_ref02_beginsL0, go_sem, Nat.reduceEqDiff, Int.reduceAdd, Int.reduceLE, reduceCtorEq, Int.reduceLE, Int.reduceMul, List.replicate_succ, List.replicate_zero]
        refine ⟨⟨by omega, by omega⟩, ?_⟩
        refine w_loop' hs.hm (ι := Nat) (fun j => l.length + j ≤ 3) (fun j => [(0, lst u8 .ro l), (3, .int .i64 3), (5, .int .i64 191), (6, lst u8 (.tok 1 1) (l ++ List.replicate j (byteI 191)))]) (fun j => [.tok 3, .tok (l.length + j)]) (fun j => 3 - (l.length + j)) 0 ?_ fun j hj => ?_
        · simp only [go_sem, Nat.reduceEqDiff, reduceCtorEq]
          exact ⟨by omega, by simp⟩
        · have e : AV.int .u8 (IntKind.u8.wrap 191) = u8 (byteI 191) := by rw [wu8 (by omega), u8_byteI (by omega)]
          have k3 : IntKind.i64.wrap 254 = 254 := by decide
          simp only [A_ref02_beginsL1, go_sem, Nat.reduceEqDiff, reduceCtorEq, Nat.reduceLT, Nat.reduceLeDiff, List.length_append, List.length_replicate, e]
          refine ⟨fun c => ⟨⟨by omega, by omega⟩, j + 1, by omega, by omega, ?_, ?_⟩, fun c => ?_⟩
          · rw [List.append_assoc, List.replicate_succ']
          · simp; omega
          · have hj2 : j = 3 - l.length := by omega
            subst hj2
            refine call_ev (ev_stands hX hs _ (by simp; omega)) ?_
            simp only [go_sem, Nat.reduceEqDiff, Nat.reduceAdd, Int.reduceAdd, Nat.reduceSub, reduceCtorEq, Nat.reduceLT]
            cases hb : sb (l ++ List.replicate (3 - l.length) (byteI 191)) with
            | true =>
              simp only [go_sem, reduceCtorEq]
              rw [more_rep l hl.1 (by omega), hm, hb]; simp
            | false =>
              simp only [go_sem, reduceCtorEq, k3]
              refine ⟨2, by omega, ⟨by omega, fun i hi => ?_⟩, rfl, ?_⟩
              · rcases (by omega : i = 1 ∨ i < 1) with rfl | hi'
                · exact hb
                · exact h2 i hi'
              · simp; omega
      · simp only [A_ref02_beginsL0, go_sem, Nat.reduceEqDiff, Int.reduceAdd, Int.reduceLE, reduceCtorEq, Int.reduceLE, Int.reduceMul]
        have a0 := h2 0 (by omega); have a1 := h2 1 (by omega)
        simp at a0 a1
        rw [more_rep l hl.1 (by omega), hm, a0, a1]; rfl
  by_cases c4 : 240 ≤ bt l 0 ∧ bt l 0 < 248
  · have hm : many (bt l 0) = 4 := by simp only [many]; rw [if_neg (by omega), if_neg (by omega), if_pos c4]
    simp only [(show (192:Int) ≤ bt l 0 by omega), (show ¬ bt l 0 < 224 by omega), (show (224:Int) ≤ bt l 0 by omega), (show ¬ bt l 0 < 240 by omega), c4, go_sem]
    refine ⟨by omega, fun c => by rw [hno (by omega)], fun c => ?_⟩
    refine w_loop' hs.hm (ι := Nat) (fun k => k ≤ 2 ∧ ∀ i < k, sb (l ++ List.replicate (4 - l.length) (byteI (128 + 63 * i))) = false) (fun k => [(0, lst u8 .ro l), (3, .int .i64 4), (5, .int .i64 (128 + 63 * k))]) (fun k => List.replicate k (.tok 4)) (fun k => 3 - k) 0 ?_ fun k hk => ?_
    · simp only [go_sem, Nat.reduceEqDiff, reduceCtorEq, Nat.reduceLeDiff]
      simp
    · obtain ⟨h1, h2⟩ := hk
      rcases (by omega : k = 0 ∨ k = 1 ∨ k = 2) with rfl | rfl | rfl
      · simp only [A_ref02_beginsL0, go_sem, Nat.reduceEqDiff, Int.reduceAdd, Int.reduceLE, reduceCtorEq, Int.reduceLE, Int.reduceMul, List.replicate_zero]
        refine ⟨⟨by omega, by omega⟩, ?_⟩
        refine w_loop' hs.hm (ι := Nat) (fun j => l.length + j ≤ 4) (fun j => [(0, lst u8 .ro l), (3, .int .i64 4), (5, .int .i64 128), (6, lst u8 (.tok 0 1) (l ++ List.replicate j (byteI 128)))]) (fun j => [.tok (l.length + j)]) (fun j => 4 - (l.length + j)) 0 ?_ fun j hj => ?_
        · simp only [go_sem, Nat.reduceEqDiff, reduceCtorEq]
          exact ⟨by omega, by simp⟩
        · have e : AV.int .u8 (IntKind.u8.wrap 128) = u8 (byteI 128) := by rw [wu8 (by omega), u8_byteI (by omega)]
          have k3 : IntKind.i64.wrap 191 = 191 := by decide
          simp only [A_ref02_beginsL1, go_sem, Nat.reduceEqDiff, reduceCtorEq, Nat.reduceLT, Nat.reduceLeDiff, List.length_append, List.length_replicate, e]
          refine ⟨fun c => ⟨⟨by omega, by omega⟩, j + 1, by omega, by omega, ?_, ?_⟩, fun c => ?_⟩
          · rw [List.append_assoc, List.replicate_succ']
          · simp; omega
          · have hj2 : j = 4 - l.length := by omega
            subst hj2
            refine call_ev (ev_stands hX hs _ (by simp; omega)) ?_
            simp only [go_sem, Nat.reduceEqDiff, Nat.reduceAdd, Int.reduceAdd, Nat.reduceSub, reduceCtorEq, Nat.reduceLT]
            cases hb : sb (l ++ List.replicate (4 - l.length) (byteI 128)) with
            | true =>
              simp only [go_sem, reduceCtorEq]
              rw [more_rep l hl.1 (by omega), hm, hb]; simp
            | false =>
              simp only [go_sem, reduceCtorEq, k3]
              refine ⟨1, by omega, ⟨by omega, fun i hi => ?_⟩, rfl, ?_⟩
              · rcases (by omega : i = 0 ∨ i < 0) with rfl | hi'
                · exact hb
                · exact h2 i hi'
              · simp; omega
      · simp only [A_ref02_beginsL0, go_sem, Nat.reduceEqDiff, Int.reduceAdd, Int.reduceLE, reduceCtorEq, Int.reduceLE, Int.reduceMul, List.replicate_succ, List.replicate_zero]
        refine ⟨⟨by omega, by omega⟩, ?_⟩
        refine w_loop' hs.hm (ι := Nat) (fun j => l.length + j ≤ 4) (fun j => [(0, lst u8 .ro l), (3, .int .i64 4), (5, .int .i64 191), (6, lst u8 (.tok 1 1) (l ++ List.replicate j (byteI 191)))]) (fun j => [.tok 4, .tok (l.length + j)]) (fun j => 4 - (l.length + j)) 0 ?_ fun j hj => ?_
        · simp only [go_sem, Nat.reduceEqDiff, reduceCtorEq]
          exact ⟨by omega, by simp⟩
        · have e : AV.int .u8 (IntKind.u8.wrap 191) = u8 (byteI 191) := by rw [wu8 (by omega), u8_byteI (by omega)]
          have k3 : IntKind.i64.wrap 254 = 254 := by decide
          simp only [A_ref02_beginsL1, go_sem, Nat.reduceEqDiff, reduceCtorEq, Nat.reduceLT, Nat.reduceLeDiff, List.length_append, List.length_replicate, e]
          refine ⟨fun c => ⟨⟨by omega, by omega⟩, j + 1, by omega, by omega, ?_, ?_⟩, fun c => ?_⟩
          · rw [List.append_assoc, List.replicate_succ']
          · simp; omega
          · have hj2 : j = 4 - l.length := by omega
            subst hj2
            refine call_ev (ev_stands hX hs _ (by simp; omega)) ?_
            simp only [go_sem, Nat.reduceEqDiff, Nat.reduceAdd, Int.reduceAdd, Nat.reduceSub, reduceCtorEq, Nat.reduceLT]
            cases hb : sb (l ++ List.replicate (4 - l.length) (byteI 191)) with
            | true =>
              simp only [go_sem, reduceCtorEq]
              rw [more_rep l hl.1 (by omega), hm, hb]; simp
            | false =>
              simp only [go_sem, reduceCtorEq, k3]
              refine ⟨2, by omega, ⟨by omega, fun i hi => ?_⟩, rfl, ?_⟩
              · rcases (by omega : i = 1 ∨ i < 1) with rfl | hi'
                · exact hb
                · exact h2 i hi'
              · simp; omega
      · simp only [A_ref02_beginsL0, go_sem, Nat.reduceEqDiff, Int.reduceAdd, Int.reduceLE, reduceCtorEq, Int.reduceLE, Int.reduceMul]
        have a0 := h2 0 (by omega); have a1 := h2 1 (by omega)
        simp at a0 a1
        rw [more_rep l hl.1 (by omega), hm, a0, a1]; rfl
  have hm : many (bt l 0) = 0 := by simp only [many]; rw [if_neg c2, if_neg c3, if_neg c4]
  have hmo : more l = false := hno (by omega)
  rw [hmo]
  by_cases d : bt l 0 < 192
  · simp only [(show ¬ (192:Int) ≤ bt l 0 by omega), (show ¬ (224:Int) ≤ bt l 0 by omega), (show ¬ (240:Int) ≤ bt l 0 by omega), go_sem]
    omega
  · simp only [(show (192:Int) ≤ bt l 0 by omega), (show ¬ bt l 0 < 224 by omega), (show (224:Int) ≤ bt l 0 by omega), (show ¬ bt l 0 < 240 by omega), (show (240:Int) ≤ bt l 0 by omega), (show ¬ bt l 0 < 248 by omega), go_sem]
    omega
end
end Go.Avm
namespace Go.Avm
open Go Go.Rn
def dcv (l : List UInt8) : AV := match dcO l with
  | some (r, n) => .tuple [.int .i64 r, .int .i64 n, .int .i64 0]
  | none => .tuple [.int .i64 0, .int .i64 0, .int .i64 (if more l then 370 else 6)]
theorem dec_rng {l : List UInt8} {r : Int} {n : Nat} (h : dcO l = some (r, n)) : 0 ≤ r ∧ r ≤ 1114111 ∧ 1 ≤ n ∧ n ≤ 4 ∧ n ≤ l.length := by
  have := dec_some h
  have h1 := valid_rng this.1; have h2 := enc_len_pos this.1
  omega
theorem many_le (a : Int) : many a ≤ 4 := by simp only [many]; split; · omega
                                             split; · omega
                                             split <;> omega
set_option maxRecDepth 4000
section
variable {X : Cx} (hX : X.P = Go.Proofs.Tryz.prog) (hs : Std X)
include hX hs
theorem ev_refDecode (l : List UInt8) (i : Nat) (hi : i < l.length) (hl : l.length < 9223372036854775800) : Ev X F_ref02_Decode [lst u8 .ro l, .int .i64 i] (dcv (l.drop i)) := by
  have ht : (l.drop i).length = l.length - i := List.length_drop
  refine ev_of_wpc hs (A_ref02_Decode_ok hX) 0 ?_
  simp only [A_ref02_Decode, go_sem, Nat.reduceEqDiff, Nat.reduceAdd, reduceCtorEq]
  refine ⟨fun h => by omega, fun _ => ⟨fun h => by omega, fun _ => ?_⟩⟩
  refine w_loop' hs.hm (ι := Nat) (fun n => 1 ≤ n ∧ n ≤ 5 ∧ ∀ k, 1 ≤ k → k < n → k ≤ (l.drop i).length ∧ sb ((l.drop i).take k) = false) (fun n => [(0, lst u8 .ro l), (1, .int .i64 i), (7, .int .i64 n)]) (fun _ => []) (fun n => 5 - n) 1 ?_ fun n hn => ?_
  · simp only [go_sem, Nat.reduceEqDiff, reduceCtorEq, Nat.reduceLeDiff]
    exact fun k h1 h2 => by omega
  · obtain ⟨n1, n2, n3⟩ := hn
    simp only [A_ref02_DecodeL0, go_sem, Nat.reduceEqDiff, reduceCtorEq]
    have hcut : ∀ k : Int, k = (i : Int) + n → (l.take k.toNat).drop i = (l.drop i).take n := fun k hk => by
      rw [List.drop_take]; congr 1; omega
    simp (disch := omega) only [wi64]
    rw [hcut _ rfl]
    have hno : ((l.drop i).length < n ∨ n = 5) → dcO (l.drop i) = none := fun h => by
      cases hd : dcO (l.drop i) with
      | none => rfl
      | some x =>
        obtain ⟨r, k⟩ := x
        have := dec_rng hd
        have h2 := n3 k (by omega) (by omega)
        have h3 := (sb_take (t := l.drop i) (k := k) (by omega)).2 (by rw [hd]; rfl)
        rw [h2.2] at h3; cases h3
    have hm0 : ¬ ((l.length : Int) - i < 4) → more (l.drop i) = false := fun h => by
      rw [← Bool.not_eq_true]; intro h'
      have := more_many _ h'; have := many_le (bt (l.drop i) 0); omega
    refine ⟨fun c => ⟨fun c1 => ⟨by omega, ?_⟩, fun c1 => ⟨fun c2 => ⟨by omega, ?_⟩, fun c2 => ?_⟩⟩, fun c => ⟨fun c2 => ⟨by omega, ?_⟩, fun c2 => ?_⟩⟩
    · refine call_ev (ev_stands hX hs ((l.drop i).take n) (by rw [List.length_take]; omega)) ?_
      simp only [go_sem, Nat.reduceEqDiff, Nat.reduceAdd, reduceCtorEq, Nat.reduceLT]
      cases hb : sb ((l.drop i).take n) with
      | true =>
        simp only [go_sem, reduceCtorEq]
        have h1 := sb_num hb
        have hlen : ((l.drop i).take n).length = n := by rw [List.length_take]; omega
        rw [hlen] at h1
        have h2 := dec_take.2 ⟨by omega, h1⟩
        have h3 := (dec_some h1).1
        simp only [dcv, h2, h3, if_true]
      | false =>
        simp only [go_sem, reduceCtorEq]
        refine ⟨n + 1, by omega, ⟨by omega, by omega, fun k k1 k2 => ?_⟩, ?_⟩
        · rcases (by omega : k = n ∨ k < n) with rfl | hk
          · exact ⟨by omega, hb⟩
          · exact n3 k k1 hk
        · rw [wi64 (by omega)]; rfl
    · refine call_ev (ev_begins hX hs (l.drop i) (by omega)) ?_
      simp only [go_sem, Nat.reduceEqDiff, reduceCtorEq]
      have := hno (by omega)
      cases hm : more (l.drop i) <;> simp [dcv, this, hm]
    · have := hno (by omega)
      simp [dcv, this, hm0 c2]
    · refine call_ev (ev_begins hX hs (l.drop i) (by omega)) ?_
      simp only [go_sem, Nat.reduceEqDiff, reduceCtorEq]
      have := hno (by omega)
      cases hm : more (l.drop i) <;> simp [dcv, this, hm]
    · have := hno (by omega)
      simp [dcv, this, hm0 c2]
end
end Go.Avm
