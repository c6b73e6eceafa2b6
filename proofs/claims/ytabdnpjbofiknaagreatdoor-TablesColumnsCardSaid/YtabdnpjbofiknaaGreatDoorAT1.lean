/- Stable sorting: ranges are swapped. -/
import Derived.Test.YtabdnpjbofiknaaGreatDoorAG2
import Derived.Test.YtabdnpjbofiknaaGreatDoorAW
import Derived.Test.YtabdnpjbofiknaaGreatDoorM1
set_option linter.all false
/- Stable sorting: ranges are swapped. -/
namespace Go.Avm
open Go
set_option maxRecDepth 10000
def iv (n : Int) : AV := .int .i64 n
def rowB (d : List Int) : Blk := .box (d.map iv)
theorem rw_len (d : List Int) : (d.map iv).length = d.length := List.length_map ..
theorem rw_at {d : List Int} {n : Nat} (h : n < d.length) : (d.map iv)[n]? = some (iv (d.getD n 0)) := by
  rw [List.getElem?_map, List.getD_eq_getElem?_getD, List.getElem?_eq_getElem h]; rfl
theorem rw_set (d : List Int) (n : Nat) (z : Int) : (d.map iv).set n (iv z) = (d.set n z).map iv := by
  rw [List.map_set]
theorem ix_r (i N : Nat) (k : IntKind) (n : Int) : idxX 1 (.rsl i 0 N N 1) (.int k n) = some (decide (0 ≤ n) && decide (n < N), .ptr i n.toNat, none) := by
  simp [idxX]
theorem rw_g0 (P : List Int) (a : Int) (R : List Int) : ((P ++ a :: R).map iv)[P.length]? = some (iv a) := by simp [iv]
theorem ce_iv (n : Int) : AV.cells (iv n) = [iv n] := rfl
theorem sc_iv (n : Int) : scalarB (iv n) = true := rfl
theorem sw_step (P A M R : List Int) (a b : Int) : (((P ++ a :: (A ++ (M ++ b :: R))).map iv).set P.length (iv b)).set (P.length + 1 + A.length + M.length) (iv a) = ((P ++ [b]) ++ (A ++ ((M ++ [a]) ++ R))).map iv := by
  rw [rw_set, rw_set]
  congr 1
  rw [List.set_append_right _ _ (Nat.le_refl _), Nat.sub_self, List.set_cons_zero]
  have e : P ++ b :: (A ++ (M ++ b :: R)) = (P ++ b :: (A ++ M)) ++ b :: R := by simp
  have e2 : P.length + 1 + A.length + M.length = (P ++ b :: (A ++ M)).length := by simp; omega
  rw [e, e2, List.set_append_right _ _ (Nat.le_refl _), Nat.sub_self, List.set_cons_zero]
  simp
structure SW where
  P : List Int
  A : List Int
  M : List Int
  B : List Int
theorem rset_get {H : Heap} {i : Nat} {x y : Blk} (h : H[i]? = some x) : (H.set i y)[i]? = some y := by
  rw [List.getElem?_set_self (List.getElem?_eq_some_iff.1 h).1]
section
variable {X : Cx} (hX : X.P = Go.Proofs.Tryz.prog) (hs : Std X)
include hX hs
theorem ev_swapR (i N : Nat) (cl : AV) (P A M B S : List Int) (H : Heap) (hH : H[i]? = some (rowB (P ++ (A ++ (M ++ (B ++ S)))))) (hN : N = (P ++ (A ++ (M ++ (B ++ S)))).length) (hN1 : N < 1000000) (hAB : A.length = B.length) :
    EvM X F_slices_swapRangeCmpFunc_int [.rsl i 0 N N 1, .int .i64 P.length, .int .i64 (P.length + A.length + M.length : Nat), .int .i64 A.length, cl] H fun r H' => H' = H.set i (rowB (P ++ (B ++ (M ++ (A ++ S))))) := by
  refine evM_of_wpc hs (A_slices_swapRangeCmpFunc_int_ok hX) ?_
  simp only [A_slices_swapRangeCmpFunc_int, go_sem, Nat.reduceMod, Nat.reduceBNe, Nat.reduceBEq, Nat.reduceEqDiff, Nat.reduceAdd, Int.reduceAdd, Nat.reduceMul, Nat.reduceSub, Int.reduceToNat, Int.reduceLE, Int.reduceLT, Int.reduceEq, Int.reduceNe, reduceCtorEq, Nat.reduceLT, Nat.reduceLeDiff]
  refine w_loop' hs.hm (ι := SW) (fun x => x.A.length = x.B.length ∧ x.P ++ (x.B ++ (x.M ++ (x.A ++ S))) = P ++ (B ++ (M ++ (A ++ S))) ∧ x.P.length + x.A.length = P.length + A.length ∧ x.A.length + x.M.length = A.length + M.length ∧ P.length ≤ x.P.length) (fun x => [(10, .int .i64 (A.length - x.A.length : Nat)), (0, .rsl i 0 N N 1), (1, .int .i64 P.length), (2, .int .i64 (P.length + A.length + M.length : Nat)), (3, .int .i64 A.length)]) (fun x => H.set i (rowB (x.P ++ (x.A ++ (x.M ++ (x.B ++ S)))))) (fun x => x.A.length) ⟨P, A, M, B⟩ ?_ fun x hx => ?_
  · simp only [go_sem, Nat.reduceMod, Nat.reduceBNe, Nat.reduceBEq, Nat.reduceEqDiff, Nat.reduceAdd, Int.reduceAdd, Nat.reduceMul, Nat.reduceSub, Int.reduceToNat, Int.reduceLE, Int.reduceLT, Int.reduceEq, Int.reduceNe, reduceCtorEq, Nat.reduceLT, Nat.reduceLeDiff]
    exact ⟨⟨hAB, Nat.le_refl _⟩, by rw [Nat.sub_self]; rfl, (set_same hH).symm⟩
  obtain ⟨P', A', M', B'⟩ := x
  obtain ⟨x1, x2, x3, x4, x5⟩ := hx
  dsimp only at x1 x2 x3 x4 x5 ⊢
  cases A' with
  | nil =>
    have hc : ¬ ((A.length - 0 : Nat) : Int) < A.length := by omega
    cases B' with
    | cons => simp at x1
    | nil =>
      simp only [A_slices_swapRangeCmpFunc_intL0, go_sem, Nat.reduceMod, Nat.reduceBNe, Nat.reduceBEq, Nat.reduceEqDiff, Nat.reduceAdd, Int.reduceAdd, Nat.reduceMul, Nat.reduceSub, Int.reduceToNat, Int.reduceLE, Int.reduceLT, Int.reduceEq, Int.reduceNe, reduceCtorEq, Nat.reduceLT, Nat.reduceLeDiff, hc]
      rw [← x2]
      rfl
  | cons a A' =>
    cases B' with
    | nil => simp at x1
    | cons b B' =>
      simp only [List.length_cons] at x1 x3 x4
      have hlen : N = P'.length + 1 + A'.length + M'.length + 1 + B'.length + S.length := by
        have := congrArg List.length x2
        simp only [List.length_append, List.length_cons] at this
        rw [hN]
        simp only [List.length_append]
        omega
      have hc : ((A.length - (A'.length + 1) : Nat) : Int) < A.length := by omega
      have w1 : IntKind.i64.wrap (((P.length + A.length + M.length : Nat) : Int) + (A.length - (A'.length + 1) : Nat)) = ((P'.length + 1 + A'.length + M'.length : Nat) : Int) := by rw [wi64 (by omega)]; omega
      have w2 : IntKind.i64.wrap ((P.length : Int) + (A.length - (A'.length + 1) : Nat)) = ((P'.length : Nat) : Int) := by rw [wi64 (by omega)]; omega
      have w3 : IntKind.i64.wrap (((A.length - (A'.length + 1) : Nat) : Int) + 1) = ((A.length - A'.length : Nat) : Int) := by rw [wi64 (by omega)]; omega
      have hg : ∀ y, (H.set i y)[i]? = some y := fun y => rset_get hH
      have hss : ∀ y z, (H.set i y).set i z = H.set i z := fun y z => List.set_set ..
      have rd0 : ((P' ++ a :: (A' ++ (M' ++ b :: (B' ++ S)))).map iv).getD P'.length AV.undef = iv a := by rw [List.getD_eq_getElem?_getD, rw_g0]; rfl
      have rd1 : ((P' ++ a :: (A' ++ (M' ++ b :: (B' ++ S)))).map iv).getD (P'.length + 1 + A'.length + M'.length) AV.undef = iv b := by
        have e : P' ++ a :: (A' ++ (M' ++ b :: (B' ++ S))) = (P' ++ a :: (A' ++ M')) ++ b :: (B' ++ S) := by simp
        have e2 : P'.length + 1 + A'.length + M'.length = (P' ++ a :: (A' ++ M')).length := by simp; omega
        rw [e, e2, List.getD_eq_getElem?_getD, rw_g0]; rfl
      have hdl : (P' ++ a :: (A' ++ (M' ++ b :: (B' ++ S)))).length = N := by rw [hlen]; simp; omega
      simp only [A_slices_swapRangeCmpFunc_intL0, go_sem, Nat.reduceMod, Nat.reduceBNe, Nat.reduceBEq, Nat.reduceEqDiff, Nat.reduceAdd, Int.reduceAdd, Nat.reduceMul, Nat.reduceSub, Int.reduceToNat, Int.reduceLE, Int.reduceLT, Int.reduceEq, Int.reduceNe, reduceCtorEq, Nat.reduceLT, Nat.reduceLeDiff, hc, w1, w2, w3, ix_r, hg, hss, rowB, rd0, rd1, ce_iv, sc_iv, rw_len, hdl, cs_c, cs_n, List.length_set]
      rw [sw_step]
      refine ⟨⟨by omega, by omega⟩, by omega, ⟨by omega, by omega⟩, by omega, ⟨by omega, by omega⟩, by omega, ⟨by omega, by omega⟩, by omega, ⟨P' ++ [b], A', M' ++ [a], B'⟩, by dsimp only; omega, ⟨by dsimp only; omega, ?_, ?_, ?_, ?_⟩, rfl, rfl⟩
      · dsimp only
        rw [← x2]; simp
      · simp only [List.length_append, List.length_singleton]; omega
      · simp only [List.length_append, List.length_singleton]; omega
      · simp only [List.length_append, List.length_singleton]; omega
theorem ev_swapR' (i N : Nat) (cl : AV) (P A M B S : List Int) (H : Heap) {d : List Int} (a b n : Nat) (hH : H[i]? = some (rowB d)) (hd : d = P ++ (A ++ (M ++ (B ++ S)))) (hN : N = d.length) (hN1 : N < 1000000) (hA : A.length = n) (hB : B.length = n) (ha : a = P.length) (hb : b = P.length + A.length + M.length) :
    EvM X F_slices_swapRangeCmpFunc_int [.rsl i 0 N N 1, .int .i64 a, .int .i64 b, .int .i64 n, cl] H fun r H' => H' = H.set i (rowB (P ++ (B ++ (M ++ (A ++ S))))) := by
  subst hd
  have := ev_swapR hX hs i N cl P A M B S H hH hN hN1 (hA.trans hB.symm)
  rw [← hb, hA, ← ha] at this
  exact this
end
end Go.Avm

/- Stable sorting: ranges are rotated. -/
namespace Go.Avm
open Go
set_option maxRecDepth 10000
structure RO where
  P : List Int
  U : List Int
  V : List Int
  S : List Int
section
variable {X : Cx} (hX : X.P = Go.Proofs.Tryz.prog) (hs : Std X)
include hX hs
theorem ev_rotate (i N : Nat) (cl : AV) (P A B S : List Int) (H : Heap) (hH : H[i]? = some (rowB (P ++ (A ++ (B ++ S))))) (hN : N = (P ++ (A ++ (B ++ S))).length) (hN1 : N < 1000000) (hA : 0 < A.length) (hB : 0 < B.length) :
    EvM X F_slices_rotateCmpFunc_int [.rsl i 0 N N 1, .int .i64 P.length, .int .i64 (P.length + A.length : Nat), .int .i64 (P.length + A.length + B.length : Nat), cl] H fun r H' => H' = H.set i (rowB (P ++ (B ++ (A ++ S)))) := by
  refine evM_of_wpc hs (A_slices_rotateCmpFunc_int_ok hX) ?_
  have hNl : N = P.length + A.length + B.length + S.length := by rw [hN]; simp only [List.length_append]; omega
  have w1 : IntKind.i64.wrap (((P.length + A.length : Nat) : Int) - P.length) = ((A.length : Nat) : Int) := by rw [wi64 (by omega)]; omega
  have w2 : IntKind.i64.wrap (((P.length + A.length + B.length : Nat) : Int) - (P.length + A.length : Nat)) = ((B.length : Nat) : Int) := by rw [wi64 (by omega)]; omega
  have hg : ∀ y, (H.set i y)[i]? = some y := fun y => rset_get hH
  have hss : ∀ y z, (H.set i y).set i z = H.set i z := fun y z => List.set_set ..
  simp only [A_slices_rotateCmpFunc_int, go_sem, Nat.reduceMod, Nat.reduceBNe, Nat.reduceBEq, Nat.reduceEqDiff, Nat.reduceAdd, Int.reduceAdd, Nat.reduceMul, Nat.reduceSub, Int.reduceToNat, Int.reduceLE, Int.reduceLT, Int.reduceEq, Int.reduceNe, reduceCtorEq, Nat.reduceLT, Nat.reduceLeDiff, w1, w2]
  refine w_loop' hs.hm (ι := RO) (fun x => (0 < x.U.length ∧ 0 < x.V.length) ∧ x.P ++ (x.V ++ (x.U ++ x.S)) = P ++ (B ++ (A ++ S)) ∧ x.P.length + x.U.length = P.length + A.length) (fun x => [(10, .int .i64 x.U.length), (11, .int .i64 x.V.length), (0, .rsl i 0 N N 1), (2, .int .i64 (P.length + A.length : Nat)), (4, cl)]) (fun x => H.set i (rowB (x.P ++ (x.U ++ (x.V ++ x.S))))) (fun x => x.U.length + x.V.length) ⟨P, A, B, S⟩ ?_ fun x hx => ?_
  · simp only [go_sem, Nat.reduceMod, Nat.reduceBNe, Nat.reduceBEq, Nat.reduceEqDiff, Nat.reduceAdd, Int.reduceAdd, Nat.reduceMul, Nat.reduceSub, Int.reduceToNat, Int.reduceLE, Int.reduceLT, Int.reduceEq, Int.reduceNe, reduceCtorEq, Nat.reduceLT, Nat.reduceLeDiff]
    exact ⟨⟨hA, hB⟩, (set_same hH).symm⟩
  obtain ⟨P', U, V, S'⟩ := x
  obtain ⟨⟨x1, x2⟩, x3, x4⟩ := hx
  dsimp only at x1 x2 x3 x4 ⊢
  have hlen : N = P'.length + U.length + V.length + S'.length := by
    have := congrArg List.length x3
    simp only [List.length_append] at this
    omega
  have w3 : IntKind.i64.wrap (((P.length + A.length : Nat) : Int) - U.length) = ((P'.length : Nat) : Int) := by rw [wi64 (by omega)]; omega
  by_cases he : U.length = V.length
  · have he' : (U.length : Int) = V.length := by omega
    rw [he] at w3
    simp only [A_slices_rotateCmpFunc_intL0, go_sem, Nat.reduceMod, Nat.reduceBNe, Nat.reduceBEq, Nat.reduceEqDiff, Nat.reduceAdd, Int.reduceAdd, Nat.reduceMul, Nat.reduceSub, Int.reduceToNat, Int.reduceLE, Int.reduceLT, Int.reduceEq, Int.reduceNe, reduceCtorEq, Nat.reduceLT, Nat.reduceLeDiff, he', w3]
    refine call_evm (ev_swapR' hX hs i N cl P' U [] V S' (H.set i (rowB (P' ++ (U ++ (V ++ S'))))) P'.length (P.length + A.length) V.length (hg _) rfl (by rw [hlen]; simp; omega) hN1 he rfl rfl (by rw [List.length_nil]; omega)) ?_
    rintro r H' rfl
    simp only [go_sem, Nat.reduceMod, Nat.reduceBNe, Nat.reduceBEq, Nat.reduceEqDiff, Nat.reduceAdd, Int.reduceAdd, Nat.reduceMul, Nat.reduceSub, Int.reduceToNat, Int.reduceLE, Int.reduceLT, Int.reduceEq, Int.reduceNe, reduceCtorEq, Nat.reduceLT, Nat.reduceLeDiff, hss]
    rw [← x3]
  have he' : ¬ (U.length : Int) = V.length := by omega
  by_cases hgt : V.length < U.length
  · have hgt' : (V.length : Int) < U.length := by omega
    have w4 : IntKind.i64.wrap ((U.length : Int) - V.length) = ((U.length - V.length : Nat) : Int) := by rw [wi64 (by omega)]; omega
    obtain ⟨U1, U2, rfl, hU1⟩ : ∃ U1 U2, U = U1 ++ U2 ∧ U1.length = V.length := ⟨U.take V.length, U.drop V.length, (List.take_append_drop _ _).symm, by rw [List.length_take]; omega⟩
    rw [List.length_append] at hlen x4 x1
    simp only [A_slices_rotateCmpFunc_intL0, go_sem, Nat.reduceMod, Nat.reduceBNe, Nat.reduceBEq, Nat.reduceEqDiff, Nat.reduceAdd, Int.reduceAdd, Nat.reduceMul, Nat.reduceSub, Int.reduceToNat, Int.reduceLE, Int.reduceLT, Int.reduceEq, Int.reduceNe, reduceCtorEq, Nat.reduceLT, Nat.reduceLeDiff, he', hgt', w3, w4]
    refine call_evm (ev_swapR' hX hs i N cl P' U1 U2 V S' (H.set i (rowB (P' ++ ((U1 ++ U2) ++ (V ++ S'))))) P'.length (P.length + A.length) V.length (hg _) (by simp) (by rw [hlen]; simp; omega) hN1 hU1 rfl rfl (by omega)) ?_
    rintro r H' rfl
    simp only [go_sem, Nat.reduceMod, Nat.reduceBNe, Nat.reduceBEq, Nat.reduceEqDiff, Nat.reduceAdd, Int.reduceAdd, Nat.reduceMul, Nat.reduceSub, Int.reduceToNat, Int.reduceLE, Int.reduceLT, Int.reduceEq, Int.reduceNe, reduceCtorEq, Nat.reduceLT, Nat.reduceLeDiff, hss, w4]
    refine ⟨⟨P' ++ V, U2, U1, S'⟩, by simp only [List.length_append]; omega, ⟨⟨by rw [List.length_append] at hgt; dsimp only; omega, by dsimp only; omega⟩, by dsimp only; rw [← x3]; simp, by simp only [List.length_append]; omega⟩, ⟨by simp only [List.length_append]; congr 2; omega, by rw [hU1]⟩, by simp⟩
  · have hgt' : ¬ (V.length : Int) < U.length := by omega
    have w4 : IntKind.i64.wrap (IntKind.i64.wrap (((P.length + A.length : Nat) : Int) + V.length) - U.length) = ((P'.length + V.length : Nat) : Int) := by rw [wi64 (n := _ + _) (by omega), wi64 (by omega)]; omega
    have w5 : IntKind.i64.wrap ((V.length : Int) - U.length) = ((V.length - U.length : Nat) : Int) := by rw [wi64 (by omega)]; omega
    obtain ⟨V1, V2, rfl, hV1⟩ : ∃ V1 V2, V = V1 ++ V2 ∧ V2.length = U.length := ⟨V.take (V.length - U.length), V.drop (V.length - U.length), (List.take_append_drop _ _).symm, by rw [List.length_drop]; omega⟩
    simp only [A_slices_rotateCmpFunc_intL0, go_sem, Nat.reduceMod, Nat.reduceBNe, Nat.reduceBEq, Nat.reduceEqDiff, Nat.reduceAdd, Int.reduceAdd, Nat.reduceMul, Nat.reduceSub, Int.reduceToNat, Int.reduceLE, Int.reduceLT, Int.reduceEq, Int.reduceNe, reduceCtorEq, Nat.reduceLT, Nat.reduceLeDiff, he', hgt', w3, w4, w5]
    rw [List.length_append] at hlen x2 hgt he
    refine call_evm (ev_swapR' hX hs i N cl P' U V1 V2 S' (H.set i (rowB (P' ++ (U ++ ((V1 ++ V2) ++ S'))))) P'.length (P'.length + (V1 ++ V2).length) U.length (hg _) (by simp) (by rw [hlen]; simp; omega) hN1 rfl hV1 rfl (by rw [List.length_append]; omega)) ?_
    rintro r H' rfl
    simp only [go_sem, Nat.reduceMod, Nat.reduceBNe, Nat.reduceBEq, Nat.reduceEqDiff, Nat.reduceAdd, Int.reduceAdd, Nat.reduceMul, Nat.reduceSub, Int.reduceToNat, Int.reduceLE, Int.reduceLT, Int.reduceEq, Int.reduceNe, reduceCtorEq, Nat.reduceLT, Nat.reduceLeDiff, hss, w5]
    refine ⟨⟨P', V2, V1, U ++ S'⟩, by simp only [List.length_append]; omega, ⟨⟨by dsimp only; omega, by dsimp only; omega⟩, by dsimp only; rw [← x3]; simp, by dsimp only; omega⟩, ⟨by rw [hV1], by simp only [List.length_append]; congr 2; omega⟩, by simp⟩
theorem ev_rotate' (i N : Nat) (cl : AV) (P A B S : List Int) (H : Heap) {d : List Int} (a m b : Nat) (hH : H[i]? = some (rowB d)) (hd : d = P ++ (A ++ (B ++ S))) (hN : N = d.length) (hN1 : N < 1000000) (hA : 0 < A.length) (hB : 0 < B.length) (ha : a = P.length) (hm : m = P.length + A.length) (hb : b = P.length + A.length + B.length) :
    EvM X F_slices_rotateCmpFunc_int [.rsl i 0 N N 1, .int .i64 a, .int .i64 m, .int .i64 b, cl] H fun r H' => H' = H.set i (rowB (P ++ (B ++ (A ++ S)))) := by
  subst hd ha hm hb
  exact ev_rotate hX hs i N cl P A B S H hH hN hN1 hA hB
end
end Go.Avm

/- Stable sorting: insertion. -/
namespace Go.Avm
open Go Go.Tb
set_option maxRecDepth 10000
/-- the comparing closure: it looks at one box and changes nothing -/
structure CmpC (X : Cx) (f r n : Nat) (rb : Blk) (c : Int → Int) : Prop where
  ev : ∀ (H : Heap) (x y : Int), H[r]? = some rb → 0 ≤ x ∧ x < n → 0 ≤ y ∧ y < n → EvM X f [.int .i64 x, .int .i64 y, .ptr r 0] H fun v H' => v = .int .i64 (cmpI c x y) ∧ H' = H
/-- numbers of rows -/
def inR (n : Nat) (l : List Int) : Prop := ∀ x ∈ l, 0 ≤ x ∧ x < n
structure IS where
  Z : List Int
  W1 : List Int
  R : List Int
structure IJ where
  A : List Int
  B : List Int
section
variable {X : Cx} (hX : X.P = Go.Proofs.Tryz.prog) (hs : Std X)
include hX hs
set_option maxHeartbeats 1000000 in
theorem ev_insert (f r n : Nat) (rb : Blk) (c : Int → Int) (hc : CmpC X f r n rb c) (i N : Nat) (hir : r ≠ i) (P W S : List Int) (H : Heap) (hr : H[r]? = some rb) (hH : H[i]? = some (rowB (P ++ (W ++ S)))) (hN : N = (P ++ (W ++ S)).length) (hN1 : N < 1000000) (hW : W.Pairwise (· < ·)) (hin : inR n W) (b : Nat) (hb : b = P.length + W.length) :
    EvM X F_slices_insertionSortCmpFunc_int [.rsl i 0 N N 1, .int .i64 P.length, .int .i64 b, .clo f [] [.ptr r 0]] H fun _ H' => ∃ Z, H' = H.set i (rowB (P ++ (Z ++ S))) ∧ Z.Perm W ∧ Z.Pairwise (ltc c) := by
  refine evM_of_wpc hs (A_slices_insertionSortCmpFunc_int_ok hX) ?_
  have hNl : N = P.length + W.length + S.length := by rw [hN]; simp only [List.length_append]; omega
  have hg : ∀ y, (H.set i y)[i]? = some y := fun y => rset_get hH
  have hss : ∀ y z, (H.set i y).set i z = H.set i z := fun y z => List.set_set ..
  have hgr : ∀ y, (H.set i y)[r]? = some rb := fun y => by rw [List.getElem?_set_ne (Ne.symm hir)]; exact hr
  have w1 : IntKind.i64.wrap ((P.length : Int) + 1) = ((P.length + 1 : Nat) : Int) := by rw [wi64 (by omega)]; omega
  cases W with
  | nil =>
    have hb2 : ¬ ((P.length + 1 : Nat) : Int) < b := by rw [List.length_nil] at hb; omega
    simp only [A_slices_insertionSortCmpFunc_int, go_sem, Nat.reduceMod, Nat.reduceBNe, Nat.reduceBEq, Nat.reduceEqDiff, Nat.reduceAdd, Int.reduceAdd, Nat.reduceMul, Nat.reduceSub, Int.reduceToNat, Int.reduceLE, Int.reduceLT, Int.reduceEq, Int.reduceNe, reduceCtorEq, Nat.reduceLT, Nat.reduceLeDiff, w1]
    refine w_loop' hs.hm (ι := Unit) (fun _ => True) (fun _ => [(8, .int .i64 (P.length + 1 : Nat)), (2, .int .i64 b)]) (fun _ => H) (fun _ => 0) () ?_ fun x hx => ?_
    · simp only [go_sem, Nat.reduceMod, Nat.reduceBNe, Nat.reduceBEq, Nat.reduceEqDiff, Nat.reduceAdd, Int.reduceAdd, Nat.reduceMul, Nat.reduceSub, Int.reduceToNat, Int.reduceLE, Int.reduceLT, Int.reduceEq, Int.reduceNe, reduceCtorEq, Nat.reduceLT, Nat.reduceLeDiff]
    · simp only [A_slices_insertionSortCmpFunc_intL0, go_sem, Nat.reduceMod, Nat.reduceBNe, Nat.reduceBEq, Nat.reduceEqDiff, Nat.reduceAdd, Int.reduceAdd, Nat.reduceMul, Nat.reduceSub, Int.reduceToNat, Int.reduceLE, Int.reduceLT, Int.reduceEq, Int.reduceNe, reduceCtorEq, Nat.reduceLT, Nat.reduceLeDiff, hb2]
      exact ⟨[], (set_same hH).symm, .refl _, .nil⟩
  | cons w0 W =>
    rw [List.length_cons] at hb hNl
    simp only [A_slices_insertionSortCmpFunc_int, go_sem, Nat.reduceMod, Nat.reduceBNe, Nat.reduceBEq, Nat.reduceEqDiff, Nat.reduceAdd, Int.reduceAdd, Nat.reduceMul, Nat.reduceSub, Int.reduceToNat, Int.reduceLE, Int.reduceLT, Int.reduceEq, Int.reduceNe, reduceCtorEq, Nat.reduceLT, Nat.reduceLeDiff, w1]
    refine w_loop' hs.hm (ι := IS) (fun x => 0 < x.Z.length ∧ w0 :: W = x.W1 ++ x.R ∧ x.Z.Perm x.W1 ∧ x.Z.Pairwise (ltc c)) (fun x => [(8, .int .i64 (P.length + x.Z.length : Nat)), (0, .rsl i 0 N N 1), (1, .int .i64 P.length), (2, .int .i64 b), (3, .clo f [] [.ptr r 0])]) (fun x => H.set i (rowB (P ++ (x.Z ++ (x.R ++ S))))) (fun x => x.R.length) ⟨[w0], [w0], W⟩ ?_ fun x hx => ?_
    · simp only [go_sem, Nat.reduceMod, Nat.reduceBNe, Nat.reduceBEq, Nat.reduceEqDiff, Nat.reduceAdd, Int.reduceAdd, Nat.reduceMul, Nat.reduceSub, Int.reduceToNat, Int.reduceLE, Int.reduceLT, Int.reduceEq, Int.reduceNe, reduceCtorEq, Nat.reduceLT, Nat.reduceLeDiff]
      exact ⟨⟨.refl _, List.pairwise_singleton ..⟩, (set_same hH).symm⟩
    obtain ⟨Z, W1, R⟩ := x
    obtain ⟨x1, x2, x3, x4⟩ := hx
    dsimp only at x1 x2 x3 x4 ⊢
    have hlz := x3.length_eq
    have hl2 := congrArg List.length x2
    rw [List.length_append, List.length_cons] at hl2
    cases R with
    | nil =>
      have hb2 : ¬ ((P.length + Z.length : Nat) : Int) < b := by rw [List.length_nil] at hl2; omega
      rw [List.append_nil] at x2
      simp only [A_slices_insertionSortCmpFunc_intL0, go_sem, Nat.reduceMod, Nat.reduceBNe, Nat.reduceBEq, Nat.reduceEqDiff, Nat.reduceAdd, Int.reduceAdd, Nat.reduceMul, Nat.reduceSub, Int.reduceToNat, Int.reduceLE, Int.reduceLT, Int.reduceEq, Int.reduceNe, reduceCtorEq, Nat.reduceLT, Nat.reduceLeDiff, hb2]
      exact ⟨Z, rfl, by rw [x2]; exact x3, x4⟩
    | cons x R =>
      rw [List.length_cons] at hl2
      have hb2 : ((P.length + Z.length : Nat) : Int) < b := by omega
      simp only [A_slices_insertionSortCmpFunc_intL0, go_sem, Nat.reduceMod, Nat.reduceBNe, Nat.reduceBEq, Nat.reduceEqDiff, Nat.reduceAdd, Int.reduceAdd, Nat.reduceMul, Nat.reduceSub, Int.reduceToNat, Int.reduceLE, Int.reduceLT, Int.reduceEq, Int.reduceNe, reduceCtorEq, Nat.reduceLT, Nat.reduceLeDiff, hb2]
      refine w_loop' hs.hm (ι := IJ) (fun y => y.A ++ y.B = Z ∧ ∀ z ∈ y.B, c x < c z) (fun y => [(9, .int .i64 (P.length + y.A.length : Nat)), (8, .int .i64 (P.length + Z.length : Nat)), (0, .rsl i 0 N N 1), (1, .int .i64 P.length), (2, .int .i64 b), (3, .clo f [] [.ptr r 0])]) (fun y => H.set i (rowB (P ++ (y.A ++ x :: (y.B ++ (R ++ S)))))) (fun y => y.A.length) ⟨Z, []⟩ ?_ fun y hy => ?_
      · simp only [go_sem, Nat.reduceMod, Nat.reduceBNe, Nat.reduceBEq, Nat.reduceEqDiff, Nat.reduceAdd, Int.reduceAdd, Nat.reduceMul, Nat.reduceSub, Int.reduceToNat, Int.reduceLE, Int.reduceLT, Int.reduceEq, Int.reduceNe, reduceCtorEq, Nat.reduceLT, Nat.reduceLeDiff]
        intro z hz
        simp at hz
      obtain ⟨A, B⟩ := y
      obtain ⟨y1, y2⟩ := hy
      dsimp only at y1 y2 ⊢
      have hly := congrArg List.length y1
      rw [List.length_append] at hly
      have hxin := hin x (by rw [x2]; simp)
      have hfin : (A = [] ∨ ∃ Y z, A = Y ++ [z] ∧ ¬ c x < c z) → ∃ j : IS, j.R.length < (x :: R).length ∧ (0 < j.Z.length ∧ w0 :: W = j.W1 ++ j.R ∧ j.Z.Perm j.W1 ∧ j.Z.Pairwise (ltc c)) ∧ j.Z = A ++ x :: B ∧ j.R = R := fun h => by
        have hlt : ∀ z ∈ A ++ B, z < x := fun z hz => by
          rw [x2] at hW
          exact (List.pairwise_append.1 hW).2.2 z (x3.subset (by rw [← y1]; exact hz)) x (by simp)
        refine ⟨⟨A ++ x :: B, W1 ++ [x], R⟩, by simp, ⟨by simp; omega, by rw [x2]; simp, ?_, ins_sorted (by rw [y1]; exact x4) hlt y2 h⟩, rfl, rfl⟩
        have : (A ++ x :: B).Perm (x :: (A ++ B)) := List.perm_middle
        refine this.trans ?_
        rw [y1]
        exact (List.Perm.cons x x3).trans (by simpa using (List.perm_append_comm (l₁ := [x]) (l₂ := W1)))
      have w2 : IntKind.i64.wrap (((P.length + Z.length : Nat) : Int) + 1) = ((P.length + (Z.length + 1) : Nat) : Int) := by rw [wi64 (by omega)]; omega
      rcases List.eq_nil_or_concat A with hA | ⟨A', z, hA⟩
      · subst hA
        have hgt : ¬ (P.length : Int) < ((P.length + 0 : Nat) : Int) := by omega
        simp only [A_slices_insertionSortCmpFunc_intL1, go_sem, Nat.reduceMod, Nat.reduceBNe, Nat.reduceBEq, Nat.reduceEqDiff, Nat.reduceAdd, Int.reduceAdd, Nat.reduceMul, Nat.reduceSub, Int.reduceToNat, Int.reduceLE, Int.reduceLT, Int.reduceEq, Int.reduceNe, reduceCtorEq, Nat.reduceLT, Nat.reduceLeDiff, hgt, w2]
        obtain ⟨j, q1, q2, q3, q4⟩ := hfin (.inl rfl)
        have hjl : j.Z.length = Z.length + 1 := by rw [q3]; simp at hly ⊢; omega
        exact ⟨j, q1, q2, by rw [hjl], by rw [q3, q4]; simp⟩
      · rw [List.concat_eq_append] at hA
        subst hA
        have hzin := hin z (by rw [x2]; exact List.mem_append_left _ (x3.subset (by rw [← y1]; simp)))
        rw [List.length_append, List.length_singleton] at hly
        have hgt : (P.length : Int) < ((P.length + (A'.length + 1) : Nat) : Int) := by omega
        have hln : N = P.length + (A'.length + 1) + 1 + B.length + R.length + S.length := by omega
        have w3 : IntKind.i64.wrap (((P.length + (A'.length + 1) : Nat) : Int) - 1) = ((P.length + A'.length : Nat) : Int) := by rw [wi64 (by omega)]; omega
        have e0 : P ++ ((A' ++ [z]) ++ x :: (B ++ (R ++ S))) = P ++ (A' ++ z :: x :: (B ++ (R ++ S))) := by simp
        have rdz : ((P ++ (A' ++ z :: x :: (B ++ (R ++ S)))).map iv).getD (P.length + A'.length) AV.undef = iv z := by
          have e1 : P ++ (A' ++ z :: x :: (B ++ (R ++ S))) = (P ++ A') ++ z :: x :: (B ++ (R ++ S)) := by simp
          rw [e1, ← List.length_append, List.getD_eq_getElem?_getD, rw_g0]; rfl
        have rdx : ((P ++ (A' ++ z :: x :: (B ++ (R ++ S)))).map iv).getD (P.length + (A'.length + 1)) AV.undef = iv x := by
          have e1 : P ++ (A' ++ z :: x :: (B ++ (R ++ S))) = (P ++ (A' ++ [z])) ++ x :: (B ++ (R ++ S)) := by simp
          have e2 : P.length + (A'.length + 1) = (P ++ (A' ++ [z])).length := by simp
          rw [e1, e2, List.getD_eq_getElem?_getD, rw_g0]; rfl
        have hdl : (P ++ (A' ++ z :: x :: (B ++ (R ++ S)))).length = N := by rw [hln]; simp; omega
        rw [e0, List.length_append, List.length_singleton]
        simp only [A_slices_insertionSortCmpFunc_intL1, go_sem, Nat.reduceMod, Nat.reduceBNe, Nat.reduceBEq, Nat.reduceEqDiff, Nat.reduceAdd, Int.reduceAdd, Nat.reduceMul, Nat.reduceSub, Int.reduceToNat, Int.reduceLE, Int.reduceLT, Int.reduceEq, Int.reduceNe, reduceCtorEq, Nat.reduceLT, Nat.reduceLeDiff, hgt, w3, ix_r, hg, hss, rowB, rdz, rdx, ce_iv, sc_iv, rw_len, hdl]
        refine ⟨⟨by omega, by omega⟩, by omega, ⟨by omega, by omega⟩, by omega, callq_evm (d := _) (h := hc.ev _ x z (hgr _) hxin hzin) ?_⟩
        have hcl := cmp_lt c x z
        by_cases hlt : c x < c z
        · have hlt' := hcl.2 hlt
          simp only [go_sem, Nat.reduceMod, Nat.reduceBNe, Nat.reduceBEq, Nat.reduceEqDiff, Nat.reduceAdd, Int.reduceAdd, Nat.reduceMul, Nat.reduceSub, Int.reduceToNat, Int.reduceLE, Int.reduceLT, Int.reduceEq, Int.reduceNe, reduceCtorEq, Nat.reduceLT, Nat.reduceLeDiff, hlt', w3, ix_r, hg, hss, rdz, rdx, ce_iv, sc_iv, rw_len, hdl, cs_c, cs_n, List.length_set]
          have hsw : (((P ++ (A' ++ z :: x :: (B ++ (R ++ S)))).map iv).set (P.length + (A'.length + 1)) (iv z)).set (P.length + A'.length) (iv x) = (P ++ (A' ++ x :: z :: (B ++ (R ++ S)))).map iv := by
            rw [rw_set, rw_set]
            congr 1
            have e1 : P ++ (A' ++ z :: x :: (B ++ (R ++ S))) = (P ++ A') ++ z :: x :: (B ++ (R ++ S)) := by simp
            rw [e1, List.set_append_right _ _ (by simp), List.length_append, show P.length + (A'.length + 1) - (P.length + A'.length) = 1 by omega]
            rw [List.set_append_right _ _ (by simp), List.length_append, Nat.sub_self]
            simp
          rw [hsw]
          refine ⟨⟨by omega, by omega⟩, by omega, ⟨by omega, by omega⟩, by omega, ⟨by omega, by omega⟩, by omega, ⟨by omega, by omega⟩, by omega, ⟨A', z :: B⟩, by simp, ⟨by rw [← y1]; simp, fun u hu => ?_⟩, rfl, by simp⟩
          rcases List.mem_cons.1 hu with rfl | hu
          · exact hlt
          · exact y2 u hu
        · have hlt' : ¬ cmpI c x z < 0 := fun h => hlt (hcl.1 h)
          simp only [go_sem, Nat.reduceMod, Nat.reduceBNe, Nat.reduceBEq, Nat.reduceEqDiff, Nat.reduceAdd, Int.reduceAdd, Nat.reduceMul, Nat.reduceSub, Int.reduceToNat, Int.reduceLE, Int.reduceLT, Int.reduceEq, Int.reduceNe, reduceCtorEq, Nat.reduceLT, Nat.reduceLeDiff, hlt', w2]
          obtain ⟨j, q1, q2, q3, q4⟩ := hfin (.inr ⟨A', z, rfl, hlt⟩)
          have hjl : j.Z.length = Z.length + 1 := by rw [q3]; simp at hly ⊢; omega
          exact ⟨j, q1, q2, by rw [hjl], by rw [q3, q4]; simp⟩
end
end Go.Avm
