/- Stable sorting: two runs are merged in place. -/
import Derived.Test.YtabdnpjbofiknaaGreatDoorAT1
set_option linter.all false
/- Stable sorting: two runs are merged in place. -/
namespace Go.Avm
open Go Go.Tb
set_option maxRecDepth 10000
theorem rw_gd {d : List Int} {q : Nat} (h : q < d.length) : (d.map iv).getD q AV.undef = iv (d.getD q 0) := by
  rw [List.getD_eq_getElem?_getD, rw_at h]; rfl
/-- the middle of two places -/
theorem mid_eq {i j : Nat} (h : i + j < 1000000000) : IntKind.i64.wrap (Int.fdiv (IntKind.u64.wrap (IntKind.i64.wrap ((i : Int) + j))) (2 ^ (min 1 64))) = (((i + j) / 2 : Nat) : Int) := by
  have e1 : IntKind.i64.wrap ((i : Int) + j) = ((i + j : Nat) : Int) := by rw [wi64 (by omega)]; omega
  have e2 : IntKind.u64.wrap ((i + j : Nat) : Int) = ((i + j : Nat) : Int) := by rw [w_u64]; omega
  rw [e1, e2]
  have e3 : Int.fdiv ((i + j : Nat) : Int) (2 ^ (min 1 64)) = (((i + j) / 2 : Nat) : Int) := by
    rw [Int.fdiv_eq_ediv_of_nonneg _ (by decide)]
    have : (2 : Int) ^ (min 1 64) = 2 := by decide
    rw [this]; omega
  rw [e3, wi64 (by omega)]
/-- two neighbours are swapped -/
theorem sw2 (P L T : List Int) (x z : Int) : (((P ++ (L ++ x :: z :: T)).map iv).set (P.length + L.length) (iv z)).set (P.length + L.length + 1) (iv x) = (P ++ (L ++ z :: x :: T)).map iv := by
  rw [rw_set, rw_set]
  congr 1
  have e1 : P ++ (L ++ x :: z :: T) = (P ++ L) ++ x :: z :: T := by simp
  rw [e1, ← List.length_append, List.set_append_right _ _ (Nat.le_refl _), Nat.sub_self, List.set_cons_zero, List.set_append_right _ _ (by omega), show (P ++ L).length + 1 - (P ++ L).length = 1 by omega]
  simp
theorem sw2' (P L T : List Int) (x z : Int) : (((P ++ (L ++ x :: z :: T)).map iv).set (P.length + L.length + 1) (iv x)).set (P.length + L.length) (iv z) = (P ++ (L ++ z :: x :: T)).map iv := by
  rw [List.set_comm _ _ (by omega)]
  exact sw2 P L T x z
theorem gd0 (P L T : List Int) (x : Int) : ((P ++ (L ++ x :: T)).map iv).getD (P.length + L.length) AV.undef = iv x := by
  have e1 : P ++ (L ++ x :: T) = (P ++ L) ++ x :: T := by simp
  rw [e1, ← List.length_append, List.getD_eq_getElem?_getD, rw_g0]; rfl
theorem gd1 (P L T : List Int) (x z : Int) : ((P ++ (L ++ x :: z :: T)).map iv).getD (P.length + L.length + 1) AV.undef = iv z := by
  have e1 : P ++ (L ++ x :: z :: T) = P ++ ((L ++ [x]) ++ z :: T) := by simp
  have := gd0 P (L ++ [x]) T z
  rw [List.length_append, List.length_singleton, ← Nat.add_assoc] at this
  rw [e1]; exact this
structure BS where
  i : Nat
  j : Nat
structure MV where
  L : List Int
  R : List Int
section
variable {X : Cx} (hX : X.P = Go.Proofs.Tryz.prog) (hs : Std X)
include hX hs
set_option maxHeartbeats 2000000 in
theorem ev_symMerge (f r n : Nat) (rb : Blk) (c : Int → Int) (hc : CmpC X f r n rb c) (i N : Nat) (hir : r ≠ i) (hN1 : N < 1000000) : ∀ (L : Nat) (P A B S : List Int) (H : Heap) (a m b : Nat), A.length + B.length ≤ L → H[r]? = some rb → H[i]? = some (rowB (P ++ (A ++ (B ++ S)))) → N = (P ++ (A ++ (B ++ S))).length → A.Pairwise (ltc c) → B.Pairwise (ltc c) → (∀ x ∈ A, ∀ y ∈ B, x < y) → inR n (A ++ B) → 0 < A.length → 0 < B.length → a = P.length → m = P.length + A.length → b = P.length + A.length + B.length →
    EvM X F_slices_symMergeCmpFunc_int [.rsl i 0 N N 1, .int .i64 a, .int .i64 m, .int .i64 b, .clo f [] [.ptr r 0]] H fun _ H' => ∃ Z, H' = H.set i (rowB (P ++ (Z ++ S))) ∧ Z.Perm (A ++ B) ∧ Z.Pairwise (ltc c) := by
  intro L
  induction L with
  | zero => intro P A B S H a m b h1 _ _ _ _ _ _ _ h2; omega
  | succ L ih =>
    intro P A B S H a m b hL hr hH hN hA hB hAB hin hA0 hB0 ha hm hb
    refine evM_of_wpc hs (A_slices_symMergeCmpFunc_int_ok hX) ?_
    have hNl : N = P.length + A.length + B.length + S.length := by rw [hN]; simp only [List.length_append]; omega
    have hg : ∀ y, (H.set i y)[i]? = some y := fun y => rset_get hH
    have hss : ∀ y z, (H.set i y).set i z = H.set i z := fun y z => List.set_set ..
    have hgr : ∀ y, (H.set i y)[r]? = some rb := fun y => by rw [List.getElem?_set_ne (Ne.symm hir)]; exact hr
    have w1 : IntKind.i64.wrap ((m : Int) - a) = (A.length : Int) := by rw [wi64 (by omega)]; omega
    have w2 : IntKind.i64.wrap ((b : Int) - m) = (B.length : Int) := by rw [wi64 (by omega)]; omega
    obtain ⟨D, hD⟩ : ∃ D, D = P ++ (A ++ (B ++ S)) := ⟨_, rfl⟩
    have hDl : D.length = N := by rw [hD, hN]
    have hrd : ∀ q, q < N → (D.map iv).getD q AV.undef = iv (D.getD q 0) := fun q hq => rw_gd (by omega)
    rw [← hD] at hH
    have hDr : rowB D = Blk.box (D.map iv) := rfl
    have hBat : ∀ q, m ≤ q → q < b → D.getD q 0 ∈ B := fun q h1 h2 => by
      have e : D = (P ++ A) ++ (B ++ S) := by rw [hD]; simp
      rw [e, List.getD_eq_getElem?_getD, List.getElem?_append_right (by rw [List.length_append]; omega), List.getElem?_append_left (by rw [List.length_append]; omega), List.getElem?_eq_getElem (by rw [List.length_append]; omega)]
      exact List.getElem_mem _
    have hAat : ∀ q, a ≤ q → q < m → D.getD q 0 ∈ A := fun q h1 h2 => by
      rw [hD, List.getD_eq_getElem?_getD, List.getElem?_append_right (by omega), List.getElem?_append_left (by omega), List.getElem?_eq_getElem (by omega)]
      exact List.getElem_mem _
    by_cases hA1 : A.length = 1
    · have hA1' : (A.length : Int) = 1 := by omega
      obtain ⟨x, rfl⟩ : ∃ x, A = [x] := List.length_eq_one_iff.1 hA1
      have hx : D.getD a 0 = x := by rw [hD, ha, List.getD_eq_getElem?_getD]; simp
      have hxin := hin x (by simp)
      simp only [A_slices_symMergeCmpFunc_int, go_sem, Nat.reduceMod, Nat.reduceBNe, Nat.reduceBEq, Nat.reduceEqDiff, Nat.reduceAdd, Int.reduceAdd, Nat.reduceMul, Nat.reduceSub, Int.reduceToNat, Int.reduceLE, Int.reduceLT, Int.reduceEq, Int.reduceNe, reduceCtorEq, Nat.reduceLT, Nat.reduceLeDiff, w1, hA1']
      refine w_loop' hs.hm (ι := BS) (fun y => m ≤ y.i ∧ y.i ≤ y.j ∧ y.j ≤ b ∧ (y.i = m ∨ c (D.getD (y.i - 1) 0) < c x) ∧ (y.j = b ∨ ¬ c (D.getD y.j 0) < c x)) (fun y => [(10, .int .i64 y.i), (11, .int .i64 y.j), (0, .rsl i 0 N N 1), (1, .int .i64 a), (2, .int .i64 m), (3, .int .i64 b), (4, .clo f [] [.ptr r 0])]) (fun _ => H) (fun y => y.j - y.i) ⟨m, b⟩ ?_ fun y hy => ?_
      · simp only [go_sem, Nat.reduceMod, Nat.reduceBNe, Nat.reduceBEq, Nat.reduceEqDiff, Nat.reduceAdd, Int.reduceAdd, Nat.reduceMul, Nat.reduceSub, Int.reduceToNat, Int.reduceLE, Int.reduceLT, Int.reduceEq, Int.reduceNe, reduceCtorEq, Nat.reduceLT, Nat.reduceLeDiff]
        exact ⟨Nat.le_refl _, by omega, Nat.le_refl _, .inl trivial, .inl trivial⟩
      obtain ⟨p, q⟩ := y
      obtain ⟨y1, y2, y3, y4, y5⟩ := hy
      dsimp only at y1 y2 y3 y4 y5 ⊢
      by_cases hpq : p < q
      · have hpq' : (p : Int) < q := by omega
        have hm2 := mid_eq (i := p) (j := q) (by omega)
        have hmid : p ≤ (p + q) / 2 ∧ (p + q) / 2 < q := by omega
        have rdm := hrd ((p + q) / 2) (by omega)
        have rda := hrd a (by omega)
        rw [hx] at rda
        have hmin := hin _ (List.mem_append_right _ (hBat ((p + q) / 2) (by omega) (by omega)))
        simp only [A_slices_symMergeCmpFunc_intL0, go_sem, Nat.reduceMod, Nat.reduceBNe, Nat.reduceBEq, Nat.reduceEqDiff, Nat.reduceAdd, Int.reduceAdd, Nat.reduceMul, Nat.reduceSub, Int.reduceToNat, Int.reduceLE, Int.reduceLT, Int.reduceEq, Int.reduceNe, reduceCtorEq, Nat.reduceLT, Nat.reduceLeDiff, hpq', hm2, ix_r, hH, hDr, rw_len, hDl, rdm, rda]
        refine ⟨⟨by omega, by omega⟩, by omega, ⟨by omega, by omega⟩, by omega, callq_evm (d := _) (h := hc.ev H (D.getD ((p + q) / 2) 0) x hr hmin hxin) ?_⟩
        have hcl := cmp_lt c (D.getD ((p + q) / 2) 0) x
        have w3 : IntKind.i64.wrap ((((p + q) / 2 : Nat) : Int) + 1) = (((p + q) / 2 + 1 : Nat) : Int) := by rw [wi64 (by omega)]; omega
        by_cases hlt : c (D.getD ((p + q) / 2) 0) < c x
        · have hlt' := hcl.2 hlt
          simp only [go_sem, Nat.reduceMod, Nat.reduceBNe, Nat.reduceBEq, Nat.reduceEqDiff, Nat.reduceAdd, Int.reduceAdd, Nat.reduceMul, Nat.reduceSub, Int.reduceToNat, Int.reduceLE, Int.reduceLT, Int.reduceEq, Int.reduceNe, reduceCtorEq, Nat.reduceLT, Nat.reduceLeDiff, hlt', w3]
          exact ⟨⟨(p + q) / 2 + 1, q⟩, by dsimp only; omega, ⟨by dsimp only; omega, by dsimp only; omega, y3, .inr hlt, y5⟩, rfl, rfl⟩
        · have hlt' : ¬ cmpI c (D.getD ((p + q) / 2) 0) x < 0 := fun h => hlt (hcl.1 h)
          simp only [go_sem, Nat.reduceMod, Nat.reduceBNe, Nat.reduceBEq, Nat.reduceEqDiff, Nat.reduceAdd, Int.reduceAdd, Nat.reduceMul, Nat.reduceSub, Int.reduceToNat, Int.reduceLE, Int.reduceLT, Int.reduceEq, Int.reduceNe, reduceCtorEq, Nat.reduceLT, Nat.reduceLeDiff, hlt']
          exact ⟨⟨p, (p + q) / 2⟩, by dsimp only; omega, ⟨y1, by dsimp only; omega, by dsimp only; omega, y4, .inr hlt⟩, rfl, rfl⟩
      · have hpq' : ¬ (p : Int) < q := by omega
        have epq : p = q := by omega
        subst epq
        obtain ⟨B1, B2, hBB, hB1⟩ : ∃ B1 B2, B = B1 ++ B2 ∧ B1.length = p - m := ⟨B.take (p - m), B.drop (p - m), (List.take_append_drop _ _).symm, by rw [List.length_take]; omega⟩
        have hDB : D = P ++ ([] ++ x :: (B1 ++ (B2 ++ S))) := by rw [hD, hBB]; simp
        have hB1l : B1.length + B2.length = B.length := by rw [hBB, List.length_append]
        rw [List.length_singleton] at hm hb hNl
        have w4 : IntKind.i64.wrap ((p : Int) - 1) = ((p - 1 : Nat) : Int) := by rw [wi64 (by omega)]; omega
        simp only [A_slices_symMergeCmpFunc_intL0, go_sem, Nat.reduceMod, Nat.reduceBNe, Nat.reduceBEq, Nat.reduceEqDiff, Nat.reduceAdd, Int.reduceAdd, Nat.reduceMul, Nat.reduceSub, Int.reduceToNat, Int.reduceLE, Int.reduceLT, Int.reduceEq, Int.reduceNe, reduceCtorEq, Nat.reduceLT, Nat.reduceLeDiff, hpq']
        refine w_loop' hs.hm (ι := MV) (fun y => y.L ++ y.R = B1) (fun y => [(13, .int .i64 (a + y.L.length : Nat)), (10, .int .i64 p), (0, .rsl i 0 N N 1)]) (fun y => H.set i (rowB (P ++ (y.L ++ x :: (y.R ++ (B2 ++ S)))))) (fun y => y.R.length) ⟨[], B1⟩ ?_ fun y hy => ?_
        · simp only [go_sem, Nat.reduceMod, Nat.reduceBNe, Nat.reduceBEq, Nat.reduceEqDiff, Nat.reduceAdd, Int.reduceAdd, Nat.reduceMul, Nat.reduceSub, Int.reduceToNat, Int.reduceLE, Int.reduceLT, Int.reduceEq, Int.reduceNe, reduceCtorEq, Nat.reduceLT, Nat.reduceLeDiff]
          refine ⟨rfl, ?_⟩
          rw [hDB] at hH
          exact (set_same hH).symm
        obtain ⟨L1, R1⟩ := y
        dsimp only at hy ⊢
        have hyl := congrArg List.length hy
        rw [List.length_append] at hyl
        cases R1 with
        | nil =>
          rw [List.length_nil] at hyl
          have hkk : ¬ ((a + L1.length : Nat) : Int) < ((p - 1 : Nat) : Int) := by omega
          simp only [A_slices_symMergeCmpFunc_intL1, go_sem, Nat.reduceMod, Nat.reduceBNe, Nat.reduceBEq, Nat.reduceEqDiff, Nat.reduceAdd, Int.reduceAdd, Nat.reduceMul, Nat.reduceSub, Int.reduceToNat, Int.reduceLE, Int.reduceLT, Int.reduceEq, Int.reduceNe, reduceCtorEq, Nat.reduceLT, Nat.reduceLeDiff, hkk, w4]
          rw [List.append_nil] at hy
          subst hy
          have m1 : L1 = [] ∨ ∃ Y z, L1 = Y ++ [z] ∧ c z < c x := by
            rcases List.eq_nil_or_concat L1 with h | ⟨Y, z, h⟩
            · exact .inl h
            · rw [List.concat_eq_append] at h
              refine .inr ⟨Y, z, h, ?_⟩
              have hyl2 : Y.length + 1 = p - m := by rw [← hB1, h]; simp
              rcases y4 with h4 | h4
              · omega
              · have e := gdd P (x :: Y) (B2 ++ S) z
                have e2 : P ++ ((x :: Y) ++ z :: (B2 ++ S)) = D := by rw [hDB, h]; simp
                rw [e2, List.length_cons, show P.length + (Y.length + 1) = p - 1 by omega] at e
                rw [e] at h4; exact h4
          have m2 : B2 = [] ∨ ∃ w R, B2 = w :: R ∧ ¬ c w < c x := by
            cases hB2 : B2 with
            | nil => exact .inl rfl
            | cons w R =>
              refine .inr ⟨w, R, rfl, ?_⟩
              rw [hB2, List.length_cons] at hB1l
              rcases y5 with h5 | h5
              · omega
              · have e := gdd P (x :: L1) (R ++ S) w
                have e2 : P ++ ((x :: L1) ++ w :: (R ++ S)) = D := by rw [hDB, hB2]; simp
                rw [e2, List.length_cons, show P.length + (L1.length + 1) = p by omega] at e
                rw [e] at h5; exact h5
          refine ⟨L1 ++ x :: B2, by simp, ?_, merge1 (by rw [← hBB]; exact hB) (fun y hy => hAB x (by simp) y (by rw [hBB]; exact hy)) m1 m2⟩
          rw [hBB]
          exact List.perm_middle
        | cons z R1 =>
          rw [List.length_cons] at hyl
          have hkk : ((a + L1.length : Nat) : Int) < ((p - 1 : Nat) : Int) := by omega
          have w5 : IntKind.i64.wrap (((a + L1.length : Nat) : Int) + 1) = ((a + L1.length + 1 : Nat) : Int) := by rw [wi64 (by omega)]; omega
          have rd0 := gd0 P L1 (z :: (R1 ++ (B2 ++ S))) x
          have rd1 := gd1 P L1 (R1 ++ (B2 ++ S)) x z
          have hdl : (P ++ (L1 ++ x :: z :: (R1 ++ (B2 ++ S)))).length = N := by rw [hNl]; simp; omega
          rw [← ha] at rd0 rd1
          have hsw := sw2 P L1 (R1 ++ (B2 ++ S)) x z
          rw [← ha] at hsw
          simp only [A_slices_symMergeCmpFunc_intL1, go_sem, Nat.reduceMod, Nat.reduceBNe, Nat.reduceBEq, Nat.reduceEqDiff, Nat.reduceAdd, Int.reduceAdd, Nat.reduceMul, Nat.reduceSub, Int.reduceToNat, Int.reduceLE, Int.reduceLT, Int.reduceEq, Int.reduceNe, reduceCtorEq, Nat.reduceLT, Nat.reduceLeDiff, hkk, w4, w5, ix_r, hg, hss, rowB, rd0, rd1, ce_iv, sc_iv, rw_len, hdl, cs_c, cs_n, List.length_set, hsw]
          exact ⟨⟨by omega, by omega⟩, by omega, ⟨by omega, by omega⟩, by omega, ⟨by omega, by omega⟩, by omega, ⟨by omega, by omega⟩, by omega, ⟨L1 ++ [z], R1⟩, by dsimp only; omega, by rw [← hy]; simp, by simp; omega, by simp⟩
    have hA1' : ¬ (A.length : Int) = 1 := by omega
    by_cases hB1 : B.length = 1
    · have hB1' : (B.length : Int) = 1 := by omega
      obtain ⟨y, rfl⟩ : ∃ y, B = [y] := List.length_eq_one_iff.1 hB1
      have hy0 : D.getD m 0 = y := by rw [hD, hm]; exact gdd P A S y
      have hyin := hin y (by simp)
      simp only [A_slices_symMergeCmpFunc_int, go_sem, Nat.reduceMod, Nat.reduceBNe, Nat.reduceBEq, Nat.reduceEqDiff, Nat.reduceAdd, Int.reduceAdd, Nat.reduceMul, Nat.reduceSub, Int.reduceToNat, Int.reduceLE, Int.reduceLT, Int.reduceEq, Int.reduceNe, reduceCtorEq, Nat.reduceLT, Nat.reduceLeDiff, w1, w2, hA1', hB1']
      refine w_loop' hs.hm (ι := BS) (fun u => a ≤ u.i ∧ u.i ≤ u.j ∧ u.j ≤ m ∧ (u.i = a ∨ ¬ c y < c (D.getD (u.i - 1) 0)) ∧ (u.j = m ∨ c y < c (D.getD u.j 0))) (fun u => [(14, .int .i64 u.i), (15, .int .i64 u.j), (0, .rsl i 0 N N 1), (1, .int .i64 a), (2, .int .i64 m), (3, .int .i64 b), (4, .clo f [] [.ptr r 0])]) (fun _ => H) (fun u => u.j - u.i) ⟨a, m⟩ ?_ fun u hu => ?_
      · simp only [go_sem, Nat.reduceMod, Nat.reduceBNe, Nat.reduceBEq, Nat.reduceEqDiff, Nat.reduceAdd, Int.reduceAdd, Nat.reduceMul, Nat.reduceSub, Int.reduceToNat, Int.reduceLE, Int.reduceLT, Int.reduceEq, Int.reduceNe, reduceCtorEq, Nat.reduceLT, Nat.reduceLeDiff]
        exact ⟨Nat.le_refl _, by omega, Nat.le_refl _, .inl trivial, .inl trivial⟩
      obtain ⟨p, q⟩ := u
      obtain ⟨y1, y2, y3, y4, y5⟩ := hu
      dsimp only at y1 y2 y3 y4 y5 ⊢
      by_cases hpq : p < q
      · have hpq' : (p : Int) < q := by omega
        have hm2 := mid_eq (i := p) (j := q) (by omega)
        have hmid : p ≤ (p + q) / 2 ∧ (p + q) / 2 < q := by omega
        have rdm := hrd ((p + q) / 2) (by omega)
        have rda := hrd m (by omega)
        rw [hy0] at rda
        have hmin := hin _ (List.mem_append_left _ (hAat ((p + q) / 2) (by omega) (by omega)))
        simp only [A_slices_symMergeCmpFunc_intL2, go_sem, Nat.reduceMod, Nat.reduceBNe, Nat.reduceBEq, Nat.reduceEqDiff, Nat.reduceAdd, Int.reduceAdd, Nat.reduceMul, Nat.reduceSub, Int.reduceToNat, Int.reduceLE, Int.reduceLT, Int.reduceEq, Int.reduceNe, reduceCtorEq, Nat.reduceLT, Nat.reduceLeDiff, hpq', hm2, ix_r, hH, hDr, rw_len, hDl, rdm, rda]
        refine ⟨⟨by omega, by omega⟩, by omega, ⟨by omega, by omega⟩, by omega, callq_evm (d := _) (h := hc.ev H y (D.getD ((p + q) / 2) 0) hr hyin hmin) ?_⟩
        have hcl := cmp_lt c y (D.getD ((p + q) / 2) 0)
        have w3 : IntKind.i64.wrap ((((p + q) / 2 : Nat) : Int) + 1) = (((p + q) / 2 + 1 : Nat) : Int) := by rw [wi64 (by omega)]; omega
        by_cases hlt : c y < c (D.getD ((p + q) / 2) 0)
        · have hlt' := hcl.2 hlt
          simp only [go_sem, Nat.reduceMod, Nat.reduceBNe, Nat.reduceBEq, Nat.reduceEqDiff, Nat.reduceAdd, Int.reduceAdd, Nat.reduceMul, Nat.reduceSub, Int.reduceToNat, Int.reduceLE, Int.reduceLT, Int.reduceEq, Int.reduceNe, reduceCtorEq, Nat.reduceLT, Nat.reduceLeDiff, hlt']
          exact ⟨⟨p, (p + q) / 2⟩, by dsimp only; omega, ⟨y1, by dsimp only; omega, by dsimp only; omega, y4, .inr hlt⟩, rfl, rfl⟩
        · have hlt' : ¬ cmpI c y (D.getD ((p + q) / 2) 0) < 0 := fun h => hlt (hcl.1 h)
          simp only [go_sem, Nat.reduceMod, Nat.reduceBNe, Nat.reduceBEq, Nat.reduceEqDiff, Nat.reduceAdd, Int.reduceAdd, Nat.reduceMul, Nat.reduceSub, Int.reduceToNat, Int.reduceLE, Int.reduceLT, Int.reduceEq, Int.reduceNe, reduceCtorEq, Nat.reduceLT, Nat.reduceLeDiff, hlt', w3]
          exact ⟨⟨(p + q) / 2 + 1, q⟩, by dsimp only; omega, ⟨by dsimp only; omega, by dsimp only; omega, y3, .inr hlt, y5⟩, rfl, rfl⟩
      · have hpq' : ¬ (p : Int) < q := by omega
        have epq : p = q := by omega
        subst epq
        obtain ⟨A1, A2, hAA, hA1l⟩ : ∃ A1 A2, A = A1 ++ A2 ∧ A1.length = p - a := ⟨A.take (p - a), A.drop (p - a), (List.take_append_drop _ _).symm, by rw [List.length_take]; omega⟩
        have hAl : A1.length + A2.length = A.length := by rw [hAA, List.length_append]
        rw [List.length_singleton] at hb hNl
        simp only [A_slices_symMergeCmpFunc_intL2, go_sem, Nat.reduceMod, Nat.reduceBNe, Nat.reduceBEq, Nat.reduceEqDiff, Nat.reduceAdd, Int.reduceAdd, Nat.reduceMul, Nat.reduceSub, Int.reduceToNat, Int.reduceLE, Int.reduceLT, Int.reduceEq, Int.reduceNe, reduceCtorEq, Nat.reduceLT, Nat.reduceLeDiff, hpq']
        refine w_loop' hs.hm (ι := MV) (fun u => u.L ++ u.R = A ∧ A1.length ≤ u.L.length) (fun u => [(17, .int .i64 (a + u.L.length : Nat)), (14, .int .i64 p), (0, .rsl i 0 N N 1)]) (fun u => H.set i (rowB (P ++ (u.L ++ y :: (u.R ++ S))))) (fun u => u.L.length) ⟨A, []⟩ ?_ fun u hu => ?_
        · simp only [go_sem, Nat.reduceMod, Nat.reduceBNe, Nat.reduceBEq, Nat.reduceEqDiff, Nat.reduceAdd, Int.reduceAdd, Nat.reduceMul, Nat.reduceSub, Int.reduceToNat, Int.reduceLE, Int.reduceLT, Int.reduceEq, Int.reduceNe, reduceCtorEq, Nat.reduceLT, Nat.reduceLeDiff]
          refine ⟨by omega, by rw [show a + A.length = m by omega], ?_⟩
          rw [hD] at hH
          exact (set_same hH).symm
        obtain ⟨L1, R1⟩ := u
        obtain ⟨hu, hu2⟩ := hu
        dsimp only at hu hu2 ⊢
        have hyl := congrArg List.length hu
        rw [List.length_append] at hyl
        by_cases hend : L1.length = A1.length
        · have hkk : ¬ ((p : Nat) : Int) < ((a + L1.length : Nat) : Int) := by omega
          simp only [A_slices_symMergeCmpFunc_intL3, go_sem, Nat.reduceMod, Nat.reduceBNe, Nat.reduceBEq, Nat.reduceEqDiff, Nat.reduceAdd, Int.reduceAdd, Nat.reduceMul, Nat.reduceSub, Int.reduceToNat, Int.reduceLE, Int.reduceLT, Int.reduceEq, Int.reduceNe, reduceCtorEq, Nat.reduceLT, Nat.reduceLeDiff, hkk]
          obtain ⟨rfl, rfl⟩ := List.append_inj (hu.trans hAA) hend
          have m1 : L1 = [] ∨ ∃ Y z, L1 = Y ++ [z] ∧ ¬ c y < c z := by
            rcases List.eq_nil_or_concat L1 with h | ⟨Y, z, h⟩
            · exact .inl h
            · rw [List.concat_eq_append] at h
              refine .inr ⟨Y, z, h, ?_⟩
              have hyl2 : Y.length + 1 = p - a := by rw [← hA1l, h]; simp
              rcases y4 with h4 | h4
              · omega
              · have e := gdd P Y (R1 ++ ([y] ++ S)) z
                have e2 : P ++ (Y ++ z :: (R1 ++ ([y] ++ S))) = D := by rw [hD, hAA, h]; simp
                rw [e2, show P.length + Y.length = p - 1 by omega] at e
                rw [e] at h4; exact h4
          have m2 : R1 = [] ∨ ∃ w R, R1 = w :: R ∧ c y < c w := by
            cases hR : R1 with
            | nil => exact .inl rfl
            | cons w R =>
              refine .inr ⟨w, R, rfl, ?_⟩
              rw [hR, List.length_cons] at hAl
              rcases y5 with h5 | h5
              · omega
              · have e := gdd P L1 (R ++ ([y] ++ S)) w
                have e2 : P ++ (L1 ++ w :: (R ++ ([y] ++ S))) = D := by rw [hD, hAA, hR]; simp
                rw [e2, show P.length + L1.length = p by omega] at e
                rw [e] at h5; exact h5
          refine ⟨L1 ++ y :: R1, by simp, ?_, merge2 (by rw [← hAA]; exact hA) (fun x hx => hAB x (by rw [hAA]; exact hx) y (by simp)) m1 m2⟩
          rw [hAA]
          exact List.perm_middle.trans (by simpa using (List.perm_append_comm (l₁ := [y]) (l₂ := L1 ++ R1)))
        · obtain ⟨L2, z, hL2⟩ : ∃ L2 z, L1 = L2 ++ [z] := by
            rcases List.eq_nil_or_concat L1 with h | ⟨Y, z, h⟩
            · rw [h, List.length_nil] at hend hu2; omega
            · exact ⟨Y, z, by rw [h, List.concat_eq_append]⟩
          subst hL2
          rw [List.length_append, List.length_singleton] at hend hu2 hyl
          have hkk : ((p : Nat) : Int) < ((a + (L2.length + 1) : Nat) : Int) := by omega
          have w5 : IntKind.i64.wrap (((a + (L2.length + 1) : Nat) : Int) - 1) = ((a + L2.length : Nat) : Int) := by rw [wi64 (by omega)]; omega
          have e0 : P ++ ((L2 ++ [z]) ++ y :: (R1 ++ S)) = P ++ (L2 ++ z :: y :: (R1 ++ S)) := by simp
          have rd0 := gd0 P L2 (y :: (R1 ++ S)) z
          have rd1 := gd1 P L2 (R1 ++ S) z y
          have hdl : (P ++ (L2 ++ z :: y :: (R1 ++ S))).length = N := by rw [hNl]; simp; omega
          have hsw := sw2' P L2 (R1 ++ S) z y
          rw [← ha] at rd0 rd1 hsw
          rw [Nat.add_assoc] at rd1 hsw
          rw [e0, List.length_append, List.length_singleton]
          simp only [A_slices_symMergeCmpFunc_intL3, go_sem, Nat.reduceMod, Nat.reduceBNe, Nat.reduceBEq, Nat.reduceEqDiff, Nat.reduceAdd, Int.reduceAdd, Nat.reduceMul, Nat.reduceSub, Int.reduceToNat, Int.reduceLE, Int.reduceLT, Int.reduceEq, Int.reduceNe, reduceCtorEq, Nat.reduceLT, Nat.reduceLeDiff, hkk, w5, ix_r, hg, hss, rowB, rd0, rd1, ce_iv, sc_iv, rw_len, hdl, cs_c, cs_n, List.length_set, hsw]
          exact ⟨⟨by omega, by omega⟩, by omega, ⟨by omega, by omega⟩, by omega, ⟨by omega, by omega⟩, by omega, ⟨by omega, by omega⟩, by omega, ⟨L2, z :: R1⟩, by simp, ⟨by rw [← hu]; simp, by dsimp only; omega⟩, rfl, by simp⟩
    have hB1' : ¬ (B.length : Int) = 1 := by omega
    have hmid2 := mid_eq (i := a) (j := b) (by omega)
    obtain ⟨mid, hmd⟩ : ∃ mid, mid = (a + b) / 2 := ⟨_, rfl⟩
    rw [← hmd] at hmid2
    have w3 : IntKind.i64.wrap ((mid : Int) + m) = ((mid + m : Nat) : Int) := by rw [wi64 (by omega)]; omega
    have w5 : IntKind.i64.wrap (((mid + m : Nat) : Int) - 1) = ((mid + m - 1 : Nat) : Int) := by rw [wi64 (by omega)]; omega
    have hss0 : ∀ y, H.set i y = H.set i y := fun _ => rfl
    by_cases hmm : mid < m
    · have hmm' : ((mid : Nat) : Int) < (m : Nat) := by omega
      have w4 : IntKind.i64.wrap (((mid + m : Nat) : Int) - b) = ((mid + m - b : Nat) : Int) := by rw [wi64 (by omega)]; omega
      simp only [A_slices_symMergeCmpFunc_int, go_sem, Nat.reduceMod, Nat.reduceBNe, Nat.reduceBEq, Nat.reduceEqDiff, Nat.reduceAdd, Int.reduceAdd, Nat.reduceMul, Nat.reduceSub, Int.reduceToNat, Int.reduceLE, Int.reduceLT, Int.reduceEq, Int.reduceNe, reduceCtorEq, Nat.reduceLT, Nat.reduceLeDiff, w1, w2, hA1', hB1', hmid2, w3, w4, w5, hmm']
      refine w_loop' hs.hm (ι := BS) (fun u => (mid + m - b) ≤ u.i ∧ u.i ≤ u.j ∧ u.j ≤ mid ∧ (u.i = (mid + m - b) ∨ ¬ c (D.getD (mid + m - 1 - (u.i - 1)) 0) < c (D.getD (u.i - 1) 0)) ∧ (u.j = mid ∨ c (D.getD (mid + m - 1 - u.j) 0) < c (D.getD u.j 0))) (fun u => [(20, .int .i64 u.i), (21, .int .i64 u.j), (22, .int .i64 (mid + m - 1 : Nat)), (19, .int .i64 (mid + m : Nat)), (18, .int .i64 mid), (0, .rsl i 0 N N 1), (1, .int .i64 a), (2, .int .i64 m), (3, .int .i64 b), (4, .clo f [] [.ptr r 0])]) (fun _ => H) (fun u => u.j - u.i) ⟨(mid + m - b), mid⟩ ?_ fun u hu => ?_
      · simp only [go_sem, Nat.reduceMod, Nat.reduceBNe, Nat.reduceBEq, Nat.reduceEqDiff, Nat.reduceAdd, Int.reduceAdd, Nat.reduceMul, Nat.reduceSub, Int.reduceToNat, Int.reduceLE, Int.reduceLT, Int.reduceEq, Int.reduceNe, reduceCtorEq, Nat.reduceLT, Nat.reduceLeDiff]
        exact ⟨Nat.le_refl _, by omega, Nat.le_refl _, .inl trivial, .inl trivial⟩
      obtain ⟨p, q⟩ := u
      obtain ⟨y1, y2, y3, y4, y5⟩ := hu
      dsimp only at y1 y2 y3 y4 y5 ⊢
      by_cases hpq : p < q
      · have hpq' : (p : Int) < q := by omega
        have hm2 := mid_eq (i := p) (j := q) (by omega)
        obtain ⟨k, hk⟩ : ∃ k, k = (p + q) / 2 := ⟨_, rfl⟩
        have hmid : p ≤ k ∧ k < q := by omega
        rw [← hk] at hm2
        have w6 : IntKind.i64.wrap (((mid + m - 1 : Nat) : Int) - k) = ((mid + m - 1 - k : Nat) : Int) := by rw [wi64 (by omega)]; omega
        have rdm := hrd k (by omega)
        have rda := hrd (mid + m - 1 - k) (by omega)
        have hkin := hin _ (List.mem_append_left _ (hAat k (by omega) (by omega)))
        have hpin := hin _ (List.mem_append_right _ (hBat (mid + m - 1 - k) (by omega) (by omega)))
        simp only [A_slices_symMergeCmpFunc_intL4, go_sem, Nat.reduceMod, Nat.reduceBNe, Nat.reduceBEq, Nat.reduceEqDiff, Nat.reduceAdd, Int.reduceAdd, Nat.reduceMul, Nat.reduceSub, Int.reduceToNat, Int.reduceLE, Int.reduceLT, Int.reduceEq, Int.reduceNe, reduceCtorEq, Nat.reduceLT, Nat.reduceLeDiff, hpq', hm2, w6, ix_r, hH, hDr, rw_len, hDl, rdm, rda]
        refine ⟨⟨by omega, by omega⟩, by omega, ⟨by omega, by omega⟩, by omega, callq_evm (d := _) (h := hc.ev H (D.getD (mid + m - 1 - k) 0) (D.getD k 0) hr hpin hkin) ?_⟩
        have hcl := cmp_lt c (D.getD (mid + m - 1 - k) 0) (D.getD k 0)
        have w7 : IntKind.i64.wrap ((k : Int) + 1) = ((k + 1 : Nat) : Int) := by rw [wi64 (by omega)]; omega
        by_cases hlt : c (D.getD (mid + m - 1 - k) 0) < c (D.getD k 0)
        · have hlt' := hcl.2 hlt
          simp only [go_sem, Nat.reduceMod, Nat.reduceBNe, Nat.reduceBEq, Nat.reduceEqDiff, Nat.reduceAdd, Int.reduceAdd, Nat.reduceMul, Nat.reduceSub, Int.reduceToNat, Int.reduceLE, Int.reduceLT, Int.reduceEq, Int.reduceNe, reduceCtorEq, Nat.reduceLT, Nat.reduceLeDiff, hlt']
          exact ⟨⟨p, k⟩, by dsimp only; omega, ⟨y1, by dsimp only; omega, by dsimp only; omega, y4, .inr hlt⟩, rfl, rfl⟩
        · have hlt' : ¬ cmpI c (D.getD (mid + m - 1 - k) 0) (D.getD k 0) < 0 := fun h => hlt (hcl.1 h)
          simp only [go_sem, Nat.reduceMod, Nat.reduceBNe, Nat.reduceBEq, Nat.reduceEqDiff, Nat.reduceAdd, Int.reduceAdd, Nat.reduceMul, Nat.reduceSub, Int.reduceToNat, Int.reduceLE, Int.reduceLT, Int.reduceEq, Int.reduceNe, reduceCtorEq, Nat.reduceLT, Nat.reduceLeDiff, hlt', w7]
          exact ⟨⟨k + 1, q⟩, by dsimp only; omega, ⟨by dsimp only; omega, by dsimp only; omega, y3, .inr hlt, y5⟩, rfl, rfl⟩
      · have hpq' : ¬ (p : Int) < q := by omega
        have epq : p = q := by omega
        subst epq
        have wen : IntKind.i64.wrap (((mid + m : Nat) : Int) - p) = ((mid + m - p : Nat) : Int) := by rw [wi64 (by omega)]; omega
        obtain ⟨A1, A2, hAA, lA1⟩ : ∃ A1 A2, A = A1 ++ A2 ∧ A1.length = p - a := ⟨A.take (p - a), A.drop (p - a), (List.take_append_drop _ _).symm, by rw [List.length_take]; omega⟩
        obtain ⟨B1, B2, hBB, lB1⟩ : ∃ B1 B2, B = B1 ++ B2 ∧ B1.length = mid - p := ⟨B.take (mid - p), B.drop (mid - p), (List.take_append_drop _ _).symm, by rw [List.length_take]; omega⟩
        have lA2 : A1.length + A2.length = A.length := by rw [hAA, List.length_append]
        have lB2 : B1.length + B2.length = B.length := by rw [hBB, List.length_append]
        have hD1 : D = P ++ (A1 ++ (A2 ++ (B1 ++ (B2 ++ S)))) := by rw [hD, hAA, hBB]; simp
        have mA1 : ∀ u ∈ A1, u ∈ A := fun u hu => by rw [hAA]; simp [hu]
        have mA2 : ∀ u ∈ A2, u ∈ A := fun u hu => by rw [hAA]; simp [hu]
        have mB1 : ∀ u ∈ B1, u ∈ B := fun u hu => by rw [hBB]; simp [hu]
        have mB2 : ∀ u ∈ B2, u ∈ B := fun u hu => by rw [hBB]; simp [hu]
        have in1 : inR n (A1 ++ B1) := fun u hu => hin u ((List.mem_append.1 hu).elim (fun h => List.mem_append_left _ (mA1 u h)) fun h => List.mem_append_right _ (mB1 u h))
        have in2 : inR n (A2 ++ B2) := fun u hu => hin u ((List.mem_append.1 hu).elim (fun h => List.mem_append_left _ (mA2 u h)) fun h => List.mem_append_right _ (mB2 u h))
        have sA1 : A1.Pairwise (ltc c) := by rw [hAA] at hA; exact (pw_app.1 hA).1
        have sA2 : A2.Pairwise (ltc c) := by rw [hAA] at hA; exact (pw_app.1 hA).2.1
        have sB1 : B1.Pairwise (ltc c) := by rw [hBB] at hB; exact (pw_app.1 hB).1
        have sB2 : B2.Pairwise (ltc c) := by rw [hBB] at hB; exact (pw_app.1 hB).2.1
        have hcut : ∀ u ∈ A1 ++ B1, ∀ v ∈ A2 ++ B2, ltc c u v := by
          refine cut_lt (by rw [← hAA]; exact hA) (by rw [← hBB]; exact hB) (by rw [← hAA, ← hBB]; exact hAB) ?_ ?_
          · rcases List.eq_nil_or_concat A1 with h | ⟨Y, z, h⟩
            · exact .inl h
            · rw [List.concat_eq_append] at h
              have hyl : Y.length + 1 = p - a := by rw [← lA1, h]; simp
              cases hB2 : B2 with
              | nil => exact .inr (.inl rfl)
              | cons w R =>
                refine .inr (.inr ⟨Y, z, w, R, h, rfl, ?_⟩)
                rw [hB2, List.length_cons] at lB2
                rcases y4 with h4 | h4
                · omega
                · have e1 := gdd P Y (A2 ++ (B1 ++ (B2 ++ S))) z
                  have e2 : P ++ (Y ++ z :: (A2 ++ (B1 ++ (B2 ++ S)))) = D := by rw [hD1, h]; simp
                  rw [e2, show P.length + Y.length = p - 1 by omega] at e1
                  have e3 := gdd P (A ++ B1) (R ++ S) w
                  have e4 : P ++ ((A ++ B1) ++ w :: (R ++ S)) = D := by rw [hD, hBB, hB2]; simp
                  rw [e4, List.length_append, show P.length + (A.length + B1.length) = mid + m - 1 - (p - 1) by omega] at e3
                  rw [e1, e3] at h4; exact h4
          · rcases List.eq_nil_or_concat B1 with h | ⟨Y, z, h⟩
            · exact .inl h
            · rw [List.concat_eq_append] at h
              have hyl : Y.length + 1 = mid - p := by rw [← lB1, h]; simp
              cases hA2 : A2 with
              | nil => exact .inr (.inl rfl)
              | cons w R =>
                refine .inr (.inr ⟨Y, z, w, R, h, rfl, ?_⟩)
                rw [hA2, List.length_cons] at lA2
                rcases y5 with h5 | h5
                · omega
                · have e1 := gdd P (A ++ Y) (B2 ++ S) z
                  have e2 : P ++ ((A ++ Y) ++ z :: (B2 ++ S)) = D := by rw [hD, hBB, h]; simp
                  rw [e2, List.length_append, show P.length + (A.length + Y.length) = mid + m - 1 - p by omega] at e1
                  have e3 := gdd P A1 (R ++ (B ++ S)) w
                  have e4 : P ++ (A1 ++ w :: (R ++ (B ++ S))) = D := by rw [hD, hAA, hA2]; simp
                  rw [e4, show P.length + A1.length = p by omega] at e3
                  rw [e1, e3] at h5; exact h5
        have fperm : ∀ {Z1 Z2 : List Int}, Z1.Perm (A1 ++ B1) → Z2.Perm (A2 ++ B2) → (Z1 ++ Z2).Perm (A ++ B) := fun h1 h2 => by
          refine (h1.append h2).trans ?_
          rw [hAA, hBB, List.append_assoc, List.append_assoc]
          refine List.Perm.append_left _ ?_
          rw [← List.append_assoc, ← List.append_assoc]
          exact List.Perm.append_right _ List.perm_append_comm
        have fsort : ∀ {Z1 Z2 : List Int}, Z1.Perm (A1 ++ B1) → Z2.Perm (A2 ++ B2) → Z1.Pairwise (ltc c) → Z2.Pairwise (ltc c) → (Z1 ++ Z2).Pairwise (ltc c) := fun h1 h2 h3 h4 => pw_app.2 ⟨h3, h4, fun u hu v hv => hcut u (h1.subset hu) v (h2.subset hv)⟩
        by_cases nA2 : 0 < A2.length
        · have h1 : ((p : Nat) : Int) < (m : Nat) := by omega
          have h5 : ((mid : Nat) : Int) < (mid + m - p : Nat) := by omega
          by_cases nB1 : 0 < B1.length
          · have h2 : ((m : Nat) : Int) < (mid + m - p : Nat) := by omega
            have h4 : ((p : Nat) : Int) < (mid : Nat) := by omega
            by_cases nA1 : 0 < A1.length
            · have h3 : ((a : Nat) : Int) < (p : Nat) := by omega
              by_cases nB2 : 0 < B2.length
              · have h6 : ((mid + m - p : Nat) : Int) < (b : Nat) := by omega
                simp only [A_slices_symMergeCmpFunc_intL4, go_sem, Nat.reduceMod, Nat.reduceBNe, Nat.reduceBEq, Nat.reduceEqDiff, Nat.reduceAdd, Int.reduceAdd, Nat.reduceMul, Nat.reduceSub, Int.reduceToNat, Int.reduceLE, Int.reduceLT, Int.reduceEq, Int.reduceNe, reduceCtorEq, Nat.reduceLT, Nat.reduceLeDiff, hpq', wen, h1, h2, h3, h4, h5, h6]
                refine call_evm (ev_rotate' hX hs i N _ (P ++ A1) A2 B1 (B2 ++ S) H p m (mid + m - p) hH (by rw [hD1]; simp) (by rw [hDl]) hN1 (by omega) (by omega) (by rw [List.length_append]; omega) (by rw [List.length_append]; omega) (by rw [List.length_append]; omega)) ?_
                rintro r1 H1 rfl
                simp only [go_sem, Nat.reduceMod, Nat.reduceBNe, Nat.reduceBEq, Nat.reduceEqDiff, Nat.reduceAdd, Int.reduceAdd, Nat.reduceMul, Nat.reduceSub, Int.reduceToNat, Int.reduceLE, Int.reduceLT, Int.reduceEq, Int.reduceNe, reduceCtorEq, Nat.reduceLT, Nat.reduceLeDiff, wen, h3, h4, h5, h6]
                refine call_evm (ih P A1 B1 (A2 ++ (B2 ++ S)) (H.set i (rowB ((P ++ A1) ++ (B1 ++ (A2 ++ (B2 ++ S)))))) a p mid (by omega) (hgr _) (by rw [hg]; simp) (by rw [hNl]; simp; omega) sA1 sB1 (fun u hu v hv => hAB u (mA1 u hu) v (mB1 v hv)) in1 (by omega) (by omega) ha (by omega) (by omega)) ?_
                rintro r2 H2 ⟨Z1, rfl, z1, z2⟩
                have z3 := z1.length_eq
                rw [List.length_append] at z3
                simp only [go_sem, Nat.reduceMod, Nat.reduceBNe, Nat.reduceBEq, Nat.reduceEqDiff, Nat.reduceAdd, Int.reduceAdd, Nat.reduceMul, Nat.reduceSub, Int.reduceToNat, Int.reduceLE, Int.reduceLT, Int.reduceEq, Int.reduceNe, reduceCtorEq, Nat.reduceLT, Nat.reduceLeDiff, hss, h5, h6]
                refine call_evm (ih (P ++ Z1) A2 B2 S (H.set i (rowB (P ++ (Z1 ++ (A2 ++ (B2 ++ S)))))) mid (mid + m - p) b (by omega) (hgr _) (by rw [hg]; simp) (by rw [hNl]; simp; omega) sA2 sB2 (fun u hu v hv => hAB u (mA2 u hu) v (mB2 v hv)) in2 (by omega) (by omega) (by rw [List.length_append]; omega) (by rw [List.length_append]; omega) (by rw [List.length_append]; omega)) ?_
                rintro r3 H3 ⟨Z2, rfl, z4, z5⟩
                simp only [go_sem, Nat.reduceMod, Nat.reduceBNe, Nat.reduceBEq, Nat.reduceEqDiff, Nat.reduceAdd, Int.reduceAdd, Nat.reduceMul, Nat.reduceSub, Int.reduceToNat, Int.reduceLE, Int.reduceLT, Int.reduceEq, Int.reduceNe, reduceCtorEq, Nat.reduceLT, Nat.reduceLeDiff, hss]
                refine ⟨Z1 ++ Z2, ?_, fperm z1 z4, fsort z1 z4 z2 z5⟩
                simp
              · have h6 : ¬ ((mid + m - p : Nat) : Int) < (b : Nat) := by omega
                simp only [A_slices_symMergeCmpFunc_intL4, go_sem, Nat.reduceMod, Nat.reduceBNe, Nat.reduceBEq, Nat.reduceEqDiff, Nat.reduceAdd, Int.reduceAdd, Nat.reduceMul, Nat.reduceSub, Int.reduceToNat, Int.reduceLE, Int.reduceLT, Int.reduceEq, Int.reduceNe, reduceCtorEq, Nat.reduceLT, Nat.reduceLeDiff, hpq', wen, h1, h2, h3, h4, h5, h6]
                refine call_evm (ev_rotate' hX hs i N _ (P ++ A1) A2 B1 (B2 ++ S) H p m (mid + m - p) hH (by rw [hD1]; simp) (by rw [hDl]) hN1 (by omega) (by omega) (by rw [List.length_append]; omega) (by rw [List.length_append]; omega) (by rw [List.length_append]; omega)) ?_
                rintro r1 H1 rfl
                simp only [go_sem, Nat.reduceMod, Nat.reduceBNe, Nat.reduceBEq, Nat.reduceEqDiff, Nat.reduceAdd, Int.reduceAdd, Nat.reduceMul, Nat.reduceSub, Int.reduceToNat, Int.reduceLE, Int.reduceLT, Int.reduceEq, Int.reduceNe, reduceCtorEq, Nat.reduceLT, Nat.reduceLeDiff, wen, h3, h4, h5, h6]
                refine call_evm (ih P A1 B1 (A2 ++ (B2 ++ S)) (H.set i (rowB ((P ++ A1) ++ (B1 ++ (A2 ++ (B2 ++ S)))))) a p mid (by omega) (hgr _) (by rw [hg]; simp) (by rw [hNl]; simp; omega) sA1 sB1 (fun u hu v hv => hAB u (mA1 u hu) v (mB1 v hv)) in1 (by omega) (by omega) ha (by omega) (by omega)) ?_
                rintro r2 H2 ⟨Z1, rfl, z1, z2⟩
                have z3 := z1.length_eq
                rw [List.length_append] at z3
                simp only [go_sem, Nat.reduceMod, Nat.reduceBNe, Nat.reduceBEq, Nat.reduceEqDiff, Nat.reduceAdd, Int.reduceAdd, Nat.reduceMul, Nat.reduceSub, Int.reduceToNat, Int.reduceLE, Int.reduceLT, Int.reduceEq, Int.reduceNe, reduceCtorEq, Nat.reduceLT, Nat.reduceLeDiff, hss, h5, h6]
                obtain ⟨Z2, hZ2, z4, z5⟩ : ∃ Z2, Z2 = A2 ++ B2 ∧ Z2.Perm (A2 ++ B2) ∧ Z2.Pairwise (ltc c) := ⟨_, rfl, .refl _, by rw [List.eq_nil_of_length_eq_zero (show B2.length = 0 by omega), List.append_nil]; exact sA2⟩
                refine ⟨Z1 ++ Z2, ?_, fperm z1 z4, fsort z1 z4 z2 z5⟩
                simp [hZ2]
            · have h3 : ¬ ((a : Nat) : Int) < (p : Nat) := by omega
              by_cases nB2 : 0 < B2.length
              · have h6 : ((mid + m - p : Nat) : Int) < (b : Nat) := by omega
                simp only [A_slices_symMergeCmpFunc_intL4, go_sem, Nat.reduceMod, Nat.reduceBNe, Nat.reduceBEq, Nat.reduceEqDiff, Nat.reduceAdd, Int.reduceAdd, Nat.reduceMul, Nat.reduceSub, Int.reduceToNat, Int.reduceLE, Int.reduceLT, Int.reduceEq, Int.reduceNe, reduceCtorEq, Nat.reduceLT, Nat.reduceLeDiff, hpq', wen, h1, h2, h3, h4, h5, h6]
                refine call_evm (ev_rotate' hX hs i N _ (P ++ A1) A2 B1 (B2 ++ S) H p m (mid + m - p) hH (by rw [hD1]; simp) (by rw [hDl]) hN1 (by omega) (by omega) (by rw [List.length_append]; omega) (by rw [List.length_append]; omega) (by rw [List.length_append]; omega)) ?_
                rintro r1 H1 rfl
                simp only [go_sem, Nat.reduceMod, Nat.reduceBNe, Nat.reduceBEq, Nat.reduceEqDiff, Nat.reduceAdd, Int.reduceAdd, Nat.reduceMul, Nat.reduceSub, Int.reduceToNat, Int.reduceLE, Int.reduceLT, Int.reduceEq, Int.reduceNe, reduceCtorEq, Nat.reduceLT, Nat.reduceLeDiff, wen, h3, h4, h5, h6]
                obtain ⟨Z1, hZ1, z1, z2⟩ : ∃ Z1, Z1 = A1 ++ B1 ∧ Z1.Perm (A1 ++ B1) ∧ Z1.Pairwise (ltc c) := ⟨_, rfl, .refl _, by rw [List.eq_nil_of_length_eq_zero (show A1.length = 0 by omega)]; exact sB1⟩
                have z3 := z1.length_eq
                rw [List.length_append] at z3
                refine call_evm (ih (P ++ Z1) A2 B2 S (H.set i (rowB ((P ++ A1) ++ (B1 ++ (A2 ++ (B2 ++ S)))))) mid (mid + m - p) b (by omega) (hgr _) (by rw [hg, hZ1]; simp) (by rw [hNl]; simp; omega) sA2 sB2 (fun u hu v hv => hAB u (mA2 u hu) v (mB2 v hv)) in2 (by omega) (by omega) (by rw [List.length_append]; omega) (by rw [List.length_append]; omega) (by rw [List.length_append]; omega)) ?_
                rintro r3 H3 ⟨Z2, rfl, z4, z5⟩
                simp only [go_sem, Nat.reduceMod, Nat.reduceBNe, Nat.reduceBEq, Nat.reduceEqDiff, Nat.reduceAdd, Int.reduceAdd, Nat.reduceMul, Nat.reduceSub, Int.reduceToNat, Int.reduceLE, Int.reduceLT, Int.reduceEq, Int.reduceNe, reduceCtorEq, Nat.reduceLT, Nat.reduceLeDiff, hss]
                refine ⟨Z1 ++ Z2, ?_, fperm z1 z4, fsort z1 z4 z2 z5⟩
                simp [hZ1]
              · have h6 : ¬ ((mid + m - p : Nat) : Int) < (b : Nat) := by omega
                simp only [A_slices_symMergeCmpFunc_intL4, go_sem, Nat.reduceMod, Nat.reduceBNe, Nat.reduceBEq, Nat.reduceEqDiff, Nat.reduceAdd, Int.reduceAdd, Nat.reduceMul, Nat.reduceSub, Int.reduceToNat, Int.reduceLE, Int.reduceLT, Int.reduceEq, Int.reduceNe, reduceCtorEq, Nat.reduceLT, Nat.reduceLeDiff, hpq', wen, h1, h2, h3, h4, h5, h6]
                refine call_evm (ev_rotate' hX hs i N _ (P ++ A1) A2 B1 (B2 ++ S) H p m (mid + m - p) hH (by rw [hD1]; simp) (by rw [hDl]) hN1 (by omega) (by omega) (by rw [List.length_append]; omega) (by rw [List.length_append]; omega) (by rw [List.length_append]; omega)) ?_
                rintro r1 H1 rfl
                simp only [go_sem, Nat.reduceMod, Nat.reduceBNe, Nat.reduceBEq, Nat.reduceEqDiff, Nat.reduceAdd, Int.reduceAdd, Nat.reduceMul, Nat.reduceSub, Int.reduceToNat, Int.reduceLE, Int.reduceLT, Int.reduceEq, Int.reduceNe, reduceCtorEq, Nat.reduceLT, Nat.reduceLeDiff, wen, h3, h4, h5, h6]
                obtain ⟨Z1, hZ1, z1, z2⟩ : ∃ Z1, Z1 = A1 ++ B1 ∧ Z1.Perm (A1 ++ B1) ∧ Z1.Pairwise (ltc c) := ⟨_, rfl, .refl _, by rw [List.eq_nil_of_length_eq_zero (show A1.length = 0 by omega)]; exact sB1⟩
                have z3 := z1.length_eq
                rw [List.length_append] at z3
                obtain ⟨Z2, hZ2, z4, z5⟩ : ∃ Z2, Z2 = A2 ++ B2 ∧ Z2.Perm (A2 ++ B2) ∧ Z2.Pairwise (ltc c) := ⟨_, rfl, .refl _, by rw [List.eq_nil_of_length_eq_zero (show B2.length = 0 by omega), List.append_nil]; exact sA2⟩
                refine ⟨Z1 ++ Z2, ?_, fperm z1 z4, fsort z1 z4 z2 z5⟩
                simp [hZ1, hZ2]
          · have h2 : ¬ ((m : Nat) : Int) < (mid + m - p : Nat) := by omega
            have h4 : ¬ ((p : Nat) : Int) < (mid : Nat) := by omega
            have hD2 : D = P ++ (A1 ++ (B1 ++ (A2 ++ (B2 ++ S)))) := by rw [hD1, List.eq_nil_of_length_eq_zero (show B1.length = 0 by omega)]; simp
            by_cases nA1 : 0 < A1.length
            · have h3 : ((a : Nat) : Int) < (p : Nat) := by omega
              by_cases nB2 : 0 < B2.length
              · have h6 : ((mid + m - p : Nat) : Int) < (b : Nat) := by omega
                simp only [A_slices_symMergeCmpFunc_intL4, go_sem, Nat.reduceMod, Nat.reduceBNe, Nat.reduceBEq, Nat.reduceEqDiff, Nat.reduceAdd, Int.reduceAdd, Nat.reduceMul, Nat.reduceSub, Int.reduceToNat, Int.reduceLE, Int.reduceLT, Int.reduceEq, Int.reduceNe, reduceCtorEq, Nat.reduceLT, Nat.reduceLeDiff, hpq', wen, h1, h2, h3, h4, h5, h6]
                obtain ⟨Z1, hZ1, z1, z2⟩ : ∃ Z1, Z1 = A1 ++ B1 ∧ Z1.Perm (A1 ++ B1) ∧ Z1.Pairwise (ltc c) := ⟨_, rfl, .refl _, by rw [List.eq_nil_of_length_eq_zero (show B1.length = 0 by omega), List.append_nil]; exact sA1⟩
                have z3 := z1.length_eq
                rw [List.length_append] at z3
                refine call_evm (ih (P ++ Z1) A2 B2 S H mid (mid + m - p) b (by omega) hr (by rw [hH, hD2, hZ1]; simp) (by rw [hNl]; simp; omega) sA2 sB2 (fun u hu v hv => hAB u (mA2 u hu) v (mB2 v hv)) in2 (by omega) (by omega) (by rw [List.length_append]; omega) (by rw [List.length_append]; omega) (by rw [List.length_append]; omega)) ?_
                rintro r3 H3 ⟨Z2, rfl, z4, z5⟩
                simp only [go_sem, Nat.reduceMod, Nat.reduceBNe, Nat.reduceBEq, Nat.reduceEqDiff, Nat.reduceAdd, Int.reduceAdd, Nat.reduceMul, Nat.reduceSub, Int.reduceToNat, Int.reduceLE, Int.reduceLT, Int.reduceEq, Int.reduceNe, reduceCtorEq, Nat.reduceLT, Nat.reduceLeDiff, hss]
                refine ⟨Z1 ++ Z2, ?_, fperm z1 z4, fsort z1 z4 z2 z5⟩
                simp [hZ1]
              · have h6 : ¬ ((mid + m - p : Nat) : Int) < (b : Nat) := by omega
                simp only [A_slices_symMergeCmpFunc_intL4, go_sem, Nat.reduceMod, Nat.reduceBNe, Nat.reduceBEq, Nat.reduceEqDiff, Nat.reduceAdd, Int.reduceAdd, Nat.reduceMul, Nat.reduceSub, Int.reduceToNat, Int.reduceLE, Int.reduceLT, Int.reduceEq, Int.reduceNe, reduceCtorEq, Nat.reduceLT, Nat.reduceLeDiff, hpq', wen, h1, h2, h3, h4, h5, h6]
                obtain ⟨Z1, hZ1, z1, z2⟩ : ∃ Z1, Z1 = A1 ++ B1 ∧ Z1.Perm (A1 ++ B1) ∧ Z1.Pairwise (ltc c) := ⟨_, rfl, .refl _, by rw [List.eq_nil_of_length_eq_zero (show B1.length = 0 by omega), List.append_nil]; exact sA1⟩
                have z3 := z1.length_eq
                rw [List.length_append] at z3
                obtain ⟨Z2, hZ2, z4, z5⟩ : ∃ Z2, Z2 = A2 ++ B2 ∧ Z2.Perm (A2 ++ B2) ∧ Z2.Pairwise (ltc c) := ⟨_, rfl, .refl _, by rw [List.eq_nil_of_length_eq_zero (show B2.length = 0 by omega), List.append_nil]; exact sA2⟩
                refine ⟨Z1 ++ Z2, ?_, fperm z1 z4, fsort z1 z4 z2 z5⟩
                rw [hZ1, hZ2]; refine (set_same (hH.trans ?_)).symm; rw [hD2]; simp
            · have h3 : ¬ ((a : Nat) : Int) < (p : Nat) := by omega
              by_cases nB2 : 0 < B2.length
              · have h6 : ((mid + m - p : Nat) : Int) < (b : Nat) := by omega
                simp only [A_slices_symMergeCmpFunc_intL4, go_sem, Nat.reduceMod, Nat.reduceBNe, Nat.reduceBEq, Nat.reduceEqDiff, Nat.reduceAdd, Int.reduceAdd, Nat.reduceMul, Nat.reduceSub, Int.reduceToNat, Int.reduceLE, Int.reduceLT, Int.reduceEq, Int.reduceNe, reduceCtorEq, Nat.reduceLT, Nat.reduceLeDiff, hpq', wen, h1, h2, h3, h4, h5, h6]
                obtain ⟨Z1, hZ1, z1, z2⟩ : ∃ Z1, Z1 = A1 ++ B1 ∧ Z1.Perm (A1 ++ B1) ∧ Z1.Pairwise (ltc c) := ⟨_, rfl, .refl _, by rw [List.eq_nil_of_length_eq_zero (show A1.length = 0 by omega)]; exact sB1⟩
                have z3 := z1.length_eq
                rw [List.length_append] at z3
                refine call_evm (ih (P ++ Z1) A2 B2 S H mid (mid + m - p) b (by omega) hr (by rw [hH, hD2, hZ1]; simp) (by rw [hNl]; simp; omega) sA2 sB2 (fun u hu v hv => hAB u (mA2 u hu) v (mB2 v hv)) in2 (by omega) (by omega) (by rw [List.length_append]; omega) (by rw [List.length_append]; omega) (by rw [List.length_append]; omega)) ?_
                rintro r3 H3 ⟨Z2, rfl, z4, z5⟩
                simp only [go_sem, Nat.reduceMod, Nat.reduceBNe, Nat.reduceBEq, Nat.reduceEqDiff, Nat.reduceAdd, Int.reduceAdd, Nat.reduceMul, Nat.reduceSub, Int.reduceToNat, Int.reduceLE, Int.reduceLT, Int.reduceEq, Int.reduceNe, reduceCtorEq, Nat.reduceLT, Nat.reduceLeDiff, hss]
                refine ⟨Z1 ++ Z2, ?_, fperm z1 z4, fsort z1 z4 z2 z5⟩
                simp [hZ1]
              · have h6 : ¬ ((mid + m - p : Nat) : Int) < (b : Nat) := by omega
                simp only [A_slices_symMergeCmpFunc_intL4, go_sem, Nat.reduceMod, Nat.reduceBNe, Nat.reduceBEq, Nat.reduceEqDiff, Nat.reduceAdd, Int.reduceAdd, Nat.reduceMul, Nat.reduceSub, Int.reduceToNat, Int.reduceLE, Int.reduceLT, Int.reduceEq, Int.reduceNe, reduceCtorEq, Nat.reduceLT, Nat.reduceLeDiff, hpq', wen, h1, h2, h3, h4, h5, h6]
                obtain ⟨Z1, hZ1, z1, z2⟩ : ∃ Z1, Z1 = A1 ++ B1 ∧ Z1.Perm (A1 ++ B1) ∧ Z1.Pairwise (ltc c) := ⟨_, rfl, .refl _, by rw [List.eq_nil_of_length_eq_zero (show A1.length = 0 by omega)]; exact sB1⟩
                have z3 := z1.length_eq
                rw [List.length_append] at z3
                obtain ⟨Z2, hZ2, z4, z5⟩ : ∃ Z2, Z2 = A2 ++ B2 ∧ Z2.Perm (A2 ++ B2) ∧ Z2.Pairwise (ltc c) := ⟨_, rfl, .refl _, by rw [List.eq_nil_of_length_eq_zero (show B2.length = 0 by omega), List.append_nil]; exact sA2⟩
                refine ⟨Z1 ++ Z2, ?_, fperm z1 z4, fsort z1 z4 z2 z5⟩
                rw [hZ1, hZ2]; refine (set_same (hH.trans ?_)).symm; rw [hD2]; simp
        · have h1 : ¬ ((p : Nat) : Int) < (m : Nat) := by omega
          have h5 : ¬ ((mid : Nat) : Int) < (mid + m - p : Nat) := by omega
          by_cases nB1 : 0 < B1.length
          · have h2 : ((m : Nat) : Int) < (mid + m - p : Nat) := by omega
            have h4 : ((p : Nat) : Int) < (mid : Nat) := by omega
            have hD2 : D = P ++ (A1 ++ (B1 ++ (A2 ++ (B2 ++ S)))) := by rw [hD1, List.eq_nil_of_length_eq_zero (show A2.length = 0 by omega)]; simp
            by_cases nA1 : 0 < A1.length
            · have h3 : ((a : Nat) : Int) < (p : Nat) := by omega
              by_cases nB2 : 0 < B2.length
              · have h6 : ((mid + m - p : Nat) : Int) < (b : Nat) := by omega
                simp only [A_slices_symMergeCmpFunc_intL4, go_sem, Nat.reduceMod, Nat.reduceBNe, Nat.reduceBEq, Nat.reduceEqDiff, Nat.reduceAdd, Int.reduceAdd, Nat.reduceMul, Nat.reduceSub, Int.reduceToNat, Int.reduceLE, Int.reduceLT, Int.reduceEq, Int.reduceNe, reduceCtorEq, Nat.reduceLT, Nat.reduceLeDiff, hpq', wen, h1, h2, h3, h4, h5, h6]
                refine call_evm (ih P A1 B1 (A2 ++ (B2 ++ S)) H a p mid (by omega) hr (by rw [hH, hD2]) (by rw [hNl]; simp; omega) sA1 sB1 (fun u hu v hv => hAB u (mA1 u hu) v (mB1 v hv)) in1 (by omega) (by omega) ha (by omega) (by omega)) ?_
                rintro r2 H2 ⟨Z1, rfl, z1, z2⟩
                have z3 := z1.length_eq
                rw [List.length_append] at z3
                simp only [go_sem, Nat.reduceMod, Nat.reduceBNe, Nat.reduceBEq, Nat.reduceEqDiff, Nat.reduceAdd, Int.reduceAdd, Nat.reduceMul, Nat.reduceSub, Int.reduceToNat, Int.reduceLE, Int.reduceLT, Int.reduceEq, Int.reduceNe, reduceCtorEq, Nat.reduceLT, Nat.reduceLeDiff, hss, h5, h6]
                obtain ⟨Z2, hZ2, z4, z5⟩ : ∃ Z2, Z2 = A2 ++ B2 ∧ Z2.Perm (A2 ++ B2) ∧ Z2.Pairwise (ltc c) := ⟨_, rfl, .refl _, by rw [List.eq_nil_of_length_eq_zero (show A2.length = 0 by omega)]; exact sB2⟩
                refine ⟨Z1 ++ Z2, ?_, fperm z1 z4, fsort z1 z4 z2 z5⟩
                simp [hZ2]
              · have h6 : ¬ ((mid + m - p : Nat) : Int) < (b : Nat) := by omega
                simp only [A_slices_symMergeCmpFunc_intL4, go_sem, Nat.reduceMod, Nat.reduceBNe, Nat.reduceBEq, Nat.reduceEqDiff, Nat.reduceAdd, Int.reduceAdd, Nat.reduceMul, Nat.reduceSub, Int.reduceToNat, Int.reduceLE, Int.reduceLT, Int.reduceEq, Int.reduceNe, reduceCtorEq, Nat.reduceLT, Nat.reduceLeDiff, hpq', wen, h1, h2, h3, h4, h5, h6]
                refine call_evm (ih P A1 B1 (A2 ++ (B2 ++ S)) H a p mid (by omega) hr (by rw [hH, hD2]) (by rw [hNl]; simp; omega) sA1 sB1 (fun u hu v hv => hAB u (mA1 u hu) v (mB1 v hv)) in1 (by omega) (by omega) ha (by omega) (by omega)) ?_
                rintro r2 H2 ⟨Z1, rfl, z1, z2⟩
                have z3 := z1.length_eq
                rw [List.length_append] at z3
                simp only [go_sem, Nat.reduceMod, Nat.reduceBNe, Nat.reduceBEq, Nat.reduceEqDiff, Nat.reduceAdd, Int.reduceAdd, Nat.reduceMul, Nat.reduceSub, Int.reduceToNat, Int.reduceLE, Int.reduceLT, Int.reduceEq, Int.reduceNe, reduceCtorEq, Nat.reduceLT, Nat.reduceLeDiff, hss, h5, h6]
                obtain ⟨Z2, hZ2, z4, z5⟩ : ∃ Z2, Z2 = A2 ++ B2 ∧ Z2.Perm (A2 ++ B2) ∧ Z2.Pairwise (ltc c) := ⟨_, rfl, .refl _, by rw [List.eq_nil_of_length_eq_zero (show A2.length = 0 by omega)]; exact sB2⟩
                refine ⟨Z1 ++ Z2, ?_, fperm z1 z4, fsort z1 z4 z2 z5⟩
                simp [hZ2]
            · have h3 : ¬ ((a : Nat) : Int) < (p : Nat) := by omega
              by_cases nB2 : 0 < B2.length
              · have h6 : ((mid + m - p : Nat) : Int) < (b : Nat) := by omega
                simp only [A_slices_symMergeCmpFunc_intL4, go_sem, Nat.reduceMod, Nat.reduceBNe, Nat.reduceBEq, Nat.reduceEqDiff, Nat.reduceAdd, Int.reduceAdd, Nat.reduceMul, Nat.reduceSub, Int.reduceToNat, Int.reduceLE, Int.reduceLT, Int.reduceEq, Int.reduceNe, reduceCtorEq, Nat.reduceLT, Nat.reduceLeDiff, hpq', wen, h1, h2, h3, h4, h5, h6]
                obtain ⟨Z1, hZ1, z1, z2⟩ : ∃ Z1, Z1 = A1 ++ B1 ∧ Z1.Perm (A1 ++ B1) ∧ Z1.Pairwise (ltc c) := ⟨_, rfl, .refl _, by rw [List.eq_nil_of_length_eq_zero (show A1.length = 0 by omega)]; exact sB1⟩
                have z3 := z1.length_eq
                rw [List.length_append] at z3
                obtain ⟨Z2, hZ2, z4, z5⟩ : ∃ Z2, Z2 = A2 ++ B2 ∧ Z2.Perm (A2 ++ B2) ∧ Z2.Pairwise (ltc c) := ⟨_, rfl, .refl _, by rw [List.eq_nil_of_length_eq_zero (show A2.length = 0 by omega)]; exact sB2⟩
                refine ⟨Z1 ++ Z2, ?_, fperm z1 z4, fsort z1 z4 z2 z5⟩
                rw [hZ1, hZ2]; refine (set_same (hH.trans ?_)).symm; rw [hD2]; simp
              · have h6 : ¬ ((mid + m - p : Nat) : Int) < (b : Nat) := by omega
                simp only [A_slices_symMergeCmpFunc_intL4, go_sem, Nat.reduceMod, Nat.reduceBNe, Nat.reduceBEq, Nat.reduceEqDiff, Nat.reduceAdd, Int.reduceAdd, Nat.reduceMul, Nat.reduceSub, Int.reduceToNat, Int.reduceLE, Int.reduceLT, Int.reduceEq, Int.reduceNe, reduceCtorEq, Nat.reduceLT, Nat.reduceLeDiff, hpq', wen, h1, h2, h3, h4, h5, h6]
                obtain ⟨Z1, hZ1, z1, z2⟩ : ∃ Z1, Z1 = A1 ++ B1 ∧ Z1.Perm (A1 ++ B1) ∧ Z1.Pairwise (ltc c) := ⟨_, rfl, .refl _, by rw [List.eq_nil_of_length_eq_zero (show A1.length = 0 by omega)]; exact sB1⟩
                have z3 := z1.length_eq
                rw [List.length_append] at z3
                obtain ⟨Z2, hZ2, z4, z5⟩ : ∃ Z2, Z2 = A2 ++ B2 ∧ Z2.Perm (A2 ++ B2) ∧ Z2.Pairwise (ltc c) := ⟨_, rfl, .refl _, by rw [List.eq_nil_of_length_eq_zero (show A2.length = 0 by omega)]; exact sB2⟩
                refine ⟨Z1 ++ Z2, ?_, fperm z1 z4, fsort z1 z4 z2 z5⟩
                rw [hZ1, hZ2]; refine (set_same (hH.trans ?_)).symm; rw [hD2]; simp
          · have h2 : ¬ ((m : Nat) : Int) < (mid + m - p : Nat) := by omega
            have h4 : ¬ ((p : Nat) : Int) < (mid : Nat) := by omega
            have hD2 : D = P ++ (A1 ++ (B1 ++ (A2 ++ (B2 ++ S)))) := by rw [hD1, List.eq_nil_of_length_eq_zero (show A2.length = 0 by omega)]; simp
            by_cases nA1 : 0 < A1.length
            · have h3 : ((a : Nat) : Int) < (p : Nat) := by omega
              by_cases nB2 : 0 < B2.length
              · have h6 : ((mid + m - p : Nat) : Int) < (b : Nat) := by omega
                simp only [A_slices_symMergeCmpFunc_intL4, go_sem, Nat.reduceMod, Nat.reduceBNe, Nat.reduceBEq, Nat.reduceEqDiff, Nat.reduceAdd, Int.reduceAdd, Nat.reduceMul, Nat.reduceSub, Int.reduceToNat, Int.reduceLE, Int.reduceLT, Int.reduceEq, Int.reduceNe, reduceCtorEq, Nat.reduceLT, Nat.reduceLeDiff, hpq', wen, h1, h2, h3, h4, h5, h6]
                obtain ⟨Z1, hZ1, z1, z2⟩ : ∃ Z1, Z1 = A1 ++ B1 ∧ Z1.Perm (A1 ++ B1) ∧ Z1.Pairwise (ltc c) := ⟨_, rfl, .refl _, by rw [List.eq_nil_of_length_eq_zero (show B1.length = 0 by omega), List.append_nil]; exact sA1⟩
                have z3 := z1.length_eq
                rw [List.length_append] at z3
                obtain ⟨Z2, hZ2, z4, z5⟩ : ∃ Z2, Z2 = A2 ++ B2 ∧ Z2.Perm (A2 ++ B2) ∧ Z2.Pairwise (ltc c) := ⟨_, rfl, .refl _, by rw [List.eq_nil_of_length_eq_zero (show A2.length = 0 by omega)]; exact sB2⟩
                refine ⟨Z1 ++ Z2, ?_, fperm z1 z4, fsort z1 z4 z2 z5⟩
                rw [hZ1, hZ2]; refine (set_same (hH.trans ?_)).symm; rw [hD2]; simp
              · have h6 : ¬ ((mid + m - p : Nat) : Int) < (b : Nat) := by omega
                simp only [A_slices_symMergeCmpFunc_intL4, go_sem, Nat.reduceMod, Nat.reduceBNe, Nat.reduceBEq, Nat.reduceEqDiff, Nat.reduceAdd, Int.reduceAdd, Nat.reduceMul, Nat.reduceSub, Int.reduceToNat, Int.reduceLE, Int.reduceLT, Int.reduceEq, Int.reduceNe, reduceCtorEq, Nat.reduceLT, Nat.reduceLeDiff, hpq', wen, h1, h2, h3, h4, h5, h6]
                obtain ⟨Z1, hZ1, z1, z2⟩ : ∃ Z1, Z1 = A1 ++ B1 ∧ Z1.Perm (A1 ++ B1) ∧ Z1.Pairwise (ltc c) := ⟨_, rfl, .refl _, by rw [List.eq_nil_of_length_eq_zero (show B1.length = 0 by omega), List.append_nil]; exact sA1⟩
                have z3 := z1.length_eq
                rw [List.length_append] at z3
                obtain ⟨Z2, hZ2, z4, z5⟩ : ∃ Z2, Z2 = A2 ++ B2 ∧ Z2.Perm (A2 ++ B2) ∧ Z2.Pairwise (ltc c) := ⟨_, rfl, .refl _, by rw [List.eq_nil_of_length_eq_zero (show A2.length = 0 by omega)]; exact sB2⟩
                refine ⟨Z1 ++ Z2, ?_, fperm z1 z4, fsort z1 z4 z2 z5⟩
                rw [hZ1, hZ2]; refine (set_same (hH.trans ?_)).symm; rw [hD2]; simp
            · have h3 : ¬ ((a : Nat) : Int) < (p : Nat) := by omega
              by_cases nB2 : 0 < B2.length
              · have h6 : ((mid + m - p : Nat) : Int) < (b : Nat) := by omega
                simp only [A_slices_symMergeCmpFunc_intL4, go_sem, Nat.reduceMod, Nat.reduceBNe, Nat.reduceBEq, Nat.reduceEqDiff, Nat.reduceAdd, Int.reduceAdd, Nat.reduceMul, Nat.reduceSub, Int.reduceToNat, Int.reduceLE, Int.reduceLT, Int.reduceEq, Int.reduceNe, reduceCtorEq, Nat.reduceLT, Nat.reduceLeDiff, hpq', wen, h1, h2, h3, h4, h5, h6]
                obtain ⟨Z1, hZ1, z1, z2⟩ : ∃ Z1, Z1 = A1 ++ B1 ∧ Z1.Perm (A1 ++ B1) ∧ Z1.Pairwise (ltc c) := ⟨_, rfl, .refl _, by rw [List.eq_nil_of_length_eq_zero (show A1.length = 0 by omega)]; exact sB1⟩
                have z3 := z1.length_eq
                rw [List.length_append] at z3
                obtain ⟨Z2, hZ2, z4, z5⟩ : ∃ Z2, Z2 = A2 ++ B2 ∧ Z2.Perm (A2 ++ B2) ∧ Z2.Pairwise (ltc c) := ⟨_, rfl, .refl _, by rw [List.eq_nil_of_length_eq_zero (show A2.length = 0 by omega)]; exact sB2⟩
                refine ⟨Z1 ++ Z2, ?_, fperm z1 z4, fsort z1 z4 z2 z5⟩
                rw [hZ1, hZ2]; refine (set_same (hH.trans ?_)).symm; rw [hD2]; simp
              · have h6 : ¬ ((mid + m - p : Nat) : Int) < (b : Nat) := by omega
                simp only [A_slices_symMergeCmpFunc_intL4, go_sem, Nat.reduceMod, Nat.reduceBNe, Nat.reduceBEq, Nat.reduceEqDiff, Nat.reduceAdd, Int.reduceAdd, Nat.reduceMul, Nat.reduceSub, Int.reduceToNat, Int.reduceLE, Int.reduceLT, Int.reduceEq, Int.reduceNe, reduceCtorEq, Nat.reduceLT, Nat.reduceLeDiff, hpq', wen, h1, h2, h3, h4, h5, h6]
                obtain ⟨Z1, hZ1, z1, z2⟩ : ∃ Z1, Z1 = A1 ++ B1 ∧ Z1.Perm (A1 ++ B1) ∧ Z1.Pairwise (ltc c) := ⟨_, rfl, .refl _, by rw [List.eq_nil_of_length_eq_zero (show A1.length = 0 by omega)]; exact sB1⟩
                have z3 := z1.length_eq
                rw [List.length_append] at z3
                obtain ⟨Z2, hZ2, z4, z5⟩ : ∃ Z2, Z2 = A2 ++ B2 ∧ Z2.Perm (A2 ++ B2) ∧ Z2.Pairwise (ltc c) := ⟨_, rfl, .refl _, by rw [List.eq_nil_of_length_eq_zero (show A2.length = 0 by omega)]; exact sB2⟩
                refine ⟨Z1 ++ Z2, ?_, fperm z1 z4, fsort z1 z4 z2 z5⟩
                rw [hZ1, hZ2]; refine (set_same (hH.trans ?_)).symm; rw [hD2]; simp
    · have hmm' : ¬ ((mid : Nat) : Int) < (m : Nat) := by omega
      simp only [A_slices_symMergeCmpFunc_int, go_sem, Nat.reduceMod, Nat.reduceBNe, Nat.reduceBEq, Nat.reduceEqDiff, Nat.reduceAdd, Int.reduceAdd, Nat.reduceMul, Nat.reduceSub, Int.reduceToNat, Int.reduceLE, Int.reduceLT, Int.reduceEq, Int.reduceNe, reduceCtorEq, Nat.reduceLT, Nat.reduceLeDiff, w1, w2, hA1', hB1', hmid2, w3, w5, hmm']
      refine w_loop' hs.hm (ι := BS) (fun u => a ≤ u.i ∧ u.i ≤ u.j ∧ u.j ≤ m ∧ (u.i = a ∨ ¬ c (D.getD (mid + m - 1 - (u.i - 1)) 0) < c (D.getD (u.i - 1) 0)) ∧ (u.j = m ∨ c (D.getD (mid + m - 1 - u.j) 0) < c (D.getD u.j 0))) (fun u => [(20, .int .i64 u.i), (21, .int .i64 u.j), (22, .int .i64 (mid + m - 1 : Nat)), (19, .int .i64 (mid + m : Nat)), (18, .int .i64 mid), (0, .rsl i 0 N N 1), (1, .int .i64 a), (2, .int .i64 m), (3, .int .i64 b), (4, .clo f [] [.ptr r 0])]) (fun _ => H) (fun u => u.j - u.i) ⟨a, m⟩ ?_ fun u hu => ?_
      · simp only [go_sem, Nat.reduceMod, Nat.reduceBNe, Nat.reduceBEq, Nat.reduceEqDiff, Nat.reduceAdd, Int.reduceAdd, Nat.reduceMul, Nat.reduceSub, Int.reduceToNat, Int.reduceLE, Int.reduceLT, Int.reduceEq, Int.reduceNe, reduceCtorEq, Nat.reduceLT, Nat.reduceLeDiff]
        exact ⟨Nat.le_refl _, by omega, Nat.le_refl _, .inl trivial, .inl trivial⟩
      obtain ⟨p, q⟩ := u
      obtain ⟨y1, y2, y3, y4, y5⟩ := hu
      dsimp only at y1 y2 y3 y4 y5 ⊢
      by_cases hpq : p < q
      · have hpq' : (p : Int) < q := by omega
        have hm2 := mid_eq (i := p) (j := q) (by omega)
        obtain ⟨k, hk⟩ : ∃ k, k = (p + q) / 2 := ⟨_, rfl⟩
        have hmid : p ≤ k ∧ k < q := by omega
        rw [← hk] at hm2
        have w6 : IntKind.i64.wrap (((mid + m - 1 : Nat) : Int) - k) = ((mid + m - 1 - k : Nat) : Int) := by rw [wi64 (by omega)]; omega
        have rdm := hrd k (by omega)
        have rda := hrd (mid + m - 1 - k) (by omega)
        have hkin := hin _ (List.mem_append_left _ (hAat k (by omega) (by omega)))
        have hpin := hin _ (List.mem_append_right _ (hBat (mid + m - 1 - k) (by omega) (by omega)))
        simp only [A_slices_symMergeCmpFunc_intL4, go_sem, Nat.reduceMod, Nat.reduceBNe, Nat.reduceBEq, Nat.reduceEqDiff, Nat.reduceAdd, Int.reduceAdd, Nat.reduceMul, Nat.reduceSub, Int.reduceToNat, Int.reduceLE, Int.reduceLT, Int.reduceEq, Int.reduceNe, reduceCtorEq, Nat.reduceLT, Nat.reduceLeDiff, hpq', hm2, w6, ix_r, hH, hDr, rw_len, hDl, rdm, rda]
        refine ⟨⟨by omega, by omega⟩, by omega, ⟨by omega, by omega⟩, by omega, callq_evm (d := _) (h := hc.ev H (D.getD (mid + m - 1 - k) 0) (D.getD k 0) hr hpin hkin) ?_⟩
        have hcl := cmp_lt c (D.getD (mid + m - 1 - k) 0) (D.getD k 0)
        have w7 : IntKind.i64.wrap ((k : Int) + 1) = ((k + 1 : Nat) : Int) := by rw [wi64 (by omega)]; omega
        by_cases hlt : c (D.getD (mid + m - 1 - k) 0) < c (D.getD k 0)
        · have hlt' := hcl.2 hlt
          simp only [go_sem, Nat.reduceMod, Nat.reduceBNe, Nat.reduceBEq, Nat.reduceEqDiff, Nat.reduceAdd, Int.reduceAdd, Nat.reduceMul, Nat.reduceSub, Int.reduceToNat, Int.reduceLE, Int.reduceLT, Int.reduceEq, Int.reduceNe, reduceCtorEq, Nat.reduceLT, Nat.reduceLeDiff, hlt']
          exact ⟨⟨p, k⟩, by dsimp only; omega, ⟨y1, by dsimp only; omega, by dsimp only; omega, y4, .inr hlt⟩, rfl, rfl⟩
        · have hlt' : ¬ cmpI c (D.getD (mid + m - 1 - k) 0) (D.getD k 0) < 0 := fun h => hlt (hcl.1 h)
          simp only [go_sem, Nat.reduceMod, Nat.reduceBNe, Nat.reduceBEq, Nat.reduceEqDiff, Nat.reduceAdd, Int.reduceAdd, Nat.reduceMul, Nat.reduceSub, Int.reduceToNat, Int.reduceLE, Int.reduceLT, Int.reduceEq, Int.reduceNe, reduceCtorEq, Nat.reduceLT, Nat.reduceLeDiff, hlt', w7]
          exact ⟨⟨k + 1, q⟩, by dsimp only; omega, ⟨by dsimp only; omega, by dsimp only; omega, y3, .inr hlt, y5⟩, rfl, rfl⟩
      · have hpq' : ¬ (p : Int) < q := by omega
        have epq : p = q := by omega
        subst epq
        have wen : IntKind.i64.wrap (((mid + m : Nat) : Int) - p) = ((mid + m - p : Nat) : Int) := by rw [wi64 (by omega)]; omega
        obtain ⟨A1, A2, hAA, lA1⟩ : ∃ A1 A2, A = A1 ++ A2 ∧ A1.length = p - a := ⟨A.take (p - a), A.drop (p - a), (List.take_append_drop _ _).symm, by rw [List.length_take]; omega⟩
        obtain ⟨B1, B2, hBB, lB1⟩ : ∃ B1 B2, B = B1 ++ B2 ∧ B1.length = mid - p := ⟨B.take (mid - p), B.drop (mid - p), (List.take_append_drop _ _).symm, by rw [List.length_take]; omega⟩
        have lA2 : A1.length + A2.length = A.length := by rw [hAA, List.length_append]
        have lB2 : B1.length + B2.length = B.length := by rw [hBB, List.length_append]
        have hD1 : D = P ++ (A1 ++ (A2 ++ (B1 ++ (B2 ++ S)))) := by rw [hD, hAA, hBB]; simp
        have mA1 : ∀ u ∈ A1, u ∈ A := fun u hu => by rw [hAA]; simp [hu]
        have mA2 : ∀ u ∈ A2, u ∈ A := fun u hu => by rw [hAA]; simp [hu]
        have mB1 : ∀ u ∈ B1, u ∈ B := fun u hu => by rw [hBB]; simp [hu]
        have mB2 : ∀ u ∈ B2, u ∈ B := fun u hu => by rw [hBB]; simp [hu]
        have in1 : inR n (A1 ++ B1) := fun u hu => hin u ((List.mem_append.1 hu).elim (fun h => List.mem_append_left _ (mA1 u h)) fun h => List.mem_append_right _ (mB1 u h))
        have in2 : inR n (A2 ++ B2) := fun u hu => hin u ((List.mem_append.1 hu).elim (fun h => List.mem_append_left _ (mA2 u h)) fun h => List.mem_append_right _ (mB2 u h))
        have sA1 : A1.Pairwise (ltc c) := by rw [hAA] at hA; exact (pw_app.1 hA).1
        have sA2 : A2.Pairwise (ltc c) := by rw [hAA] at hA; exact (pw_app.1 hA).2.1
        have sB1 : B1.Pairwise (ltc c) := by rw [hBB] at hB; exact (pw_app.1 hB).1
        have sB2 : B2.Pairwise (ltc c) := by rw [hBB] at hB; exact (pw_app.1 hB).2.1
        have hcut : ∀ u ∈ A1 ++ B1, ∀ v ∈ A2 ++ B2, ltc c u v := by
          refine cut_lt (by rw [← hAA]; exact hA) (by rw [← hBB]; exact hB) (by rw [← hAA, ← hBB]; exact hAB) ?_ ?_
          · rcases List.eq_nil_or_concat A1 with h | ⟨Y, z, h⟩
            · exact .inl h
            · rw [List.concat_eq_append] at h
              have hyl : Y.length + 1 = p - a := by rw [← lA1, h]; simp
              cases hB2 : B2 with
              | nil => exact .inr (.inl rfl)
              | cons w R =>
                refine .inr (.inr ⟨Y, z, w, R, h, rfl, ?_⟩)
                rw [hB2, List.length_cons] at lB2
                rcases y4 with h4 | h4
                · omega
                · have e1 := gdd P Y (A2 ++ (B1 ++ (B2 ++ S))) z
                  have e2 : P ++ (Y ++ z :: (A2 ++ (B1 ++ (B2 ++ S)))) = D := by rw [hD1, h]; simp
                  rw [e2, show P.length + Y.length = p - 1 by omega] at e1
                  have e3 := gdd P (A ++ B1) (R ++ S) w
                  have e4 : P ++ ((A ++ B1) ++ w :: (R ++ S)) = D := by rw [hD, hBB, hB2]; simp
                  rw [e4, List.length_append, show P.length + (A.length + B1.length) = mid + m - 1 - (p - 1) by omega] at e3
                  rw [e1, e3] at h4; exact h4
          · rcases List.eq_nil_or_concat B1 with h | ⟨Y, z, h⟩
            · exact .inl h
            · rw [List.concat_eq_append] at h
              have hyl : Y.length + 1 = mid - p := by rw [← lB1, h]; simp
              cases hA2 : A2 with
              | nil => exact .inr (.inl rfl)
              | cons w R =>
                refine .inr (.inr ⟨Y, z, w, R, h, rfl, ?_⟩)
                rw [hA2, List.length_cons] at lA2
                rcases y5 with h5 | h5
                · omega
                · have e1 := gdd P (A ++ Y) (B2 ++ S) z
                  have e2 : P ++ ((A ++ Y) ++ z :: (B2 ++ S)) = D := by rw [hD, hBB, h]; simp
                  rw [e2, List.length_append, show P.length + (A.length + Y.length) = mid + m - 1 - p by omega] at e1
                  have e3 := gdd P A1 (R ++ (B ++ S)) w
                  have e4 : P ++ (A1 ++ w :: (R ++ (B ++ S))) = D := by rw [hD, hAA, hA2]; simp
                  rw [e4, show P.length + A1.length = p by omega] at e3
                  rw [e1, e3] at h5; exact h5
        have fperm : ∀ {Z1 Z2 : List Int}, Z1.Perm (A1 ++ B1) → Z2.Perm (A2 ++ B2) → (Z1 ++ Z2).Perm (A ++ B) := fun h1 h2 => by
          refine (h1.append h2).trans ?_
          rw [hAA, hBB, List.append_assoc, List.append_assoc]
          refine List.Perm.append_left _ ?_
          rw [← List.append_assoc, ← List.append_assoc]
          exact List.Perm.append_right _ List.perm_append_comm
        have fsort : ∀ {Z1 Z2 : List Int}, Z1.Perm (A1 ++ B1) → Z2.Perm (A2 ++ B2) → Z1.Pairwise (ltc c) → Z2.Pairwise (ltc c) → (Z1 ++ Z2).Pairwise (ltc c) := fun h1 h2 h3 h4 => pw_app.2 ⟨h3, h4, fun u hu v hv => hcut u (h1.subset hu) v (h2.subset hv)⟩
        by_cases nA2 : 0 < A2.length
        · have h1 : ((p : Nat) : Int) < (m : Nat) := by omega
          have h5 : ((mid : Nat) : Int) < (mid + m - p : Nat) := by omega
          by_cases nB1 : 0 < B1.length
          · have h2 : ((m : Nat) : Int) < (mid + m - p : Nat) := by omega
            have h4 : ((p : Nat) : Int) < (mid : Nat) := by omega
            by_cases nA1 : 0 < A1.length
            · have h3 : ((a : Nat) : Int) < (p : Nat) := by omega
              by_cases nB2 : 0 < B2.length
              · have h6 : ((mid + m - p : Nat) : Int) < (b : Nat) := by omega
                simp only [A_slices_symMergeCmpFunc_intL4, go_sem, Nat.reduceMod, Nat.reduceBNe, Nat.reduceBEq, Nat.reduceEqDiff, Nat.reduceAdd, Int.reduceAdd, Nat.reduceMul, Nat.reduceSub, Int.reduceToNat, Int.reduceLE, Int.reduceLT, Int.reduceEq, Int.reduceNe, reduceCtorEq, Nat.reduceLT, Nat.reduceLeDiff, hpq', wen, h1, h2, h3, h4, h5, h6]
                refine call_evm (ev_rotate' hX hs i N _ (P ++ A1) A2 B1 (B2 ++ S) H p m (mid + m - p) hH (by rw [hD1]; simp) (by rw [hDl]) hN1 (by omega) (by omega) (by rw [List.length_append]; omega) (by rw [List.length_append]; omega) (by rw [List.length_append]; omega)) ?_
                rintro r1 H1 rfl
                simp only [go_sem, Nat.reduceMod, Nat.reduceBNe, Nat.reduceBEq, Nat.reduceEqDiff, Nat.reduceAdd, Int.reduceAdd, Nat.reduceMul, Nat.reduceSub, Int.reduceToNat, Int.reduceLE, Int.reduceLT, Int.reduceEq, Int.reduceNe, reduceCtorEq, Nat.reduceLT, Nat.reduceLeDiff, wen, h3, h4, h5, h6]
                refine call_evm (ih P A1 B1 (A2 ++ (B2 ++ S)) (H.set i (rowB ((P ++ A1) ++ (B1 ++ (A2 ++ (B2 ++ S)))))) a p mid (by omega) (hgr _) (by rw [hg]; simp) (by rw [hNl]; simp; omega) sA1 sB1 (fun u hu v hv => hAB u (mA1 u hu) v (mB1 v hv)) in1 (by omega) (by omega) ha (by omega) (by omega)) ?_
                rintro r2 H2 ⟨Z1, rfl, z1, z2⟩
                have z3 := z1.length_eq
                rw [List.length_append] at z3
                simp only [go_sem, Nat.reduceMod, Nat.reduceBNe, Nat.reduceBEq, Nat.reduceEqDiff, Nat.reduceAdd, Int.reduceAdd, Nat.reduceMul, Nat.reduceSub, Int.reduceToNat, Int.reduceLE, Int.reduceLT, Int.reduceEq, Int.reduceNe, reduceCtorEq, Nat.reduceLT, Nat.reduceLeDiff, hss, h5, h6]
                refine call_evm (ih (P ++ Z1) A2 B2 S (H.set i (rowB (P ++ (Z1 ++ (A2 ++ (B2 ++ S)))))) mid (mid + m - p) b (by omega) (hgr _) (by rw [hg]; simp) (by rw [hNl]; simp; omega) sA2 sB2 (fun u hu v hv => hAB u (mA2 u hu) v (mB2 v hv)) in2 (by omega) (by omega) (by rw [List.length_append]; omega) (by rw [List.length_append]; omega) (by rw [List.length_append]; omega)) ?_
                rintro r3 H3 ⟨Z2, rfl, z4, z5⟩
                simp only [go_sem, Nat.reduceMod, Nat.reduceBNe, Nat.reduceBEq, Nat.reduceEqDiff, Nat.reduceAdd, Int.reduceAdd, Nat.reduceMul, Nat.reduceSub, Int.reduceToNat, Int.reduceLE, Int.reduceLT, Int.reduceEq, Int.reduceNe, reduceCtorEq, Nat.reduceLT, Nat.reduceLeDiff, hss]
                refine ⟨Z1 ++ Z2, ?_, fperm z1 z4, fsort z1 z4 z2 z5⟩
                simp
              · have h6 : ¬ ((mid + m - p : Nat) : Int) < (b : Nat) := by omega
                simp only [A_slices_symMergeCmpFunc_intL4, go_sem, Nat.reduceMod, Nat.reduceBNe, Nat.reduceBEq, Nat.reduceEqDiff, Nat.reduceAdd, Int.reduceAdd, Nat.reduceMul, Nat.reduceSub, Int.reduceToNat, Int.reduceLE, Int.reduceLT, Int.reduceEq, Int.reduceNe, reduceCtorEq, Nat.reduceLT, Nat.reduceLeDiff, hpq', wen, h1, h2, h3, h4, h5, h6]
                refine call_evm (ev_rotate' hX hs i N _ (P ++ A1) A2 B1 (B2 ++ S) H p m (mid + m - p) hH (by rw [hD1]; simp) (by rw [hDl]) hN1 (by omega) (by omega) (by rw [List.length_append]; omega) (by rw [List.length_append]; omega) (by rw [List.length_append]; omega)) ?_
                rintro r1 H1 rfl
                simp only [go_sem, Nat.reduceMod, Nat.reduceBNe, Nat.reduceBEq, Nat.reduceEqDiff, Nat.reduceAdd, Int.reduceAdd, Nat.reduceMul, Nat.reduceSub, Int.reduceToNat, Int.reduceLE, Int.reduceLT, Int.reduceEq, Int.reduceNe, reduceCtorEq, Nat.reduceLT, Nat.reduceLeDiff, wen, h3, h4, h5, h6]
                refine call_evm (ih P A1 B1 (A2 ++ (B2 ++ S)) (H.set i (rowB ((P ++ A1) ++ (B1 ++ (A2 ++ (B2 ++ S)))))) a p mid (by omega) (hgr _) (by rw [hg]; simp) (by rw [hNl]; simp; omega) sA1 sB1 (fun u hu v hv => hAB u (mA1 u hu) v (mB1 v hv)) in1 (by omega) (by omega) ha (by omega) (by omega)) ?_
                rintro r2 H2 ⟨Z1, rfl, z1, z2⟩
                have z3 := z1.length_eq
                rw [List.length_append] at z3
                simp only [go_sem, Nat.reduceMod, Nat.reduceBNe, Nat.reduceBEq, Nat.reduceEqDiff, Nat.reduceAdd, Int.reduceAdd, Nat.reduceMul, Nat.reduceSub, Int.reduceToNat, Int.reduceLE, Int.reduceLT, Int.reduceEq, Int.reduceNe, reduceCtorEq, Nat.reduceLT, Nat.reduceLeDiff, hss, h5, h6]
                obtain ⟨Z2, hZ2, z4, z5⟩ : ∃ Z2, Z2 = A2 ++ B2 ∧ Z2.Perm (A2 ++ B2) ∧ Z2.Pairwise (ltc c) := ⟨_, rfl, .refl _, by rw [List.eq_nil_of_length_eq_zero (show B2.length = 0 by omega), List.append_nil]; exact sA2⟩
                refine ⟨Z1 ++ Z2, ?_, fperm z1 z4, fsort z1 z4 z2 z5⟩
                simp [hZ2]
            · have h3 : ¬ ((a : Nat) : Int) < (p : Nat) := by omega
              by_cases nB2 : 0 < B2.length
              · have h6 : ((mid + m - p : Nat) : Int) < (b : Nat) := by omega
                simp only [A_slices_symMergeCmpFunc_intL4, go_sem, Nat.reduceMod, Nat.reduceBNe, Nat.reduceBEq, Nat.reduceEqDiff, Nat.reduceAdd, Int.reduceAdd, Nat.reduceMul, Nat.reduceSub, Int.reduceToNat, Int.reduceLE, Int.reduceLT, Int.reduceEq, Int.reduceNe, reduceCtorEq, Nat.reduceLT, Nat.reduceLeDiff, hpq', wen, h1, h2, h3, h4, h5, h6]
                refine call_evm (ev_rotate' hX hs i N _ (P ++ A1) A2 B1 (B2 ++ S) H p m (mid + m - p) hH (by rw [hD1]; simp) (by rw [hDl]) hN1 (by omega) (by omega) (by rw [List.length_append]; omega) (by rw [List.length_append]; omega) (by rw [List.length_append]; omega)) ?_
                rintro r1 H1 rfl
                simp only [go_sem, Nat.reduceMod, Nat.reduceBNe, Nat.reduceBEq, Nat.reduceEqDiff, Nat.reduceAdd, Int.reduceAdd, Nat.reduceMul, Nat.reduceSub, Int.reduceToNat, Int.reduceLE, Int.reduceLT, Int.reduceEq, Int.reduceNe, reduceCtorEq, Nat.reduceLT, Nat.reduceLeDiff, wen, h3, h4, h5, h6]
                obtain ⟨Z1, hZ1, z1, z2⟩ : ∃ Z1, Z1 = A1 ++ B1 ∧ Z1.Perm (A1 ++ B1) ∧ Z1.Pairwise (ltc c) := ⟨_, rfl, .refl _, by rw [List.eq_nil_of_length_eq_zero (show A1.length = 0 by omega)]; exact sB1⟩
                have z3 := z1.length_eq
                rw [List.length_append] at z3
                refine call_evm (ih (P ++ Z1) A2 B2 S (H.set i (rowB ((P ++ A1) ++ (B1 ++ (A2 ++ (B2 ++ S)))))) mid (mid + m - p) b (by omega) (hgr _) (by rw [hg, hZ1]; simp) (by rw [hNl]; simp; omega) sA2 sB2 (fun u hu v hv => hAB u (mA2 u hu) v (mB2 v hv)) in2 (by omega) (by omega) (by rw [List.length_append]; omega) (by rw [List.length_append]; omega) (by rw [List.length_append]; omega)) ?_
                rintro r3 H3 ⟨Z2, rfl, z4, z5⟩
                simp only [go_sem, Nat.reduceMod, Nat.reduceBNe, Nat.reduceBEq, Nat.reduceEqDiff, Nat.reduceAdd, Int.reduceAdd, Nat.reduceMul, Nat.reduceSub, Int.reduceToNat, Int.reduceLE, Int.reduceLT, Int.reduceEq, Int.reduceNe, reduceCtorEq, Nat.reduceLT, Nat.reduceLeDiff, hss]
                refine ⟨Z1 ++ Z2, ?_, fperm z1 z4, fsort z1 z4 z2 z5⟩
                simp [hZ1]
              · have h6 : ¬ ((mid + m - p : Nat) : Int) < (b : Nat) := by omega
                simp only [A_slices_symMergeCmpFunc_intL4, go_sem, Nat.reduceMod, Nat.reduceBNe, Nat.reduceBEq, Nat.reduceEqDiff, Nat.reduceAdd, Int.reduceAdd, Nat.reduceMul, Nat.reduceSub, Int.reduceToNat, Int.reduceLE, Int.reduceLT, Int.reduceEq, Int.reduceNe, reduceCtorEq, Nat.reduceLT, Nat.reduceLeDiff, hpq', wen, h1, h2, h3, h4, h5, h6]
                refine call_evm (ev_rotate' hX hs i N _ (P ++ A1) A2 B1 (B2 ++ S) H p m (mid + m - p) hH (by rw [hD1]; simp) (by rw [hDl]) hN1 (by omega) (by omega) (by rw [List.length_append]; omega) (by rw [List.length_append]; omega) (by rw [List.length_append]; omega)) ?_
                rintro r1 H1 rfl
                simp only [go_sem, Nat.reduceMod, Nat.reduceBNe, Nat.reduceBEq, Nat.reduceEqDiff, Nat.reduceAdd, Int.reduceAdd, Nat.reduceMul, Nat.reduceSub, Int.reduceToNat, Int.reduceLE, Int.reduceLT, Int.reduceEq, Int.reduceNe, reduceCtorEq, Nat.reduceLT, Nat.reduceLeDiff, wen, h3, h4, h5, h6]
                obtain ⟨Z1, hZ1, z1, z2⟩ : ∃ Z1, Z1 = A1 ++ B1 ∧ Z1.Perm (A1 ++ B1) ∧ Z1.Pairwise (ltc c) := ⟨_, rfl, .refl _, by rw [List.eq_nil_of_length_eq_zero (show A1.length = 0 by omega)]; exact sB1⟩
                have z3 := z1.length_eq
                rw [List.length_append] at z3
                obtain ⟨Z2, hZ2, z4, z5⟩ : ∃ Z2, Z2 = A2 ++ B2 ∧ Z2.Perm (A2 ++ B2) ∧ Z2.Pairwise (ltc c) := ⟨_, rfl, .refl _, by rw [List.eq_nil_of_length_eq_zero (show B2.length = 0 by omega), List.append_nil]; exact sA2⟩
                refine ⟨Z1 ++ Z2, ?_, fperm z1 z4, fsort z1 z4 z2 z5⟩
                simp [hZ1, hZ2]
          · have h2 : ¬ ((m : Nat) : Int) < (mid + m - p : Nat) := by omega
            have h4 : ¬ ((p : Nat) : Int) < (mid : Nat) := by omega
            have hD2 : D = P ++ (A1 ++ (B1 ++ (A2 ++ (B2 ++ S)))) := by rw [hD1, List.eq_nil_of_length_eq_zero (show B1.length = 0 by omega)]; simp
            by_cases nA1 : 0 < A1.length
            · have h3 : ((a : Nat) : Int) < (p : Nat) := by omega
              by_cases nB2 : 0 < B2.length
              · have h6 : ((mid + m - p : Nat) : Int) < (b : Nat) := by omega
                simp only [A_slices_symMergeCmpFunc_intL4, go_sem, Nat.reduceMod, Nat.reduceBNe, Nat.reduceBEq, Nat.reduceEqDiff, Nat.reduceAdd, Int.reduceAdd, Nat.reduceMul, Nat.reduceSub, Int.reduceToNat, Int.reduceLE, Int.reduceLT, Int.reduceEq, Int.reduceNe, reduceCtorEq, Nat.reduceLT, Nat.reduceLeDiff, hpq', wen, h1, h2, h3, h4, h5, h6]
                obtain ⟨Z1, hZ1, z1, z2⟩ : ∃ Z1, Z1 = A1 ++ B1 ∧ Z1.Perm (A1 ++ B1) ∧ Z1.Pairwise (ltc c) := ⟨_, rfl, .refl _, by rw [List.eq_nil_of_length_eq_zero (show B1.length = 0 by omega), List.append_nil]; exact sA1⟩
                have z3 := z1.length_eq
                rw [List.length_append] at z3
                refine call_evm (ih (P ++ Z1) A2 B2 S H mid (mid + m - p) b (by omega) hr (by rw [hH, hD2, hZ1]; simp) (by rw [hNl]; simp; omega) sA2 sB2 (fun u hu v hv => hAB u (mA2 u hu) v (mB2 v hv)) in2 (by omega) (by omega) (by rw [List.length_append]; omega) (by rw [List.length_append]; omega) (by rw [List.length_append]; omega)) ?_
                rintro r3 H3 ⟨Z2, rfl, z4, z5⟩
                simp only [go_sem, Nat.reduceMod, Nat.reduceBNe, Nat.reduceBEq, Nat.reduceEqDiff, Nat.reduceAdd, Int.reduceAdd, Nat.reduceMul, Nat.reduceSub, Int.reduceToNat, Int.reduceLE, Int.reduceLT, Int.reduceEq, Int.reduceNe, reduceCtorEq, Nat.reduceLT, Nat.reduceLeDiff, hss]
                refine ⟨Z1 ++ Z2, ?_, fperm z1 z4, fsort z1 z4 z2 z5⟩
                simp [hZ1]
              · have h6 : ¬ ((mid + m - p : Nat) : Int) < (b : Nat) := by omega
                simp only [A_slices_symMergeCmpFunc_intL4, go_sem, Nat.reduceMod, Nat.reduceBNe, Nat.reduceBEq, Nat.reduceEqDiff, Nat.reduceAdd, Int.reduceAdd, Nat.reduceMul, Nat.reduceSub, Int.reduceToNat, Int.reduceLE, Int.reduceLT, Int.reduceEq, Int.reduceNe, reduceCtorEq, Nat.reduceLT, Nat.reduceLeDiff, hpq', wen, h1, h2, h3, h4, h5, h6]
                obtain ⟨Z1, hZ1, z1, z2⟩ : ∃ Z1, Z1 = A1 ++ B1 ∧ Z1.Perm (A1 ++ B1) ∧ Z1.Pairwise (ltc c) := ⟨_, rfl, .refl _, by rw [List.eq_nil_of_length_eq_zero (show B1.length = 0 by omega), List.append_nil]; exact sA1⟩
                have z3 := z1.length_eq
                rw [List.length_append] at z3
                obtain ⟨Z2, hZ2, z4, z5⟩ : ∃ Z2, Z2 = A2 ++ B2 ∧ Z2.Perm (A2 ++ B2) ∧ Z2.Pairwise (ltc c) := ⟨_, rfl, .refl _, by rw [List.eq_nil_of_length_eq_zero (show B2.length = 0 by omega), List.append_nil]; exact sA2⟩
                refine ⟨Z1 ++ Z2, ?_, fperm z1 z4, fsort z1 z4 z2 z5⟩
                rw [hZ1, hZ2]; refine (set_same (hH.trans ?_)).symm; rw [hD2]; simp
            · have h3 : ¬ ((a : Nat) : Int) < (p : Nat) := by omega
              by_cases nB2 : 0 < B2.length
              · have h6 : ((mid + m - p : Nat) : Int) < (b : Nat) := by omega
                simp only [A_slices_symMergeCmpFunc_intL4, go_sem, Nat.reduceMod, Nat.reduceBNe, Nat.reduceBEq, Nat.reduceEqDiff, Nat.reduceAdd, Int.reduceAdd, Nat.reduceMul, Nat.reduceSub, Int.reduceToNat, Int.reduceLE, Int.reduceLT, Int.reduceEq, Int.reduceNe, reduceCtorEq, Nat.reduceLT, Nat.reduceLeDiff, hpq', wen, h1, h2, h3, h4, h5, h6]
                obtain ⟨Z1, hZ1, z1, z2⟩ : ∃ Z1, Z1 = A1 ++ B1 ∧ Z1.Perm (A1 ++ B1) ∧ Z1.Pairwise (ltc c) := ⟨_, rfl, .refl _, by rw [List.eq_nil_of_length_eq_zero (show A1.length = 0 by omega)]; exact sB1⟩
                have z3 := z1.length_eq
                rw [List.length_append] at z3
                refine call_evm (ih (P ++ Z1) A2 B2 S H mid (mid + m - p) b (by omega) hr (by rw [hH, hD2, hZ1]; simp) (by rw [hNl]; simp; omega) sA2 sB2 (fun u hu v hv => hAB u (mA2 u hu) v (mB2 v hv)) in2 (by omega) (by omega) (by rw [List.length_append]; omega) (by rw [List.length_append]; omega) (by rw [List.length_append]; omega)) ?_
                rintro r3 H3 ⟨Z2, rfl, z4, z5⟩
                simp only [go_sem, Nat.reduceMod, Nat.reduceBNe, Nat.reduceBEq, Nat.reduceEqDiff, Nat.reduceAdd, Int.reduceAdd, Nat.reduceMul, Nat.reduceSub, Int.reduceToNat, Int.reduceLE, Int.reduceLT, Int.reduceEq, Int.reduceNe, reduceCtorEq, Nat.reduceLT, Nat.reduceLeDiff, hss]
                refine ⟨Z1 ++ Z2, ?_, fperm z1 z4, fsort z1 z4 z2 z5⟩
                simp [hZ1]
              · have h6 : ¬ ((mid + m - p : Nat) : Int) < (b : Nat) := by omega
                simp only [A_slices_symMergeCmpFunc_intL4, go_sem, Nat.reduceMod, Nat.reduceBNe, Nat.reduceBEq, Nat.reduceEqDiff, Nat.reduceAdd, Int.reduceAdd, Nat.reduceMul, Nat.reduceSub, Int.reduceToNat, Int.reduceLE, Int.reduceLT, Int.reduceEq, Int.reduceNe, reduceCtorEq, Nat.reduceLT, Nat.reduceLeDiff, hpq', wen, h1, h2, h3, h4, h5, h6]
                obtain ⟨Z1, hZ1, z1, z2⟩ : ∃ Z1, Z1 = A1 ++ B1 ∧ Z1.Perm (A1 ++ B1) ∧ Z1.Pairwise (ltc c) := ⟨_, rfl, .refl _, by rw [List.eq_nil_of_length_eq_zero (show A1.length = 0 by omega)]; exact sB1⟩
                have z3 := z1.length_eq
                rw [List.length_append] at z3
                obtain ⟨Z2, hZ2, z4, z5⟩ : ∃ Z2, Z2 = A2 ++ B2 ∧ Z2.Perm (A2 ++ B2) ∧ Z2.Pairwise (ltc c) := ⟨_, rfl, .refl _, by rw [List.eq_nil_of_length_eq_zero (show B2.length = 0 by omega), List.append_nil]; exact sA2⟩
                refine ⟨Z1 ++ Z2, ?_, fperm z1 z4, fsort z1 z4 z2 z5⟩
                rw [hZ1, hZ2]; refine (set_same (hH.trans ?_)).symm; rw [hD2]; simp
        · have h1 : ¬ ((p : Nat) : Int) < (m : Nat) := by omega
          have h5 : ¬ ((mid : Nat) : Int) < (mid + m - p : Nat) := by omega
          by_cases nB1 : 0 < B1.length
          · have h2 : ((m : Nat) : Int) < (mid + m - p : Nat) := by omega
            have h4 : ((p : Nat) : Int) < (mid : Nat) := by omega
            have hD2 : D = P ++ (A1 ++ (B1 ++ (A2 ++ (B2 ++ S)))) := by rw [hD1, List.eq_nil_of_length_eq_zero (show A2.length = 0 by omega)]; simp
            by_cases nA1 : 0 < A1.length
            · have h3 : ((a : Nat) : Int) < (p : Nat) := by omega
              by_cases nB2 : 0 < B2.length
              · have h6 : ((mid + m - p : Nat) : Int) < (b : Nat) := by omega
                simp only [A_slices_symMergeCmpFunc_intL4, go_sem, Nat.reduceMod, Nat.reduceBNe, Nat.reduceBEq, Nat.reduceEqDiff, Nat.reduceAdd, Int.reduceAdd, Nat.reduceMul, Nat.reduceSub, Int.reduceToNat, Int.reduceLE, Int.reduceLT, Int.reduceEq, Int.reduceNe, reduceCtorEq, Nat.reduceLT, Nat.reduceLeDiff, hpq', wen, h1, h2, h3, h4, h5, h6]
                refine call_evm (ih P A1 B1 (A2 ++ (B2 ++ S)) H a p mid (by omega) hr (by rw [hH, hD2]) (by rw [hNl]; simp; omega) sA1 sB1 (fun u hu v hv => hAB u (mA1 u hu) v (mB1 v hv)) in1 (by omega) (by omega) ha (by omega) (by omega)) ?_
                rintro r2 H2 ⟨Z1, rfl, z1, z2⟩
                have z3 := z1.length_eq
                rw [List.length_append] at z3
                simp only [go_sem, Nat.reduceMod, Nat.reduceBNe, Nat.reduceBEq, Nat.reduceEqDiff, Nat.reduceAdd, Int.reduceAdd, Nat.reduceMul, Nat.reduceSub, Int.reduceToNat, Int.reduceLE, Int.reduceLT, Int.reduceEq, Int.reduceNe, reduceCtorEq, Nat.reduceLT, Nat.reduceLeDiff, hss, h5, h6]
                obtain ⟨Z2, hZ2, z4, z5⟩ : ∃ Z2, Z2 = A2 ++ B2 ∧ Z2.Perm (A2 ++ B2) ∧ Z2.Pairwise (ltc c) := ⟨_, rfl, .refl _, by rw [List.eq_nil_of_length_eq_zero (show A2.length = 0 by omega)]; exact sB2⟩
                refine ⟨Z1 ++ Z2, ?_, fperm z1 z4, fsort z1 z4 z2 z5⟩
                simp [hZ2]
              · have h6 : ¬ ((mid + m - p : Nat) : Int) < (b : Nat) := by omega
                simp only [A_slices_symMergeCmpFunc_intL4, go_sem, Nat.reduceMod, Nat.reduceBNe, Nat.reduceBEq, Nat.reduceEqDiff, Nat.reduceAdd, Int.reduceAdd, Nat.reduceMul, Nat.reduceSub, Int.reduceToNat, Int.reduceLE, Int.reduceLT, Int.reduceEq, Int.reduceNe, reduceCtorEq, Nat.reduceLT, Nat.reduceLeDiff, hpq', wen, h1, h2, h3, h4, h5, h6]
                refine call_evm (ih P A1 B1 (A2 ++ (B2 ++ S)) H a p mid (by omega) hr (by rw [hH, hD2]) (by rw [hNl]; simp; omega) sA1 sB1 (fun u hu v hv => hAB u (mA1 u hu) v (mB1 v hv)) in1 (by omega) (by omega) ha (by omega) (by omega)) ?_
                rintro r2 H2 ⟨Z1, rfl, z1, z2⟩
                have z3 := z1.length_eq
                rw [List.length_append] at z3
                simp only [go_sem, Nat.reduceMod, Nat.reduceBNe, Nat.reduceBEq, Nat.reduceEqDiff, Nat.reduceAdd, Int.reduceAdd, Nat.reduceMul, Nat.reduceSub, Int.reduceToNat, Int.reduceLE, Int.reduceLT, Int.reduceEq, Int.reduceNe, reduceCtorEq, Nat.reduceLT, Nat.reduceLeDiff, hss, h5, h6]
                obtain ⟨Z2, hZ2, z4, z5⟩ : ∃ Z2, Z2 = A2 ++ B2 ∧ Z2.Perm (A2 ++ B2) ∧ Z2.Pairwise (ltc c) := ⟨_, rfl, .refl _, by rw [List.eq_nil_of_length_eq_zero (show A2.length = 0 by omega)]; exact sB2⟩
                refine ⟨Z1 ++ Z2, ?_, fperm z1 z4, fsort z1 z4 z2 z5⟩
                simp [hZ2]
            · have h3 : ¬ ((a : Nat) : Int) < (p : Nat) := by omega
              by_cases nB2 : 0 < B2.length
              · have h6 : ((mid + m - p : Nat) : Int) < (b : Nat) := by omega
                simp only [A_slices_symMergeCmpFunc_intL4, go_sem, Nat.reduceMod, Nat.reduceBNe, Nat.reduceBEq, Nat.reduceEqDiff, Nat.reduceAdd, Int.reduceAdd, Nat.reduceMul, Nat.reduceSub, Int.reduceToNat, Int.reduceLE, Int.reduceLT, Int.reduceEq, Int.reduceNe, reduceCtorEq, Nat.reduceLT, Nat.reduceLeDiff, hpq', wen, h1, h2, h3, h4, h5, h6]
                obtain ⟨Z1, hZ1, z1, z2⟩ : ∃ Z1, Z1 = A1 ++ B1 ∧ Z1.Perm (A1 ++ B1) ∧ Z1.Pairwise (ltc c) := ⟨_, rfl, .refl _, by rw [List.eq_nil_of_length_eq_zero (show A1.length = 0 by omega)]; exact sB1⟩
                have z3 := z1.length_eq
                rw [List.length_append] at z3
                obtain ⟨Z2, hZ2, z4, z5⟩ : ∃ Z2, Z2 = A2 ++ B2 ∧ Z2.Perm (A2 ++ B2) ∧ Z2.Pairwise (ltc c) := ⟨_, rfl, .refl _, by rw [List.eq_nil_of_length_eq_zero (show A2.length = 0 by omega)]; exact sB2⟩
                refine ⟨Z1 ++ Z2, ?_, fperm z1 z4, fsort z1 z4 z2 z5⟩
                rw [hZ1, hZ2]; refine (set_same (hH.trans ?_)).symm; rw [hD2]; simp
              · have h6 : ¬ ((mid + m - p : Nat) : Int) < (b : Nat) := by omega
                simp only [A_slices_symMergeCmpFunc_intL4, go_sem, Nat.reduceMod, Nat.reduceBNe, Nat.reduceBEq, Nat.reduceEqDiff, Nat.reduceAdd, Int.reduceAdd, Nat.reduceMul, Nat.reduceSub, Int.reduceToNat, Int.reduceLE, Int.reduceLT, Int.reduceEq, Int.reduceNe, reduceCtorEq, Nat.reduceLT, Nat.reduceLeDiff, hpq', wen, h1, h2, h3, h4, h5, h6]
                obtain ⟨Z1, hZ1, z1, z2⟩ : ∃ Z1, Z1 = A1 ++ B1 ∧ Z1.Perm (A1 ++ B1) ∧ Z1.Pairwise (ltc c) := ⟨_, rfl, .refl _, by rw [List.eq_nil_of_length_eq_zero (show A1.length = 0 by omega)]; exact sB1⟩
                have z3 := z1.length_eq
                rw [List.length_append] at z3
                obtain ⟨Z2, hZ2, z4, z5⟩ : ∃ Z2, Z2 = A2 ++ B2 ∧ Z2.Perm (A2 ++ B2) ∧ Z2.Pairwise (ltc c) := ⟨_, rfl, .refl _, by rw [List.eq_nil_of_length_eq_zero (show A2.length = 0 by omega)]; exact sB2⟩
                refine ⟨Z1 ++ Z2, ?_, fperm z1 z4, fsort z1 z4 z2 z5⟩
                rw [hZ1, hZ2]; refine (set_same (hH.trans ?_)).symm; rw [hD2]; simp
          · have h2 : ¬ ((m : Nat) : Int) < (mid + m - p : Nat) := by omega
            have h4 : ¬ ((p : Nat) : Int) < (mid : Nat) := by omega
            have hD2 : D = P ++ (A1 ++ (B1 ++ (A2 ++ (B2 ++ S)))) := by rw [hD1, List.eq_nil_of_length_eq_zero (show A2.length = 0 by omega)]; simp
            by_cases nA1 : 0 < A1.length
            · have h3 : ((a : Nat) : Int) < (p : Nat) := by omega
              by_cases nB2 : 0 < B2.length
              · have h6 : ((mid + m - p : Nat) : Int) < (b : Nat) := by omega
                simp only [A_slices_symMergeCmpFunc_intL4, go_sem, Nat.reduceMod, Nat.reduceBNe, Nat.reduceBEq, Nat.reduceEqDiff, Nat.reduceAdd, Int.reduceAdd, Nat.reduceMul, Nat.reduceSub, Int.reduceToNat, Int.reduceLE, Int.reduceLT, Int.reduceEq, Int.reduceNe, reduceCtorEq, Nat.reduceLT, Nat.reduceLeDiff, hpq', wen, h1, h2, h3, h4, h5, h6]
                obtain ⟨Z1, hZ1, z1, z2⟩ : ∃ Z1, Z1 = A1 ++ B1 ∧ Z1.Perm (A1 ++ B1) ∧ Z1.Pairwise (ltc c) := ⟨_, rfl, .refl _, by rw [List.eq_nil_of_length_eq_zero (show B1.length = 0 by omega), List.append_nil]; exact sA1⟩
                have z3 := z1.length_eq
                rw [List.length_append] at z3
                obtain ⟨Z2, hZ2, z4, z5⟩ : ∃ Z2, Z2 = A2 ++ B2 ∧ Z2.Perm (A2 ++ B2) ∧ Z2.Pairwise (ltc c) := ⟨_, rfl, .refl _, by rw [List.eq_nil_of_length_eq_zero (show A2.length = 0 by omega)]; exact sB2⟩
                refine ⟨Z1 ++ Z2, ?_, fperm z1 z4, fsort z1 z4 z2 z5⟩
                rw [hZ1, hZ2]; refine (set_same (hH.trans ?_)).symm; rw [hD2]; simp
              · have h6 : ¬ ((mid + m - p : Nat) : Int) < (b : Nat) := by omega
                simp only [A_slices_symMergeCmpFunc_intL4, go_sem, Nat.reduceMod, Nat.reduceBNe, Nat.reduceBEq, Nat.reduceEqDiff, Nat.reduceAdd, Int.reduceAdd, Nat.reduceMul, Nat.reduceSub, Int.reduceToNat, Int.reduceLE, Int.reduceLT, Int.reduceEq, Int.reduceNe, reduceCtorEq, Nat.reduceLT, Nat.reduceLeDiff, hpq', wen, h1, h2, h3, h4, h5, h6]
                obtain ⟨Z1, hZ1, z1, z2⟩ : ∃ Z1, Z1 = A1 ++ B1 ∧ Z1.Perm (A1 ++ B1) ∧ Z1.Pairwise (ltc c) := ⟨_, rfl, .refl _, by rw [List.eq_nil_of_length_eq_zero (show B1.length = 0 by omega), List.append_nil]; exact sA1⟩
                have z3 := z1.length_eq
                rw [List.length_append] at z3
                obtain ⟨Z2, hZ2, z4, z5⟩ : ∃ Z2, Z2 = A2 ++ B2 ∧ Z2.Perm (A2 ++ B2) ∧ Z2.Pairwise (ltc c) := ⟨_, rfl, .refl _, by rw [List.eq_nil_of_length_eq_zero (show A2.length = 0 by omega)]; exact sB2⟩
                refine ⟨Z1 ++ Z2, ?_, fperm z1 z4, fsort z1 z4 z2 z5⟩
                rw [hZ1, hZ2]; refine (set_same (hH.trans ?_)).symm; rw [hD2]; simp
            · have h3 : ¬ ((a : Nat) : Int) < (p : Nat) := by omega
              by_cases nB2 : 0 < B2.length
              · have h6 : ((mid + m - p : Nat) : Int) < (b : Nat) := by omega
                simp only [A_slices_symMergeCmpFunc_intL4, go_sem, Nat.reduceMod, Nat.reduceBNe, Nat.reduceBEq, Nat.reduceEqDiff, Nat.reduceAdd, Int.reduceAdd, Nat.reduceMul, Nat.reduceSub, Int.reduceToNat, Int.reduceLE, Int.reduceLT, Int.reduceEq, Int.reduceNe, reduceCtorEq, Nat.reduceLT, Nat.reduceLeDiff, hpq', wen, h1, h2, h3, h4, h5, h6]
                obtain ⟨Z1, hZ1, z1, z2⟩ : ∃ Z1, Z1 = A1 ++ B1 ∧ Z1.Perm (A1 ++ B1) ∧ Z1.Pairwise (ltc c) := ⟨_, rfl, .refl _, by rw [List.eq_nil_of_length_eq_zero (show A1.length = 0 by omega)]; exact sB1⟩
                have z3 := z1.length_eq
                rw [List.length_append] at z3
                obtain ⟨Z2, hZ2, z4, z5⟩ : ∃ Z2, Z2 = A2 ++ B2 ∧ Z2.Perm (A2 ++ B2) ∧ Z2.Pairwise (ltc c) := ⟨_, rfl, .refl _, by rw [List.eq_nil_of_length_eq_zero (show A2.length = 0 by omega)]; exact sB2⟩
                refine ⟨Z1 ++ Z2, ?_, fperm z1 z4, fsort z1 z4 z2 z5⟩
                rw [hZ1, hZ2]; refine (set_same (hH.trans ?_)).symm; rw [hD2]; simp
              · have h6 : ¬ ((mid + m - p : Nat) : Int) < (b : Nat) := by omega
                simp only [A_slices_symMergeCmpFunc_intL4, go_sem, Nat.reduceMod, Nat.reduceBNe, Nat.reduceBEq, Nat.reduceEqDiff, Nat.reduceAdd, Int.reduceAdd, Nat.reduceMul, Nat.reduceSub, Int.reduceToNat, Int.reduceLE, Int.reduceLT, Int.reduceEq, Int.reduceNe, reduceCtorEq, Nat.reduceLT, Nat.reduceLeDiff, hpq', wen, h1, h2, h3, h4, h5, h6]
                obtain ⟨Z1, hZ1, z1, z2⟩ : ∃ Z1, Z1 = A1 ++ B1 ∧ Z1.Perm (A1 ++ B1) ∧ Z1.Pairwise (ltc c) := ⟨_, rfl, .refl _, by rw [List.eq_nil_of_length_eq_zero (show A1.length = 0 by omega)]; exact sB1⟩
                have z3 := z1.length_eq
                rw [List.length_append] at z3
                obtain ⟨Z2, hZ2, z4, z5⟩ : ∃ Z2, Z2 = A2 ++ B2 ∧ Z2.Perm (A2 ++ B2) ∧ Z2.Pairwise (ltc c) := ⟨_, rfl, .refl _, by rw [List.eq_nil_of_length_eq_zero (show A2.length = 0 by omega)]; exact sB2⟩
                refine ⟨Z1 ++ Z2, ?_, fperm z1 z4, fsort z1 z4 z2 z5⟩
                rw [hZ1, hZ2]; refine (set_same (hH.trans ?_)).symm; rw [hD2]; simp
end
end Go.Avm
