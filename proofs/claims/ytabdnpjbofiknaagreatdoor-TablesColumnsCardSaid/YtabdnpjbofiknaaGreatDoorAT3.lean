/- Stable sorting: blocks are sorted and merged. -/
import Derived.Test.YtabdnpjbofiknaaGreatDoorAT2
import Derived.Test.YtabdnpjbofiknaaGreatDoorM1
set_option linter.all false
/- Stable sorting: blocks are sorted and merged. -/
namespace Go.Avm
open Go Go.Tb
set_option maxRecDepth 10000
/-- a part that is sorted -/
structure Srt (c : Int → Int) (a b : Nat) (Z : List Int) : Prop where
  perm : Z.Perm (rg a b)
  srt : Z.Pairwise (ltc c)
theorem Srt.len {c : Int → Int} {a b : Nat} {Z : List Int} (h : Srt c a b Z) : Z.length = b - a := by rw [h.perm.length_eq, rg_len]
/-- parts of a size, one after the other, each sorted -/
inductive Bs (c : Int → Int) (k n : Nat) : Nat → List Int → Prop
  | nil (a : Nat) : n ≤ a → Bs c k n a []
  | cons (a : Nat) (V W : List Int) : a < n → Srt c a (min (a + k) n) V → Bs c k n (a + k) W → Bs c k n a (V ++ W)
theorem Bs.done {c : Int → Int} {k n a : Nat} {W : List Int} (h : Bs c k n a W) (h1 : n ≤ a) : W = [] := by
  cases h with
  | nil => rfl
  | cons V W h2 => omega
def PreB (c : Int → Int) (k n a : Nat) (P : List Int) : Prop := ∀ W, Bs c k n a W → Bs c k n 0 (P ++ W)
theorem PreB.step {c : Int → Int} {k n a : Nat} {P Z : List Int} (h : PreB c k n a P) (hk : 0 < k) (h1 : a + k ≤ n) (hZ : Srt c a (a + k) Z) : PreB c k n (a + k) (P ++ Z) := fun W hW => by
  rw [List.append_assoc]
  exact h _ (.cons a Z W (by omega) (by rw [Nat.min_eq_left h1]; exact hZ) hW)
theorem Srt.join {c : Int → Int} {a b d : Nat} {V W Z : List Int} (h1 : a ≤ b) (h2 : b ≤ d) (hV : Srt c a b V) (hW : Srt c b d W) (hZ : Z.Perm (V ++ W)) (hs : Z.Pairwise (ltc c)) : Srt c a d Z :=
  ⟨hZ.trans ((hV.perm.append hW.perm).trans (by rw [← rg_app h1 h2])), hs⟩
theorem Srt.in {c : Int → Int} {a b n : Nat} {V : List Int} (h : Srt c a b V) (hb : b ≤ n) : inR n V := fun x hx => by
  have := rg_mem.1 (h.perm.subset hx)
  omega
theorem Srt.lt {c : Int → Int} {a b d : Nat} {V W : List Int} (hV : Srt c a b V) (hW : Srt c b d W) : ∀ x ∈ V, ∀ y ∈ W, x < y := fun x hx y hy => by
  have h1 := rg_mem.1 (hV.perm.subset hx)
  have h2 := rg_mem.1 (hW.perm.subset hy)
  omega
theorem Bs.all {c : Int → Int} {k n : Nat} {d : List Int} (h : Bs c k n 0 d) (hk : n ≤ k) : Srt c 0 n d := by
  cases h with
  | nil _ h1 =>
    have : n = 0 := by omega
    subst this
    exact ⟨by simp [rg], .nil⟩
  | cons _ V W h1 h2 h3 =>
    have := h3.done (by omega)
    subst this
    rw [List.append_nil]
    rw [show min (0 + k) n = n by omega] at h2
    exact h2
structure SO where
  a : Nat
  P : List Int
  W : List Int
structure SK where
  k : Nat
  d : List Int
section
variable {X : Cx} (hX : X.P = Go.Proofs.Tryz.prog) (hs : Std X)
include hX hs
set_option maxHeartbeats 2000000 in
theorem ev_stable (f r : Nat) (rb : Blk) (c : Int → Int) (i n : Nat) (hc : CmpC X f r n rb c) (hir : r ≠ i) (hn : n < 1000000) (H : Heap) (hr : H[r]? = some rb) (hH : H[i]? = some (rowB (rg 0 n))) :
    EvM X F_slices_stableCmpFunc_int [.rsl i 0 n n 1, .int .i64 n, .clo f [] [.ptr r 0]] H fun _ H' => ∃ Z, H' = H.set i (rowB Z) ∧ Srt c 0 n Z := by
  refine evM_of_wpc hs (A_slices_stableCmpFunc_int_ok hX) ?_
  have hg : ∀ y, (H.set i y)[i]? = some y := fun y => rset_get hH
  have hss : ∀ y z, (H.set i y).set i z = H.set i z := fun y z => List.set_set ..
  have hgr : ∀ y, (H.set i y)[r]? = some rb := fun y => by rw [List.getElem?_set_ne (Ne.symm hir)]; exact hr
  simp only [A_slices_stableCmpFunc_int, go_sem, Nat.reduceMod, Nat.reduceBNe, Nat.reduceBEq, Nat.reduceEqDiff, Nat.reduceAdd, Int.reduceAdd, Nat.reduceMul, Nat.reduceSub, Int.reduceToNat, Int.reduceLE, Int.reduceLT, Int.reduceEq, Int.reduceNe, reduceCtorEq, Nat.reduceLT, Nat.reduceLeDiff]
  refine w_loop' hs.hm (ι := SO) (fun x => (x.a ≤ n ∧ x.P.length = x.a) ∧ PreB c 20 n x.a x.P) (fun x => [(7, .int .i64 x.a), (8, .int .i64 (x.a + 20 : Nat)), (6, .int .i64 20), (0, .rsl i 0 n n 1), (1, .int .i64 n), (2, .clo f [] [.ptr r 0])]) (fun x => H.set i (rowB (x.P ++ rg x.a n))) (fun x => n - x.a) ⟨0, [], []⟩ ?_ fun x hx => ?_
  · simp only [go_sem, Nat.reduceMod, Nat.reduceBNe, Nat.reduceBEq, Nat.reduceEqDiff, Nat.reduceAdd, Int.reduceAdd, Nat.reduceMul, Nat.reduceSub, Int.reduceToNat, Int.reduceLE, Int.reduceLT, Int.reduceEq, Int.reduceNe, reduceCtorEq, Nat.reduceLT, Nat.reduceLeDiff]
    exact ⟨⟨Nat.zero_le _, fun W hW => hW⟩, (set_same hH).symm⟩
  obtain ⟨a, P, _⟩ := x
  obtain ⟨⟨x1, x2⟩, x3⟩ := hx
  dsimp only at x1 x2 x3 ⊢
  have hgl : (rg a n).length = n - a := rg_len a n
  by_cases hb : a + 20 ≤ n
  · have hb' : ((a + 20 : Nat) : Int) ≤ n := by omega
    have hspl : rg a n = rg a (a + 20) ++ rg (a + 20) n := rg_app (by omega) hb
    have hl1 := rg_len a (a + 20)
    have hl2 := rg_len (a + 20) n
    have w1 : IntKind.i64.wrap (((a + 20 : Nat) : Int) + 20) = ((a + 20 + 20 : Nat) : Int) := by rw [wi64 (by omega)]; omega
    simp only [A_slices_stableCmpFunc_intL0, go_sem, Nat.reduceMod, Nat.reduceBNe, Nat.reduceBEq, Nat.reduceEqDiff, Nat.reduceAdd, Int.reduceAdd, Nat.reduceMul, Nat.reduceSub, Int.reduceToNat, Int.reduceLE, Int.reduceLT, Int.reduceEq, Int.reduceNe, reduceCtorEq, Nat.reduceLT, Nat.reduceLeDiff, hb', w1]
    have ei := ev_insert hX hs f r n rb c hc i n hir P (rg a (a + 20)) (rg (a + 20) n) (H.set i (rowB (P ++ rg a n))) (hgr _) (by rw [hg, hspl]) (by simp only [List.length_append]; omega) hn (rg_lt _ _) (fun x hx => by have := rg_mem.1 hx; omega) (a + 20) (by omega)
    rw [x2] at ei
    refine call_evm ei ?_
    rintro r1 H1 ⟨Z, rfl, z1, z2⟩
    simp only [go_sem, Nat.reduceMod, Nat.reduceBNe, Nat.reduceBEq, Nat.reduceEqDiff, Nat.reduceAdd, Int.reduceAdd, Nat.reduceMul, Nat.reduceSub, Int.reduceToNat, Int.reduceLE, Int.reduceLT, Int.reduceEq, Int.reduceNe, reduceCtorEq, Nat.reduceLT, Nat.reduceLeDiff, hss, w1]
    have hZ : Srt c a (a + 20) Z := ⟨z1, z2⟩
    exact ⟨⟨a + 20, P ++ Z, []⟩, by dsimp only; omega, ⟨⟨hb, by dsimp only; rw [List.length_append, hZ.len]; omega⟩, x3.step (by decide) hb hZ⟩, ⟨rfl, rfl⟩, by simp⟩
  have hb' : ¬ ((a + 20 : Nat) : Int) ≤ n := by omega
  simp only [A_slices_stableCmpFunc_intL0, go_sem, Nat.reduceMod, Nat.reduceBNe, Nat.reduceBEq, Nat.reduceEqDiff, Nat.reduceAdd, Int.reduceAdd, Nat.reduceMul, Nat.reduceSub, Int.reduceToNat, Int.reduceLE, Int.reduceLT, Int.reduceEq, Int.reduceNe, reduceCtorEq, Nat.reduceLT, Nat.reduceLeDiff, hb']
  have ei := ev_insert hX hs f r n rb c hc i n hir P (rg a n) [] (H.set i (rowB (P ++ rg a n))) (hgr _) (by rw [hg]; simp) (by simp only [List.length_append, List.length_nil]; omega) hn (rg_lt _ _) (fun x hx => by have := rg_mem.1 hx; omega) n (by omega)
  rw [x2] at ei
  refine call_evm ei ?_
  rintro r1 H1 ⟨Z, rfl, z1, z2⟩
  rw [List.append_nil]
  have hB0 : Bs c 20 n 0 (P ++ Z) := by
    refine x3 _ ?_
    by_cases han : a < n
    · have := Bs.cons (c := c) (k := 20) (n := n) a Z [] han (by rw [show min (a + 20) n = n by omega]; exact ⟨z1, z2⟩) (.nil _ (by omega))
      rwa [List.append_nil] at this
    · have : Z = [] := List.eq_nil_of_length_eq_zero (by rw [z1.length_eq]; omega)
      rw [this]
      exact .nil _ (by omega)
  have hdl0 : (P ++ Z).length = n := by rw [List.length_append, z1.length_eq]; omega
  generalize P ++ Z = d0 at hB0 hdl0
  simp only [go_sem, Nat.reduceMod, Nat.reduceBNe, Nat.reduceBEq, Nat.reduceEqDiff, Nat.reduceAdd, Int.reduceAdd, Nat.reduceMul, Nat.reduceSub, Int.reduceToNat, Int.reduceLE, Int.reduceLT, Int.reduceEq, Int.reduceNe, reduceCtorEq, Nat.reduceLT, Nat.reduceLeDiff, hss]
  refine w_loop' hs.hm (ι := SK) (fun x => (0 < x.k ∧ x.k < 4000000) ∧ x.d.length = n ∧ Bs c x.k n 0 x.d) (fun x => [(6, .int .i64 x.k), (0, .rsl i 0 n n 1), (1, .int .i64 n), (2, .clo f [] [.ptr r 0])]) (fun x => H.set i (rowB x.d)) (fun x => n - x.k) ⟨20, d0⟩ ?_ fun x hx => ?_
  · simp only [go_sem, Nat.reduceMod, Nat.reduceBNe, Nat.reduceBEq, Nat.reduceEqDiff, Nat.reduceAdd, Int.reduceAdd, Nat.reduceMul, Nat.reduceSub, Int.reduceToNat, Int.reduceLE, Int.reduceLT, Int.reduceEq, Int.reduceNe, reduceCtorEq, Nat.reduceLT, Nat.reduceLeDiff]
    exact ⟨hdl0, hB0⟩
  obtain ⟨k, d⟩ := x
  obtain ⟨⟨k1, k2⟩, k3, k4⟩ := hx
  dsimp only at k1 k2 k3 k4 ⊢
  by_cases hk : k < n
  · have hk' : (k : Int) < n := by omega
    have w2 : IntKind.i64.wrap (2 * (k : Int)) = ((2 * k : Nat) : Int) := by rw [wi64 (by omega)]; omega
    have w3 : IntKind.i64.wrap ((k : Int) * 2) = ((2 * k : Nat) : Int) := by rw [wi64 (by omega)]; omega
    simp only [A_slices_stableCmpFunc_intL1, go_sem, Nat.reduceMod, Nat.reduceBNe, Nat.reduceBEq, Nat.reduceEqDiff, Nat.reduceAdd, Int.reduceAdd, Nat.reduceMul, Nat.reduceSub, Int.reduceToNat, Int.reduceLE, Int.reduceLT, Int.reduceEq, Int.reduceNe, reduceCtorEq, Nat.reduceLT, Nat.reduceLeDiff, hk', w2]
    refine w_loop' hs.hm (ι := SO) (fun x => (x.a ≤ n ∧ x.P.length = x.a ∧ (x.P ++ x.W).length = n) ∧ PreB c (2 * k) n x.a x.P ∧ Bs c k n x.a x.W) (fun x => [(7, .int .i64 x.a), (8, .int .i64 (x.a + 2 * k : Nat)), (6, .int .i64 k), (0, .rsl i 0 n n 1), (1, .int .i64 n), (2, .clo f [] [.ptr r 0])]) (fun x => H.set i (rowB (x.P ++ x.W))) (fun x => n - x.a) ⟨0, [], d⟩ ?_ fun x hx => ?_
    · simp only [go_sem, Nat.reduceMod, Nat.reduceBNe, Nat.reduceBEq, Nat.reduceEqDiff, Nat.reduceAdd, Int.reduceAdd, Nat.reduceMul, Nat.reduceSub, Int.reduceToNat, Int.reduceLE, Int.reduceLT, Int.reduceEq, Int.reduceNe, reduceCtorEq, Nat.reduceLT, Nat.reduceLeDiff, Nat.zero_add]
      exact ⟨⟨Nat.zero_le _, k3⟩, fun W hW => hW, k4⟩
    obtain ⟨a, P, W⟩ := x
    obtain ⟨⟨y1, y2, y3⟩, y4, y5⟩ := hx
    dsimp only at y1 y2 y3 y4 y5 ⊢
    have w4 : IntKind.i64.wrap ((a : Int) + k) = ((a + k : Nat) : Int) := by rw [wi64 (by omega)]; omega
    have w5 : IntKind.i64.wrap (((a + 2 * k : Nat) : Int) + (2 * k : Nat)) = ((a + 2 * k + 2 * k : Nat) : Int) := by rw [wi64 (by omega)]; omega
    by_cases hb : a + 2 * k ≤ n
    · have hb' : ((a + 2 * k : Nat) : Int) ≤ n := by omega
      cases y5 with
      | nil _ h => omega
      | cons _ V1 W1 h1 h2 h3 =>
        cases h3 with
        | nil _ h => omega
        | cons _ V2 W2 h4 h5 h6 =>
          rw [show min (a + k) n = a + k by omega] at h2
          rw [show min (a + k + k) n = a + 2 * k by omega] at h5
          have l1 := h2.len
          have l2 := h5.len
          simp only [A_slices_stableCmpFunc_intL2, go_sem, Nat.reduceMod, Nat.reduceBNe, Nat.reduceBEq, Nat.reduceEqDiff, Nat.reduceAdd, Int.reduceAdd, Nat.reduceMul, Nat.reduceSub, Int.reduceToNat, Int.reduceLE, Int.reduceLT, Int.reduceEq, Int.reduceNe, reduceCtorEq, Nat.reduceLT, Nat.reduceLeDiff, hb', w2, w4, w5]
          refine call_evm (ev_symMerge hX hs f r n rb c hc i n hir hn _ P V1 V2 W2 (H.set i (rowB (P ++ (V1 ++ (V2 ++ W2))))) a (a + k) (a + 2 * k) (Nat.le_refl _) (hgr _) (hg _) y3.symm h2.srt h5.srt (h2.lt h5) (fun x hx => (List.mem_append.1 hx).elim (fun h => h2.in (by omega) x h) fun h => h5.in (by omega) x h) (by omega) (by omega) y2.symm (by omega) (by omega)) ?_
          rintro r2 H2 ⟨Z, rfl, z1, z2⟩
          have hZ : Srt c a (a + 2 * k) Z := h2.join (by omega) (by omega) h5 z1 z2
          simp only [go_sem, Nat.reduceMod, Nat.reduceBNe, Nat.reduceBEq, Nat.reduceEqDiff, Nat.reduceAdd, Int.reduceAdd, Nat.reduceMul, Nat.reduceSub, Int.reduceToNat, Int.reduceLE, Int.reduceLT, Int.reduceEq, Int.reduceNe, reduceCtorEq, Nat.reduceLT, Nat.reduceLeDiff, hss, w2, w5]
          refine ⟨⟨a + 2 * k, P ++ Z, W2⟩, by dsimp only; omega, ⟨⟨hb, by dsimp only; rw [List.length_append, hZ.len]; omega, ?_⟩, y4.step (by omega) hb hZ, ?_⟩, ⟨rfl, rfl⟩, by simp⟩
          · dsimp only
            rw [← y3]
            simp only [List.length_append, z1.length_eq]; omega
          · dsimp only
            rw [show a + 2 * k = a + k + k by omega]; exact h6
    · have hb' : ¬ ((a + 2 * k : Nat) : Int) ≤ n := by omega
      by_cases hm : a + k < n
      · have hm' : ((a + k : Nat) : Int) < n := by omega
        cases y5 with
        | nil _ h => omega
        | cons _ V1 W1 h1 h2 h3 =>
          cases h3 with
          | nil _ h => omega
          | cons _ V2 W2 h4 h5 h6 =>
            have := h6.done (by omega)
            subst this
            rw [show min (a + k) n = a + k by omega] at h2
            rw [show min (a + k + k) n = n by omega] at h5
            have l1 := h2.len
            have l2 := h5.len
            simp only [A_slices_stableCmpFunc_intL2, go_sem, Nat.reduceMod, Nat.reduceBNe, Nat.reduceBEq, Nat.reduceEqDiff, Nat.reduceAdd, Int.reduceAdd, Nat.reduceMul, Nat.reduceSub, Int.reduceToNat, Int.reduceLE, Int.reduceLT, Int.reduceEq, Int.reduceNe, reduceCtorEq, Nat.reduceLT, Nat.reduceLeDiff, hb', hm', w2, w4, w5]
            refine call_evm (ev_symMerge hX hs f r n rb c hc i n hir hn _ P V1 V2 [] (H.set i (rowB (P ++ (V1 ++ V2)))) a (a + k) n (Nat.le_refl _) (hgr _) (by rw [hg, List.append_nil]) y3.symm h2.srt h5.srt (h2.lt h5) (fun x hx => (List.mem_append.1 hx).elim (fun h => h2.in (by omega) x h) fun h => h5.in (by omega) x h) (by omega) (by omega) y2.symm (by omega) (by omega)) ?_
            rintro r2 H2 ⟨Z, rfl, z1, z2⟩
            have hZ : Srt c a n Z := h2.join (by omega) (by omega) h5 z1 z2
            simp only [go_sem, Nat.reduceMod, Nat.reduceBNe, Nat.reduceBEq, Nat.reduceEqDiff, Nat.reduceAdd, Int.reduceAdd, Nat.reduceMul, Nat.reduceSub, Int.reduceToNat, Int.reduceLE, Int.reduceLT, Int.reduceEq, Int.reduceNe, reduceCtorEq, Nat.reduceLT, Nat.reduceLeDiff, hss, w2, w3]
            refine ⟨⟨2 * k, P ++ Z⟩, by dsimp only; omega, ⟨⟨by dsimp only; omega, by dsimp only; omega⟩, by dsimp only; rw [List.length_append, hZ.len]; omega, ?_⟩, rfl, by simp⟩
            dsimp only
            refine y4 _ ?_
            have := Bs.cons (c := c) (k := 2 * k) (n := n) a Z [] (by omega) (by rw [show min (a + 2 * k) n = n by omega]; exact hZ) (.nil _ (by omega))
            rwa [List.append_nil] at this
      · have hm' : ¬ ((a + k : Nat) : Int) < n := by omega
        simp only [A_slices_stableCmpFunc_intL2, go_sem, Nat.reduceMod, Nat.reduceBNe, Nat.reduceBEq, Nat.reduceEqDiff, Nat.reduceAdd, Int.reduceAdd, Nat.reduceMul, Nat.reduceSub, Int.reduceToNat, Int.reduceLE, Int.reduceLT, Int.reduceEq, Int.reduceNe, reduceCtorEq, Nat.reduceLT, Nat.reduceLeDiff, hb', hm', w2, w3, w4, w5]
        refine ⟨⟨2 * k, P ++ W⟩, by dsimp only; omega, ⟨⟨by dsimp only; omega, by dsimp only; omega⟩, y3, y4 _ ?_⟩, rfl, rfl⟩
        cases y5 with
        | nil _ h => exact .nil _ h
        | cons _ V1 W1 h1 h2 h3 =>
          have := h3.done (by omega)
          subst this
          exact .cons a V1 [] h1 (by rw [show min (a + 2 * k) n = min (a + k) n by omega]; exact h2) (.nil _ (by omega))
  · have hk' : ¬ (k : Int) < n := by omega
    simp only [A_slices_stableCmpFunc_intL1, go_sem, Nat.reduceMod, Nat.reduceBNe, Nat.reduceBEq, Nat.reduceEqDiff, Nat.reduceAdd, Int.reduceAdd, Nat.reduceMul, Nat.reduceSub, Int.reduceToNat, Int.reduceLE, Int.reduceLT, Int.reduceEq, Int.reduceNe, reduceCtorEq, Nat.reduceLT, Nat.reduceLeDiff, hk']
    exact ⟨d, rfl, k4.all (by omega)⟩
theorem ev_SortStable (f r : Nat) (rb : Blk) (c : Int → Int) (i n : Nat) (hc : CmpC X f r n rb c) (hir : r ≠ i) (hn : n < 1000000) (H : Heap) (hr : H[r]? = some rb) (hH : H[i]? = some (rowB (rg 0 n))) :
    EvM X F_slices_SortStableFunc_int_int [.rsl i 0 n n 1, .clo f [] [.ptr r 0]] H fun _ H' => ∃ Z, H' = H.set i (rowB Z) ∧ Srt c 0 n Z := by
  refine evM_of_wpc hs (A_slices_SortStableFunc_int_int_ok hX) ?_
  simp only [A_slices_SortStableFunc_int_int, go_sem, Nat.reduceMod, Nat.reduceBNe, Nat.reduceBEq, Nat.reduceEqDiff, Nat.reduceAdd, Int.reduceAdd, Nat.reduceMul, Nat.reduceSub, Int.reduceToNat, Int.reduceLE, Int.reduceLT, Int.reduceEq, Int.reduceNe, reduceCtorEq, Nat.reduceLT, Nat.reduceLeDiff]
  refine call_evm (ev_stable hX hs f r rb c i n hc hir hn H hr hH) ?_
  rintro r1 H1 ⟨Z, rfl, z⟩
  simp only [go_sem, Nat.reduceMod, Nat.reduceBNe, Nat.reduceBEq, Nat.reduceEqDiff, Nat.reduceAdd, Int.reduceAdd, Nat.reduceMul, Nat.reduceSub, Int.reduceToNat, Int.reduceLE, Int.reduceLT, Int.reduceEq, Int.reduceNe, reduceCtorEq, Nat.reduceLT, Nat.reduceLeDiff]
  exact ⟨Z, rfl, z⟩
end
end Go.Avm

/- Ranked rows. -/
namespace Go.Avm
open Go Go.Tb
set_option maxRecDepth 10000
def rankB (l : List Int) : Blk := .box [.ifc 65 (lst (AV.int .i64) .ro l)]
theorem ordL_srt (l : List Int) : Srt (cellA l) 0 l.length (ordL l) := ⟨sortL_perm _ _, sortL_sorted (rg_lt _ _)⟩
theorem ordL_eq {l Z : List Int} (h : Srt (cellA l) 0 l.length Z) : Z = ordL l := sorted_unique h.srt (ordL_srt l).srt (h.perm.trans (ordL_srt l).perm.symm)
theorem ev_of_wpcDd {X : Cx} (hs : Std X) {f : FuncId} {hint : Nat → Bool} {af : AFun} (hc : compileFun X.P f hint = some af) {args : List AV} {r : AV} (k : Nat)
    (h : wpc X af.n af.code (kq X af.n (RetIs af.res fun r' H' => dry (fin H' k r') = r) []) (FL.get (args.zipIdx.map fun p => (p.2, p.1))) [.dead]) : Ev X f args r := by
  have h0 := (evM_of_wpcD (Hin := []) hs hc h).evF
  exact ⟨h0.1, fun g w vs h1 h2 h3 => (h0.2 g w vs h1 h2 h3).mono fun e w' ⟨v, r', g', H', k1, k2, k3, k4, k5, k6⟩ => by
    subst k6
    exact ⟨v, _, finG g' w', [], k1, finG_flat ▸ dry_rel _ (fin_rel k4 k r' k2), finG_wf k3, hr_nil (fun _ => rfl) (fun _ => rfl) (fun _ => rfl), k5.trans finG_ext, rfl, rfl⟩⟩
section
variable {X : Cx} (hX : X.P = Go.Proofs.Tryz.prog) (hs : Std X)
include hX hs
theorem ev_before (l : List Int) (x y : Int) (hx : 0 ≤ x ∧ x < l.length) (hy : 0 ≤ y ∧ y < l.length) : Ev X F_tables_byCells_before [lst (AV.int .i64) .ro l, .int .i64 x, .int .i64 y] (.bool (decide (cellA l x < cellA l y))) := by
  refine ev_of_wpc hs (A_tables_byCells_before_ok hX) 0 ?_
  simp only [A_tables_byCells_before, go_sem, Nat.reduceMod, Nat.reduceBNe, Nat.reduceBEq, Nat.reduceEqDiff, Nat.reduceAdd, Int.reduceAdd, Nat.reduceMul, Nat.reduceSub, Int.reduceToNat, Int.reduceLE, Int.reduceLT, Int.reduceEq, Int.reduceNe, reduceCtorEq, Nat.reduceLT, Nat.reduceLeDiff]
  exact ⟨hx, hy, rfl⟩
theorem cmp_ranked (l : List Int) (r : Nat) : CmpC X F_tables_ranked_1 r l.length (rankB l) (cellA l) where
  ev H x y hr hx hy := by
    refine evM_of_wpc hs (A_tables_ranked_1_ok hX) ?_
    unfold rankB at hr
    simp only [A_tables_ranked_1, go_sem, Nat.reduceMod, Nat.reduceBNe, Nat.reduceBEq, Nat.reduceEqDiff, Nat.reduceAdd, Int.reduceAdd, Nat.reduceMul, Nat.reduceSub, Int.reduceToNat, Int.reduceLE, Int.reduceLT, Int.reduceEq, Int.reduceNe, reduceCtorEq, Nat.reduceLT, Nat.reduceLeDiff, hr]
    refine call_ev (ev_before hX hs l x y hx hy) ?_
    by_cases h1 : cellA l x < cellA l y
    · simp only [go_sem, Nat.reduceMod, Nat.reduceBNe, Nat.reduceBEq, Nat.reduceEqDiff, Nat.reduceAdd, Int.reduceAdd, Nat.reduceMul, Nat.reduceSub, Int.reduceToNat, Int.reduceLE, Int.reduceLT, Int.reduceEq, Int.reduceNe, reduceCtorEq, Nat.reduceLT, Nat.reduceLeDiff, h1, decide_true]
      unfold cmpI; rw [if_pos h1]
    · simp only [go_sem, Nat.reduceMod, Nat.reduceBNe, Nat.reduceBEq, Nat.reduceEqDiff, Nat.reduceAdd, Int.reduceAdd, Nat.reduceMul, Nat.reduceSub, Int.reduceToNat, Int.reduceLE, Int.reduceLT, Int.reduceEq, Int.reduceNe, reduceCtorEq, Nat.reduceLT, Nat.reduceLeDiff, h1, decide_false, hr]
      refine call_ev (ev_before hX hs l y x hy hx) ?_
      by_cases h2 : cellA l y < cellA l x
      · simp only [go_sem, Nat.reduceMod, Nat.reduceBNe, Nat.reduceBEq, Nat.reduceEqDiff, Nat.reduceAdd, Int.reduceAdd, Nat.reduceMul, Nat.reduceSub, Int.reduceToNat, Int.reduceLE, Int.reduceLT, Int.reduceEq, Int.reduceNe, reduceCtorEq, Nat.reduceLT, Nat.reduceLeDiff, h2, decide_true]
        unfold cmpI; rw [if_neg h1, if_pos h2]
      · simp only [go_sem, Nat.reduceMod, Nat.reduceBNe, Nat.reduceBEq, Nat.reduceEqDiff, Nat.reduceAdd, Int.reduceAdd, Nat.reduceMul, Nat.reduceSub, Int.reduceToNat, Int.reduceLE, Int.reduceLT, Int.reduceEq, Int.reduceNe, reduceCtorEq, Nat.reduceLT, Nat.reduceLeDiff, h2, decide_false]
        unfold cmpI; rw [if_neg h1, if_neg h2]
theorem ev_ranked (l : List Int) (hl : l.length < 1000000) : Ev X F_tables_ranked [.int .i64 l.length, .ifc 65 (lst (AV.int .i64) .ro l)] (lst (AV.int .i64) .ro (ordL l)) := by
  refine ev_of_wpcDd hs (A_tables_ranked_ok hX) 1 ?_
  simp only [A_tables_ranked, go_sem, Nat.reduceMod, Nat.reduceBNe, Nat.reduceBEq, Nat.reduceEqDiff, Nat.reduceAdd, Int.reduceAdd, Nat.reduceMul, Nat.reduceSub, Int.reduceToNat, Int.reduceLE, Int.reduceLT, Int.reduceEq, Int.reduceNe, reduceCtorEq, Nat.reduceLT, Nat.reduceLeDiff]
  refine ⟨⟨⟨⟨by omega, by omega⟩, by omega⟩, by omega⟩, ?_⟩
  refine w_loop' hs.hm (ι := Nat) (fun k => k ≤ l.length) (fun k => [(11, .int .i64 k), (10, .int .i64 l.length), (9, .rsl 2 0 l.length l.length 1), (5, .rsl 2 0 l.length l.length 1), (3, .ptr 1 0)]) (fun k => [.dead, rankB l, rowB (rg 0 k ++ List.replicate (l.length - k) 0)]) (fun k => l.length - k) 0 ?_ fun k hk => ?_
  · simp only [go_sem, Nat.reduceMod, Nat.reduceBNe, Nat.reduceBEq, Nat.reduceEqDiff, Nat.reduceAdd, Int.reduceAdd, Nat.reduceMul, Nat.reduceSub, Int.reduceToNat, Int.reduceLE, Int.reduceLT, Int.reduceEq, Int.reduceNe, reduceCtorEq, Nat.reduceLT, Nat.reduceLeDiff]
    refine ⟨Nat.zero_le _, ?_⟩
    have e : rg 0 0 = [] := rfl
    rw [e, List.nil_append, Nat.sub_zero]
    unfold rowB
    rw [List.map_replicate]
    rfl
  by_cases hkl : k < l.length
  · have hkl' : (k : Int) < l.length := by omega
    have hw : IntKind.i64.wrap ((k : Int) + 1) = ((k + 1 : Nat) : Int) := by rw [wi64 (by omega)]; omega
    have hdl : (rg 0 k ++ List.replicate (l.length - k) 0).length = l.length := by rw [List.length_append, rg_len, List.length_replicate]; omega
    simp only [A_tables_rankedL0, go_sem, Nat.reduceMod, Nat.reduceBNe, Nat.reduceBEq, Nat.reduceEqDiff, Nat.reduceAdd, Int.reduceAdd, Nat.reduceMul, Nat.reduceSub, Int.reduceToNat, Int.reduceLE, Int.reduceLT, Int.reduceEq, Int.reduceNe, reduceCtorEq, Nat.reduceLT, Nat.reduceLeDiff, hkl', hw, ix_r, rowB, rw_len, hdl, cs_c, cs_n]
    refine ⟨by omega, by omega, k + 1, by omega, hkl, rfl, ?_⟩
    have e : (rg 0 k ++ List.replicate (l.length - k) 0).set k (k : Int) = rg 0 (k + 1) ++ List.replicate (l.length - (k + 1)) 0 := by
      obtain ⟨m, hm⟩ : ∃ m, l.length - k = m + 1 := ⟨l.length - k - 1, by omega⟩
      have e1 : rg k (k + 1) = [(k : Int)] := by unfold rg; rw [show k + 1 - k = 1 by omega]; rfl
      have e2 := rg_len 0 k
      rw [Nat.sub_zero] at e2
      rw [hm, show l.length - (k + 1) = m by omega, List.replicate_succ, rg_app (Nat.zero_le k) (Nat.le_succ k), e1, List.set_append_right _ _ (by omega), e2, Nat.sub_self, List.set_cons_zero]
      simp
    have e3 := rw_set (rg 0 k ++ List.replicate (l.length - k) 0) k (k : Int)
    rw [e] at e3
    rw [show AV.int .i64 (k : Int) = iv k from rfl, e3]
  · have hkl' : ¬ (k : Int) < l.length := by omega
    have ek : k = l.length := by omega
    subst ek
    simp only [A_tables_rankedL0, go_sem, Nat.reduceMod, Nat.reduceBNe, Nat.reduceBEq, Nat.reduceEqDiff, Nat.reduceAdd, Int.reduceAdd, Nat.reduceMul, Nat.reduceSub, Int.reduceToNat, Int.reduceLE, Int.reduceLT, Int.reduceEq, Int.reduceNe, reduceCtorEq, Nat.reduceLT, Nat.reduceLeDiff, hkl', Nat.sub_self, List.replicate_zero, List.append_nil]
    refine call_evm (ev_SortStable hX hs F_tables_ranked_1 1 (rankB l) (cellA l) 2 l.length (cmp_ranked hX hs l 1) (by decide) hl _ rfl rfl) ?_
    rintro r1 H1 ⟨Z, rfl, z⟩
    simp only [go_sem, Nat.reduceMod, Nat.reduceBNe, Nat.reduceBEq, Nat.reduceEqDiff, Nat.reduceAdd, Int.reduceAdd, Nat.reduceMul, Nat.reduceSub, Int.reduceToNat, Int.reduceLE, Int.reduceLT, Int.reduceEq, Int.reduceNe, reduceCtorEq, Nat.reduceLT, Nat.reduceLeDiff]
    rw [ordL_eq z]
    have hol := (ordL_srt l).len
    rw [Nat.sub_zero] at hol
    have hall : ((ordL l).map iv).all scalarB = true := by rw [List.all_map]; simp [List.all_eq_true, sc_iv]
    have hlen : ((ordL l).map iv).length = l.length := by rw [List.length_map, hol]
    simp only [rowB, hall, hlen, Nat.le_refl, decide_true, Bool.true_and, Bool.true_or, cond_true]
    rw [← hlen, List.take_length, List.map_map]
    rfl
end
end Go.Avm
