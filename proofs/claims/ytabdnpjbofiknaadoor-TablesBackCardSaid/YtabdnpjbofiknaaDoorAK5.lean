/- The law Back. -/
import Derived.Test.YtabdnpjbofiknaaDoorAK4
import Derived.Test.YtabdnpjbofiknaaDoorAZ2
import Derived.Test.YtabdnpjbofiknaaDoorA8
set_option linter.all false
/- The law Back. -/
namespace Go.Avm
open Go Go.Tb
set_option maxRecDepth 10000
theorem dry_lst {α : Type} (f : α → AV) (p : Perm) (l : List α) : dry (lst f p l) = lst f .ro l := rfl
section
variable {X : Cx} (hX : X.P = Go.Proofs.Tryd.prog) (hs : Std X) (hP : X.G (sRen.g 17) = some tabQ)
include hX hs hP
set_option maxHeartbeats 4000000 in
theorem ev_LBack (t : Tab) (s : List UInt8) (a : Lat.Arr) (hz : SzT t) (ha : a.c.length ≤ 140737488355328) : Ev X F_law13_TablesBack [tabV t, .str s, arrV a] (.bool true) := by
  refine ev_of_k (evK_of_xa hs (A_law13_TablesBack_ok hX) ?_)
  have hFar := ev_Far hX hs t hz.a
  obtain ⟨ak, ar, al0, al1, ac⟩ := a
  dsimp only at ha
  simp only [A_law13_TablesBack, tabV, arrV] at hFar ⊢
  refine xa_frzN [(3, [lst AV.str .ro t.n, lst arrV .ro t.c]), (5, [.int .i64 ak, .int .i64 ar, .int .i64 al0, .int .i64 al1, lst (AV.int .i64) .ro ac])] (G := [(1, .str s), (6, .bool false)]) (by simp [lowB]) (xa_of_wpc hs.hm _ ?_) ?_
  · simp only [go_sem, Nat.reduceMod, Nat.reduceBNe, Nat.reduceBEq, Nat.reduceEqDiff, Nat.reduceAdd, Int.reduceAdd, Nat.reduceMul, Nat.reduceSub, Int.reduceToNat, Int.reduceLE, Int.reduceLT, Int.reduceEq, Int.reduceNe, reduceCtorEq, Nat.reduceLT, Nat.reduceLeDiff, frAt]
    trivial
  simp only [List.map_cons, List.map_nil, List.cons_append, List.nil_append, dryL, dry, dry_lst]
  cases hf : farT t with
  | true =>
    rw [hf] at hFar
    refine xa_last hs.hm ?_
    simp only [go_sem, Nat.reduceMod, Nat.reduceBNe, Nat.reduceBEq, Nat.reduceEqDiff, Nat.reduceAdd, Int.reduceAdd, Nat.reduceMul, Nat.reduceSub, Int.reduceToNat, Int.reduceLE, Int.reduceLT, Int.reduceEq, Int.reduceNe, reduceCtorEq, Nat.reduceLT, Nat.reduceLeDiff]
    refine call_ev hFar ?_
    simp only [go_sem, Nat.reduceMod, Nat.reduceBNe, Nat.reduceBEq, Nat.reduceEqDiff, Nat.reduceAdd, Int.reduceAdd, Nat.reduceMul, Nat.reduceSub, Int.reduceToNat, Int.reduceLE, Int.reduceLT, Int.reduceEq, Int.reduceNe, reduceCtorEq, Nat.reduceLT, Nat.reduceLeDiff]
    refine call_ev (ev_awake hX hs hP) ?_
    simp only [go_sem, Nat.reduceMod, Nat.reduceBNe, Nat.reduceBEq, Nat.reduceEqDiff, Nat.reduceAdd, Int.reduceAdd, Nat.reduceMul, Nat.reduceSub, Int.reduceToNat, Int.reduceLE, Int.reduceLT, Int.reduceEq, Int.reduceNe, reduceCtorEq, Nat.reduceLT, Nat.reduceLeDiff]
    exact ⟨⟨_, rfl⟩, rfl⟩
  | false =>
  rw [hf] at hFar
  by_cases h100 : (100 : Int) < s.length
  · refine xa_last hs.hm ?_
    simp only [go_sem, Nat.reduceMod, Nat.reduceBNe, Nat.reduceBEq, Nat.reduceEqDiff, Nat.reduceAdd, Int.reduceAdd, Nat.reduceMul, Nat.reduceSub, Int.reduceToNat, Int.reduceLE, Int.reduceLT, Int.reduceEq, Int.reduceNe, reduceCtorEq, Nat.reduceLT, Nat.reduceLeDiff]
    refine call_ev hFar ?_
    simp only [go_sem, Nat.reduceMod, Nat.reduceBNe, Nat.reduceBEq, Nat.reduceEqDiff, Nat.reduceAdd, Int.reduceAdd, Nat.reduceMul, Nat.reduceSub, Int.reduceToNat, Int.reduceLE, Int.reduceLT, Int.reduceEq, Int.reduceNe, reduceCtorEq, Nat.reduceLT, Nat.reduceLeDiff, h100]
    refine call_ev (ev_awake hX hs hP) ?_
    simp only [go_sem, Nat.reduceMod, Nat.reduceBNe, Nat.reduceBEq, Nat.reduceEqDiff, Nat.reduceAdd, Int.reduceAdd, Nat.reduceMul, Nat.reduceSub, Int.reduceToNat, Int.reduceLE, Int.reduceLT, Int.reduceEq, Int.reduceNe, reduceCtorEq, Nat.reduceLT, Nat.reduceLeDiff]
    exact ⟨⟨_, rfl⟩, rfl⟩
  by_cases h500 : (500 : Int) < ac.length
  · refine xa_last hs.hm ?_
    simp only [go_sem, Nat.reduceMod, Nat.reduceBNe, Nat.reduceBEq, Nat.reduceEqDiff, Nat.reduceAdd, Int.reduceAdd, Nat.reduceMul, Nat.reduceSub, Int.reduceToNat, Int.reduceLE, Int.reduceLT, Int.reduceEq, Int.reduceNe, reduceCtorEq, Nat.reduceLT, Nat.reduceLeDiff]
    refine call_ev hFar ?_
    simp only [go_sem, Nat.reduceMod, Nat.reduceBNe, Nat.reduceBEq, Nat.reduceEqDiff, Nat.reduceAdd, Int.reduceAdd, Nat.reduceMul, Nat.reduceSub, Int.reduceToNat, Int.reduceLE, Int.reduceLT, Int.reduceEq, Int.reduceNe, reduceCtorEq, Nat.reduceLT, Nat.reduceLeDiff, h100, h500]
    refine call_ev (ev_awake hX hs hP) ?_
    simp only [go_sem, Nat.reduceMod, Nat.reduceBNe, Nat.reduceBEq, Nat.reduceEqDiff, Nat.reduceAdd, Int.reduceAdd, Nat.reduceMul, Nat.reduceSub, Int.reduceToNat, Int.reduceLE, Int.reduceLT, Int.reduceEq, Int.reduceNe, reduceCtorEq, Nat.reduceLT, Nat.reduceLeDiff]
    exact ⟨⟨_, rfl⟩, rfl⟩
  obtain ⟨f1, f2, f3, f4⟩ := farT_no hf
  have hl : ∀ a ∈ t.c, a.c.length < 1000000 := fun a ha => by have := f3 a ha; omega
  have hl5 : ac.length < 1000000 := by omega
  have hAdd := ev_Add hX hs t s ⟨ak, ar, al0, al1, ac⟩ hl hl5
  have hDrop := ev_Drop hX hs t s hl
  simp only [tabV, arrV] at hAdd hDrop
  refine xa_cut hs.hm ?_
  simp only [go_sem, Nat.reduceMod, Nat.reduceBNe, Nat.reduceBEq, Nat.reduceEqDiff, Nat.reduceAdd, Int.reduceAdd, Nat.reduceMul, Nat.reduceSub, Int.reduceToNat, Int.reduceLE, Int.reduceLT, Int.reduceEq, Int.reduceNe, reduceCtorEq, Nat.reduceLT, Nat.reduceLeDiff]
  refine call_ev hFar ?_
  simp only [go_sem, Nat.reduceMod, Nat.reduceBNe, Nat.reduceBEq, Nat.reduceEqDiff, Nat.reduceAdd, Int.reduceAdd, Nat.reduceMul, Nat.reduceSub, Int.reduceToNat, Int.reduceLE, Int.reduceLT, Int.reduceEq, Int.reduceNe, reduceCtorEq, Nat.reduceLT, Nat.reduceLeDiff, h100, h500]
  refine xa_cut hs.hm ?_
  simp only [go_sem, Nat.reduceMod, Nat.reduceBNe, Nat.reduceBEq, Nat.reduceEqDiff, Nat.reduceAdd, Int.reduceAdd, Nat.reduceMul, Nat.reduceSub, Int.reduceToNat, Int.reduceLE, Int.reduceLT, Int.reduceEq, Int.reduceNe, reduceCtorEq, Nat.reduceLT, Nat.reduceLeDiff]
  refine call_ev hAdd ?_
  simp only [go_sem, Nat.reduceMod, Nat.reduceBNe, Nat.reduceBEq, Nat.reduceEqDiff, Nat.reduceAdd, Int.reduceAdd, Nat.reduceMul, Nat.reduceSub, Int.reduceToNat, Int.reduceLE, Int.reduceLT, Int.reduceEq, Int.reduceNe, reduceCtorEq, Nat.reduceLT, Nat.reduceLeDiff]
  refine xa_joinR [.dead, .dead, .box [lst AV.str .ro (addR t s ⟨ak, ar, al0, al1, ac⟩).1.n, lst arrV .ro (addR t s ⟨ak, ar, al0, al1, ac⟩).1.c]] hs.hm [(1, .str s), (3, .vp [lst AV.str .ro t.n, lst arrV .ro t.c]), (5, .vp [.int .i64 ak, .int .i64 ar, .int .i64 al0, .int .i64 al1, lst (AV.int .i64) .ro ac])] ?_ fun R => ?_
  · by_cases he : (addR t s ⟨ak, ar, al0, al1, ac⟩).2 = 0
    · obtain ⟨e0, g1, g2⟩ := addR_0 he
      have hlU : ∀ x ∈ (addT t s ⟨ak, ar, al0, al1, ac⟩).c, x.c.length < 1000000 := fun x hx => by
        rcases List.mem_append.1 hx with hx | hx
        · exact hl x hx
        · rw [List.mem_singleton.1 hx]; exact hl5
      have hC := ev_Column hX hs (addT t s ⟨ak, ar, al0, al1, ac⟩) s hlU
      rw [colR_add g1 g2] at hC
      have hD := ev_Drop hX hs (addT t s ⟨ak, ar, al0, al1, ac⟩) s hlU
      rw [dropR_add g1 g2] at hD
      have hs6 := ev_same6 hX hs ⟨ak, ar, al0, al1, ac⟩ ⟨ak, ar, al0, al1, ac⟩ hl5
      rw [sameA_refl] at hs6
      have hs13 := ev_same13 hX hs t t hl (by omega) (by omega)
      rw [sameT_refl] at hs13
      have hF := fun v => ev_Find hX hs (addT t s ⟨ak, ar, al0, al1, ac⟩) s v hlU
      have hfnd := fun k (hk : k < ac.length) => findR_add (a := ⟨ak, ar, al0, al1, ac⟩) g1 g2 hk
      dsimp only at hfnd
      simp only [tabV, arrV] at hC hD hs6 hs13 hF
      rw [e0]
      simp only [go_sem, Nat.reduceMod, Nat.reduceBNe, Nat.reduceBEq, Nat.reduceEqDiff, Nat.reduceAdd, Int.reduceAdd, Nat.reduceMul, Nat.reduceSub, Int.reduceToNat, Int.reduceLE, Int.reduceLT, Int.reduceEq, Int.reduceNe, reduceCtorEq, Nat.reduceLT, Nat.reduceLeDiff]
      refine call_ev hC ?_
      simp only [go_sem, Nat.reduceMod, Nat.reduceBNe, Nat.reduceBEq, Nat.reduceEqDiff, Nat.reduceAdd, Int.reduceAdd, Nat.reduceMul, Nat.reduceSub, Int.reduceToNat, Int.reduceLE, Int.reduceLT, Int.reduceEq, Int.reduceNe, reduceCtorEq, Nat.reduceLT, Nat.reduceLeDiff]
      refine call_ev hD ?_
      simp only [go_sem, Nat.reduceMod, Nat.reduceBNe, Nat.reduceBEq, Nat.reduceEqDiff, Nat.reduceAdd, Int.reduceAdd, Nat.reduceMul, Nat.reduceSub, Int.reduceToNat, Int.reduceLE, Int.reduceLT, Int.reduceEq, Int.reduceNe, reduceCtorEq, Nat.reduceLT, Nat.reduceLeDiff]
      refine call_ev hs6 ?_
      simp only [go_sem, Nat.reduceMod, Nat.reduceBNe, Nat.reduceBEq, Nat.reduceEqDiff, Nat.reduceAdd, Int.reduceAdd, Nat.reduceMul, Nat.reduceSub, Int.reduceToNat, Int.reduceLE, Int.reduceLT, Int.reduceEq, Int.reduceNe, reduceCtorEq, Nat.reduceLT, Nat.reduceLeDiff]
      refine call_ev hs13 ?_
      simp only [go_sem, Nat.reduceMod, Nat.reduceBNe, Nat.reduceBEq, Nat.reduceEqDiff, Nat.reduceAdd, Int.reduceAdd, Nat.reduceMul, Nat.reduceSub, Int.reduceToNat, Int.reduceLE, Int.reduceLT, Int.reduceEq, Int.reduceNe, reduceCtorEq, Nat.reduceLT, Nat.reduceLeDiff]
      refine w_loop' hs.hm (ι := Nat) (fun k => k ≤ ac.length) (fun k => [(13, .int .i64 k), (1, .str s), (3, .vp [lst AV.str .ro t.n, lst arrV .ro t.c]), (5, .vp [.int .i64 ak, .int .i64 ar, .int .i64 al0, .int .i64 al1, lst (AV.int .i64) .ro ac]), (7, .ptr 2 0)])
        (fun _ => [.dead, .dead, .box [lst AV.str .ro (addT t s ⟨ak, ar, al0, al1, ac⟩).n, lst arrV .ro (addT t s ⟨ak, ar, al0, al1, ac⟩).c], .box [.int .i64 ak, .int .i64 ar, .int .i64 al0, .int .i64 al1, lst (AV.int .i64) .ro ac], .box [lst AV.str .ro t.n, lst arrV .ro t.c]]) (fun k => ac.length - k) 0 ?_ fun k hk => ?_
      · simp only [go_sem, Nat.reduceMod, Nat.reduceBNe, Nat.reduceBEq, Nat.reduceEqDiff, Nat.reduceAdd, Int.reduceAdd, Nat.reduceMul, Nat.reduceSub, Int.reduceToNat, Int.reduceLE, Int.reduceLT, Int.reduceEq, Int.reduceNe, reduceCtorEq, Nat.reduceLT, Nat.reduceLeDiff]
        exact Nat.zero_le _
      by_cases hkl : k < ac.length
      · have h1 : (k : Int) < ac.length := by omega
        have hw : IntKind.i64.wrap ((k : Int) + 1) = ((k + 1 : Nat) : Int) := by rw [wi64 (by omega)]; omega
        obtain ⟨r, e1, hrk, e2, e3⟩ := hfnd k hkl
        have hFk := hF (ac.getD k 0)
        rw [e1] at hFk
        have h2 : ¬ (r : Int) < 0 := by omega
        have h3 : ¬ (k : Int) < r := by omega
        have h4 : (r : Int) < ac.length := by omega
        simp only [A_law13_TablesBackL0, go_sem, Nat.reduceMod, Nat.reduceBNe, Nat.reduceBEq, Nat.reduceEqDiff, Nat.reduceAdd, Int.reduceAdd, Nat.reduceMul, Nat.reduceSub, Int.reduceToNat, Int.reduceLE, Int.reduceLT, Int.reduceEq, Int.reduceNe, reduceCtorEq, Nat.reduceLT, Nat.reduceLeDiff, h1, hw, def0]
        refine ⟨by omega, callq_ev hFk ?_⟩
        simp only [go_sem, Nat.reduceMod, Nat.reduceBNe, Nat.reduceBEq, Nat.reduceEqDiff, Nat.reduceAdd, Int.reduceAdd, Nat.reduceMul, Nat.reduceSub, Int.reduceToNat, Int.reduceLE, Int.reduceLT, Int.reduceEq, Int.reduceNe, reduceCtorEq, Nat.reduceLT, Nat.reduceLeDiff, h1, h2, h3, h4, def0, e2, gt_iff_lt]
        refine ⟨by omega, by omega, ?_⟩
        refine w_loop' hs.hm (ι := Nat) (fun i => i ≤ r) (fun i => [(16, .int .i64 i), (14, .int .i64 r), (13, .int .i64 k), (1, .str s), (3, .vp [lst AV.str .ro t.n, lst arrV .ro t.c]), (5, .vp [.int .i64 ak, .int .i64 ar, .int .i64 al0, .int .i64 al1, lst (AV.int .i64) .ro ac]), (7, .ptr 2 0)])
          (fun _ => [.dead, .dead, .box [lst AV.str .ro (addT t s ⟨ak, ar, al0, al1, ac⟩).n, lst arrV .ro (addT t s ⟨ak, ar, al0, al1, ac⟩).c], .box [.int .i64 ak, .int .i64 ar, .int .i64 al0, .int .i64 al1, lst (AV.int .i64) .ro ac], .box [lst AV.str .ro t.n, lst arrV .ro t.c]]) (fun i => r - i) 0 ?_ fun i hi => ?_
        · simp only [go_sem, Nat.reduceMod, Nat.reduceBNe, Nat.reduceBEq, Nat.reduceEqDiff, Nat.reduceAdd, Int.reduceAdd, Nat.reduceMul, Nat.reduceSub, Int.reduceToNat, Int.reduceLE, Int.reduceLT, Int.reduceEq, Int.reduceNe, reduceCtorEq, Nat.reduceLT, Nat.reduceLeDiff]
          exact Nat.zero_le _
        by_cases hir : i < r
        · have i1 : (i : Int) < r := by omega
          have i2 : (i : Int) < ac.length := by omega
          have iw : IntKind.i64.wrap ((i : Int) + 1) = ((i + 1 : Nat) : Int) := by rw [wi64 (by omega)]; omega
          have i3 := e3 i hir
          simp only [A_law13_TablesBackL1, go_sem, Nat.reduceMod, Nat.reduceBNe, Nat.reduceBEq, Nat.reduceEqDiff, Nat.reduceAdd, Int.reduceAdd, Nat.reduceMul, Nat.reduceSub, Int.reduceToNat, Int.reduceLE, Int.reduceLT, Int.reduceEq, Int.reduceNe, reduceCtorEq, Nat.reduceLT, Nat.reduceLeDiff, i1, i2, h1, iw, def0, i3]
          exact ⟨by omega, by omega, i + 1, by omega, hir, rfl⟩
        · have i1 : ¬ (i : Int) < r := by omega
          simp only [A_law13_TablesBackL1, go_sem, Nat.reduceMod, Nat.reduceBNe, Nat.reduceBEq, Nat.reduceEqDiff, Nat.reduceAdd, Int.reduceAdd, Nat.reduceMul, Nat.reduceSub, Int.reduceToNat, Int.reduceLE, Int.reduceLT, Int.reduceEq, Int.reduceNe, reduceCtorEq, Nat.reduceLT, Nat.reduceLeDiff, i1]
          exact ⟨k + 1, by omega, hkl, by rw [hw]⟩
      · have h1 : ¬ (k : Int) < ac.length := by omega
        simp only [A_law13_TablesBackL0, go_sem, Nat.reduceMod, Nat.reduceBNe, Nat.reduceBEq, Nat.reduceEqDiff, Nat.reduceAdd, Int.reduceAdd, Nat.reduceMul, Nat.reduceSub, Int.reduceToNat, Int.reduceLE, Int.reduceLT, Int.reduceEq, Int.reduceNe, reduceCtorEq, Nat.reduceLT, Nat.reduceLeDiff, h1]
        exact ⟨_, rfl⟩
    · simp only [go_sem, Nat.reduceMod, Nat.reduceBNe, Nat.reduceBEq, Nat.reduceEqDiff, Nat.reduceAdd, Int.reduceAdd, Nat.reduceMul, Nat.reduceSub, Int.reduceToNat, Int.reduceLE, Int.reduceLT, Int.reduceEq, Int.reduceNe, reduceCtorEq, Nat.reduceLT, Nat.reduceLeDiff, he]
      exact ⟨_, rfl⟩
  · simp only [List.cons_append, List.nil_append]
    by_cases he : (atI t s).2 = 0
    · obtain ⟨j, e0, hj, hg, hn⟩ := dropR_0 he
      subst hn
      have hg' := good_drop hg hj
      have hlD : ∀ x ∈ (dropT t j).c, x.c.length < 1000000 := fun x hx => hl x (List.mem_of_mem_eraseIdx hx)
      have hC := fun s' => ev_Column hX hs (dropT t j) s' hlD
      have hC0 := hC (t.nm j)
      rw [colR_gone hg hj] at hC0
      have hleft := fun i (hi : i < t.n.length) => colR_left hg hj hi
      have hdl := drop_len hj
      have heq := hg.eq
      simp only [tabV, arrV, zeroA] at hC0
      simp only [tabV] at hC
      rw [e0] at hDrop
      have hwd : IntKind.i64.wrap ((t.n.length : Int) - 1) = ((dropT t j).n.length : Int) := by rw [wi64 (by omega)]; omega
      refine xa_frzN [(17, [lst AV.str .ro (dropT t j).n, lst arrV .ro (dropT t j).c])] (G := [(1, .str (t.nm j)), (3, .vp [lst AV.str .ro t.n, lst arrV .ro t.c]), (5, .vp [.int .i64 ak, .int .i64 ar, .int .i64 al0, .int .i64 al1, lst (AV.int .i64) .ro ac]), (8, .int .i64 0)]) (by simp [lowB]) (xa_last hs.hm ?_) ?_
      · dsimp only at hDrop
        simp only [go_sem, Nat.reduceMod, Nat.reduceBNe, Nat.reduceBEq, Nat.reduceEqDiff, Nat.reduceAdd, Int.reduceAdd, Nat.reduceMul, Nat.reduceSub, Int.reduceToNat, Int.reduceLE, Int.reduceLT, Int.reduceEq, Int.reduceNe, reduceCtorEq, Nat.reduceLT, Nat.reduceLeDiff]
        refine call_ev hDrop ?_
        simp only [go_sem, Nat.reduceMod, Nat.reduceBNe, Nat.reduceBEq, Nat.reduceEqDiff, Nat.reduceAdd, Int.reduceAdd, Nat.reduceMul, Nat.reduceSub, Int.reduceToNat, Int.reduceLE, Int.reduceLT, Int.reduceEq, Int.reduceNe, reduceCtorEq, Nat.reduceLT, Nat.reduceLeDiff, frAt]
      simp only [List.map_cons, List.map_nil, List.cons_append, List.nil_append, dryL, dry, dry_lst]
      refine xa_last hs.hm ?_
      simp only [go_sem, Nat.reduceMod, Nat.reduceBNe, Nat.reduceBEq, Nat.reduceEqDiff, Nat.reduceAdd, Int.reduceAdd, Nat.reduceMul, Nat.reduceSub, Int.reduceToNat, Int.reduceLE, Int.reduceLT, Int.reduceEq, Int.reduceNe, reduceCtorEq, Nat.reduceLT, Nat.reduceLeDiff]
      refine call_ev hC0 ?_
      simp only [go_sem, Nat.reduceMod, Nat.reduceBNe, Nat.reduceBEq, Nat.reduceEqDiff, Nat.reduceAdd, Int.reduceAdd, Nat.reduceMul, Nat.reduceSub, Int.reduceToNat, Int.reduceLE, Int.reduceLT, Int.reduceEq, Int.reduceNe, reduceCtorEq, Nat.reduceLT, Nat.reduceLeDiff, hwd]
      refine w_loop' hs.hm (ι := Nat × Heap) (fun x => x.1 ≤ t.n.length) (fun x => [(20, .int .i64 x.1), (1, .str (t.nm j)), (3, .vp [lst AV.str .ro t.n, lst arrV .ro t.c]), (17, .vp [lst AV.str .ro (dropT t j).n, lst arrV .ro (dropT t j).c])]) (fun x => x.2) (fun x => t.n.length - x.1) (0, .dead :: .dead :: .box [lst AV.str .ro (addR t (t.nm j) ⟨ak, ar, al0, al1, ac⟩).1.n, lst arrV .ro (addR t (t.nm j) ⟨ak, ar, al0, al1, ac⟩).1.c] :: (R ++ [.dead] ++ [.box [.int .i64 0, .int .i64 0, .int .i64 0, .int .i64 0, lst (AV.int .i64) .ro []]])) ?_ fun x hx => ?_
      · simp only [go_sem, Nat.reduceMod, Nat.reduceBNe, Nat.reduceBEq, Nat.reduceEqDiff, Nat.reduceAdd, Int.reduceAdd, Nat.reduceMul, Nat.reduceSub, Int.reduceToNat, Int.reduceLE, Int.reduceLT, Int.reduceEq, Int.reduceNe, reduceCtorEq, Nat.reduceLT, Nat.reduceLeDiff]
        exact Nat.zero_le _
      obtain ⟨i, HH⟩ := x
      dsimp only at hx ⊢
      by_cases hi : i < t.n.length
      · have h1 : (i : Int) < t.n.length := by omega
        have h2 : (i : Int) < t.c.length := by omega
        have hw : IntKind.i64.wrap ((i : Int) + 1) = ((i + 1 : Nat) : Int) := by rw [wi64 (by omega)]; omega
        have hdn : t.n.getD i default = t.nm i := rfl
        have hCi := hC (t.nm i)
        simp only [A_law13_TablesBackL2, go_sem, Nat.reduceMod, Nat.reduceBNe, Nat.reduceBEq, Nat.reduceEqDiff, Nat.reduceAdd, Int.reduceAdd, Nat.reduceMul, Nat.reduceSub, Int.reduceToNat, Int.reduceLE, Int.reduceLT, Int.reduceEq, Int.reduceNe, reduceCtorEq, Nat.reduceLT, Nat.reduceLeDiff, h1, hw, hdn]
        by_cases hne : t.nm i = t.nm j
        · generalize colR (dropT t j) (t.nm i) = cr at hCi
          obtain ⟨⟨bk, br, bl0, bl1, bc⟩, be⟩ := cr
          simp only [arrV] at hCi
          refine ⟨by omega, callq_ev hCi ?_⟩
          simp only [go_sem, Nat.reduceMod, Nat.reduceBNe, Nat.reduceBEq, Nat.reduceEqDiff, Nat.reduceAdd, Int.reduceAdd, Nat.reduceMul, Nat.reduceSub, Int.reduceToNat, Int.reduceLE, Int.reduceLT, Int.reduceEq, Int.reduceNe, reduceCtorEq, Nat.reduceLT, Nat.reduceLeDiff, h1, h2, hw, hdn, hne]
          exact ⟨by omega, (i + 1, _), by dsimp only; omega, hi, rfl, rfl⟩
        · have hlf := hleft i hi hne
          rw [hlf] at hCi
          have hs6 := ev_same6 hX hs (t.col i) (t.col i) (hl _ (col_mem (by omega)))
          rw [sameA_refl] at hs6
          have hci : ∀ d, t.c.getD i d = t.col i := fun d => col_eq t i (by omega) d
          simp only [arrV] at hCi hs6
          refine ⟨by omega, callq_ev hCi ?_⟩
          simp only [go_sem, Nat.reduceMod, Nat.reduceBNe, Nat.reduceBEq, Nat.reduceEqDiff, Nat.reduceAdd, Int.reduceAdd, Nat.reduceMul, Nat.reduceSub, Int.reduceToNat, Int.reduceLE, Int.reduceLT, Int.reduceEq, Int.reduceNe, reduceCtorEq, Nat.reduceLT, Nat.reduceLeDiff, h1, h2, hw, hdn, hne, hci, arr_cells]
          refine ⟨by omega, by omega, callq_ev hs6 ?_⟩
          simp only [go_sem, Nat.reduceMod, Nat.reduceBNe, Nat.reduceBEq, Nat.reduceEqDiff, Nat.reduceAdd, Int.reduceAdd, Nat.reduceMul, Nat.reduceSub, Int.reduceToNat, Int.reduceLE, Int.reduceLT, Int.reduceEq, Int.reduceNe, reduceCtorEq, Nat.reduceLT, Nat.reduceLeDiff, hw]
          exact ⟨(i + 1, _), by dsimp only; omega, hi, rfl, rfl⟩
      · have h1 : ¬ (i : Int) < t.n.length := by omega
        simp only [A_law13_TablesBackL2, go_sem, Nat.reduceMod, Nat.reduceBNe, Nat.reduceBEq, Nat.reduceEqDiff, Nat.reduceAdd, Int.reduceAdd, Nat.reduceMul, Nat.reduceSub, Int.reduceToNat, Int.reduceLE, Int.reduceLT, Int.reduceEq, Int.reduceNe, reduceCtorEq, Nat.reduceLT, Nat.reduceLeDiff, h1]
        refine call_ev (ev_awake hX hs hP) ?_
        simp only [go_sem, Nat.reduceMod, Nat.reduceBNe, Nat.reduceBEq, Nat.reduceEqDiff, Nat.reduceAdd, Int.reduceAdd, Nat.reduceMul, Nat.reduceSub, Int.reduceToNat, Int.reduceLE, Int.reduceLT, Int.reduceEq, Int.reduceNe, reduceCtorEq, Nat.reduceLT, Nat.reduceLeDiff]
        exact ⟨⟨_, rfl⟩, rfl⟩
    · have e0 : dropR t s = (zeroT, (atI t s).2) := if_pos he
      rw [e0] at hDrop
      refine xa_last hs.hm ?_
      simp only [go_sem, Nat.reduceMod, Nat.reduceBNe, Nat.reduceBEq, Nat.reduceEqDiff, Nat.reduceAdd, Int.reduceAdd, Nat.reduceMul, Nat.reduceSub, Int.reduceToNat, Int.reduceLE, Int.reduceLT, Int.reduceEq, Int.reduceNe, reduceCtorEq, Nat.reduceLT, Nat.reduceLeDiff]
      refine call_ev hDrop ?_
      simp only [go_sem, Nat.reduceMod, Nat.reduceBNe, Nat.reduceBEq, Nat.reduceEqDiff, Nat.reduceAdd, Int.reduceAdd, Nat.reduceMul, Nat.reduceSub, Int.reduceToNat, Int.reduceLE, Int.reduceLT, Int.reduceEq, Int.reduceNe, reduceCtorEq, Nat.reduceLT, Nat.reduceLeDiff, he, zeroT]
      refine call_ev (ev_awake hX hs hP) ?_
      simp only [go_sem, Nat.reduceMod, Nat.reduceBNe, Nat.reduceBEq, Nat.reduceEqDiff, Nat.reduceAdd, Int.reduceAdd, Nat.reduceMul, Nat.reduceSub, Int.reduceToNat, Int.reduceLE, Int.reduceLT, Int.reduceEq, Int.reduceNe, reduceCtorEq, Nat.reduceLT, Nat.reduceLeDiff]
      exact ⟨⟨_, rfl⟩, rfl⟩
end
end Go.Avm
