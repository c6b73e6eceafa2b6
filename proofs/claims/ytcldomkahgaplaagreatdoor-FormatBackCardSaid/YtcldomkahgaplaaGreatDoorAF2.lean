/- Columns of a table. -/
import Derived.Test.YtcldomkahgaplaaGreatDoorAF1
import Derived.Test.YtcldomkahgaplaaGreatDoorM2
set_option linter.all false
namespace Go.Avm
open Go Go.Fm
set_option maxRecDepth 10000
section
variable {X : Cx} (hX : X.P = Go.Proofs.Tryz.prog) (hs : Std X) (hP : X.G (sRen.g 17) = some tabQ)
include hX hs hP
theorem ev_drawn (t : Go.Tb.Tab) (hv : ∀ a ∈ t.c, ∀ v ∈ a.c, -9223372036854775808 ≤ v ∧ v ≤ 9223372036854775807) (hl : ∀ a ∈ t.c, a.c.length < 1000000) :
  Ev X F_fo_drawn [tabV t] (.tuple [lst colV .ro (drawnR t).1, .int .i64 (drawnR t).2]) := by
 refine ev_of_k (evK_of_wpc hs (A_fo_drawn_ok hX) ?_)
 simp only [A_fo_drawn, tabV, go_sem, Nat.reduceEqDiff, Nat.reduceAdd, reduceCtorEq]
 refine call_ev (ev_Check hX hs t hl) ?_
 by_cases h : (Go.Tb.chk t).2 = 0
 ·have hg := Go.Tb.chk_good.1 h
  have e0 : drawnR t = (drawnL t t.c.length, 0) := by unfold drawnR; rw [if_neg (by omega)]
  rw [e0]
  simp only [go_sem, Nat.reduceEqDiff, Nat.reduceAdd, reduceCtorEq, Nat.reduceLT, h]
  refine w_loop hs.hm (ι := Nat × Heap) (fun x => x.1 ≤ t.c.length) (fun x => [(20, .int .i64 x.1), (19, .int .i64 t.c.length), (18, lst arrV .ro t.c), (1, .ptr 0 0), (6, lst colV (.tok 1 3) (drawnL t x.1))]) (fun x => .box [lst AV.str .ro t.n, lst arrV .ro t.c] :: .tok x.1 :: x.2) (fun x => t.c.length - x.1) (0, []) ⟨Nat.zero_le _, _, _, wk_tok 6 3 rfl, ?_⟩ fun x hx => ?_
  ·exact ⟨⟨rfl, rfl, rfl, rfl, rfl, trivial⟩, rfl⟩
  obtain ⟨k, G⟩ := x
  dsimp only at hx ⊢
  have h16 := hg.len
  have heq := hg.eq
  by_cases hk : k < t.c.length
  ·have h1 : (k : Int) < t.c.length := by omega
   have h2 : (k : Int) < t.n.length := by omega
   have hw : IntKind.i64.wrap ((k : Int) + 1) = ((k + 1 : Nat) : Int) := by rw [wi64 (by omega)]; omega
   have hcm := col_mem hk
   have hnm : (t.n.getD k default).length ≤ 1000 := by
    rw [nm_eq t k (by omega)]
    have := Go.Tb.nm_len (Go.Tb.colE_0 (hg.col k (by omega))).1
    omega
   have e := drawnL_succ t k
   have hdl := drawnL_len t k
   simp only [A_fo_drawnL0, go_sem, Nat.reduceEqDiff, Nat.reduceAdd, Nat.reduceLT, h1, h2]
   rw [col_eq t k hk]
   simp only [arr_cells, go_sem, Nat.reduceAdd, Nat.reduceLT]
   refine ⟨by omega, by omega, callq_ev (ev_stacked hX hs hP _ _ _ (hv _ hcm) (hl _ hcm) hnm) ?_⟩
   simp only [go_sem, Nat.reduceMod, Nat.reduceBNe, Nat.reduceEqDiff, Nat.reduceLT, Nat.reduceLeDiff, ax1_col, dry_col, app1, hdl, ← e]
   exact ⟨⟨rfl, rfl⟩, ⟨by omega, by omega⟩, (k + 1, _), by dsimp only; omega, hk, ⟨by rw [hw], rfl⟩, rfl⟩
  ·have h1 : ¬ (k : Int) < t.c.length := by omega
   simp only [A_fo_drawnL0, go_sem, Nat.reduceEqDiff, h1]
   have ek : k = t.c.length := by omega
   subst ek
   exact ⟨⟨_, rfl⟩, rfl⟩
 ·have e0 : drawnR t = ([], (Go.Tb.chk t).2) := if_pos h
  rw [e0]
  simp only [go_sem, Nat.reduceEqDiff, Nat.reduceAdd, reduceCtorEq, Nat.reduceLT, h]
  exact ⟨⟨_, rfl⟩, rfl⟩
end
end Go.Avm
namespace Go.Avm
open Go Go.Fm
set_option maxRecDepth 10000
section
variable {X : Cx} (hX : X.P = Go.Proofs.Tryz.prog) (hs : Std X) (hP : X.G (sRen.g 17) = some tabQ)
include hX hs
theorem m_line (cs : List Col) (f : Nat) (caps : List AV) (g : Nat → List UInt8) (H : Heap) (i j : Nat) (s : List UInt8) (hi : H[i]? = some (.box [lst colV .ro cs])) (hj : H[j]? = some (.bld 61 5 s))
  (hf : ∀ n, n < cs.length → ∀ K : Heap, EvK X f (.int .i64 n :: colV (colAt cs n) :: caps) (H ++ K) (.str (g n))) (hg : ∀ n, n < cs.length → (g n).length ≤ 1000) (hsl : s.length ≤ 1000000000) (hm : cs.length ≤ 400) :
  EvM X F_fo_Table_1 [.clo f [] caps, .ptr i 0, .ptr j 0] H fun _ H' => ∃ K, H' = H.set j (.bld 61 5 (s ++ lineP g cs.length)) ++ K := by
 refine evM_of_wpc hs (A_fo_Table_1_ok hX) ?_
 simp only [A_fo_Table_1, go_sem, Nat.reduceEqDiff, Nat.reduceAdd, reduceCtorEq, Nat.reduceLT, hi]
 refine w_loop hs.hm (ι := Nat × Heap) (fun x => x.1 ≤ cs.length) (fun x => [(9, .int .i64 x.1), (8, .int .i64 cs.length), (7, lst colV .ro cs), (0, .clo f [] caps), (2, .ptr j 0), (4, lst AV.str (.tok H.length 1) ((List.range x.1).map g))]) (fun x => H ++ .tok x.1 :: x.2) (fun x => cs.length - x.1) (0, []) ⟨Nat.zero_le _, _, _, wk_tok 4 1 rfl, ?_⟩ fun x hx => ?_
 ·exact ⟨⟨rfl, rfl, rfl, rfl, rfl, rfl, trivial⟩, rfl⟩
 obtain ⟨n, G⟩ := x
 dsimp only at hx ⊢
 by_cases hn : n < cs.length
 ·have h1 : (n : Int) < cs.length := by omega
  have hw : IntKind.i64.wrap ((n : Int) + 1) = ((n + 1 : Nat) : Int) := by rw [wi64 (by omega)]; omega
  have e : (List.range n).map g ++ [g n] = (List.range (n + 1)).map g := by rw [List.range_succ, List.map_append]; rfl
  have hlr : ((List.range n).map g).length = n := by rw [List.length_map, List.length_range]
  have hfn := hf n hn
  unfold colAt at hfn
  simp only [A_fo_Table_1L0, go_sem, Nat.reduceEqDiff, Nat.reduceAdd, reduceCtorEq, h1]
  generalize cs.getD n default = x at hfn
  simp only [col_cells, go_sem, Nat.reduceAdd, List.append_assoc, z1l]
  refine ⟨by omega, call_evm (hfn _) fun r H' ⟨e1, e2⟩ => ?_⟩
  subst e1 e2
  simp only [go_sem, Nat.reduceEqDiff, reduceCtorEq, Nat.reduceLT, Nat.reduceLeDiff, p0g, p0s, app1, hlr, e]
  exact ⟨⟨by omega, by omega⟩, (n + 1, _), by dsimp only; omega, hn, ⟨by rw [hw], by rw [List.range_succ]⟩, rfl⟩
 ·have h1 : ¬ (n : Int) < cs.length := by omega
  simp only [A_fo_Table_1L0, go_sem, Nat.reduceEqDiff, reduceCtorEq, h1]
  have en : n = cs.length := by omega
  subst en
  have hll := lineP_len hg
  have hjl : (Lib.join ((List.range cs.length).map g) [32, 32]).length + 1 = (lineP g cs.length).length := by rw [lineP, List.length_append]; rfl
  refine call_ev (ev_sJoin hX ((List.range cs.length).map g) [32, 32] (by rw [List.length_map, List.length_range]; omega) (by omega)) ?_
  simp only [go_sem, Nat.reduceEqDiff, reduceCtorEq, Nat.reduceLeDiff]
  refine ⟨by omega, call_evm (ev_bWS hX (i := j) _ (app_get hj _) (by simp only [List.length_append, List.length_singleton]; omega)) fun r1 H1 ⟨e1, e2⟩ => ?_⟩
  subst e1 e2
  simp only [go_sem]
  rw [List.set_append_left _ _ (List.getElem?_eq_some_iff.1 hj).1]
  exact ⟨_, rfl⟩
theorem k_t2 (ns : List (List UInt8)) (y : AV) (b : Nat) (H : Heap) (n : Nat) (c : Col) (hb : H[b]? = some (.box [lst AV.str .ro ns, y])) (hw : c.w ≤ 1000) (hn : n < ns.length) (hn2 : (ns.getD n []).length ≤ 1000) :
  EvK X F_fo_Table_2 [.int .i64 n, colV c, .ptr b 0] H (.str (padB c.r c.w (ns.getD n []))) := by
 refine evK_of_wpc hs (A_fo_Table_2_ok hX) ?_
 have hbK := app_get hb
 simp only [A_fo_Table_2, col_cells, go_sem, Nat.reduceEqDiff, Nat.reduceAdd, reduceCtorEq, Nat.reduceLT, p0g, hbK]
 refine ⟨rfl, by omega, callq_ev (ev_align hX hs c.r (ns.getD n default) c.w hw (by show (ns.getD n []).length ≤ _; omega)) ?_⟩
 simp only [go_sem, Nat.reduceEqDiff, reduceCtorEq]
 exact ⟨⟨_, rfl⟩, rfl⟩
theorem k_t4 (b : Nat) (H : Heap) (n row : Nat) (c : Col) (hb : H[b]? = some (.box [.int .i64 row])) (hw : c.w ≤ 1000) (hn : row < c.c.length) (hn2 : (c.c.getD row []).length ≤ 1000) :
  EvK X F_fo_Table_4 [.int .i64 n, colV c, .ptr b 0] H (.str (padB c.r c.w (c.c.getD row []))) := by
 refine evK_of_wpc hs (A_fo_Table_4_ok hX) ?_
 have hbK := app_get hb
 simp only [A_fo_Table_4, col_cells, go_sem, Nat.reduceEqDiff, Nat.reduceAdd, reduceCtorEq, Nat.reduceLT, p0g, hbK]
 refine ⟨rfl, by omega, callq_ev (ev_align hX hs c.r (c.c.getD row default) c.w hw (by show (c.c.getD row []).length ≤ _; omega)) ?_⟩
 simp only [go_sem, Nat.reduceEqDiff, reduceCtorEq]
 exact ⟨⟨_, rfl⟩, rfl⟩
theorem ev_t3 (n : Nat) (c : Col) (hw : c.w ≤ 1000) : Ev X F_fo_Table_3 [.int .i64 n, colV c] (.str (List.replicate c.w 45)) := by
 refine ev_of_wpc hs (A_fo_Table_3_ok hX) 1 ?_
 simp only [A_fo_Table_3, col_cells, go_sem, Nat.reduceEqDiff, Nat.reduceAdd, reduceCtorEq, Nat.reduceLT]
 refine ⟨rfl, call_ev (ev_Repeat hX [45] c.w (by omega) (by simp only [List.length_singleton]; omega)) ?_⟩
 simp only [go_sem, Nat.reduceEqDiff, reduceCtorEq, repeat_rep]
include hP
theorem ev_Table (t : Go.Tb.Tab) (hv : ∀ a ∈ t.c, ∀ v ∈ a.c, -9223372036854775808 ≤ v ∧ v ≤ 9223372036854775807) (hl : ∀ a ∈ t.c, a.c.length < 1000000) :
  Ev X F_fo_Table [tabV t] (.tuple [.str (tableR t).1, .int .i64 (tableR t).2]) := by
 refine ev_of_k (evK_of_wpc hs (A_fo_Table_ok hX) ?_)
 have hd := ev_drawn hX hs hP t hv hl
 simp only [A_fo_Table, tabV, go_sem, Nat.reduceEqDiff, Nat.reduceAdd, reduceCtorEq]
 refine call_ev hd ?_
 by_cases h : (Go.Tb.chk t).2 = 0
 ·have hg := Go.Tb.chk_good.1 h
  have e0 : drawnR t = (drawnL t t.c.length, 0) := by unfold drawnR; rw [if_neg (by omega)]
  have hok := tab_ok hg hv
  unfold tableR
  rw [e0]
  dsimp only
  generalize drawnL t t.c.length = cs at hok
  generalize (Go.Tb.many t).toNat = m at hok
  have hc := hok.c
  have hcn := hok.n
  simp only [go_sem, Nat.reduceEqDiff, Nat.reduceAdd, Int.reduceNe, reduceCtorEq, Nat.reduceLT]
  by_cases hcs : cs = []
  ·subst hcs
   simp only [go_sem, List.length_nil]
   exact ⟨⟨_, rfl⟩, rfl⟩
  ·have hpos := List.length_pos_iff.2 hcs
   have h0 : ¬ ((cs.length : Nat) : Int) = 0 := by omega
   rw [if_neg (by simp [hcs])]
   simp only [go_sem, h0]
   refine call_evm (m_line hX hs cs F_fo_Table_2 [.ptr 0 0] (headG t.n cs) _ 1 2 [] rfl rfl (fun n hn K => k_t2 hX hs t.n _ 0 _ n (colAt cs n) rfl (hok.col n hn).w (by omega) (by have := hok.nm n hn; omega)) hok.head (by decide) (by omega)) fun r1 H1 ⟨K1, e1⟩ => ?_
   subst e1
   simp only [go_sem, Nat.reduceEqDiff, reduceCtorEq]
   have hl1 := lineP_len hok.head
   refine call_evm (m_line hX hs cs F_fo_Table_3 [] (dashG cs) _ 1 2 (lineP (headG t.n cs) cs.length) rfl rfl (fun n hn K => evK_of_ev (ev_t3 hX hs n (colAt cs n) (hok.col n hn).w)) hok.dash (by omega) (by omega)) fun r2 H2 ⟨K2, e2⟩ => ?_
   subst e2
   simp only [go_sem, Nat.reduceEqDiff, Int.reduceToNat, Int.reduceLE, reduceCtorEq, Nat.reduceLT]
   have hc0 := (hok.col 0 hpos).len
   have ec0 : cs.getD 0 default = colAt cs 0 := rfl
   rw [ec0]
   simp only [col_cells, go_sem, Nat.reduceEqDiff, reduceCtorEq]
   rw [hc0]
   have hm4 := hok.mm
   refine ⟨by omega, ?_⟩
   refine w_loop hs.hm (ι := Nat × Heap) (fun x => x.1 ≤ m) (fun x => [(33, .int .i64 x.1), (32, .int .i64 (m : Nat)), (6, .ptr 2 0), (7, .clo F_fo_Table_1 [] [.ptr 1 0, .ptr 2 0])]) (fun x => .box [lst AV.str .ro t.n, lst arrV .ro t.c] :: .box [lst colV .ro cs] :: .bld 61 5 (tabP2 t.n cs x.1) :: x.2) (fun x => m - x.1) (0, K1 ++ K2) ⟨Nat.zero_le _, _, _, WkA.refl, ?_⟩ fun x hx => ?_
   ·exact ⟨⟨rfl, rfl, rfl, rfl, trivial⟩, by simp [tabP2, headP]⟩
   obtain ⟨row, G⟩ := x
   dsimp only at hx ⊢
   by_cases hr : row < m
   ·have h1 : (row : Int) < m := by omega
    have hw : IntKind.i64.wrap ((row : Int) + 1) = ((row + 1 : Nat) : Int) := by rw [wi64 (by omega)]; omega
    have htl := hok.len row
    simp only [A_fo_TableL0, go_sem, Nat.reduceEqDiff, h1, gx0, gs0]
    refine call_evm (m_line hX hs cs F_fo_Table_4 [.ptr (G.length + 1 + 1 + 1) 0] (cellG cs row) _ 1 2 (tabP2 t.n cs row) rfl rfl (fun n hn K => k_t4 hX hs _ _ n row (colAt cs n) (by simp only [List.cons_append, List.getElem?_cons_succ, List.append_assoc]; exact gx0 _ _ _) (hok.col n hn).w (by rw [(hok.col n hn).len]; exact hr) ?_) (hok.cell row) (by omega) (by omega)) fun r3 H3 ⟨K3, e3⟩ => ?_
    ·have := (hok.col n hn).all ((colAt cs n).c.getD row []) (by
      rw [List.getD_eq_getElem?_getD, List.getElem?_eq_getElem (by rw [(hok.col n hn).len]; exact hr)]
      exact List.getElem_mem _)
     omega
    ·subst e3
     simp only [go_sem, Nat.reduceEqDiff]
     exact ⟨(row + 1, G ++ [.box [.int .i64 row]] ++ K3), by dsimp only; omega, hr, by rw [hw], by rw [tabP2_succ]⟩
   ·have h1 : ¬ (row : Int) < m := by omega
    simp only [A_fo_TableL0, go_sem, Nat.reduceEqDiff, h1]
    have em : row = m := by omega
    subst em
    refine call_evm (ev_bString hX (i := 2) (l := tabP2 t.n cs row) rfl ?_) fun r H' ⟨e1, e2⟩ => ?_
    ·intro e
     have := congrArg List.length e
     simp [tabP2, headP, lineP] at this
    ·subst e1 e2
     simp only [go_sem, Nat.reduceEqDiff]
     exact ⟨⟨_, rfl⟩, rfl⟩
 ·have e0 : drawnR t = ([], (Go.Tb.chk t).2) := if_pos h
  unfold tableR
  rw [e0]
  dsimp only
  rw [if_pos (.inl h)]
  simp only [go_sem, Nat.reduceEqDiff, Nat.reduceAdd, reduceCtorEq, Nat.reduceLT, h]
  exact ⟨⟨_, rfl⟩, rfl⟩
end
end Go.Avm
namespace Go.Avm
open Go Go.Fm
set_option maxRecDepth 10000
section
variable {X : Cx} (hX : X.P = Go.Proofs.Tryz.prog) (hs : Std X) {te : Nat} (hR : X.G (sRen.g 16) = some [.ifc te .undef])
include hX hs hR
theorem ev_row33 (s : List UInt8) (hl : s.length < 1000000) : Ev X F_fo_row [.str s] (.tuple [lst (AV.int .i64) .ro (rowR s).1, .int .i64 (rowR s).2]) := by
 refine ev_of_k (evK_of_wpc hs (A_fo_row_ok hX) ?_)
 simp only [A_fo_row, go_sem, Nat.reduceEqDiff, reduceCtorEq]
 have hff := ev_FieldsFunc hX s hl
 rw [flds_eq] at hff
 refine call_ev hff ?_
 unfold rowR
 have hfl := fldB_len s
 have hfm : ∀ p ∈ fldB s, p.length ≤ s.length := fun p h => fldB_mlen h
 generalize fldB s = fs at hfl hfm
 simp only [go_sem, Nat.reduceEqDiff, reduceCtorEq]
 refine w_loop hs.hm (ι := Nat) (fun i => i ≤ fs.length ∧ (fs.take i).any (fun f => decide ((gI f).2 = 6)) = false) (fun i => [(11, .int .i64 i), (10, .int .i64 fs.length), (9, lst AV.str .ro fs), (3, .int .i64 (gE (fs.take i))), (2, lst (AV.int .i64) (.tok 0 1) (gN (fs.take i)))]) (fun i => [.tok i]) (fun i => fs.length - i) 0 ⟨⟨Nat.zero_le _, rfl⟩, _, _, wk_tok 2 1 rfl, ?_⟩ fun i hi => ?_
 ·exact ⟨⟨rfl, rfl, rfl, rfl, rfl, trivial⟩, rfl⟩
 obtain ⟨i1, i2⟩ := hi
 by_cases hi' : i < fs.length
 ·have h1 : (i : Int) < fs.length := by omega
  have hw : IntKind.i64.wrap ((i : Int) + 1) = ((i + 1 : Nat) : Int) := by rw [wi64 (by omega)]; omega
  have hlt : (gN (fs.take i)).length = i := by rw [gN, List.length_map, List.length_take]; omega
  have e1 := gE_take hi'
  have e2 := gN_take hi'
  have e3 := Go.Fm.any_take (p := fun f => decide ((gI f).2 = 6)) hi'
  have hfl2 : (fs.getD i []).length < 1000000 := by
   have := hfm (fs.getD i []) (by rw [List.getD_eq_getElem?_getD, List.getElem?_eq_getElem hi']; exact List.getElem_mem _)
   omega
  have ec := gI_e (fs.getD i [])
  simp only [A_fo_rowL0, go_sem, Nat.reduceEqDiff, h1]
  have ed : fs.getD i default = fs.getD i [] := rfl
  rw [ed]
  refine ⟨by omega, call_ev (ev_Int hX hs hR (fs.getD i []) _ _ hfl2) ?_⟩
  have ei : intV (fs.getD i []) (-9223372036854775808) 9223372036854775807 = .tuple [.int .i64 (gI (fs.getD i [])).1, .int .i64 (gI (fs.getD i [])).2] := rfl
  rw [ei]
  generalize hG : gI (fs.getD i []) = G at *
  obtain ⟨v, e⟩ := G
  dsimp only at *
  rcases ec with rfl | rfl | rfl
  ·simp only [go_sem, Nat.reduceEqDiff, Nat.reduceAdd, Int.reduceEq, Nat.reduceLT, Nat.reduceLeDiff, app1, hlt, ← e2, hw]
   exact ⟨⟨by omega, by omega⟩, i + 1, by omega, ⟨hi', by rw [e3, i2]; rfl⟩, ⟨rfl, by rw [e1]; rfl, rfl⟩, rfl⟩
  ·simp only [go_sem, Nat.reduceEqDiff, Nat.reduceAdd, Nat.reduceLT]
   have : rowL fs = ([], 6) := by
    unfold rowL
    rw [if_pos]
    rw [List.any_eq_true]
    exact ⟨fs.getD i [], by rw [List.getD_eq_getElem?_getD, List.getElem?_eq_getElem hi']; exact List.getElem_mem _, by rw [hG]; rfl⟩
   rw [this]
   exact ⟨⟨_, rfl⟩, rfl⟩
  ·simp only [go_sem, Nat.reduceEqDiff, Nat.reduceAdd, Int.reduceEq, Nat.reduceLT, Nat.reduceLeDiff, app1, hlt, ← e2, hw]
   exact ⟨⟨by omega, by omega⟩, i + 1, by omega, ⟨hi', by rw [e3, i2]; rfl⟩, ⟨rfl, by rw [e1]; rfl, rfl⟩, rfl⟩
 ·have h1 : ¬ (i : Int) < fs.length := by omega
  have ei : i = fs.length := by omega
  subst ei
  rw [List.take_length] at i2 ⊢
  simp only [A_fo_rowL0, go_sem, Nat.reduceEqDiff, h1]
  have hlt : (gN fs).length = fs.length := List.length_map _
  by_cases h0 : fs = []
  ·subst h0
   simp only [go_sem, hlt, List.length_nil]
   exact ⟨⟨_, rfl⟩, rfl⟩
  ·have hp := List.length_pos_iff.2 h0
   have h2 : ¬ ((fs.length : Nat) : Int) = 0 := by omega
   have : rowL fs = (gN fs, gE fs) := by
    unfold rowL
    rw [i2, if_neg (by decide), if_neg h0]
   rw [this]
   simp only [go_sem, hlt, h2]
   exact ⟨⟨_, rfl⟩, rfl⟩
end
end Go.Avm
namespace Go.Avm
open Go Go.Fm
set_option maxRecDepth 10000
def grV (p : Lat.Arr × Int × Int) : AV := .tuple [arrV p.1, .int .i64 p.2.1, .int .i64 p.2.2]
section
variable {X : Cx} (hX : X.P = Go.Proofs.Tryz.prog) (hs : Std X) {te : Nat} (hR : X.G (sRen.g 16) = some [.ifc te .undef])
include hX hs hR
theorem ev_Grid (s : List UInt8) (hl : s.length < 1000000) : Ev X F_fo_Grid [.str s] (grV (gridR s)) := by
 refine ev_of_k (evK_of_wpc hs (A_fo_Grid_ok hX) ?_)
 simp only [A_fo_Grid, go_sem, Nat.reduceEqDiff, reduceCtorEq]
 refine call_ev (ev_Lines hX hs s (by omega)) ?_
 unfold gridR
 have hll := lines_len s
 have hlm : ∀ p ∈ (Wo.linesS s).1, p.length ≤ s.length := fun p h => lines_mlen h
 unfold linesV
 generalize Wo.linesS s = L at hll hlm
 obtain ⟨ls, e⟩ := L
 dsimp only at hll hlm ⊢
 by_cases he : e = 0
 ·subst he
  rw [if_neg (by decide)]
  simp only [go_sem, Nat.reduceEqDiff, Nat.reduceAdd, reduceCtorEq, Nat.reduceLT, Nat.reduceLeDiff]
  by_cases h0 : ls = []
  ·subst h0
   simp only [go_sem, List.length_nil]
   exact ⟨⟨_, rfl⟩, rfl⟩
  ·have hp := List.length_pos_iff.2 h0
   have h2 : ¬ ((ls.length : Nat) : Int) = 0 := by omega
   rw [if_neg h0]
   simp only [go_sem, h2]
   refine w_loop hs.hm (ι := Nat × Heap) (fun x => x.1 ≤ ls.length ∧ ∀ j, j < x.1 → rowBad ls j = 0) (fun x => [(28, .int .i64 x.1), (27, .int .i64 ls.length), (26, lst AV.str .ro ls), (2, .ptr 0 0)]) (fun x => .box [.int .i64 1, .int .i64 2, .int .i64 x.1, .int .i64 (if x.1 = 0 then 0 else ((Fm.rowAt ls 0).1.length : Nat)), lst (AV.int .i64) (.tok 1 1) (cellsG ls x.1)] :: .tok (cellsG ls x.1).length :: x.2) (fun x => ls.length - x.1) (0, []) ⟨⟨Nat.zero_le _, no_lt0⟩, _, _, wk_tokb 0 4 1 rfl rfl, ?_⟩ fun x hx => ?_
   ·exact ⟨⟨rfl, rfl, rfl, rfl, trivial⟩, rfl⟩
   obtain ⟨i, G⟩ := x
   obtain ⟨i1, i2⟩ := hx
   dsimp only at i1 i2 ⊢
   by_cases hi : i < ls.length
   ·have h1 : (i : Int) < ls.length := by omega
    have hw : IntKind.i64.wrap ((i : Int) + 1) = ((i + 1 : Nat) : Int) := by rw [wi64 (by omega)]; omega
    have hmem : ls.getD i [] ∈ ls := by rw [List.getD_eq_getElem?_getD, List.getElem?_eq_getElem hi]; exact List.getElem_mem _
    have hlen : (ls.getD i []).length < 1000000 := by have := hlm _ hmem; omega
    have hrl := rowR_len (ls.getD i [])
    have hcl := cellsG_len hlm i
    have hcb : i * (s.length + 1) ≤ 5000 * 1000000 := Nat.mul_le_mul (by omega) (by omega)
    simp only [A_fo_GridL0, go_sem, Nat.reduceEqDiff, h1]
    have ed : ls.getD i default = ls.getD i [] := rfl
    rw [ed]
    refine ⟨by omega, call_ev (ev_row33 hX hs hR (ls.getD i []) hlen) ?_⟩
    have er : rowR (ls.getD i []) = Fm.rowAt ls i := rfl
    rw [er] at hrl ⊢
    simp only [go_sem, Nat.reduceEqDiff, Nat.reduceAdd, Nat.reduceMul, Int.reduceToNat, Int.reduceLE, Int.reduceLT, Nat.reduceLT, Nat.reduceLeDiff]
    have bad : rowBad ls i ≠ 0 → gridL ls = (zA, (i : Int) + 1, rowBad ls i) := fun h => by
     unfold gridL
     rw [Lat.ff_some hi (decide_eq_true h) fun j hj => by rw [i2 j hj]; rfl]
    have go : (Fm.rowAt ls i).2 = 0 → (0 < i → (Fm.rowAt ls i).1.length = (Fm.rowAt ls 0).1.length) → rowBad ls i = 0 := fun h h' => by
     unfold rowBad
     rw [if_neg (by omega), if_neg (fun hc => hc.2 (h' hc.1))]
    have hbd : (cellsG ls i).length + (Fm.rowAt ls i).1.length ≤ 5001000001 := by omega
    have nxt : rowBad ls i = 0 → ∃ j : Nat × Heap, ls.length - j.1 < ls.length - i ∧ (j.1 ≤ ls.length ∧ ∀ k, k < j.1 → rowBad ls k = 0) ∧ AV.int .i64 (IntKind.i64.wrap ((i : Int) + 1)) = AV.int .i64 j.1 ∧ Blk.box [.int .i64 1, .int .i64 2, .int .i64 (IntKind.i64.wrap ((i : Int) + 1)), .int .i64 ((Fm.rowAt ls i).1.length : Nat), lst (AV.int .i64) (.tok 1 1) (cellsG ls i ++ (Fm.rowAt ls i).1)] :: Blk.tok ((cellsG ls i).length + (Fm.rowAt ls i).1.length) :: G = Blk.box [.int .i64 1, .int .i64 2, .int .i64 j.1, .int .i64 (if j.1 = 0 then 0 else ((Fm.rowAt ls 0).1.length : Nat)), lst (AV.int .i64) (.tok 1 1) (cellsG ls j.1)] :: Blk.tok (cellsG ls j.1).length :: j.2 := fun h => by
     refine ⟨(i + 1, G), by dsimp only; omega, ⟨hi, fun k hk => ?_⟩, by rw [hw], ?_⟩
     ·dsimp only at hk
      rcases Nat.lt_or_eq_of_le (Nat.le_of_lt_succ hk) with h' | h'
      ·exact i2 k h'
      ·rw [h']; exact h
     ·dsimp only
      have el : (Fm.rowAt ls i).1.length = (Fm.rowAt ls 0).1.length := by
       rcases Nat.eq_zero_or_pos i with h0 | h0
       ·rw [h0]
       ·exact (rowAt_ok h).2 h0
      rw [hw, if_neg (by omega), cellsG_succ, List.length_append, el]
    refine ⟨fun h => ?_, fun h => ⟨fun h3 => ⟨fun h4 => ?_, fun h4 => ?_⟩, fun h3 => ?_⟩⟩
    ·have eb : rowBad ls i = (Fm.rowAt ls i).2 := if_pos h
     rw [bad (by rw [eb]; exact h), hw, eb]
     exact ⟨⟨_, rfl⟩, rfl⟩
    ·rw [if_neg (by omega)] at h4
     have eb : rowBad ls i = 11 := by unfold rowBad; rw [if_neg (by omega), if_pos ⟨by omega, by omega⟩]
     rw [bad (by rw [eb]; decide), hw, eb]
     exact ⟨⟨_, rfl⟩, rfl⟩
    ·rw [if_neg (by omega)] at h4
     exact ⟨⟨by omega, by omega⟩, nxt (go h fun _ => by omega)⟩
    ·exact ⟨⟨by omega, by omega⟩, nxt (go h fun h0 => by omega)⟩
   ·have h1 : ¬ (i : Int) < ls.length := by omega
    have ei : i = ls.length := by omega
    subst ei
    have hn : Lat.ff ls.length (fun i => decide (rowBad ls i ≠ 0)) = none := Lat.ff_none fun j hj => by rw [i2 j hj]; rfl
    simp only [A_fo_GridL0, go_sem, Nat.reduceEqDiff, Nat.reduceAdd, Nat.reduceLT, h1]
    unfold gridL
    rw [hn]
    dsimp only
    refine ⟨fun hc => ?_, fun hc => ?_⟩
    ·rw [if_pos (by omega)]
     exact ⟨⟨_, rfl⟩, rfl⟩
    ·rw [if_neg (by omega), if_neg (by omega)]
     exact ⟨⟨_, rfl⟩, rfl⟩
 ·rw [if_pos he]
  simp only [go_sem, Nat.reduceEqDiff, Nat.reduceAdd, reduceCtorEq, Nat.reduceLT, he]
  exact ⟨⟨_, rfl⟩, rfl⟩
end
end Go.Avm
