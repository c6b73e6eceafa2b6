/- The reference: Add, Drop. -/
import Derived.Test.YtabdnpjbofiknaaGreatDoorAK4
import Derived.Test.YtabdnpjbofiknaaGreatDoorM1
import Derived.Test.YtabdnpjbofiknaaGreatDoorA8
import Derived.Test.YtabdnpjbofiknaaGreatDoorAK5
import Derived.Test.YtabdnpjbofiknaaGreatDoorAZ2
set_option linter.all false
/- The reference: Add, Drop. -/
namespace Go.Avm
open Go Go.Tb
set_option maxRecDepth 10000
section
variable {X : Cx} (hX : X.P = Go.Proofs.Tryz.prog) (hs : Std X)
include hX hs
theorem ev_r13Add (t : Tab) (s : List UInt8) (a : Lat.Arr) (hl : ∀ a ∈ t.c, a.c.length < 1000000) (ha : a.c.length < 1000000) : Ev X F_ref13_Add [tabV t, .str s, arrV a] (.tuple [tabV (addR t s a).1, .int .i64 (addR t s a).2]) := by
  refine ev_of_k (evK_of_wpc hs (A_ref13_Add_ok hX) ?_)
  obtain ⟨ak, ar, al0, al1, ac⟩ := a
  simp only [A_ref13_Add, tabV, arrV, go_sem, Nat.reduceMod, Nat.reduceBNe, Nat.reduceBEq, Nat.reduceEqDiff, Nat.reduceAdd, Int.reduceAdd, Nat.reduceMul, Nat.reduceSub, Int.reduceToNat, Int.reduceLE, Int.reduceLT, Int.reduceEq, Int.reduceNe, reduceCtorEq, Nat.reduceLT, Nat.reduceLeDiff]
  refine call_ev (ev_r13Check hX hs t hl) ?_
  by_cases h : (chk t).2 = 0
  · have hg := chk_good.1 h
    have h16 := hg.len
    have heq := hg.eq
    simp only [go_sem, Nat.reduceMod, Nat.reduceBNe, Nat.reduceBEq, Nat.reduceEqDiff, Nat.reduceAdd, Int.reduceAdd, Nat.reduceMul, Nat.reduceSub, Int.reduceToNat, Int.reduceLE, Int.reduceLT, Int.reduceEq, Int.reduceNe, reduceCtorEq, Nat.reduceLT, Nat.reduceLeDiff, h]
    have ea : AV.agg [.int .i64 ak, .int .i64 ar, .int .i64 al0, .int .i64 al1, lst (AV.int .i64) .ro ac] = arrV ⟨ak, ar, al0, al1, ac⟩ := rfl
    rw [ea, ax1_arr]
    simp only [go_sem, Nat.reduceMod, Nat.reduceBNe, Nat.reduceBEq, Nat.reduceEqDiff, Nat.reduceAdd, Int.reduceAdd, Nat.reduceMul, Nat.reduceSub, Int.reduceToNat, Int.reduceLE, Int.reduceLT, Int.reduceEq, Int.reduceNe, reduceCtorEq, Nat.reduceLT, Nat.reduceLeDiff, app1]
    refine ⟨⟨by omega, by omega⟩, ⟨by omega, by omega⟩, ⟨by omega, by omega⟩, by omega, ?_⟩
    have hl2 : ∀ x ∈ t.c ++ [(⟨ak, ar, al0, al1, ac⟩ : Lat.Arr)], x.c.length < 1000000 := fun x hx => by
      rcases List.mem_append.1 hx with hx | hx
      · exact hl x hx
      · rw [List.mem_singleton.1 hx]; exact ha
    refine call_ev (ev_r13Check hX hs (Tab.mk (t.n ++ [s]) (t.c ++ [(⟨ak, ar, al0, al1, ac⟩ : Lat.Arr)])) hl2) ?_
    by_cases h2 : (chk ⟨t.n ++ [s], t.c ++ [⟨ak, ar, al0, al1, ac⟩]⟩).2 = 0
    · have e0 : addR t s ⟨ak, ar, al0, al1, ac⟩ = (⟨t.n ++ [s], t.c ++ [⟨ak, ar, al0, al1, ac⟩]⟩, 0) := by unfold addR; rw [if_neg (by omega), if_neg (by omega)]
      rw [e0]
      simp only [go_sem, Nat.reduceMod, Nat.reduceBNe, Nat.reduceBEq, Nat.reduceEqDiff, Nat.reduceAdd, Int.reduceAdd, Nat.reduceMul, Nat.reduceSub, Int.reduceToNat, Int.reduceLE, Int.reduceLT, Int.reduceEq, Int.reduceNe, reduceCtorEq, Nat.reduceLT, Nat.reduceLeDiff, h2]
      exact ⟨⟨_, rfl⟩, rfl⟩
    · have e0 : addR t s ⟨ak, ar, al0, al1, ac⟩ = (zeroT, (chk ⟨t.n ++ [s], t.c ++ [⟨ak, ar, al0, al1, ac⟩]⟩).2) := by unfold addR; rw [if_neg (by omega), if_pos h2]
      rw [e0]
      simp only [go_sem, Nat.reduceMod, Nat.reduceBNe, Nat.reduceBEq, Nat.reduceEqDiff, Nat.reduceAdd, Int.reduceAdd, Nat.reduceMul, Nat.reduceSub, Int.reduceToNat, Int.reduceLE, Int.reduceLT, Int.reduceEq, Int.reduceNe, reduceCtorEq, Nat.reduceLT, Nat.reduceLeDiff, h2]
      exact ⟨⟨_, rfl⟩, rfl⟩
  · have e0 : addR t s ⟨ak, ar, al0, al1, ac⟩ = (zeroT, (chk t).2) := if_pos h
    simp only [go_sem, Nat.reduceMod, Nat.reduceBNe, Nat.reduceBEq, Nat.reduceEqDiff, Nat.reduceAdd, Int.reduceAdd, Nat.reduceMul, Nat.reduceSub, Int.reduceToNat, Int.reduceLE, Int.reduceLT, Int.reduceEq, Int.reduceNe, reduceCtorEq, Nat.reduceLT, Nat.reduceLeDiff, h]
    rw [e0]
    exact ⟨⟨_, rfl⟩, rfl⟩
theorem ev_r13Drop (t : Tab) (s : List UInt8) (hl : ∀ a ∈ t.c, a.c.length < 1000000) : Ev X F_ref13_Drop [tabV t, .str s] (.tuple [tabV (dropR t s).1, .int .i64 (dropR t s).2]) := by
  refine ev_of_k (evK_of_wpc hs (A_ref13_Drop_ok hX) ?_)
  simp only [A_ref13_Drop, tabV, go_sem, Nat.reduceMod, Nat.reduceBNe, Nat.reduceBEq, Nat.reduceEqDiff, Nat.reduceAdd, Int.reduceAdd, Nat.reduceMul, Nat.reduceSub, Int.reduceToNat, Int.reduceLE, Int.reduceLT, Int.reduceEq, Int.reduceNe, reduceCtorEq, Nat.reduceLT, Nat.reduceLeDiff]
  refine call_ev (ev_r13at hX hs t s hl) ?_
  by_cases h : (atI t s).2 = 0
  · obtain ⟨i, e, hi, hg, _⟩ := atI_0 h
    have h16 := hg.len
    have heq := hg.eq
    have e0 : dropR t s = (⟨t.n.eraseIdx i, t.c.eraseIdx i⟩, 0) := by unfold dropR; rw [if_neg (by omega), e]; rfl
    rw [e0]
    have hw : IntKind.i64.wrap ((i : Int) + 1) = ((i + 1 : Nat) : Int) := by rw [wi64 (by omega)]; omega
    simp only [go_sem, Nat.reduceMod, Nat.reduceBNe, Nat.reduceBEq, Nat.reduceEqDiff, Nat.reduceAdd, Int.reduceAdd, Nat.reduceMul, Nat.reduceSub, Int.reduceToNat, Int.reduceLE, Int.reduceLT, Int.reduceEq, Int.reduceNe, reduceCtorEq, Nat.reduceLT, Nat.reduceLeDiff, e, hw, Int.toNat_natCast, ← List.eraseIdx_eq_take_drop_succ]
    have l1 := List.length_take_le i t.n
    have l2 := List.length_take_le i t.c
    have l3 := List.length_drop (i := i + 1) (l := t.n)
    have l4 := List.length_drop (i := i + 1) (l := t.c)
    exact ⟨⟨by omega, by omega⟩, ⟨by omega, by omega⟩, ⟨by omega, by omega⟩, ⟨by omega, by omega⟩, ⟨by omega, by omega⟩, ⟨by omega, by omega⟩, ⟨by omega, by omega⟩, ⟨by omega, by omega⟩, ⟨_, rfl⟩, rfl⟩
  · have e0 : dropR t s = (zeroT, (atI t s).2) := if_pos h
    simp only [go_sem, Nat.reduceMod, Nat.reduceBNe, Nat.reduceBEq, Nat.reduceEqDiff, Nat.reduceAdd, Int.reduceAdd, Nat.reduceMul, Nat.reduceSub, Int.reduceToNat, Int.reduceLE, Int.reduceLT, Int.reduceEq, Int.reduceNe, reduceCtorEq, Nat.reduceLT, Nat.reduceLeDiff, h]
    rw [e0]
    exact ⟨⟨_, rfl⟩, rfl⟩
end
end Go.Avm

/- The law Columns. -/
namespace Go.Avm
open Go Go.Tb
set_option maxRecDepth 10000
theorem sml_add {t : Tab} (h : Sml t) (s : List UInt8) {a : Lat.Arr} (ha : a.c.length < 1000000) : Sml (addR t s a).1 := by
  by_cases he : (addR t s a).2 = 0
  · obtain ⟨e, g1, g2⟩ := addR_0 he
    rw [e]
    have h1 := g2.len
    have h2 := g2.eq
    refine ⟨by dsimp only; omega, by dsimp only; omega, fun x hx => ?_⟩
    rcases List.mem_append.1 hx with hx | hx
    · exact h.a x hx
    · rw [List.mem_singleton.1 hx]; exact ha
  · have e : (addR t s a).1 = zeroT := by
      unfold addR at he ⊢
      split
      · rfl
      · rename_i h1
        rw [if_neg h1] at he
        split
        · rfl
        · rename_i h2
          rw [if_neg h2] at he
          exact absurd rfl he
    rw [e]
    exact sml_zero
theorem sml_drop {t : Tab} (h : Sml t) (s : List UInt8) : Sml (dropR t s).1 := by
  by_cases he : (atI t s).2 = 0
  · obtain ⟨j, e, hj, hg, hn⟩ := dropR_0 he
    rw [e]
    have h1 := (good_drop hg hj).len
    have h2 := (good_drop hg hj).eq
    exact ⟨by dsimp only; omega, by dsimp only; omega, fun x hx => h.a x (List.mem_of_mem_eraseIdx hx)⟩
  · rw [show dropR t s = (zeroT, (atI t s).2) from if_pos he]
    exact sml_zero
section
variable {X : Cx} (hX : X.P = Go.Proofs.Tryz.prog) (hs : Std X) (hP : X.G (sRen.g 17) = some tabQ)
include hX hs hP
set_option maxHeartbeats 4000000 in
theorem ev_LColumns (t : Tab) (s : List UInt8) (a : Lat.Arr) (hz : SzT t) (ha : a.c.length ≤ 140737488355328) : Ev X F_law13_TablesColumns [tabV t, .str s, arrV a] (.bool true) := by
  refine ev_of_wpc hs (A_law13_TablesColumns_ok hX) 1 ?_
  have hFar := ev_Far hX hs t hz.a
  obtain ⟨ak, ar, al0, al1, ac⟩ := a
  dsimp only at ha
  simp only [A_law13_TablesColumns, tabV, arrV, go_sem, Nat.reduceMod, Nat.reduceBNe, Nat.reduceBEq, Nat.reduceEqDiff, Nat.reduceAdd, Int.reduceAdd, Nat.reduceMul, Nat.reduceSub, Int.reduceToNat, Int.reduceLE, Int.reduceLT, Int.reduceEq, Int.reduceNe, reduceCtorEq, Nat.reduceLT, Nat.reduceLeDiff] at hFar ⊢
  refine call_ev hFar ?_
  cases hf : farT t with
  | true =>
    simp only [go_sem, Nat.reduceMod, Nat.reduceBNe, Nat.reduceBEq, Nat.reduceEqDiff, Nat.reduceAdd, Int.reduceAdd, Nat.reduceMul, Nat.reduceSub, Int.reduceToNat, Int.reduceLE, Int.reduceLT, Int.reduceEq, Int.reduceNe, reduceCtorEq, Nat.reduceLT, Nat.reduceLeDiff]
    refine call_ev (ev_awake hX hs hP) ?_
    simp only [go_sem, Nat.reduceMod, Nat.reduceBNe, Nat.reduceBEq, Nat.reduceEqDiff, Nat.reduceAdd, Int.reduceAdd, Nat.reduceMul, Nat.reduceSub, Int.reduceToNat, Int.reduceLE, Int.reduceLT, Int.reduceEq, Int.reduceNe, reduceCtorEq, Nat.reduceLT, Nat.reduceLeDiff]
  | false =>
    obtain ⟨f1, f2, f3, f4⟩ := farT_no hf
    have hl : ∀ a ∈ t.c, a.c.length < 1000000 := fun a ha => by have := f3 a ha; omega
    simp only [go_sem, Nat.reduceMod, Nat.reduceBNe, Nat.reduceBEq, Nat.reduceEqDiff, Nat.reduceAdd, Int.reduceAdd, Nat.reduceMul, Nat.reduceSub, Int.reduceToNat, Int.reduceLE, Int.reduceLT, Int.reduceEq, Int.reduceNe, reduceCtorEq, Nat.reduceLT, Nat.reduceLeDiff]
    refine ⟨fun h => ?_, fun h => ⟨fun h5 => ?_, fun h5 => ?_⟩⟩
    · refine call_ev (ev_awake hX hs hP) ?_
      simp only [go_sem, Nat.reduceMod, Nat.reduceBNe, Nat.reduceBEq, Nat.reduceEqDiff, Nat.reduceAdd, Int.reduceAdd, Nat.reduceMul, Nat.reduceSub, Int.reduceToNat, Int.reduceLE, Int.reduceLT, Int.reduceEq, Int.reduceNe, reduceCtorEq, Nat.reduceLT, Nat.reduceLeDiff]
    · refine call_ev (ev_awake hX hs hP) ?_
      simp only [go_sem, Nat.reduceMod, Nat.reduceBNe, Nat.reduceBEq, Nat.reduceEqDiff, Nat.reduceAdd, Int.reduceAdd, Nat.reduceMul, Nat.reduceSub, Int.reduceToNat, Int.reduceLE, Int.reduceLT, Int.reduceEq, Int.reduceNe, reduceCtorEq, Nat.reduceLT, Nat.reduceLeDiff]
    have hl5 : ac.length < 1000000 := by omega
    have hsm : Sml t := ⟨by omega, by omega, hl⟩
    have hA := ev_Add hX hs t s ⟨ak, ar, al0, al1, ac⟩ hl hl5
    have hRA := ev_r13Add hX hs t s ⟨ak, ar, al0, al1, ac⟩ hl hl5
    have hD := ev_Drop hX hs t s hl
    have hRD := ev_r13Drop hX hs t s hl
    have hsA := sml_add hsm s (a := ⟨ak, ar, al0, al1, ac⟩) hl5
    have hsD := sml_drop hsm s
    have h1 := ev_same13 hX hs (addR t s ⟨ak, ar, al0, al1, ac⟩).1 (addR t s ⟨ak, ar, al0, al1, ac⟩).1 hsA.a hsA.n hsA.c
    have h2 := ev_same13 hX hs (dropR t s).1 (dropR t s).1 hsD.a hsD.n hsD.c
    rw [sameT_refl] at h1 h2
    generalize addR t s ⟨ak, ar, al0, al1, ac⟩ = uA at hA hRA h1
    generalize dropR t s = uD at hD hRD h2
    obtain ⟨⟨un, uc⟩, ue⟩ := uA
    obtain ⟨⟨dn, dc⟩, de⟩ := uD
    simp only [tabV, arrV] at hA hRA hD hRD h1 h2
    refine call_ev hA ?_
    simp only [go_sem, Nat.reduceMod, Nat.reduceBNe, Nat.reduceBEq, Nat.reduceEqDiff, Nat.reduceAdd, Int.reduceAdd, Nat.reduceMul, Nat.reduceSub, Int.reduceToNat, Int.reduceLE, Int.reduceLT, Int.reduceEq, Int.reduceNe, reduceCtorEq, Nat.reduceLT, Nat.reduceLeDiff]
    refine call_ev hRA ?_
    simp only [go_sem, Nat.reduceMod, Nat.reduceBNe, Nat.reduceBEq, Nat.reduceEqDiff, Nat.reduceAdd, Int.reduceAdd, Nat.reduceMul, Nat.reduceSub, Int.reduceToNat, Int.reduceLE, Int.reduceLT, Int.reduceEq, Int.reduceNe, reduceCtorEq, Nat.reduceLT, Nat.reduceLeDiff]
    refine call_ev h1 ?_
    simp only [go_sem, Nat.reduceMod, Nat.reduceBNe, Nat.reduceBEq, Nat.reduceEqDiff, Nat.reduceAdd, Int.reduceAdd, Nat.reduceMul, Nat.reduceSub, Int.reduceToNat, Int.reduceLE, Int.reduceLT, Int.reduceEq, Int.reduceNe, reduceCtorEq, Nat.reduceLT, Nat.reduceLeDiff]
    refine call_ev hD ?_
    simp only [go_sem, Nat.reduceMod, Nat.reduceBNe, Nat.reduceBEq, Nat.reduceEqDiff, Nat.reduceAdd, Int.reduceAdd, Nat.reduceMul, Nat.reduceSub, Int.reduceToNat, Int.reduceLE, Int.reduceLT, Int.reduceEq, Int.reduceNe, reduceCtorEq, Nat.reduceLT, Nat.reduceLeDiff]
    refine call_ev hRD ?_
    simp only [go_sem, Nat.reduceMod, Nat.reduceBNe, Nat.reduceBEq, Nat.reduceEqDiff, Nat.reduceAdd, Int.reduceAdd, Nat.reduceMul, Nat.reduceSub, Int.reduceToNat, Int.reduceLE, Int.reduceLT, Int.reduceEq, Int.reduceNe, reduceCtorEq, Nat.reduceLT, Nat.reduceLeDiff]
    refine call_ev h2 ?_
    simp only [go_sem, Nat.reduceMod, Nat.reduceBNe, Nat.reduceBEq, Nat.reduceEqDiff, Nat.reduceAdd, Int.reduceAdd, Nat.reduceMul, Nat.reduceSub, Int.reduceToNat, Int.reduceLE, Int.reduceLT, Int.reduceEq, Int.reduceNe, reduceCtorEq, Nat.reduceLT, Nat.reduceLeDiff]
    refine call_ev (ev_awake hX hs hP) ?_
    simp only [go_sem, Nat.reduceMod, Nat.reduceBNe, Nat.reduceBEq, Nat.reduceEqDiff, Nat.reduceAdd, Int.reduceAdd, Nat.reduceMul, Nat.reduceSub, Int.reduceToNat, Int.reduceLE, Int.reduceLT, Int.reduceEq, Int.reduceNe, reduceCtorEq, Nat.reduceLT, Nat.reduceLeDiff]
end
end Go.Avm
