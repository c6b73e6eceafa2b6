/- The program: what asks Check. -/
import Derived.Test.YtebnoigmepfdcaaGreatDoorAQ2
set_option linter.unusedSectionVars false
set_option linter.unusedSimpArgs false
set_option linter.unusedVariables false

/- The program: what asks Check. -/
namespace Go.Avm
open Go
def badL (n : Nat) (a : Int) : Bool := decide (a < 0) || decide ((n : Int) ≤ a)
def askL (ns : List (List UInt8)) (up : List UInt8) (ls : List Int) : Int := if (Lat.checkS ns up).2 = 0 ∧ ls.any (badL ns.length) = true then 7 else (Lat.checkS ns up).2
theorem askL_0 (ns : List (List UInt8)) (up : List UInt8) : askL ns up [] = (Lat.checkS ns up).2 := by simp [askL]
theorem askL_2 (ns : List (List UInt8)) (up : List UInt8) (a b : Int) : askL ns up [a, b] = askS ns up a b := by
  simp only [askL, askS, badL, List.any_cons, List.any_nil, Bool.or_eq_true, decide_eq_true_eq, Bool.or_false, or_assoc]
section
variable {X : Cx} (hX : X.P = Go.Proofs.Tryz.prog) (hs : Std X)
include hX hs
theorem ev_asked (ns : List (List UInt8)) (up : List UInt8) (ls : List Int) (hl : ls.length < 1000000) : Ev X F_lattice_asked [.vp [lst AV.str .ro ns, lst u8 .ro up], lst (AV.int .i64) .ro ls] (.int .i64 (askL ns up ls)) := by
  refine ev_of_wpc hs (A_lattice_asked_ok hX) 1 ?_
  simp only [A_lattice_asked, go_sem, Nat.reduceMod, Nat.reduceBNe, Nat.reduceBEq, Nat.reduceEqDiff, Nat.reduceAdd, Int.reduceAdd, Nat.reduceMul, Nat.reduceSub, Int.reduceToNat, Int.reduceLE, Int.reduceLT, Int.reduceEq, Int.reduceNe, reduceCtorEq, Nat.reduceLT, Nat.reduceLeDiff]
  refine call_ev (ev_Check hX hs ns up) ?_
  by_cases h : (Lat.checkS ns up).2 = 0
  · simp only [h, go_sem, Nat.reduceMod, Nat.reduceBNe, Nat.reduceBEq, Nat.reduceEqDiff, Nat.reduceAdd, Int.reduceAdd, Nat.reduceMul, Nat.reduceSub, Int.reduceToNat, Int.reduceLE, Int.reduceLT, Int.reduceEq, Int.reduceNe, reduceCtorEq, Nat.reduceLT, Nat.reduceLeDiff]
    refine w_loop' hs.hm (ι := Nat) (fun i => i ≤ ls.length ∧ ∀ j, j < i → badL ns.length (ls.getD j 0) = false) (fun i => [(21, .int .i64 i), (20, .int .i64 ls.length), (19, lst (AV.int .i64) .ro ls), (0, .vp [lst AV.str .ro ns, lst u8 .ro up])]) (fun _ => []) (fun i => ls.length - i) 0 ?_ fun i hi => ?_
    · simp only [go_sem, Nat.reduceMod, Nat.reduceBNe, Nat.reduceBEq, Nat.reduceEqDiff, Nat.reduceAdd, Int.reduceAdd, Nat.reduceMul, Nat.reduceSub, Int.reduceToNat, Int.reduceLE, Int.reduceLT, Int.reduceEq, Int.reduceNe, reduceCtorEq, Nat.reduceLT, Nat.reduceLeDiff]
      exact ⟨Nat.zero_le _, no_lt0⟩
    · obtain ⟨i1, i2⟩ := hi
      simp only [A_lattice_askedL0, go_sem, Nat.reduceMod, Nat.reduceBNe, Nat.reduceBEq, Nat.reduceEqDiff, Nat.reduceAdd, Int.reduceAdd, Nat.reduceMul, Nat.reduceSub, Int.reduceToNat, Int.reduceLE, Int.reduceLT, Int.reduceEq, Int.reduceNe, reduceCtorEq, Nat.reduceLT, Nat.reduceLeDiff]
      have bad : i < ls.length → badL ns.length (ls.getD i 0) = true → askL ns up ls = 7 := fun hi hb => by
        have : ls.any (badL ns.length) = true := List.any_eq_true.2 ⟨ls[i], List.getElem_mem _, by simpa [List.getD, hi] using hb⟩
        simp only [askL, h, this, and_self, if_true]
      refine ⟨fun c => ⟨⟨by omega, c⟩, fun e => ?_, fun e => ⟨fun e2 => ?_, fun e2 => nxt1 (by omega) i2 ?_ (by omega)⟩⟩, fun c => ?_⟩
      · rw [bad (by omega) (by simp only [badL, show ls.getD i 0 < 0 from e, decide_true, Bool.true_or])]
      · rw [bad (by omega) (by simp only [badL, show (ns.length : Int) ≤ ls.getD i 0 from e2, decide_true, Bool.or_true])]
      · simp only [badL, show ¬ ls.getD i 0 < 0 from e, show ¬ (ns.length : Int) ≤ ls.getD i 0 from e2, decide_false, Bool.or_self]
      · have : ls.any (badL ns.length) = false := by
          rw [List.any_eq_false]
          intro x hx
          obtain ⟨j, hj, e⟩ := List.getElem_of_mem hx
          have := i2 j (by omega)
          rw [List.getD_eq_getElem?_getD, List.getElem?_eq_getElem hj] at this
          simp only [Option.getD_some, e] at this
          rw [this]; simp
        simp only [askL, h, this, Bool.false_eq_true, and_false, if_false]
  · simp only [h, go_sem, Nat.reduceMod, Nat.reduceBNe, Nat.reduceBEq, Nat.reduceEqDiff, Nat.reduceAdd, Int.reduceAdd, Nat.reduceMul, Nat.reduceSub, Int.reduceToNat, Int.reduceLE, Int.reduceLT, Int.reduceEq, Int.reduceNe, reduceCtorEq, Nat.reduceLT, Nat.reduceLeDiff, askL, false_and]
theorem ev_endU (U : Nat → Nat) (n : Nat) (hU : ∀ c, U c < 256) (hn : ∀ c, c < n → U c < 2 ^ n) (n1 : 1 ≤ n) (n8 : n ≤ 8) : Ev X F_lattice_end_lattice_ups [.agg (tb 8 fun k => .int .u8 (U k)), .int .i64 n] (.int .i64 (Lat.endOf U n : Nat)) := by
  refine ev_of_wpc hs (A_lattice_end_lattice_ups_ok hX) 0 ?_
  simp only [A_lattice_end_lattice_ups, go_sem, Nat.reduceMod, Nat.reduceBNe, Nat.reduceBEq, Nat.reduceEqDiff, Nat.reduceAdd, Int.reduceAdd, Nat.reduceMul, Nat.reduceSub, Int.reduceToNat, Int.reduceLE, Int.reduceLT, Int.reduceEq, Int.reduceNe, reduceCtorEq, Nat.reduceLT, Nat.reduceLeDiff]
  refine w_loop' hs.hm (ι := Nat) (fun i => i ≤ n - 1 ∧ ∀ j, j < i → (U j == 2 ^ n - 1) = false) (fun i => [(5, .int .i64 i), (1, .int .i64 n), (2, .ptr 0 0)]) (fun _ => [.box (tb 8 fun k => .int .u8 (U k))]) (fun i => n - 1 - i) 0 ?_ fun i hi => ?_
  · simp only [go_sem, Nat.reduceMod, Nat.reduceBNe, Nat.reduceBEq, Nat.reduceEqDiff, Nat.reduceAdd, Int.reduceAdd, Nat.reduceMul, Nat.reduceSub, Int.reduceToNat, Int.reduceLE, Int.reduceLT, Int.reduceEq, Int.reduceNe, reduceCtorEq, Nat.reduceLT, Nat.reduceLeDiff]
    exact ⟨Nat.zero_le _, no_lt0⟩
  · obtain ⟨i1, i2⟩ := hi
    have hi8 : i < 8 := by omega
    have hp := pop8_spec n (by omega) (U i) (hU i) (hn i (by omega))
    have e1 : IntKind.i64.wrap ((n : Int) - 1) = ((n - 1 : Nat) : Int) := by rw [wi64 (by omega)]; omega
    simp only [A_lattice_end_lattice_upsL0, go_sem, Nat.reduceMod, Nat.reduceBNe, Nat.reduceBEq, Nat.reduceEqDiff, Nat.reduceAdd, Int.reduceAdd, Nat.reduceMul, Nat.reduceSub, Int.reduceToNat, Int.reduceLE, Int.reduceLT, Int.reduceEq, Int.reduceNe, reduceCtorEq, Nat.reduceLT, Nat.reduceLeDiff, Nat.mul_one, tb_getD _ _ hi8]
    rw [e1]
    refine ⟨fun c => ⟨by omega, by omega, call_ev (ev_OnesCount8 hX hs (U i) (hU i)) ?_⟩, fun c => ?_⟩
    · simp only [go_sem, Nat.reduceMod, Nat.reduceBNe, Nat.reduceBEq, Nat.reduceEqDiff, Nat.reduceAdd, Int.reduceAdd, Nat.reduceMul, Nat.reduceSub, Int.reduceToNat, Int.reduceLE, Int.reduceLT, Int.reduceEq, Int.reduceNe, reduceCtorEq, Nat.reduceLT, Nat.reduceLeDiff]
      refine ⟨fun e => nxt1 (by omega) i2 ?_ (by omega), fun e => ?_⟩
      · rw [beq_eq_false_iff_ne]; exact hp.1 (by omega)
      · have : (U i == 2 ^ n - 1) = true := by
          rw [beq_iff_eq]
          exact Classical.byContradiction fun h => e (by have := hp.2 h; omega)
        rw [Lat.endOf, Lat.ff_some (p := fun a => U a == 2 ^ n - 1) (show i < n - 1 by omega) this i2]
        rfl
    · rw [Lat.endOf, Lat.ff_none (p := fun a => U a == 2 ^ n - 1) fun j hj => i2 j (by omega), show i = n - 1 by omega]
      rfl
theorem ev_endD (U : Nat → Nat) (n : Nat) (hU : ∀ c, U c < 256) (hn : ∀ c, c < n → U c < 2 ^ n) (n1 : 1 ≤ n) (n8 : n ≤ 8) : Ev X F_lattice_end_lattice_downs [.agg (tb 8 fun k => .int .u8 (U k)), .int .i64 n] (.int .i64 (Lat.endOf U n : Nat)) := by
  refine ev_of_wpc hs (A_lattice_end_lattice_downs_ok hX) 0 ?_
  simp only [A_lattice_end_lattice_downs, go_sem, Nat.reduceMod, Nat.reduceBNe, Nat.reduceBEq, Nat.reduceEqDiff, Nat.reduceAdd, Int.reduceAdd, Nat.reduceMul, Nat.reduceSub, Int.reduceToNat, Int.reduceLE, Int.reduceLT, Int.reduceEq, Int.reduceNe, reduceCtorEq, Nat.reduceLT, Nat.reduceLeDiff]
  refine w_loop' hs.hm (ι := Nat) (fun i => i ≤ n - 1 ∧ ∀ j, j < i → (U j == 2 ^ n - 1) = false) (fun i => [(5, .int .i64 i), (1, .int .i64 n), (2, .ptr 0 0)]) (fun _ => [.box (tb 8 fun k => .int .u8 (U k))]) (fun i => n - 1 - i) 0 ?_ fun i hi => ?_
  · simp only [go_sem, Nat.reduceMod, Nat.reduceBNe, Nat.reduceBEq, Nat.reduceEqDiff, Nat.reduceAdd, Int.reduceAdd, Nat.reduceMul, Nat.reduceSub, Int.reduceToNat, Int.reduceLE, Int.reduceLT, Int.reduceEq, Int.reduceNe, reduceCtorEq, Nat.reduceLT, Nat.reduceLeDiff]
    exact ⟨Nat.zero_le _, no_lt0⟩
  · obtain ⟨i1, i2⟩ := hi
    have hi8 : i < 8 := by omega
    have hp := pop8_spec n (by omega) (U i) (hU i) (hn i (by omega))
    have e1 : IntKind.i64.wrap ((n : Int) - 1) = ((n - 1 : Nat) : Int) := by rw [wi64 (by omega)]; omega
    simp only [A_lattice_end_lattice_downsL0, go_sem, Nat.reduceMod, Nat.reduceBNe, Nat.reduceBEq, Nat.reduceEqDiff, Nat.reduceAdd, Int.reduceAdd, Nat.reduceMul, Nat.reduceSub, Int.reduceToNat, Int.reduceLE, Int.reduceLT, Int.reduceEq, Int.reduceNe, reduceCtorEq, Nat.reduceLT, Nat.reduceLeDiff, Nat.mul_one, tb_getD _ _ hi8]
    rw [e1]
    refine ⟨fun c => ⟨by omega, by omega, call_ev (ev_OnesCount8 hX hs (U i) (hU i)) ?_⟩, fun c => ?_⟩
    · simp only [go_sem, Nat.reduceMod, Nat.reduceBNe, Nat.reduceBEq, Nat.reduceEqDiff, Nat.reduceAdd, Int.reduceAdd, Nat.reduceMul, Nat.reduceSub, Int.reduceToNat, Int.reduceLE, Int.reduceLT, Int.reduceEq, Int.reduceNe, reduceCtorEq, Nat.reduceLT, Nat.reduceLeDiff]
      refine ⟨fun e => nxt1 (by omega) i2 ?_ (by omega), fun e => ?_⟩
      · rw [beq_eq_false_iff_ne]; exact hp.1 (by omega)
      · have : (U i == 2 ^ n - 1) = true := by
          rw [beq_iff_eq]
          exact Classical.byContradiction fun h => e (by have := hp.2 h; omega)
        rw [Lat.endOf, Lat.ff_some (p := fun a => U a == 2 ^ n - 1) (show i < n - 1 by omega) this i2]
        rfl
    · rw [Lat.endOf, Lat.ff_none (p := fun a => U a == 2 ^ n - 1) fun j hj => i2 j (by omega), show i = n - 1 by omega]
      rfl
theorem call_asked {ns : List (List UInt8)} {up : List UInt8} {i : Nat} {p : Perm} {es : List AV} {ls : List Int} {d : Option Nat} {fr : Fr} {H : Heap} {K : Fr → Heap → Prop} (hH : H[i]? = some (.box [lst AV.str .ro ns, lst u8 .ro up])) (he : es = ls.map (AV.int .i64)) (hl : ls.length < 1000000)
    (hK : K (fr.updo d (.int .i64 (askL ns up ls))) H) : CallOk X F_lattice_asked [.ptr i 0, .sl p es] d fr H K := by
  refine call_lend ?_ rfl hK
  have := ev_asked hX hs ns up ls hl
  simp only [lendL, lend, hH, List.drop_zero, dryL, dry, lst, he]
  exact this
theorem ev_Join (ns : List (List UInt8)) (up : List UInt8) (a b : Int) : Ev X F_lattice_Join [latV ns up, .int .i64 a, .int .i64 b] (.tuple [.int .i64 (joinS ns up a b), .int .i64 (askS ns up a b)]) := by
  refine ev_of_wpc hs (A_lattice_Join_ok hX) 1 ?_
  simp only [A_lattice_Join, latV, go_sem, Nat.reduceMod, Nat.reduceBNe, Nat.reduceBEq, Nat.reduceEqDiff, Nat.reduceAdd, Int.reduceAdd, Nat.reduceMul, Nat.reduceSub, Int.reduceToNat, Int.reduceLE, Int.reduceLT, Int.reduceEq, Int.reduceNe, reduceCtorEq, Nat.reduceLT, Nat.reduceLeDiff]
  refine call_asked hX hs (ls := [a, b]) rfl rfl (by simp) ?_
  rw [askL_2]
  by_cases h : askS ns up a b = 0
  · simp only [h, go_sem, Nat.reduceMod, Nat.reduceBNe, Nat.reduceBEq, Nat.reduceEqDiff, Nat.reduceAdd, Int.reduceAdd, Nat.reduceMul, Nat.reduceSub, Int.reduceToNat, Int.reduceLE, Int.reduceLT, Int.reduceEq, Int.reduceNe, reduceCtorEq, Nat.reduceLT, Nat.reduceLeDiff]
    obtain ⟨h1, x, y, rfl, rfl, hx, hy⟩ := askS_0 h
    have hv := chk_val h1
    refine call_of hX hs rfl hv.len hv.le8 ?_
    simp only [ordV, go_sem, Nat.reduceMod, Nat.reduceBNe, Nat.reduceBEq, Nat.reduceEqDiff, Nat.reduceAdd, Int.reduceAdd, Nat.reduceMul, Nat.reduceSub, Int.reduceToNat, Int.reduceLE, Int.reduceLT, Int.reduceEq, Int.reduceNe, reduceCtorEq, Nat.reduceLT, Nat.reduceLeDiff]
    refine call_ev (r := .int .i64 (Lat.oi (Lat.near (Lat.msk up) ns.length x y))) ?_ ?_
    · have := ev_boundU hX hs (Lat.msk up) (Lat.msk_lt up) ns.length x y hv.le8 hx hy
      rw [bdU hv.refl] at this
      simpa only [dryL, dry, tb_dry] using this
    · rw [(hv.ou.near_some hx hy).1]
      simp only [joinS, h, Lat.oi, go_sem, Nat.reduceMod, Nat.reduceBNe, Nat.reduceBEq, Nat.reduceEqDiff, Nat.reduceAdd, Int.reduceAdd, Nat.reduceMul, Nat.reduceSub, Int.reduceToNat, Int.reduceLE, Int.reduceLT, Int.reduceEq, Int.reduceNe, reduceCtorEq, Nat.reduceLT, Nat.reduceLeDiff]
  · simp only [h, go_sem, Nat.reduceMod, Nat.reduceBNe, Nat.reduceBEq, Nat.reduceEqDiff, Nat.reduceAdd, Int.reduceAdd, Nat.reduceMul, Nat.reduceSub, Int.reduceToNat, Int.reduceLE, Int.reduceLT, Int.reduceEq, Int.reduceNe, reduceCtorEq, Nat.reduceLT, Nat.reduceLeDiff, joinS]
theorem ev_Meet (ns : List (List UInt8)) (up : List UInt8) (a b : Int) : Ev X F_lattice_Meet [latV ns up, .int .i64 a, .int .i64 b] (.tuple [.int .i64 (meetS ns up a b), .int .i64 (askS ns up a b)]) := by
  refine ev_of_wpc hs (A_lattice_Meet_ok hX) 1 ?_
  simp only [A_lattice_Meet, latV, go_sem, Nat.reduceMod, Nat.reduceBNe, Nat.reduceBEq, Nat.reduceEqDiff, Nat.reduceAdd, Int.reduceAdd, Nat.reduceMul, Nat.reduceSub, Int.reduceToNat, Int.reduceLE, Int.reduceLT, Int.reduceEq, Int.reduceNe, reduceCtorEq, Nat.reduceLT, Nat.reduceLeDiff]
  refine call_asked hX hs (ls := [a, b]) rfl rfl (by simp) ?_
  rw [askL_2]
  by_cases h : askS ns up a b = 0
  · simp only [h, go_sem, Nat.reduceMod, Nat.reduceBNe, Nat.reduceBEq, Nat.reduceEqDiff, Nat.reduceAdd, Int.reduceAdd, Nat.reduceMul, Nat.reduceSub, Int.reduceToNat, Int.reduceLE, Int.reduceLT, Int.reduceEq, Int.reduceNe, reduceCtorEq, Nat.reduceLT, Nat.reduceLeDiff]
    obtain ⟨h1, x, y, rfl, rfl, hx, hy⟩ := askS_0 h
    have hv := chk_val h1
    refine call_of hX hs rfl hv.len hv.le8 ?_
    simp only [ordV, go_sem, Nat.reduceMod, Nat.reduceBNe, Nat.reduceBEq, Nat.reduceEqDiff, Nat.reduceAdd, Int.reduceAdd, Nat.reduceMul, Nat.reduceSub, Int.reduceToNat, Int.reduceLE, Int.reduceLT, Int.reduceEq, Int.reduceNe, reduceCtorEq, Nat.reduceLT, Nat.reduceLeDiff]
    refine call_ev (r := .int .i64 (Lat.oi (Lat.near (fun c => Lat.dn up c ns.length) ns.length x y))) ?_ ?_
    · have := ev_boundD hX hs (fun b => if b < ns.length then Lat.dn up b ns.length else 0) (dlt hv.le8) ns.length x y hv.le8 hx hy
      rw [bdD hv.refl hx hy] at this
      simpa only [dryL, dry, tb_dry] using this
    · rw [(hv.od.near_some hx hy).1]
      simp only [meetS, h, Lat.oi, go_sem, Nat.reduceMod, Nat.reduceBNe, Nat.reduceBEq, Nat.reduceEqDiff, Nat.reduceAdd, Int.reduceAdd, Nat.reduceMul, Nat.reduceSub, Int.reduceToNat, Int.reduceLE, Int.reduceLT, Int.reduceEq, Int.reduceNe, reduceCtorEq, Nat.reduceLT, Nat.reduceLeDiff]
  · simp only [h, go_sem, Nat.reduceMod, Nat.reduceBNe, Nat.reduceBEq, Nat.reduceEqDiff, Nat.reduceAdd, Int.reduceAdd, Nat.reduceMul, Nat.reduceSub, Int.reduceToNat, Int.reduceLE, Int.reduceLT, Int.reduceEq, Int.reduceNe, reduceCtorEq, Nat.reduceLT, Nat.reduceLeDiff, meetS]
theorem ev_Bottom (ns : List (List UInt8)) (up : List UInt8) : Ev X F_lattice_Bottom [latV ns up] (.tuple [.int .i64 (botS ns up), .int .i64 (Lat.checkS ns up).2]) := by
  refine ev_of_wpc hs (A_lattice_Bottom_ok hX) 1 ?_
  simp only [A_lattice_Bottom, latV, go_sem, Nat.reduceMod, Nat.reduceBNe, Nat.reduceBEq, Nat.reduceEqDiff, Nat.reduceAdd, Int.reduceAdd, Nat.reduceMul, Nat.reduceSub, Int.reduceToNat, Int.reduceLE, Int.reduceLT, Int.reduceEq, Int.reduceNe, reduceCtorEq, Nat.reduceLT, Nat.reduceLeDiff]
  refine call_asked hX hs (ls := []) rfl rfl (by decide) ?_
  rw [askL_0]
  by_cases h : (Lat.checkS ns up).2 = 0
  · simp only [h, go_sem, Nat.reduceMod, Nat.reduceBNe, Nat.reduceBEq, Nat.reduceEqDiff, Nat.reduceAdd, Int.reduceAdd, Nat.reduceMul, Nat.reduceSub, Int.reduceToNat, Int.reduceLE, Int.reduceLT, Int.reduceEq, Int.reduceNe, reduceCtorEq, Nat.reduceLT, Nat.reduceLeDiff]
    have hv := chk_val h
    refine call_of hX hs rfl hv.len hv.le8 ?_
    simp only [ordV, go_sem, Nat.reduceMod, Nat.reduceBNe, Nat.reduceBEq, Nat.reduceEqDiff, Nat.reduceAdd, Int.reduceAdd, Nat.reduceMul, Nat.reduceSub, Int.reduceToNat, Int.reduceLE, Int.reduceLT, Int.reduceEq, Int.reduceNe, reduceCtorEq, Nat.reduceLT, Nat.reduceLeDiff]
    refine call_ev (r := .int .i64 (Lat.endOf (Lat.msk up) ns.length : Nat)) ?_ ?_
    · have := ev_endU hX hs (Lat.msk up) ns.length (Lat.msk_lt up) hv.lt hv.pos hv.le8
      simpa only [dryL, dry, tb_dry] using this
    · simp only [botS, h, hv.end_up, go_sem, Nat.reduceMod, Nat.reduceBNe, Nat.reduceBEq, Nat.reduceEqDiff, Nat.reduceAdd, Int.reduceAdd, Nat.reduceMul, Nat.reduceSub, Int.reduceToNat, Int.reduceLE, Int.reduceLT, Int.reduceEq, Int.reduceNe, reduceCtorEq, Nat.reduceLT, Nat.reduceLeDiff]
  · simp only [h, go_sem, Nat.reduceMod, Nat.reduceBNe, Nat.reduceBEq, Nat.reduceEqDiff, Nat.reduceAdd, Int.reduceAdd, Nat.reduceMul, Nat.reduceSub, Int.reduceToNat, Int.reduceLE, Int.reduceLT, Int.reduceEq, Int.reduceNe, reduceCtorEq, Nat.reduceLT, Nat.reduceLeDiff, botS]
theorem ev_Top (ns : List (List UInt8)) (up : List UInt8) : Ev X F_lattice_Top [latV ns up] (.tuple [.int .i64 (topS ns up), .int .i64 (Lat.checkS ns up).2]) := by
  refine ev_of_wpc hs (A_lattice_Top_ok hX) 1 ?_
  simp only [A_lattice_Top, latV, go_sem, Nat.reduceMod, Nat.reduceBNe, Nat.reduceBEq, Nat.reduceEqDiff, Nat.reduceAdd, Int.reduceAdd, Nat.reduceMul, Nat.reduceSub, Int.reduceToNat, Int.reduceLE, Int.reduceLT, Int.reduceEq, Int.reduceNe, reduceCtorEq, Nat.reduceLT, Nat.reduceLeDiff]
  refine call_asked hX hs (ls := []) rfl rfl (by decide) ?_
  rw [askL_0]
  by_cases h : (Lat.checkS ns up).2 = 0
  · simp only [h, go_sem, Nat.reduceMod, Nat.reduceBNe, Nat.reduceBEq, Nat.reduceEqDiff, Nat.reduceAdd, Int.reduceAdd, Nat.reduceMul, Nat.reduceSub, Int.reduceToNat, Int.reduceLE, Int.reduceLT, Int.reduceEq, Int.reduceNe, reduceCtorEq, Nat.reduceLT, Nat.reduceLeDiff]
    have hv := chk_val h
    refine call_of hX hs rfl hv.len hv.le8 ?_
    simp only [ordV, go_sem, Nat.reduceMod, Nat.reduceBNe, Nat.reduceBEq, Nat.reduceEqDiff, Nat.reduceAdd, Int.reduceAdd, Nat.reduceMul, Nat.reduceSub, Int.reduceToNat, Int.reduceLE, Int.reduceLT, Int.reduceEq, Int.reduceNe, reduceCtorEq, Nat.reduceLT, Nat.reduceLeDiff]
    refine call_ev (r := .int .i64 (Lat.endOf (fun b => if b < ns.length then Lat.dn up b ns.length else 0) ns.length : Nat)) ?_ ?_
    · have := ev_endD hX hs (fun b => if b < ns.length then Lat.dn up b ns.length else 0) ns.length (dlt hv.le8) (fun c hc => by simp only [hc, if_true]; exact Lat.dn_lt up c ns.length) hv.pos hv.le8
      simpa only [dryL, dry, tb_dry] using this
    · have : Lat.endOf (fun b => if b < ns.length then Lat.dn up b ns.length else 0) ns.length = Lat.endOf (fun b => Lat.dn up b ns.length) ns.length := by
        unfold Lat.endOf
        congr 1
        refine Lat.ff_congr fun i hi => ?_
        simp only [show i < ns.length by omega, if_true]
      rw [this]
      simp only [topS, h, hv.end_dn, go_sem, Nat.reduceMod, Nat.reduceBNe, Nat.reduceBEq, Nat.reduceEqDiff, Nat.reduceAdd, Int.reduceAdd, Nat.reduceMul, Nat.reduceSub, Int.reduceToNat, Int.reduceLE, Int.reduceLT, Int.reduceEq, Int.reduceNe, reduceCtorEq, Nat.reduceLT, Nat.reduceLeDiff]
  · simp only [h, go_sem, Nat.reduceMod, Nat.reduceBNe, Nat.reduceBEq, Nat.reduceEqDiff, Nat.reduceAdd, Int.reduceAdd, Nat.reduceMul, Nat.reduceSub, Int.reduceToNat, Int.reduceLE, Int.reduceLT, Int.reduceEq, Int.reduceNe, reduceCtorEq, Nat.reduceLT, Nat.reduceLeDiff, topS]
theorem ev_Find (ns : List (List UInt8)) (up : List UInt8) (s : List UInt8) : Ev X F_lattice_Find [latV ns up, .str s] (.tuple [.int .i64 (Lat.findS ns up s).1, .int .i64 (Lat.findS ns up s).2]) := by
  refine ev_of_wpc hs (A_lattice_Find_ok hX) 1 ?_
  simp only [A_lattice_Find, latV, go_sem, Nat.reduceMod, Nat.reduceBNe, Nat.reduceBEq, Nat.reduceEqDiff, Nat.reduceAdd, Int.reduceAdd, Nat.reduceMul, Nat.reduceSub, Int.reduceToNat, Int.reduceLE, Int.reduceLT, Int.reduceEq, Int.reduceNe, reduceCtorEq, Nat.reduceLT, Nat.reduceLeDiff]
  refine call_asked hX hs (ls := []) rfl rfl (by decide) ?_
  rw [askL_0]
  by_cases h : (Lat.checkS ns up).2 = 0
  · simp only [h, go_sem, Nat.reduceMod, Nat.reduceBNe, Nat.reduceBEq, Nat.reduceEqDiff, Nat.reduceAdd, Int.reduceAdd, Nat.reduceMul, Nat.reduceSub, Int.reduceToNat, Int.reduceLE, Int.reduceLT, Int.reduceEq, Int.reduceNe, reduceCtorEq, Nat.reduceLT, Nat.reduceLeDiff]
    have hv := chk_val h
    refine call_ev (ev_Index hX hs ns s (by have := hv.le8; omega)) ?_
    cases hf : Lat.findO ns s with
    | none =>
      simp only [Lat.oi, go_sem, Nat.reduceMod, Nat.reduceBNe, Nat.reduceBEq, Nat.reduceEqDiff, Nat.reduceAdd, Int.reduceAdd, Nat.reduceMul, Nat.reduceSub, Int.reduceToNat, Int.reduceLE, Int.reduceLT, Int.reduceEq, Int.reduceNe, reduceCtorEq, Nat.reduceLT, Nat.reduceLeDiff]
      simp only [Lat.findS, h, hf, go_sem, Nat.reduceMod, Nat.reduceBNe, Nat.reduceBEq, Nat.reduceEqDiff, Nat.reduceAdd, Int.reduceAdd, Nat.reduceMul, Nat.reduceSub, Int.reduceToNat, Int.reduceLE, Int.reduceLT, Int.reduceEq, Int.reduceNe, reduceCtorEq, Nat.reduceLT, Nat.reduceLeDiff]
    | some a =>
      simp only [Lat.oi, go_sem, Nat.reduceMod, Nat.reduceBNe, Nat.reduceBEq, Nat.reduceEqDiff, Nat.reduceAdd, Int.reduceAdd, Nat.reduceMul, Nat.reduceSub, Int.reduceToNat, Int.reduceLE, Int.reduceLT, Int.reduceEq, Int.reduceNe, reduceCtorEq, Nat.reduceLT, Nat.reduceLeDiff]
      simp only [Lat.findS, h, hf, go_sem, Nat.reduceMod, Nat.reduceBNe, Nat.reduceBEq, Nat.reduceEqDiff, Nat.reduceAdd, Int.reduceAdd, Nat.reduceMul, Nat.reduceSub, Int.reduceToNat, Int.reduceLE, Int.reduceLT, Int.reduceEq, Int.reduceNe, reduceCtorEq, Nat.reduceLT, Nat.reduceLeDiff]
      exact fun h => absurd (by omega) h
  · simp only [h, go_sem, Nat.reduceMod, Nat.reduceBNe, Nat.reduceBEq, Nat.reduceEqDiff, Nat.reduceAdd, Int.reduceAdd, Nat.reduceMul, Nat.reduceSub, Int.reduceToNat, Int.reduceLE, Int.reduceLT, Int.reduceEq, Int.reduceNe, reduceCtorEq, Nat.reduceLT, Nat.reduceLeDiff, Lat.findS]
end
end Go.Avm

/- awake, and the examples. -/
namespace Go.Avm
open Go
def dN : List (List UInt8) := [[108, 111, 119], [97, 110, 110], [98, 111, 98], [116, 111, 112]]
def dU : List UInt8 := [15, 10, 12, 8]
theorem d_chk : Lat.checkS dN dU = (0, 0) := by decide +kernel
theorem d_ask12 : askS dN dU 1 2 = 0 := by decide +kernel
theorem d_ask02 : askS dN dU 0 2 = 0 := by decide +kernel
theorem d_join : joinS dN dU 1 2 = 3 := by decide +kernel
theorem d_meet : meetS dN dU 1 2 = 0 := by decide +kernel
set_option maxRecDepth 10000
section
variable {X : Cx} (hX : X.P = Go.Proofs.Tryz.prog) (hs : Std X)
include hX hs
theorem ev_Diamond : Ev X F_law03_Diamond [] (.agg [lst AV.str .ex dN, lst u8 .ex dU]) := by
  refine ev_of_wpc hs (A_law03_Diamond_ok hX) 1 ?_
  simp only [A_law03_Diamond, go_sem, Nat.reduceMod, Nat.reduceBNe, Nat.reduceBEq, Nat.reduceEqDiff, Nat.reduceAdd, Int.reduceAdd, Nat.reduceMul, Nat.reduceSub, Int.reduceToNat, Int.reduceLE, Int.reduceLT, Int.reduceEq, Int.reduceNe, reduceCtorEq, Nat.reduceLT, Nat.reduceLeDiff]
  rfl
end
end Go.Avm

/- The laws' own functions. -/
namespace Go.Avm
open Go
def longS (l : List (List UInt8)) : Bool := (l.take 20).any (fun s => decide (100 < s.length)) || decide (12 < l.length)
def farS (ns : List (List UInt8)) (up : List UInt8) : Bool := longS ns || decide (12 < up.length)
theorem far_no {ns : List (List UInt8)} {up : List UInt8} (h : farS ns up = false) : ns.length ≤ 12 ∧ up.length ≤ 12 := by
  simp only [farS, longS, Bool.or_eq_false_iff, decide_eq_false_iff_not] at h
  omega
set_option maxRecDepth 10000
section
variable {X : Cx} (hX : X.P = Go.Proofs.Tryz.prog) (hs : Std X)
include hX hs
theorem ev_long (l : List (List UInt8)) : Ev X F_law03_long [lst AV.str .ro l] (.bool (longS l)) := by
  refine ev_of_wpc hs (A_law03_long_ok hX) 1 ?_
  simp only [A_law03_long, go_sem, Nat.reduceMod, Nat.reduceBNe, Nat.reduceBEq, Nat.reduceEqDiff, Nat.reduceAdd, Int.reduceAdd, Nat.reduceMul, Nat.reduceSub, Int.reduceToNat, Int.reduceLE, Int.reduceLT, Int.reduceEq, Int.reduceNe, reduceCtorEq, Nat.reduceLT, Nat.reduceLeDiff]
  refine w_loop' hs.hm (ι := Nat) (fun i => (i ≤ l.length ∧ i ≤ 20) ∧ (l.take i).any (fun s => decide (100 < s.length)) = false) (fun i => [(3, .int .i64 i), (0, lst AV.str .ro l)]) (fun _ => []) (fun i => 20 - i) 0 ?_ fun i hi => ?_
  · simp only [go_sem, Nat.reduceMod, Nat.reduceBNe, Nat.reduceBEq, Nat.reduceEqDiff, Nat.reduceAdd, Int.reduceAdd, Nat.reduceMul, Nat.reduceSub, Int.reduceToNat, Int.reduceLE, Int.reduceLT, Int.reduceEq, Int.reduceNe, reduceCtorEq, Nat.reduceLT, Nat.reduceLeDiff]
    exact ⟨by omega, rfl⟩
  · obtain ⟨⟨i1, i3⟩, i2⟩ := hi
    simp only [A_law03_longL0, go_sem, Nat.reduceMod, Nat.reduceBNe, Nat.reduceBEq, Nat.reduceEqDiff, Nat.reduceAdd, Int.reduceAdd, Nat.reduceMul, Nat.reduceSub, Int.reduceToNat, Int.reduceLE, Int.reduceLT, Int.reduceEq, Int.reduceNe, reduceCtorEq, Nat.reduceLT, Nat.reduceLeDiff]
    have fin : (i = 20 ∨ i = l.length) → AV.bool (decide (12 < (l.length : Int))) = AV.bool (longS l) := fun h => by
      have e : l.take 20 = l.take i := by
        rcases h with h | h
        · rw [h]
        · rw [List.take_of_length_le (by omega), List.take_of_length_le (by omega)]
      have e2 : decide (12 < (l.length : Int)) = decide (12 < l.length) := by simp; omega
      rw [longS, e, i2, Bool.false_or, e2]
    refine ⟨fun c1 => ⟨fun c2 => ⟨⟨by omega, c1⟩, fun e => ?_, fun e => ⟨i + 1, by omega, ⟨⟨by omega, by omega⟩, ?_⟩, by rw [wi64 (by omega)]; rfl⟩⟩, fun c2 => fin (.inl (by omega))⟩, fun c1 => fin (.inr (by omega))⟩
    · have hi : i < l.length := by omega
      have hg : l.getD i default = l[i] := by rw [List.getD_eq_getElem?_getD, List.getElem?_eq_getElem hi]; rfl
      rw [hg] at e
      have : (l.take 20).any (fun s => decide (100 < s.length)) = true := List.any_eq_true.2 ⟨l[i], by rw [List.mem_take_iff_getElem]; exact ⟨i, by omega, rfl⟩, by simp; omega⟩
      rw [longS, this, Bool.true_or]
    · have hi : i < l.length := by omega
      have hg : l.getD i default = l[i] := by rw [List.getD_eq_getElem?_getD, List.getElem?_eq_getElem hi]; rfl
      rw [hg] at e
      rw [List.take_succ_eq_append_getElem hi, List.any_append, i2]
      simp; omega
theorem ev_Far (ns : List (List UInt8)) (up : List UInt8) : Ev X F_law03_Far [latV ns up] (.bool (farS ns up)) := by
  refine ev_of_wpc hs (A_law03_Far_ok hX) 1 ?_
  simp only [A_law03_Far, latV, go_sem, Nat.reduceMod, Nat.reduceBNe, Nat.reduceBEq, Nat.reduceEqDiff, Nat.reduceAdd, Int.reduceAdd, Nat.reduceMul, Nat.reduceSub, Int.reduceToNat, Int.reduceLE, Int.reduceLT, Int.reduceEq, Int.reduceNe, reduceCtorEq, Nat.reduceLT, Nat.reduceLeDiff]
  refine call_ev (ev_long hX hs ns) ?_
  simp only [go_sem, Nat.reduceMod, Nat.reduceBNe, Nat.reduceBEq, Nat.reduceEqDiff, Nat.reduceAdd, Int.reduceAdd, Nat.reduceMul, Nat.reduceSub, Int.reduceToNat, Int.reduceLE, Int.reduceLT, Int.reduceEq, Int.reduceNe, reduceCtorEq, Nat.reduceLT, Nat.reduceLeDiff]
  have e2 : decide (12 < (up.length : Int)) = decide (12 < up.length) := by simp; omega
  refine ⟨fun h => ?_, fun h => ?_⟩
  · rw [farS, h, Bool.true_or]
  · rw [farS, h, Bool.false_or, e2]
end
end Go.Avm
