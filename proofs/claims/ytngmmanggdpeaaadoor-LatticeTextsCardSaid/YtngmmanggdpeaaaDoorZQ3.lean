/- The program: what asks Check. -/
import Derived.Test.YtngmmanggdpeaaaDoorZQ2
import Derived.Test.YtngmmanggdpeaaaDoorZW
import Derived.Test.YtngmmanggdpeaaaDoorZX
import Derived.Test.YtngmmanggdpeaaaDoorZG2
set_option linter.unusedSectionVars false
set_option linter.unusedSimpArgs false
set_option linter.unusedVariables false

/- The program: what asks Check. -/
namespace Go.Avm
open Go
def badL (n : Nat) (a : Int) : Bool := decide (a < 0) || decide ((n : Int) ≤ a)
def askL (ns : List (List UInt8)) (up : List UInt8) (ls : List Int) : Int := if (Lat.checkS ns up).2 = 0 ∧ ls.any (badL ns.length) = true then 7 else (Lat.checkS ns up).2
theorem askL_0 (ns : List (List UInt8)) (up : List UInt8) : askL ns up [] = (Lat.checkS ns up).2 := by simp [askL]
theorem askL_2 (ns : List (List UInt8)) (up : List UInt8) (a b : Int) : askL ns up [a, b] = askS ns up a b := by
  simp only [askL, askS, badL, List.any_cons, List.any_nil, Bool.or_eq_true, decide_eq_true_eq, Bool.or_false, or_assoc]
section
variable {X : Cx} (hX : X.P = Go.Proofs.Tryd.prog) (hs : Std X)
include hX hs
theorem ev_asked (ns : List (List UInt8)) (up : List UInt8) (ls : List Int) (hl : ls.length < 1000000) : Ev X F_lattice_asked [.vp [lst AV.str .ro ns, lst u8 .ro up], lst (AV.int .i64) .ro ls] (.int .i64 (askL ns up ls)) := by
  refine ev_of_wpc hs (A_lattice_asked_ok hX) 1 ?_
  simp only [A_lattice_asked, go_sem, Nat.reduceBEq, Nat.reduceEqDiff, Nat.reduceAdd, Int.reduceAdd, Nat.reduceMul, Nat.reduceSub, Int.reduceToNat, Int.reduceLE, Int.reduceLT, Int.reduceEq, Int.reduceNe, reduceCtorEq, Nat.reduceLT, Nat.reduceLeDiff]
  refine call_ev (ev_Check hX hs ns up) ?_
  by_cases h : (Lat.checkS ns up).2 = 0
  · simp only [h, go_sem, Nat.reduceBEq, Nat.reduceEqDiff, Nat.reduceAdd, Int.reduceAdd, Nat.reduceMul, Nat.reduceSub, Int.reduceToNat, Int.reduceLE, Int.reduceLT, Int.reduceEq, Int.reduceNe, reduceCtorEq, Nat.reduceLT, Nat.reduceLeDiff]
    refine w_loop' hs.hm (ι := Nat) (fun i => i ≤ ls.length ∧ ∀ j, j < i → badL ns.length (ls.getD j 0) = false) (fun i => [(21, .int .i64 i), (20, .int .i64 ls.length), (19, lst (AV.int .i64) .ro ls), (0, .vp [lst AV.str .ro ns, lst u8 .ro up])]) (fun _ => []) (fun i => ls.length - i) 0 ?_ fun i hi => ?_
    · simp only [go_sem, Nat.reduceBEq, Nat.reduceEqDiff, Nat.reduceAdd, Int.reduceAdd, Nat.reduceMul, Nat.reduceSub, Int.reduceToNat, Int.reduceLE, Int.reduceLT, Int.reduceEq, Int.reduceNe, reduceCtorEq, Nat.reduceLT, Nat.reduceLeDiff]
      exact ⟨Nat.zero_le _, no_lt0⟩
    · obtain ⟨i1, i2⟩ := hi
      simp only [A_lattice_askedL0, go_sem, Nat.reduceBEq, Nat.reduceEqDiff, Nat.reduceAdd, Int.reduceAdd, Nat.reduceMul, Nat.reduceSub, Int.reduceToNat, Int.reduceLE, Int.reduceLT, Int.reduceEq, Int.reduceNe, reduceCtorEq, Nat.reduceLT, Nat.reduceLeDiff]
      have bad : i < ls.length → badL ns.length (ls.getD i 0) = true → askL ns up ls = 7 := fun hi hb => by
        have : ls.any (badL ns.length) = true := List.any_eq_true.2 ⟨ls[i], List.getElem_mem _, by simpa [List.getD, hi] using hb⟩
        simp only [askL, h, this, and_self, if_true]
      refine ⟨fun c => ⟨⟨by omega, c⟩, fun e => ?_, fun e => ⟨fun e2 => ?_, fun e2 => nxt1 (by omega) i2 ?_ (by omega)⟩⟩, fun c => ?_⟩
      · rw [bad (by omega) (by simp only [badL, show ls.getD i 0 < 0 from e, decide_true, Bool.true_or])]
      · rw [bad (by omega) (by simp only [badL, show (ns.length : Int) ≤ ls.getD i 0 from e2, decide_true, Bool.or_true])]
      · simp only [badL, show ¬ ls.getD i 0 < 0 from e, show ¬ (ns.length : Int) ≤ ls.getD i 0 from e2, decide_false, Bool.or_self]
      · have : ls.any (badL ns.length) = false := by
          rw [List.any_eq_false]
          intro x hx
          obtain ⟨j, hj, e⟩ := List.getElem_of_mem hx
          have := i2 j (by omega)
          rw [List.getD_eq_getElem?_getD, List.getElem?_eq_getElem hj] at this
          simp only [Option.getD_some, e] at this
          rw [this]; simp
        simp only [askL, h, this, Bool.false_eq_true, and_false, if_false]
  · simp only [h, go_sem, Nat.reduceBEq, Nat.reduceEqDiff, Nat.reduceAdd, Int.reduceAdd, Nat.reduceMul, Nat.reduceSub, Int.reduceToNat, Int.reduceLE, Int.reduceLT, Int.reduceEq, Int.reduceNe, reduceCtorEq, Nat.reduceLT, Nat.reduceLeDiff, askL, false_and]
theorem ev_endU (U : Nat → Nat) (n : Nat) (hU : ∀ c, U c < 256) (hn : ∀ c, c < n → U c < 2 ^ n) (n1 : 1 ≤ n) (n8 : n ≤ 8) : Ev X F_lattice_end_lattice_ups [.agg (tb 8 fun k => .int .u8 (U k)), .int .i64 n] (.int .i64 (Lat.endOf U n : Nat)) := by
  refine ev_of_wpc hs (A_lattice_end_lattice_ups_ok hX) 0 ?_
  simp only [A_lattice_end_lattice_ups, go_sem, Nat.reduceBEq, Nat.reduceEqDiff, Nat.reduceAdd, Int.reduceAdd, Nat.reduceMul, Nat.reduceSub, Int.reduceToNat, Int.reduceLE, Int.reduceLT, Int.reduceEq, Int.reduceNe, reduceCtorEq, Nat.reduceLT, Nat.reduceLeDiff]
  refine w_loop' hs.hm (ι := Nat) (fun i => i ≤ n - 1 ∧ ∀ j, j < i → (U j == 2 ^ n - 1) = false) (fun i => [(5, .int .i64 i), (1, .int .i64 n), (2, .ptr 0 0)]) (fun _ => [.box (tb 8 fun k => .int .u8 (U k))]) (fun i => n - 1 - i) 0 ?_ fun i hi => ?_
  · simp only [go_sem, Nat.reduceBEq, Nat.reduceEqDiff, Nat.reduceAdd, Int.reduceAdd, Nat.reduceMul, Nat.reduceSub, Int.reduceToNat, Int.reduceLE, Int.reduceLT, Int.reduceEq, Int.reduceNe, reduceCtorEq, Nat.reduceLT, Nat.reduceLeDiff]
    exact ⟨Nat.zero_le _, no_lt0⟩
  · obtain ⟨i1, i2⟩ := hi
    have hi8 : i < 8 := by omega
    have hp := pop8_spec n (by omega) (U i) (hU i) (hn i (by omega))
    have e1 : IntKind.i64.wrap ((n : Int) - 1) = ((n - 1 : Nat) : Int) := by rw [wi64 (by omega)]; omega
    simp only [A_lattice_end_lattice_upsL0, go_sem, Nat.reduceBEq, Nat.reduceEqDiff, Nat.reduceAdd, Int.reduceAdd, Nat.reduceMul, Nat.reduceSub, Int.reduceToNat, Int.reduceLE, Int.reduceLT, Int.reduceEq, Int.reduceNe, reduceCtorEq, Nat.reduceLT, Nat.reduceLeDiff, Nat.mul_one, tb_getD _ _ hi8]
    rw [e1]
    refine ⟨fun c => ⟨by omega, by omega, call_ev (ev_OnesCount8 hX hs (U i) (hU i)) ?_⟩, fun c => ?_⟩
    · simp only [go_sem, Nat.reduceBEq, Nat.reduceEqDiff, Nat.reduceAdd, Int.reduceAdd, Nat.reduceMul, Nat.reduceSub, Int.reduceToNat, Int.reduceLE, Int.reduceLT, Int.reduceEq, Int.reduceNe, reduceCtorEq, Nat.reduceLT, Nat.reduceLeDiff]
      refine ⟨fun e => nxt1 (by omega) i2 ?_ (by omega), fun e => ?_⟩
      · rw [beq_eq_false_iff_ne]; exact hp.1 (by omega)
      · have : (U i == 2 ^ n - 1) = true := by
          rw [beq_iff_eq]
          exact Classical.byContradiction fun h => e (by have := hp.2 h; omega)
        rw [Lat.endOf, Lat.ff_some (p := fun a => U a == 2 ^ n - 1) (show i < n - 1 by omega) this i2]
        rfl
    · rw [Lat.endOf, Lat.ff_none (p := fun a => U a == 2 ^ n - 1) fun j hj => i2 j (by omega), show i = n - 1 by omega]
      rfl
theorem ev_endD (U : Nat → Nat) (n : Nat) (hU : ∀ c, U c < 256) (hn : ∀ c, c < n → U c < 2 ^ n) (n1 : 1 ≤ n) (n8 : n ≤ 8) : Ev X F_lattice_end_lattice_downs [.agg (tb 8 fun k => .int .u8 (U k)), .int .i64 n] (.int .i64 (Lat.endOf U n : Nat)) := by
  refine ev_of_wpc hs (A_lattice_end_lattice_downs_ok hX) 0 ?_
  simp only [A_lattice_end_lattice_downs, go_sem, Nat.reduceBEq, Nat.reduceEqDiff, Nat.reduceAdd, Int.reduceAdd, Nat.reduceMul, Nat.reduceSub, Int.reduceToNat, Int.reduceLE, Int.reduceLT, Int.reduceEq, Int.reduceNe, reduceCtorEq, Nat.reduceLT, Nat.reduceLeDiff]
  refine w_loop' hs.hm (ι := Nat) (fun i => i ≤ n - 1 ∧ ∀ j, j < i → (U j == 2 ^ n - 1) = false) (fun i => [(5, .int .i64 i), (1, .int .i64 n), (2, .ptr 0 0)]) (fun _ => [.box (tb 8 fun k => .int .u8 (U k))]) (fun i => n - 1 - i) 0 ?_ fun i hi => ?_
  · simp only [go_sem, Nat.reduceBEq, Nat.reduceEqDiff, Nat.reduceAdd, Int.reduceAdd, Nat.reduceMul, Nat.reduceSub, Int.reduceToNat, Int.reduceLE, Int.reduceLT, Int.reduceEq, Int.reduceNe, reduceCtorEq, Nat.reduceLT, Nat.reduceLeDiff]
    exact ⟨Nat.zero_le _, no_lt0⟩
  · obtain ⟨i1, i2⟩ := hi
    have hi8 : i < 8 := by omega
    have hp := pop8_spec n (by omega) (U i) (hU i) (hn i (by omega))
    have e1 : IntKind.i64.wrap ((n : Int) - 1) = ((n - 1 : Nat) : Int) := by rw [wi64 (by omega)]; omega
    simp only [A_lattice_end_lattice_downsL0, go_sem, Nat.reduceBEq, Nat.reduceEqDiff, Nat.reduceAdd, Int.reduceAdd, Nat.reduceMul, Nat.reduceSub, Int.reduceToNat, Int.reduceLE, Int.reduceLT, Int.reduceEq, Int.reduceNe, reduceCtorEq, Nat.reduceLT, Nat.reduceLeDiff, Nat.mul_one, tb_getD _ _ hi8]
    rw [e1]
    refine ⟨fun c => ⟨by omega, by omega, call_ev (ev_OnesCount8 hX hs (U i) (hU i)) ?_⟩, fun c => ?_⟩
    · simp only [go_sem, Nat.reduceBEq, Nat.reduceEqDiff, Nat.reduceAdd, Int.reduceAdd, Nat.reduceMul, Nat.reduceSub, Int.reduceToNat, Int.reduceLE, Int.reduceLT, Int.reduceEq, Int.reduceNe, reduceCtorEq, Nat.reduceLT, Nat.reduceLeDiff]
      refine ⟨fun e => nxt1 (by omega) i2 ?_ (by omega), fun e => ?_⟩
      · rw [beq_eq_false_iff_ne]; exact hp.1 (by omega)
      · have : (U i == 2 ^ n - 1) = true := by
          rw [beq_iff_eq]
          exact Classical.byContradiction fun h => e (by have := hp.2 h; omega)
        rw [Lat.endOf, Lat.ff_some (p := fun a => U a == 2 ^ n - 1) (show i < n - 1 by omega) this i2]
        rfl
    · rw [Lat.endOf, Lat.ff_none (p := fun a => U a == 2 ^ n - 1) fun j hj => i2 j (by omega), show i = n - 1 by omega]
      rfl
theorem call_asked {ns : List (List UInt8)} {up : List UInt8} {i : Nat} {p : Perm} {es : List AV} {ls : List Int} {d : Option Nat} {fr : Fr} {H : Heap} {K : Fr → Heap → Prop} (hH : H[i]? = some (.box [lst AV.str .ro ns, lst u8 .ro up])) (he : es = ls.map (AV.int .i64)) (hl : ls.length < 1000000)
    (hK : K (fr.updo d (.int .i64 (askL ns up ls))) H) : CallOk X F_lattice_asked [.ptr i 0, .sl p es] d fr H K := by
  refine call_lend ?_ rfl hK
  have := ev_asked hX hs ns up ls hl
  simp only [lendL, lend, hH, List.drop_zero, dryL, dry, lst, he]
  exact this
theorem ev_Leq (ns : List (List UInt8)) (up : List UInt8) (a b : Int) : Ev X F_lattice_Leq [latV ns up, .int .i64 a, .int .i64 b] (.tuple [.bool (leqS ns up a b), .int .i64 (askS ns up a b)]) := by
  refine ev_of_wpc hs (A_lattice_Leq_ok hX) 1 ?_
  simp only [A_lattice_Leq, latV, go_sem, Nat.reduceBEq, Nat.reduceEqDiff, Nat.reduceAdd, Int.reduceAdd, Nat.reduceMul, Nat.reduceSub, Int.reduceToNat, Int.reduceLE, Int.reduceLT, Int.reduceEq, Int.reduceNe, reduceCtorEq, Nat.reduceLT, Nat.reduceLeDiff]
  refine call_asked hX hs (ls := [a, b]) rfl rfl (by simp) ?_
  rw [askL_2]
  by_cases h : askS ns up a b = 0
  · simp only [h, go_sem, Nat.reduceBEq, Nat.reduceEqDiff, Nat.reduceAdd, Int.reduceAdd, Nat.reduceMul, Nat.reduceSub, Int.reduceToNat, Int.reduceLE, Int.reduceLT, Int.reduceEq, Int.reduceNe, reduceCtorEq, Nat.reduceLT, Nat.reduceLeDiff]
    obtain ⟨h1, x, y, rfl, rfl, hx, hy⟩ := askS_0 h
    have hv := chk_val h1
    simp only [go_sem, Nat.reduceBEq, Nat.reduceEqDiff, Nat.reduceAdd, Int.reduceAdd, Nat.reduceMul, Nat.reduceSub, Int.reduceToNat, Int.reduceLE, Int.reduceLT, Int.reduceEq, Int.reduceNe, reduceCtorEq, Nat.reduceLT, Nat.reduceLeDiff, getD_def, bt_and y (Lat.msk_lt up x), if1]
    refine ⟨by have := hv.len; omega, by omega, ?_⟩
    simp only [leqS, h, below_nat up x y (by rw [hv.len]; exact hx), decide_true, Bool.true_and, Lat.le, Bool.decide_eq_true]
  · simp only [h, go_sem, Nat.reduceBEq, Nat.reduceEqDiff, Nat.reduceAdd, Int.reduceAdd, Nat.reduceMul, Nat.reduceSub, Int.reduceToNat, Int.reduceLE, Int.reduceLT, Int.reduceEq, Int.reduceNe, reduceCtorEq, Nat.reduceLT, Nat.reduceLeDiff, leqS]
theorem ev_Join (ns : List (List UInt8)) (up : List UInt8) (a b : Int) : Ev X F_lattice_Join [latV ns up, .int .i64 a, .int .i64 b] (.tuple [.int .i64 (joinS ns up a b), .int .i64 (askS ns up a b)]) := by
  refine ev_of_wpc hs (A_lattice_Join_ok hX) 1 ?_
  simp only [A_lattice_Join, latV, go_sem, Nat.reduceBEq, Nat.reduceEqDiff, Nat.reduceAdd, Int.reduceAdd, Nat.reduceMul, Nat.reduceSub, Int.reduceToNat, Int.reduceLE, Int.reduceLT, Int.reduceEq, Int.reduceNe, reduceCtorEq, Nat.reduceLT, Nat.reduceLeDiff]
  refine call_asked hX hs (ls := [a, b]) rfl rfl (by simp) ?_
  rw [askL_2]
  by_cases h : askS ns up a b = 0
  · simp only [h, go_sem, Nat.reduceBEq, Nat.reduceEqDiff, Nat.reduceAdd, Int.reduceAdd, Nat.reduceMul, Nat.reduceSub, Int.reduceToNat, Int.reduceLE, Int.reduceLT, Int.reduceEq, Int.reduceNe, reduceCtorEq, Nat.reduceLT, Nat.reduceLeDiff]
    obtain ⟨h1, x, y, rfl, rfl, hx, hy⟩ := askS_0 h
    have hv := chk_val h1
    refine call_of hX hs rfl hv.len hv.le8 ?_
    simp only [ordV, go_sem, Nat.reduceBEq, Nat.reduceEqDiff, Nat.reduceAdd, Int.reduceAdd, Nat.reduceMul, Nat.reduceSub, Int.reduceToNat, Int.reduceLE, Int.reduceLT, Int.reduceEq, Int.reduceNe, reduceCtorEq, Nat.reduceLT, Nat.reduceLeDiff]
    refine call_ev (r := .int .i64 (Lat.oi (Lat.near (Lat.msk up) ns.length x y))) ?_ ?_
    · have := ev_boundU hX hs (Lat.msk up) (Lat.msk_lt up) ns.length x y hv.le8 hx hy
      rw [bdU hv.refl] at this
      simpa only [dryL, dry, tb_dry] using this
    · rw [(hv.ou.near_some hx hy).1]
      simp only [joinS, h, Lat.oi, go_sem, Nat.reduceBEq, Nat.reduceEqDiff, Nat.reduceAdd, Int.reduceAdd, Nat.reduceMul, Nat.reduceSub, Int.reduceToNat, Int.reduceLE, Int.reduceLT, Int.reduceEq, Int.reduceNe, reduceCtorEq, Nat.reduceLT, Nat.reduceLeDiff]
  · simp only [h, go_sem, Nat.reduceBEq, Nat.reduceEqDiff, Nat.reduceAdd, Int.reduceAdd, Nat.reduceMul, Nat.reduceSub, Int.reduceToNat, Int.reduceLE, Int.reduceLT, Int.reduceEq, Int.reduceNe, reduceCtorEq, Nat.reduceLT, Nat.reduceLeDiff, joinS]
theorem ev_Meet (ns : List (List UInt8)) (up : List UInt8) (a b : Int) : Ev X F_lattice_Meet [latV ns up, .int .i64 a, .int .i64 b] (.tuple [.int .i64 (meetS ns up a b), .int .i64 (askS ns up a b)]) := by
  refine ev_of_wpc hs (A_lattice_Meet_ok hX) 1 ?_
  simp only [A_lattice_Meet, latV, go_sem, Nat.reduceBEq, Nat.reduceEqDiff, Nat.reduceAdd, Int.reduceAdd, Nat.reduceMul, Nat.reduceSub, Int.reduceToNat, Int.reduceLE, Int.reduceLT, Int.reduceEq, Int.reduceNe, reduceCtorEq, Nat.reduceLT, Nat.reduceLeDiff]
  refine call_asked hX hs (ls := [a, b]) rfl rfl (by simp) ?_
  rw [askL_2]
  by_cases h : askS ns up a b = 0
  · simp only [h, go_sem, Nat.reduceBEq, Nat.reduceEqDiff, Nat.reduceAdd, Int.reduceAdd, Nat.reduceMul, Nat.reduceSub, Int.reduceToNat, Int.reduceLE, Int.reduceLT, Int.reduceEq, Int.reduceNe, reduceCtorEq, Nat.reduceLT, Nat.reduceLeDiff]
    obtain ⟨h1, x, y, rfl, rfl, hx, hy⟩ := askS_0 h
    have hv := chk_val h1
    refine call_of hX hs rfl hv.len hv.le8 ?_
    simp only [ordV, go_sem, Nat.reduceBEq, Nat.reduceEqDiff, Nat.reduceAdd, Int.reduceAdd, Nat.reduceMul, Nat.reduceSub, Int.reduceToNat, Int.reduceLE, Int.reduceLT, Int.reduceEq, Int.reduceNe, reduceCtorEq, Nat.reduceLT, Nat.reduceLeDiff]
    refine call_ev (r := .int .i64 (Lat.oi (Lat.near (fun c => Lat.dn up c ns.length) ns.length x y))) ?_ ?_
    · have := ev_boundD hX hs (fun b => if b < ns.length then Lat.dn up b ns.length else 0) (dlt hv.le8) ns.length x y hv.le8 hx hy
      rw [bdD hv.refl hx hy] at this
      simpa only [dryL, dry, tb_dry] using this
    · rw [(hv.od.near_some hx hy).1]
      simp only [meetS, h, Lat.oi, go_sem, Nat.reduceBEq, Nat.reduceEqDiff, Nat.reduceAdd, Int.reduceAdd, Nat.reduceMul, Nat.reduceSub, Int.reduceToNat, Int.reduceLE, Int.reduceLT, Int.reduceEq, Int.reduceNe, reduceCtorEq, Nat.reduceLT, Nat.reduceLeDiff]
  · simp only [h, go_sem, Nat.reduceBEq, Nat.reduceEqDiff, Nat.reduceAdd, Int.reduceAdd, Nat.reduceMul, Nat.reduceSub, Int.reduceToNat, Int.reduceLE, Int.reduceLT, Int.reduceEq, Int.reduceNe, reduceCtorEq, Nat.reduceLT, Nat.reduceLeDiff, meetS]
theorem ev_Bottom (ns : List (List UInt8)) (up : List UInt8) : Ev X F_lattice_Bottom [latV ns up] (.tuple [.int .i64 (botS ns up), .int .i64 (Lat.checkS ns up).2]) := by
  refine ev_of_wpc hs (A_lattice_Bottom_ok hX) 1 ?_
  simp only [A_lattice_Bottom, latV, go_sem, Nat.reduceBEq, Nat.reduceEqDiff, Nat.reduceAdd, Int.reduceAdd, Nat.reduceMul, Nat.reduceSub, Int.reduceToNat, Int.reduceLE, Int.reduceLT, Int.reduceEq, Int.reduceNe, reduceCtorEq, Nat.reduceLT, Nat.reduceLeDiff]
  refine call_asked hX hs (ls := []) rfl rfl (by decide) ?_
  rw [askL_0]
  by_cases h : (Lat.checkS ns up).2 = 0
  · simp only [h, go_sem, Nat.reduceBEq, Nat.reduceEqDiff, Nat.reduceAdd, Int.reduceAdd, Nat.reduceMul, Nat.reduceSub, Int.reduceToNat, Int.reduceLE, Int.reduceLT, Int.reduceEq, Int.reduceNe, reduceCtorEq, Nat.reduceLT, Nat.reduceLeDiff]
    have hv := chk_val h
    refine call_of hX hs rfl hv.len hv.le8 ?_
    simp only [ordV, go_sem, Nat.reduceBEq, Nat.reduceEqDiff, Nat.reduceAdd, Int.reduceAdd, Nat.reduceMul, Nat.reduceSub, Int.reduceToNat, Int.reduceLE, Int.reduceLT, Int.reduceEq, Int.reduceNe, reduceCtorEq, Nat.reduceLT, Nat.reduceLeDiff]
    refine call_ev (r := .int .i64 (Lat.endOf (Lat.msk up) ns.length : Nat)) ?_ ?_
    · have := ev_endU hX hs (Lat.msk up) ns.length (Lat.msk_lt up) hv.lt hv.pos hv.le8
      simpa only [dryL, dry, tb_dry] using this
    · simp only [botS, h, hv.end_up, go_sem, Nat.reduceBEq, Nat.reduceEqDiff, Nat.reduceAdd, Int.reduceAdd, Nat.reduceMul, Nat.reduceSub, Int.reduceToNat, Int.reduceLE, Int.reduceLT, Int.reduceEq, Int.reduceNe, reduceCtorEq, Nat.reduceLT, Nat.reduceLeDiff]
  · simp only [h, go_sem, Nat.reduceBEq, Nat.reduceEqDiff, Nat.reduceAdd, Int.reduceAdd, Nat.reduceMul, Nat.reduceSub, Int.reduceToNat, Int.reduceLE, Int.reduceLT, Int.reduceEq, Int.reduceNe, reduceCtorEq, Nat.reduceLT, Nat.reduceLeDiff, botS]
theorem ev_Top (ns : List (List UInt8)) (up : List UInt8) : Ev X F_lattice_Top [latV ns up] (.tuple [.int .i64 (topS ns up), .int .i64 (Lat.checkS ns up).2]) := by
  refine ev_of_wpc hs (A_lattice_Top_ok hX) 1 ?_
  simp only [A_lattice_Top, latV, go_sem, Nat.reduceBEq, Nat.reduceEqDiff, Nat.reduceAdd, Int.reduceAdd, Nat.reduceMul, Nat.reduceSub, Int.reduceToNat, Int.reduceLE, Int.reduceLT, Int.reduceEq, Int.reduceNe, reduceCtorEq, Nat.reduceLT, Nat.reduceLeDiff]
  refine call_asked hX hs (ls := []) rfl rfl (by decide) ?_
  rw [askL_0]
  by_cases h : (Lat.checkS ns up).2 = 0
  · simp only [h, go_sem, Nat.reduceBEq, Nat.reduceEqDiff, Nat.reduceAdd, Int.reduceAdd, Nat.reduceMul, Nat.reduceSub, Int.reduceToNat, Int.reduceLE, Int.reduceLT, Int.reduceEq, Int.reduceNe, reduceCtorEq, Nat.reduceLT, Nat.reduceLeDiff]
    have hv := chk_val h
    refine call_of hX hs rfl hv.len hv.le8 ?_
    simp only [ordV, go_sem, Nat.reduceBEq, Nat.reduceEqDiff, Nat.reduceAdd, Int.reduceAdd, Nat.reduceMul, Nat.reduceSub, Int.reduceToNat, Int.reduceLE, Int.reduceLT, Int.reduceEq, Int.reduceNe, reduceCtorEq, Nat.reduceLT, Nat.reduceLeDiff]
    refine call_ev (r := .int .i64 (Lat.endOf (fun b => if b < ns.length then Lat.dn up b ns.length else 0) ns.length : Nat)) ?_ ?_
    · have := ev_endD hX hs (fun b => if b < ns.length then Lat.dn up b ns.length else 0) ns.length (dlt hv.le8) (fun c hc => by simp only [hc, if_true]; exact Lat.dn_lt up c ns.length) hv.pos hv.le8
      simpa only [dryL, dry, tb_dry] using this
    · have : Lat.endOf (fun b => if b < ns.length then Lat.dn up b ns.length else 0) ns.length = Lat.endOf (fun b => Lat.dn up b ns.length) ns.length := by
        unfold Lat.endOf
        congr 1
        refine Lat.ff_congr fun i hi => ?_
        simp only [show i < ns.length by omega, if_true]
      rw [this]
      simp only [topS, h, hv.end_dn, go_sem, Nat.reduceBEq, Nat.reduceEqDiff, Nat.reduceAdd, Int.reduceAdd, Nat.reduceMul, Nat.reduceSub, Int.reduceToNat, Int.reduceLE, Int.reduceLT, Int.reduceEq, Int.reduceNe, reduceCtorEq, Nat.reduceLT, Nat.reduceLeDiff]
  · simp only [h, go_sem, Nat.reduceBEq, Nat.reduceEqDiff, Nat.reduceAdd, Int.reduceAdd, Nat.reduceMul, Nat.reduceSub, Int.reduceToNat, Int.reduceLE, Int.reduceLT, Int.reduceEq, Int.reduceNe, reduceCtorEq, Nat.reduceLT, Nat.reduceLeDiff, topS]
theorem ev_Find (ns : List (List UInt8)) (up : List UInt8) (s : List UInt8) : Ev X F_lattice_Find [latV ns up, .str s] (.tuple [.int .i64 (Lat.findS ns up s).1, .int .i64 (Lat.findS ns up s).2]) := by
  refine ev_of_wpc hs (A_lattice_Find_ok hX) 1 ?_
  simp only [A_lattice_Find, latV, go_sem, Nat.reduceBEq, Nat.reduceEqDiff, Nat.reduceAdd, Int.reduceAdd, Nat.reduceMul, Nat.reduceSub, Int.reduceToNat, Int.reduceLE, Int.reduceLT, Int.reduceEq, Int.reduceNe, reduceCtorEq, Nat.reduceLT, Nat.reduceLeDiff]
  refine call_asked hX hs (ls := []) rfl rfl (by decide) ?_
  rw [askL_0]
  by_cases h : (Lat.checkS ns up).2 = 0
  · simp only [h, go_sem, Nat.reduceBEq, Nat.reduceEqDiff, Nat.reduceAdd, Int.reduceAdd, Nat.reduceMul, Nat.reduceSub, Int.reduceToNat, Int.reduceLE, Int.reduceLT, Int.reduceEq, Int.reduceNe, reduceCtorEq, Nat.reduceLT, Nat.reduceLeDiff]
    have hv := chk_val h
    refine call_ev (ev_Index hX hs ns s (by have := hv.le8; omega)) ?_
    cases hf : Lat.findO ns s with
    | none =>
      simp only [Lat.oi, go_sem, Nat.reduceBEq, Nat.reduceEqDiff, Nat.reduceAdd, Int.reduceAdd, Nat.reduceMul, Nat.reduceSub, Int.reduceToNat, Int.reduceLE, Int.reduceLT, Int.reduceEq, Int.reduceNe, reduceCtorEq, Nat.reduceLT, Nat.reduceLeDiff]
      simp only [Lat.findS, h, hf, go_sem, Nat.reduceBEq, Nat.reduceEqDiff, Nat.reduceAdd, Int.reduceAdd, Nat.reduceMul, Nat.reduceSub, Int.reduceToNat, Int.reduceLE, Int.reduceLT, Int.reduceEq, Int.reduceNe, reduceCtorEq, Nat.reduceLT, Nat.reduceLeDiff]
    | some a =>
      simp only [Lat.oi, go_sem, Nat.reduceBEq, Nat.reduceEqDiff, Nat.reduceAdd, Int.reduceAdd, Nat.reduceMul, Nat.reduceSub, Int.reduceToNat, Int.reduceLE, Int.reduceLT, Int.reduceEq, Int.reduceNe, reduceCtorEq, Nat.reduceLT, Nat.reduceLeDiff]
      simp only [Lat.findS, h, hf, go_sem, Nat.reduceBEq, Nat.reduceEqDiff, Nat.reduceAdd, Int.reduceAdd, Nat.reduceMul, Nat.reduceSub, Int.reduceToNat, Int.reduceLE, Int.reduceLT, Int.reduceEq, Int.reduceNe, reduceCtorEq, Nat.reduceLT, Nat.reduceLeDiff]
      exact fun h => absurd (by omega) h
  · simp only [h, go_sem, Nat.reduceBEq, Nat.reduceEqDiff, Nat.reduceAdd, Int.reduceAdd, Nat.reduceMul, Nat.reduceSub, Int.reduceToNat, Int.reduceLE, Int.reduceLT, Int.reduceEq, Int.reduceNe, reduceCtorEq, Nat.reduceLT, Nat.reduceLeDiff, Lat.findS]
end
end Go.Avm

/- Covers. -/
namespace Go.Avm
open Go
def prV (p : Nat × Nat) : AV := .agg [.int .i64 (p.1 : Int), .int .i64 (p.2 : Int)]
instance : Elt prV 2 := ⟨fun _ => rfl, fun _ => rfl, fun _ => rfl, fun _ => rfl⟩
theorem ax1_pr {H : Heap} {by' : Nat} (i : Nat) (l : List (Nat × Nat)) (a b : Nat) : appX H 2 by' (lst prV (.tok i 2) l) (some [.agg [.int .i64 (a : Int), .int .i64 (b : Int)]]) = app1 H by' i l.length (lst prV (.tok i 2) (l ++ [(a, b)])) :=
  ax_tok (f := prV) (m := [(a, b)]) i
theorem ce_pr (p : Nat × Nat) : AV.cells (prV p) = [.int .i64 (p.1 : Int), .int .i64 (p.2 : Int)] := id rfl
attribute [go_sem] ax1_pr ce_pr
theorem ev_ro {X : Cx} {f : Nat} {args : List AV} {p : Perm} {es xs : List AV} (h : Ev X f args (.tuple (.sl p es :: xs))) : Ev X f args (.tuple (.sl .ro es :: xs)) := by
  refine ev_weak h fun g w v hr => ?_
  simp only [Rel, RelL] at hr ⊢
  obtain ⟨vs, h1, h2⟩ := hr
  obtain ⟨v1, t1, h3, h4, h5⟩ := h2
  obtain ⟨a, cap, us, sz, k1, k2, k3, k4, _⟩ := h4
  exact ⟨vs, h1, v1, t1, h3, ⟨a, cap, us, sz, k1, k2, k3, k4, trivial⟩, h5⟩
def covS (ns : List (List UInt8)) (up : List UInt8) : List (Nat × Nat) := if (Lat.checkS ns up).2 = 0 then Lat.covs up ns.length ns.length else []
section
variable {X : Cx} (hX : X.P = Go.Proofs.Tryd.prog) (hs : Std X)
include hX hs
theorem ev_Covers (ns : List (List UInt8)) (up : List UInt8) : Ev X F_lattice_Covers [latV ns up] (.tuple [lst prV .ro (covS ns up), .int .i64 (Lat.checkS ns up).2]) := by
  by_cases h : (Lat.checkS ns up).2 = 0
  · have hv := chk_val h
    have n8 := hv.le8
    simp only [covS, h, if_true]
    refine ev_of_wpc hs (A_lattice_Covers_ok hX) 2 ?_
    simp only [A_lattice_Covers, latV, go_sem, Nat.reduceBEq, Nat.reduceEqDiff, Nat.reduceAdd, Int.reduceAdd, Nat.reduceMul, Nat.reduceSub, Int.reduceToNat, Int.reduceLE, Int.reduceLT, Int.reduceEq, Int.reduceNe, reduceCtorEq, Nat.reduceLT, Nat.reduceLeDiff]
    refine call_asked hX hs (ls := []) rfl rfl (by decide) ?_
    rw [askL_0]
    simp only [h, go_sem, Nat.reduceBEq, Nat.reduceEqDiff, Nat.reduceAdd, Int.reduceAdd, Nat.reduceMul, Nat.reduceSub, Int.reduceToNat, Int.reduceLE, Int.reduceLT, Int.reduceEq, Int.reduceNe, reduceCtorEq, Nat.reduceLT, Nat.reduceLeDiff]
    refine call_of hX hs rfl hv.len hv.le8 ?_
    simp only [ordV, go_sem, Nat.reduceBEq, Nat.reduceEqDiff, Nat.reduceAdd, Int.reduceAdd, Nat.reduceMul, Nat.reduceSub, Int.reduceToNat, Int.reduceLE, Int.reduceLT, Int.reduceEq, Int.reduceNe, reduceCtorEq, Nat.reduceLT, Nat.reduceLeDiff]
    refine w_loop hs.hm (ι := Nat) (fun a => a ≤ ns.length) (fun a => [(17, .int .i64 a), (16, .int .i64 ns.length), (6, .ptr 1 0), (5, lst prV (.tok 2 2) (Lat.covs up ns.length a)), (1, .ptr 0 0)]) (fun a => [.box [lst AV.str .ro ns, lst u8 .ro up], .box (tb 17 (ordC ns.length (Lat.msk up) (fun b => if b < ns.length then Lat.dn up b ns.length else 0))), .tok (Lat.covs up ns.length a).length]) (fun a => ns.length - a) 0 ⟨Nat.zero_le _, _, _, wk_tok 5 2 rfl, ⟨by simp only [go_sem, Nat.reduceBEq, Nat.reduceEqDiff, Nat.reduceAdd, Int.reduceAdd, Nat.reduceMul, Nat.reduceSub, Int.reduceToNat, Int.reduceLE, Int.reduceLT, Int.reduceEq, Int.reduceNe, reduceCtorEq, Nat.reduceLT, Nat.reduceLeDiff]; rfl, rfl⟩⟩ fun a ha => ?_
    simp only [A_lattice_CoversL0, go_sem, Nat.reduceBEq, Nat.reduceEqDiff, Nat.reduceAdd, Int.reduceAdd, Nat.reduceMul, Nat.reduceSub, Int.reduceToNat, Int.reduceLE, Int.reduceLT, Int.reduceEq, Int.reduceNe, reduceCtorEq, Nat.reduceLT, Nat.reduceLeDiff]
    refine ⟨fun ca => ?_, fun ca => ?_⟩
    · have ha' : a < ns.length := by omega
      refine w_loop' hs.hm (ι := Nat) (fun b => b ≤ ns.length) (fun b => [(23, .int .i64 b), (22, .int .i64 ns.length), (7, .int .i64 a), (17, .int .i64 a), (16, .int .i64 ns.length), (6, .ptr 1 0), (5, lst prV (.tok 2 2) (Lat.covs up ns.length a ++ Lat.covRow up ns.length a b)), (1, .ptr 0 0)]) (fun b => [.box [lst AV.str .ro ns, lst u8 .ro up], .box (tb 17 (ordC ns.length (Lat.msk up) (fun b => if b < ns.length then Lat.dn up b ns.length else 0))), .tok (Lat.covs up ns.length a ++ Lat.covRow up ns.length a b).length]) (fun b => ns.length - b) 0 ?_ fun b hb => ?_
      · simp only [Lat.covRow, go_sem, Nat.reduceBEq, Nat.reduceEqDiff, Nat.reduceAdd, Int.reduceAdd, Nat.reduceMul, Nat.reduceSub, Int.reduceToNat, Int.reduceLE, Int.reduceLT, Int.reduceEq, Int.reduceNe, reduceCtorEq, Nat.reduceLT, Nat.reduceLeDiff]
        exact Nat.zero_le _
      · by_cases hb8 : b < ns.length
        · have hlen : (Lat.covs up ns.length a ++ Lat.covRow up ns.length a b).length ≤ 72 := by
            rw [List.length_append]
            have := Lat.covs_len up ns.length a
            have := Lat.covRow_len up ns.length a b
            have : a * ns.length ≤ 8 * 8 := Nat.mul_le_mul (by omega) n8
            omega
          have hand : bits .and .u8 ((Lat.msk up a : Nat) : Int) ((Lat.dn up b ns.length : Nat) : Int) = ((Lat.msk up a &&& Lat.dn up b ns.length : Nat) : Int) := bu_and (Lat.msk_lt up a) (Lat.dn_lt8 up b n8)
          have sl : ∀ x, x < 8 → 1 <<< x < 256 := fun x hx => by rw [Nat.one_shiftLeft]; exact Nat.lt_of_lt_of_le (Nat.pow_lt_pow_right (by omega) hx) (by decide)
          simp only [A_lattice_CoversL1, go_sem, Nat.reduceBEq, Nat.reduceEqDiff, Nat.reduceAdd, Int.reduceAdd, Nat.reduceMul, Nat.reduceSub, Int.reduceToNat, Int.reduceLE, Int.reduceLT, Int.reduceEq, Int.reduceNe, reduceCtorEq, Nat.reduceLT, Nat.reduceLeDiff, Nat.mul_one, tb_getD _ _ (show 1 + a < 17 by omega), tb_getD _ _ (show 9 + b < 17 by omega), ordC_u _ _ _ (show a < 8 by omega), ordC_d, hb8, hand, shl8 (show a < 8 by omega), shl8 (show b < 8 by omega), bu_or (sl a (by omega)) (sl b (by omega))]
          have hc := hv.cov_eq ha' hb8
          have e1 : Lat.cov up ns.length a b = true → Lat.covs up ns.length a ++ Lat.covRow up ns.length a b ++ [(a, b)] = Lat.covs up ns.length a ++ Lat.covRow up ns.length a (b + 1) := fun h => by
            simp only [Lat.covRow, h, if_true, List.append_assoc]
          have e0 : Lat.cov up ns.length a b = false → Lat.covs up ns.length a ++ Lat.covRow up ns.length a b = Lat.covs up ns.length a ++ Lat.covRow up ns.length a (b + 1) := fun h => by
            simp only [Lat.covRow, h, Bool.false_eq_true, if_false, List.append_nil]
          refine ⟨fun cb => ⟨fun hne => ⟨by omega, by omega, by omega, by omega, by omega, by omega, fun e => ⟨by omega, b + 1, by omega, by omega, ⟨by rw [wi64 (by omega)]; rfl, ?_⟩, ?_⟩, fun e => ⟨b + 1, by omega, by omega, ⟨by rw [wi64 (by omega)]; rfl, ?_⟩, ?_⟩⟩, fun e => ⟨b + 1, by omega, by omega, ⟨by rw [wi64 (by omega)]; rfl, ?_⟩, ?_⟩⟩, fun cb => by omega⟩
          · have c1 : Lat.cov up ns.length a b = true := by
              rw [← hc, Bool.and_eq_true]; exact ⟨by simp; omega, by rw [beq_iff_eq]; omega⟩
            rw [e1 c1]
          · have c1 : Lat.cov up ns.length a b = true := by
              rw [← hc, Bool.and_eq_true]; exact ⟨by simp; omega, by rw [beq_iff_eq]; omega⟩
            rw [← e1 c1]; simp only [List.length_append, List.length_cons, List.length_nil]
          · have c1 : Lat.cov up ns.length a b = false := by
              rw [← hc, Bool.and_eq_false_iff]; exact .inr (by rw [beq_eq_false_iff_ne]; omega)
            rw [e0 c1]
          · have c1 : Lat.cov up ns.length a b = false := by
              rw [← hc, Bool.and_eq_false_iff]; exact .inr (by rw [beq_eq_false_iff_ne]; omega)
            rw [e0 c1]
          · have c1 : Lat.cov up ns.length a b = false := by
              rw [← hc, Bool.and_eq_false_iff]; exact .inl (by simp; omega)
            rw [e0 c1]
          · have c1 : Lat.cov up ns.length a b = false := by
              rw [← hc, Bool.and_eq_false_iff]; exact .inl (by simp; omega)
            rw [e0 c1]
        · simp only [A_lattice_CoversL1, go_sem, Nat.reduceBEq, Nat.reduceEqDiff, Nat.reduceAdd, Int.reduceAdd, Nat.reduceMul, Nat.reduceSub, Int.reduceToNat, Int.reduceLE, Int.reduceLT, Int.reduceEq, Int.reduceNe, reduceCtorEq, Nat.reduceLT, Nat.reduceLeDiff, show ¬ (b : Int) < ns.length by omega]
          obtain rfl : b = ns.length := by omega
          exact ⟨a + 1, by omega, by omega, ⟨by rw [wi64 (by omega)]; rfl, rfl⟩, rfl⟩
    · obtain rfl : a = ns.length := by omega
      rfl
  · simp only [covS, if_neg h]
    refine ev_ro (p := .ex) (es := []) ?_
    refine ev_of_wpc hs (A_lattice_Covers_ok hX) 2 ?_
    simp only [A_lattice_Covers, latV, go_sem, Nat.reduceBEq, Nat.reduceEqDiff, Nat.reduceAdd, Int.reduceAdd, Nat.reduceMul, Nat.reduceSub, Int.reduceToNat, Int.reduceLE, Int.reduceLT, Int.reduceEq, Int.reduceNe, reduceCtorEq, Nat.reduceLT, Nat.reduceLeDiff]
    refine call_asked hX hs (ls := []) rfl rfl (by decide) ?_
    rw [askL_0]
    simp only [h, go_sem, Nat.reduceBEq, Nat.reduceEqDiff, Nat.reduceAdd, Int.reduceAdd, Nat.reduceMul, Nat.reduceSub, Int.reduceToNat, Int.reduceLE, Int.reduceLT, Int.reduceEq, Int.reduceNe, reduceCtorEq, Nat.reduceLT, Nat.reduceLeDiff]
end
end Go.Avm

/- The builder's methods here. -/
namespace Go.Avm
open Go Go.Proofs Go.Shelf
section
variable {X : Cx} (hX : X.P = Go.Proofs.Tryd.prog) (hs : Std X) {H : Heap}
include hX
theorem ev_bWS {i : Nat} {l : List UInt8} (s : List UInt8) (hH : H[i]? = some (.bld 83 5 l)) (hlen : l.length + s.length ≤ 140737488355328) :
    EvM X F_strings_Builder_WriteString [.ptr i 0, .str s] H fun r H' => r = .tuple [.int .i64 s.length, .nilI] ∧ H' = H.set i (.bld 83 5 (l ++ s)) := by
  refine evM_bpost ⟨Go.Proofs.Tryd.f62, by rw [hX]; exact Go.Proofs.Tryd.func62, by decide, by kernel_rfl⟩ (by decide) hH fun g w vs b p v hwf hhr hvs hbx hb hp hv => ?_
  simp only [RelL, Rel] at hvs
  obtain ⟨v1, r1, rfl, ⟨b', rfl, h2⟩, v2, r2, rfl, ⟨sb, rfl, h3⟩, rfl⟩ := hvs
  rw [hbx] at h2
  cases h2
  subst h3
  rw [hX]
  refine (b_WriteString (C := X) hX bLays166 bExtra sb hb hp hv (by simpa using hlen)).mono ?_
  rintro e w' ⟨rfl, h⟩
  exact ⟨_, rfl, fun g' => by simp [Rel, RelL], h⟩
theorem ev_bWB {i : Nat} {l : List UInt8} (c : UInt8) (hH : H[i]? = some (.bld 83 5 l)) (hlen : l.length + 1 ≤ 140737488355328) :
    EvM X F_strings_Builder_WriteByte [.ptr i 0, u8 c] H fun r H' => r = .nilI ∧ H' = H.set i (.bld 83 5 (l ++ [c])) := by
  refine evM_bpost ⟨Go.Proofs.Tryd.f63, by rw [hX]; exact Go.Proofs.Tryd.func63, by decide, by kernel_rfl⟩ (by decide) hH fun g w vs b p v hwf hhr hvs hbx hb hp hv => ?_
  simp only [RelL, Rel, u8] at hvs
  obtain ⟨v1, r1, rfl, ⟨b', rfl, h2⟩, v2, r2, rfl, rfl, rfl⟩ := hvs
  rw [hbx] at h2
  cases h2
  rw [hX]
  refine (b_WriteByte (C := X) hX bLays167 bExtra c hb hp hv hlen).mono ?_
  rintro e w' ⟨rfl, h⟩
  exact ⟨_, rfl, fun g' => by simp [Rel], h⟩
theorem ev_bString {i : Nat} {l : List UInt8} (hH : H[i]? = some (.bld 83 5 l)) (h0 : l ≠ []) :
    EvM X F_strings_Builder_String [.ptr i 0] H fun r H' => r = .str l ∧ H' = H.set i .dead := by
  refine evM_spost ⟨Go.Proofs.Tryd.f64, by rw [hX]; exact Go.Proofs.Tryd.func64, by decide, by kernel_rfl⟩ (T := 83) (e := 5) (by decide) hH fun w b p v hb hv => ?_
  rw [hX]
  exact b_String bLays169 bExtra hb hv h0
end
end Go.Avm

/- Print. -/
namespace Go.Avm
open Go
theorem dg_eq (t : Bool) : IntKind.u8.wrap (48 + if t = true then 1 else 0) = ((Lat.dg t).toNat : Int) := by cases t <;> decide
section
variable {X : Cx} (hX : X.P = Go.Proofs.Tryd.prog) (hs : Std X)
include hX hs
theorem ev_Print (ns : List (List UInt8)) (up : List UInt8) : Ev X F_lattice_Print [latV ns up] (.tuple [.str (if (Lat.checkS ns up).2 = 0 then Lat.prt ns up ns.length else []), .int .i64 (Lat.checkS ns up).2]) := by
  by_cases h : (Lat.checkS ns up).2 = 0
  · have hv := chk_val h
    have n8 := hv.le8
    have hnm := Lat.names_nm (Lat.checkS_val h).1
    have h16 : ∀ i, i < ns.length → (ns.getD i []).length ≤ 16 := fun i hi => Lat.isNm_len (hnm i hi)
    simp only [h, if_true]
    refine ev_of_wpc hs (A_lattice_Print_ok hX) 1 ?_
    simp only [A_lattice_Print, latV, go_sem, Nat.reduceBEq, Nat.reduceEqDiff, Nat.reduceAdd, Int.reduceAdd, Nat.reduceMul, Nat.reduceSub, Int.reduceToNat, Int.reduceLE, Int.reduceLT, Int.reduceEq, Int.reduceNe, reduceCtorEq, Nat.reduceLT, Nat.reduceLeDiff]
    refine call_asked hX hs (ls := []) rfl rfl (by decide) ?_
    rw [askL_0]
    simp only [h, go_sem, Nat.reduceBEq, Nat.reduceEqDiff, Nat.reduceAdd, Int.reduceAdd, Nat.reduceMul, Nat.reduceSub, Int.reduceToNat, Int.reduceLE, Int.reduceLT, Int.reduceEq, Int.reduceNe, reduceCtorEq, Nat.reduceLT, Nat.reduceLeDiff]
    refine w_loop' hs.hm (ι := Nat) (fun a => a ≤ ns.length) (fun a => [(16, .int .i64 a), (15, .int .i64 ns.length), (14, lst AV.str .ro ns), (5, .ptr 1 0), (1, .ptr 0 0)]) (fun a => [.box [lst AV.str .ro ns, lst u8 .ro up], .bld 83 5 (Lat.prt ns up a)]) (fun a => ns.length - a) 0 ?_ fun a ha => ?_
    · simp only [go_sem, Nat.reduceBEq, Nat.reduceEqDiff, Nat.reduceAdd, Int.reduceAdd, Nat.reduceMul, Nat.reduceSub, Int.reduceToNat, Int.reduceLE, Int.reduceLT, Int.reduceEq, Int.reduceNe, reduceCtorEq, Nat.reduceLT, Nat.reduceLeDiff]
      exact ⟨Nat.zero_le _, rfl⟩
    · have hpl := Lat.prt_len up n8 h16 a ha
      simp only [A_lattice_PrintL0, go_sem, Nat.reduceBEq, Nat.reduceEqDiff, Nat.reduceAdd, Int.reduceAdd, Nat.reduceMul, Nat.reduceSub, Int.reduceToNat, Int.reduceLE, Int.reduceLT, Int.reduceEq, Int.reduceNe, reduceCtorEq, Nat.reduceLT, Nat.reduceLeDiff]
      refine ⟨fun ca => ?_, fun ca => ?_⟩
      · have ha' : a < ns.length := by omega
        have h16a := h16 a ha'
        have h16b : (ns.getD a default).length ≤ 16 := h16a
        refine ⟨by omega, by omega, ?_⟩
        refine call_evm (ev_bWS hX (l := Lat.prt ns up a) (ns.getD a [] ++ [32]) rfl (by simp only [List.length_append, List.length_cons, List.length_nil]; omega)) ?_
        rintro r H' ⟨rfl, rfl⟩
        simp only [go_sem, Nat.reduceBEq, Nat.reduceEqDiff, Nat.reduceAdd, Int.reduceAdd, Nat.reduceMul, Nat.reduceSub, Int.reduceToNat, Int.reduceLE, Int.reduceLT, Int.reduceEq, Int.reduceNe, reduceCtorEq, Nat.reduceLT, Nat.reduceLeDiff]
        refine w_loop' hs.hm (ι := Nat) (fun b => b ≤ ns.length) (fun b => [(27, .int .i64 b), (26, .int .i64 ns.length), (6, .int .i64 a), (16, .int .i64 a), (15, .int .i64 ns.length), (14, lst AV.str .ro ns), (5, .ptr 1 0), (1, .ptr 0 0)]) (fun b => [.box [lst AV.str .ro ns, lst u8 .ro up], .bld 83 5 (Lat.prt ns up a ++ (ns.getD a [] ++ [32]) ++ Lat.rowT up a b)]) (fun b => ns.length - b) 0 ?_ fun b hb => ?_
        · simp only [go_sem, Nat.reduceBEq, Nat.reduceEqDiff, Nat.reduceAdd, Int.reduceAdd, Nat.reduceMul, Nat.reduceSub, Int.reduceToNat, Int.reduceLE, Int.reduceLT, Int.reduceEq, Int.reduceNe, reduceCtorEq, Nat.reduceLT, Nat.reduceLeDiff, Lat.rowT]
          exact Nat.zero_le _
        · have hrl := Lat.rowT_len up a b
          simp only [A_lattice_PrintL1, go_sem, Nat.reduceBEq, Nat.reduceEqDiff, Nat.reduceAdd, Int.reduceAdd, Nat.reduceMul, Nat.reduceSub, Int.reduceToNat, Int.reduceLE, Int.reduceLT, Int.reduceEq, Int.reduceNe, reduceCtorEq, Nat.reduceLT, Nat.reduceLeDiff, getD_def, bt_and b (Lat.msk_lt up a), dg_eq]
          refine ⟨fun cb => ⟨by have := hv.len; omega, by omega, ?_⟩, fun cb => ?_⟩
          · refine call_evm (ev_bWB hX (l := Lat.prt ns up a ++ (ns.getD a [] ++ [32]) ++ Lat.rowT up a b) (Lat.dg (Lat.le up a b)) rfl (by simp only [List.length_append, List.length_cons, List.length_nil]; omega)) ?_
            rintro r H' ⟨rfl, rfl⟩
            simp only [go_sem, Nat.reduceBEq, Nat.reduceEqDiff, Nat.reduceAdd, Int.reduceAdd, Nat.reduceMul, Nat.reduceSub, Int.reduceToNat, Int.reduceLE, Int.reduceLT, Int.reduceEq, Int.reduceNe, reduceCtorEq, Nat.reduceLT, Nat.reduceLeDiff]
            refine ⟨b + 1, by omega, by omega, by rw [wi64 (by omega)]; rfl, ?_⟩
            simp only [Lat.rowT, List.append_assoc]
          · obtain rfl : b = ns.length := by omega
            refine call_evm (ev_bWB hX (l := Lat.prt ns up a ++ (ns.getD a [] ++ [32]) ++ Lat.rowT up a ns.length) 10 rfl (by simp only [List.length_append, List.length_cons, List.length_nil]; omega)) ?_
            rintro r H' ⟨rfl, rfl⟩
            simp only [go_sem, Nat.reduceBEq, Nat.reduceEqDiff, Nat.reduceAdd, Int.reduceAdd, Nat.reduceMul, Nat.reduceSub, Int.reduceToNat, Int.reduceLE, Int.reduceLT, Int.reduceEq, Int.reduceNe, reduceCtorEq, Nat.reduceLT, Nat.reduceLeDiff]
            exact ⟨a + 1, by omega, by omega, by rw [wi64 (by omega)]; rfl, rfl⟩
      · obtain rfl : a = ns.length := by omega
        have hne : Lat.prt ns up ns.length ≠ [] := by
          have := hv.pos
          cases hn : ns.length with
          | zero => omega
          | succ k => simp [Lat.prt]
        refine call_evm (ev_bString hX rfl hne) ?_
        rintro r H' ⟨rfl, rfl⟩
        simp only [go_sem, Nat.reduceBEq, Nat.reduceEqDiff, Nat.reduceAdd, Int.reduceAdd, Nat.reduceMul, Nat.reduceSub, Int.reduceToNat, Int.reduceLE, Int.reduceLT, Int.reduceEq, Int.reduceNe, reduceCtorEq, Nat.reduceLT, Nat.reduceLeDiff]
  · simp only [h, if_false]
    refine ev_of_wpc hs (A_lattice_Print_ok hX) 1 ?_
    simp only [A_lattice_Print, latV, go_sem, Nat.reduceBEq, Nat.reduceEqDiff, Nat.reduceAdd, Int.reduceAdd, Nat.reduceMul, Nat.reduceSub, Int.reduceToNat, Int.reduceLE, Int.reduceLT, Int.reduceEq, Int.reduceNe, reduceCtorEq, Nat.reduceLT, Nat.reduceLeDiff]
    refine call_asked hX hs (ls := []) rfl rfl (by decide) ?_
    rw [askL_0]
    simp only [h, go_sem, Nat.reduceBEq, Nat.reduceEqDiff, Nat.reduceAdd, Int.reduceAdd, Nat.reduceMul, Nat.reduceSub, Int.reduceToNat, Int.reduceLE, Int.reduceLT, Int.reduceEq, Int.reduceNe, reduceCtorEq, Nat.reduceLT, Nat.reduceLeDiff]
end
end Go.Avm

/- awake, and the examples. -/
namespace Go.Avm
open Go
def dN : List (List UInt8) := [[108, 111, 119], [97, 110, 110], [98, 111, 98], [116, 111, 112]]
def dU : List UInt8 := [15, 10, 12, 8]
theorem d_chk : Lat.checkS dN dU = (0, 0) := by decide +kernel
theorem d_ask12 : askS dN dU 1 2 = 0 := by decide +kernel
theorem d_ask02 : askS dN dU 0 2 = 0 := by decide +kernel
theorem d_join : joinS dN dU 1 2 = 3 := by decide +kernel
theorem d_meet : meetS dN dU 1 2 = 0 := by decide +kernel
theorem d_leq : leqS dN dU 0 2 = true := by decide +kernel
theorem d_cov : covS dN dU = [(0, 1), (0, 2), (1, 3), (2, 3)] := by decide +kernel
theorem d_prt : Lat.prt dN dU 4 = [108, 111, 119, 32, 49, 49, 49, 49, 10, 97, 110, 110, 32, 48, 49, 48, 49, 10, 98, 111, 98, 32, 48, 48, 49, 49, 10, 116, 111, 112, 32, 48, 48, 48, 49, 10] := by decide +kernel
set_option maxRecDepth 10000
section
variable {X : Cx} (hX : X.P = Go.Proofs.Tryd.prog) (hs : Std X)
include hX hs
theorem ev_Diamond : Ev X F_law03_Diamond [] (.agg [lst AV.str .ex dN, lst u8 .ex dU]) := by
  refine ev_of_wpc hs (A_law03_Diamond_ok hX) 1 ?_
  simp only [A_law03_Diamond, go_sem, Nat.reduceBEq, Nat.reduceEqDiff, Nat.reduceAdd, Int.reduceAdd, Nat.reduceMul, Nat.reduceSub, Int.reduceToNat, Int.reduceLE, Int.reduceLT, Int.reduceEq, Int.reduceNe, reduceCtorEq, Nat.reduceLT, Nat.reduceLeDiff]
  rfl
theorem ev_awake : Ev X F_law03_awake [] (.bool true) := by
  refine ev_of_wpc hs (A_law03_awake_ok hX) 1 ?_
  simp only [A_law03_awake, go_sem, Nat.reduceBEq, Nat.reduceEqDiff, Nat.reduceAdd, Int.reduceAdd, Nat.reduceMul, Nat.reduceSub, Int.reduceToNat, Int.reduceLE, Int.reduceLT, Int.reduceEq, Int.reduceNe, reduceCtorEq, Nat.reduceLT, Nat.reduceLeDiff]
  refine call_ev (ev_Diamond hX hs) ?_
  simp only [go_sem, Nat.reduceBEq, Nat.reduceEqDiff, Nat.reduceAdd, Int.reduceAdd, Nat.reduceMul, Nat.reduceSub, Int.reduceToNat, Int.reduceLE, Int.reduceLT, Int.reduceEq, Int.reduceNe, reduceCtorEq, Nat.reduceLT, Nat.reduceLeDiff]
  refine call_ev (r := .tuple [.int .i64 3, .int .i64 0]) (by have := ev_Join hX hs dN dU 1 2; rw [d_join, d_ask12] at this; exact this) ?_
  simp only [go_sem, Nat.reduceBEq, Nat.reduceEqDiff, Nat.reduceAdd, Int.reduceAdd, Nat.reduceMul, Nat.reduceSub, Int.reduceToNat, Int.reduceLE, Int.reduceLT, Int.reduceEq, Int.reduceNe, reduceCtorEq, Nat.reduceLT, Nat.reduceLeDiff]
  refine call_ev (ev_Diamond hX hs) ?_
  simp only [go_sem, Nat.reduceBEq, Nat.reduceEqDiff, Nat.reduceAdd, Int.reduceAdd, Nat.reduceMul, Nat.reduceSub, Int.reduceToNat, Int.reduceLE, Int.reduceLT, Int.reduceEq, Int.reduceNe, reduceCtorEq, Nat.reduceLT, Nat.reduceLeDiff]
  refine call_ev (r := .tuple [.int .i64 0, .int .i64 0]) (by have := ev_Meet hX hs dN dU 1 2; rw [d_meet, d_ask12] at this; exact this) ?_
  simp only [go_sem, Nat.reduceBEq, Nat.reduceEqDiff, Nat.reduceAdd, Int.reduceAdd, Nat.reduceMul, Nat.reduceSub, Int.reduceToNat, Int.reduceLE, Int.reduceLT, Int.reduceEq, Int.reduceNe, reduceCtorEq, Nat.reduceLT, Nat.reduceLeDiff]
  refine call_ev (ev_Diamond hX hs) ?_
  simp only [go_sem, Nat.reduceBEq, Nat.reduceEqDiff, Nat.reduceAdd, Int.reduceAdd, Nat.reduceMul, Nat.reduceSub, Int.reduceToNat, Int.reduceLE, Int.reduceLT, Int.reduceEq, Int.reduceNe, reduceCtorEq, Nat.reduceLT, Nat.reduceLeDiff]
  refine call_ev (r := .tuple [lst prV .ro [(0, 1), (0, 2), (1, 3), (2, 3)], .int .i64 0]) (by have := ev_Covers hX hs dN dU; rw [d_cov, d_chk] at this; exact this) ?_
  simp only [go_sem, Nat.reduceBEq, Nat.reduceEqDiff, Nat.reduceAdd, Int.reduceAdd, Nat.reduceMul, Nat.reduceSub, Int.reduceToNat, Int.reduceLE, Int.reduceLT, Int.reduceEq, Int.reduceNe, reduceCtorEq, Nat.reduceLT, Nat.reduceLeDiff]
  refine call_ev (ev_Diamond hX hs) ?_
  simp only [go_sem, Nat.reduceBEq, Nat.reduceEqDiff, Nat.reduceAdd, Int.reduceAdd, Nat.reduceMul, Nat.reduceSub, Int.reduceToNat, Int.reduceLE, Int.reduceLT, Int.reduceEq, Int.reduceNe, reduceCtorEq, Nat.reduceLT, Nat.reduceLeDiff]
  refine call_ev (r := .tuple [.bool true, .int .i64 0]) (by have := ev_Leq hX hs dN dU 0 2; rw [d_leq, d_ask02] at this; exact this) ?_
  simp only [go_sem, Nat.reduceBEq, Nat.reduceEqDiff, Nat.reduceAdd, Int.reduceAdd, Nat.reduceMul, Nat.reduceSub, Int.reduceToNat, Int.reduceLE, Int.reduceLT, Int.reduceEq, Int.reduceNe, reduceCtorEq, Nat.reduceLT, Nat.reduceLeDiff]
  refine call_ev (ev_Diamond hX hs) ?_
  simp only [go_sem, Nat.reduceBEq, Nat.reduceEqDiff, Nat.reduceAdd, Int.reduceAdd, Nat.reduceMul, Nat.reduceSub, Int.reduceToNat, Int.reduceLE, Int.reduceLT, Int.reduceEq, Int.reduceNe, reduceCtorEq, Nat.reduceLT, Nat.reduceLeDiff]
  refine call_ev (r := .tuple [.str [108, 111, 119, 32, 49, 49, 49, 49, 10, 97, 110, 110, 32, 48, 49, 48, 49, 10, 98, 111, 98, 32, 48, 48, 49, 49, 10, 116, 111, 112, 32, 48, 48, 48, 49, 10], .int .i64 0]) (by have := ev_Print hX hs dN dU; rw [d_chk, if_pos rfl, show dN.length = 4 from rfl, d_prt] at this; exact this) ?_
  simp only [go_sem, Nat.reduceBEq, Nat.reduceEqDiff, Nat.reduceAdd, Int.reduceAdd, Nat.reduceMul, Nat.reduceSub, Int.reduceToNat, Int.reduceLE, Int.reduceLT, Int.reduceEq, Int.reduceNe, reduceCtorEq, Nat.reduceLT, Nat.reduceLeDiff]
end
end Go.Avm
