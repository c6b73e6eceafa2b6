/- The program: what asks Check. -/
import Derived.Test.YtbhdhlkjchgddaaGreatDoorAQ2
import Derived.Test.YtbhdhlkjchgddaaGreatDoorM1
set_option linter.unusedSectionVars false
set_option linter.unusedSimpArgs false
set_option linter.unusedVariables false

/- The program: what asks Check. -/
namespace Go.Avm
open Go
def badL (n : Nat) (a : Int) : Bool := decide (a < 0) || decide ((n : Int) ≤ a)
def askL (ns : List (List UInt8)) (up : List UInt8) (ls : List Int) : Int := if (Lat.checkS ns up).2 = 0 ∧ ls.any (badL ns.length) = true then 7 else (Lat.checkS ns up).2
theorem askL_0 (ns : List (List UInt8)) (up : List UInt8) : askL ns up [] = (Lat.checkS ns up).2 := by simp [askL]
section
variable {X : Cx} (hX : X.P = Go.Proofs.Tryz.prog) (hs : Std X)
include hX hs
theorem ev_asked (ns : List (List UInt8)) (up : List UInt8) (ls : List Int) (hl : ls.length < 1000000) : Ev X F_lattice_asked [.vp [lst AV.str .ro ns, lst u8 .ro up], lst (AV.int .i64) .ro ls] (.int .i64 (askL ns up ls)) := by
  refine ev_of_wpc hs (A_lattice_asked_ok hX) 1 ?_
  simp only [A_lattice_asked, go_sem, Nat.reduceMod, Nat.reduceBNe, Nat.reduceBEq, Nat.reduceEqDiff, Nat.reduceAdd, Int.reduceAdd, Nat.reduceMul, Nat.reduceSub, Int.reduceToNat, Int.reduceLE, Int.reduceLT, Int.reduceEq, Int.reduceNe, reduceCtorEq, Nat.reduceLT, Nat.reduceLeDiff]
  refine call_ev (ev_Check hX hs ns up) ?_
  by_cases h : (Lat.checkS ns up).2 = 0
  · simp only [h, go_sem, Nat.reduceMod, Nat.reduceBNe, Nat.reduceBEq, Nat.reduceEqDiff, Nat.reduceAdd, Int.reduceAdd, Nat.reduceMul, Nat.reduceSub, Int.reduceToNat, Int.reduceLE, Int.reduceLT, Int.reduceEq, Int.reduceNe, reduceCtorEq, Nat.reduceLT, Nat.reduceLeDiff]
    refine w_loop' hs.hm (ι := Nat) (fun i => i ≤ ls.length ∧ ∀ j, j < i → badL ns.length (ls.getD j 0) = false) (fun i => [(21, .int .i64 i), (20, .int .i64 ls.length), (19, lst (AV.int .i64) .ro ls), (0, .vp [lst AV.str .ro ns, lst u8 .ro up])]) (fun _ => []) (fun i => ls.length - i) 0 ?_ fun i hi => ?_
    · simp only [go_sem, Nat.reduceMod, Nat.reduceBNe, Nat.reduceBEq, Nat.reduceEqDiff, Nat.reduceAdd, Int.reduceAdd, Nat.reduceMul, Nat.reduceSub, Int.reduceToNat, Int.reduceLE, Int.reduceLT, Int.reduceEq, Int.reduceNe, reduceCtorEq, Nat.reduceLT, Nat.reduceLeDiff]
      exact ⟨Nat.zero_le _, no_lt0⟩
    · obtain ⟨i1, i2⟩ := hi
      simp only [A_lattice_askedL0, go_sem, Nat.reduceMod, Nat.reduceBNe, Nat.reduceBEq, Nat.reduceEqDiff, Nat.reduceAdd, Int.reduceAdd, Nat.reduceMul, Nat.reduceSub, Int.reduceToNat, Int.reduceLE, Int.reduceLT, Int.reduceEq, Int.reduceNe, reduceCtorEq, Nat.reduceLT, Nat.reduceLeDiff]
      have bad : i < ls.length → badL ns.length (ls.getD i 0) = true → askL ns up ls = 7 := fun hi hb => by
        have : ls.any (badL ns.length) = true := List.any_eq_true.2 ⟨ls[i], List.getElem_mem _, by simpa [List.getD, hi] using hb⟩
        simp only [askL, h, this, and_self, if_true]
      refine ⟨fun c => ⟨⟨by omega, c⟩, fun e => ?_, fun e => ⟨fun e2 => ?_, fun e2 => nxt1 (by omega) i2 ?_ (by omega)⟩⟩, fun c => ?_⟩
      · rw [bad (by omega) (by simp only [badL, show ls.getD i 0 < 0 from e, decide_true, Bool.true_or])]
      · rw [bad (by omega) (by simp only [badL, show (ns.length : Int) ≤ ls.getD i 0 from e2, decide_true, Bool.or_true])]
      · simp only [badL, show ¬ ls.getD i 0 < 0 from e, show ¬ (ns.length : Int) ≤ ls.getD i 0 from e2, decide_false, Bool.or_self]
      · have : ls.any (badL ns.length) = false := by
          rw [List.any_eq_false]
          intro x hx
          obtain ⟨j, hj, e⟩ := List.getElem_of_mem hx
          have := i2 j (by omega)
          rw [List.getD_eq_getElem?_getD, List.getElem?_eq_getElem hj] at this
          simp only [Option.getD_some, e] at this
          rw [this]; simp
        simp only [askL, h, this, Bool.false_eq_true, and_false, if_false]
  · simp only [h, go_sem, Nat.reduceMod, Nat.reduceBNe, Nat.reduceBEq, Nat.reduceEqDiff, Nat.reduceAdd, Int.reduceAdd, Nat.reduceMul, Nat.reduceSub, Int.reduceToNat, Int.reduceLE, Int.reduceLT, Int.reduceEq, Int.reduceNe, reduceCtorEq, Nat.reduceLT, Nat.reduceLeDiff, askL, false_and]
theorem ev_endU (U : Nat → Nat) (n : Nat) (hU : ∀ c, U c < 256) (hn : ∀ c, c < n → U c < 2 ^ n) (n1 : 1 ≤ n) (n8 : n ≤ 8) : Ev X F_lattice_end_lattice_ups [.agg (tb 8 fun k => .int .u8 (U k)), .int .i64 n] (.int .i64 (Lat.endOf U n : Nat)) := by
  refine ev_of_wpc hs (A_lattice_end_lattice_ups_ok hX) 0 ?_
  simp only [A_lattice_end_lattice_ups, go_sem, Nat.reduceMod, Nat.reduceBNe, Nat.reduceBEq, Nat.reduceEqDiff, Nat.reduceAdd, Int.reduceAdd, Nat.reduceMul, Nat.reduceSub, Int.reduceToNat, Int.reduceLE, Int.reduceLT, Int.reduceEq, Int.reduceNe, reduceCtorEq, Nat.reduceLT, Nat.reduceLeDiff]
  refine w_loop' hs.hm (ι := Nat) (fun i => i ≤ n - 1 ∧ ∀ j, j < i → (U j == 2 ^ n - 1) = false) (fun i => [(5, .int .i64 i), (1, .int .i64 n), (2, .ptr 0 0)]) (fun _ => [.box (tb 8 fun k => .int .u8 (U k))]) (fun i => n - 1 - i) 0 ?_ fun i hi => ?_
  · simp only [go_sem, Nat.reduceMod, Nat.reduceBNe, Nat.reduceBEq, Nat.reduceEqDiff, Nat.reduceAdd, Int.reduceAdd, Nat.reduceMul, Nat.reduceSub, Int.reduceToNat, Int.reduceLE, Int.reduceLT, Int.reduceEq, Int.reduceNe, reduceCtorEq, Nat.reduceLT, Nat.reduceLeDiff]
    exact ⟨Nat.zero_le _, no_lt0⟩
  · obtain ⟨i1, i2⟩ := hi
    have hi8 : i < 8 := by omega
    have hp := pop8_spec n (by omega) (U i) (hU i) (hn i (by omega))
    have e1 : IntKind.i64.wrap ((n : Int) - 1) = ((n - 1 : Nat) : Int) := by rw [wi64 (by omega)]; omega
    simp only [A_lattice_end_lattice_upsL0, go_sem, Nat.reduceMod, Nat.reduceBNe, Nat.reduceBEq, Nat.reduceEqDiff, Nat.reduceAdd, Int.reduceAdd, Nat.reduceMul, Nat.reduceSub, Int.reduceToNat, Int.reduceLE, Int.reduceLT, Int.reduceEq, Int.reduceNe, reduceCtorEq, Nat.reduceLT, Nat.reduceLeDiff, Nat.mul_one, tb_getD _ _ hi8]
    rw [e1]
    refine ⟨fun c => ⟨by omega, by omega, call_ev (ev_OnesCount8 hX hs (U i) (hU i)) ?_⟩, fun c => ?_⟩
    · simp only [go_sem, Nat.reduceMod, Nat.reduceBNe, Nat.reduceBEq, Nat.reduceEqDiff, Nat.reduceAdd, Int.reduceAdd, Nat.reduceMul, Nat.reduceSub, Int.reduceToNat, Int.reduceLE, Int.reduceLT, Int.reduceEq, Int.reduceNe, reduceCtorEq, Nat.reduceLT, Nat.reduceLeDiff]
      refine ⟨fun e => nxt1 (by omega) i2 ?_ (by omega), fun e => ?_⟩
      · rw [beq_eq_false_iff_ne]; exact hp.1 (by omega)
      · have : (U i == 2 ^ n - 1) = true := by
          rw [beq_iff_eq]
          exact Classical.byContradiction fun h => e (by have := hp.2 h; omega)
        rw [Lat.endOf, Lat.ff_some (p := fun a => U a == 2 ^ n - 1) (show i < n - 1 by omega) this i2]
        rfl
    · rw [Lat.endOf, Lat.ff_none (p := fun a => U a == 2 ^ n - 1) fun j hj => i2 j (by omega), show i = n - 1 by omega]
      rfl
theorem call_asked {ns : List (List UInt8)} {up : List UInt8} {i : Nat} {p : Perm} {es : List AV} {ls : List Int} {d : Option Nat} {fr : Fr} {H : Heap} {K : Fr → Heap → Prop} (hH : H[i]? = some (.box [lst AV.str .ro ns, lst u8 .ro up])) (he : es = ls.map (AV.int .i64)) (hl : ls.length < 1000000)
    (hK : K (fr.updo d (.int .i64 (askL ns up ls))) H) : CallOk X F_lattice_asked [.ptr i 0, .sl p es] d fr H K := by
  refine call_lend ?_ rfl hK
  have := ev_asked hX hs ns up ls hl
  simp only [lendL, lend, hH, List.drop_zero, dryL, dry, lst, he]
  exact this
theorem ev_Bottom (ns : List (List UInt8)) (up : List UInt8) : Ev X F_lattice_Bottom [latV ns up] (.tuple [.int .i64 (botS ns up), .int .i64 (Lat.checkS ns up).2]) := by
  refine ev_of_wpc hs (A_lattice_Bottom_ok hX) 1 ?_
  simp only [A_lattice_Bottom, latV, go_sem, Nat.reduceMod, Nat.reduceBNe, Nat.reduceBEq, Nat.reduceEqDiff, Nat.reduceAdd, Int.reduceAdd, Nat.reduceMul, Nat.reduceSub, Int.reduceToNat, Int.reduceLE, Int.reduceLT, Int.reduceEq, Int.reduceNe, reduceCtorEq, Nat.reduceLT, Nat.reduceLeDiff]
  refine call_asked hX hs (ls := []) rfl rfl (by decide) ?_
  rw [askL_0]
  by_cases h : (Lat.checkS ns up).2 = 0
  · simp only [h, go_sem, Nat.reduceMod, Nat.reduceBNe, Nat.reduceBEq, Nat.reduceEqDiff, Nat.reduceAdd, Int.reduceAdd, Nat.reduceMul, Nat.reduceSub, Int.reduceToNat, Int.reduceLE, Int.reduceLT, Int.reduceEq, Int.reduceNe, reduceCtorEq, Nat.reduceLT, Nat.reduceLeDiff]
    have hv := chk_val h
    refine call_of hX hs rfl hv.len hv.le8 ?_
    simp only [ordV, go_sem, Nat.reduceMod, Nat.reduceBNe, Nat.reduceBEq, Nat.reduceEqDiff, Nat.reduceAdd, Int.reduceAdd, Nat.reduceMul, Nat.reduceSub, Int.reduceToNat, Int.reduceLE, Int.reduceLT, Int.reduceEq, Int.reduceNe, reduceCtorEq, Nat.reduceLT, Nat.reduceLeDiff]
    refine call_ev (r := .int .i64 (Lat.endOf (Lat.msk up) ns.length : Nat)) ?_ ?_
    · have := ev_endU hX hs (Lat.msk up) ns.length (Lat.msk_lt up) hv.lt hv.pos hv.le8
      simpa only [dryL, dry, tb_dry] using this
    · simp only [botS, h, hv.end_up, go_sem, Nat.reduceMod, Nat.reduceBNe, Nat.reduceBEq, Nat.reduceEqDiff, Nat.reduceAdd, Int.reduceAdd, Nat.reduceMul, Nat.reduceSub, Int.reduceToNat, Int.reduceLE, Int.reduceLT, Int.reduceEq, Int.reduceNe, reduceCtorEq, Nat.reduceLT, Nat.reduceLeDiff]
  · simp only [h, go_sem, Nat.reduceMod, Nat.reduceBNe, Nat.reduceBEq, Nat.reduceEqDiff, Nat.reduceAdd, Int.reduceAdd, Nat.reduceMul, Nat.reduceSub, Int.reduceToNat, Int.reduceLE, Int.reduceLT, Int.reduceEq, Int.reduceNe, reduceCtorEq, Nat.reduceLT, Nat.reduceLeDiff, botS]
theorem ev_Find (ns : List (List UInt8)) (up : List UInt8) (s : List UInt8) : Ev X F_lattice_Find [latV ns up, .str s] (.tuple [.int .i64 (Lat.findS ns up s).1, .int .i64 (Lat.findS ns up s).2]) := by
  refine ev_of_wpc hs (A_lattice_Find_ok hX) 1 ?_
  simp only [A_lattice_Find, latV, go_sem, Nat.reduceMod, Nat.reduceBNe, Nat.reduceBEq, Nat.reduceEqDiff, Nat.reduceAdd, Int.reduceAdd, Nat.reduceMul, Nat.reduceSub, Int.reduceToNat, Int.reduceLE, Int.reduceLT, Int.reduceEq, Int.reduceNe, reduceCtorEq, Nat.reduceLT, Nat.reduceLeDiff]
  refine call_asked hX hs (ls := []) rfl rfl (by decide) ?_
  rw [askL_0]
  by_cases h : (Lat.checkS ns up).2 = 0
  · simp only [h, go_sem, Nat.reduceMod, Nat.reduceBNe, Nat.reduceBEq, Nat.reduceEqDiff, Nat.reduceAdd, Int.reduceAdd, Nat.reduceMul, Nat.reduceSub, Int.reduceToNat, Int.reduceLE, Int.reduceLT, Int.reduceEq, Int.reduceNe, reduceCtorEq, Nat.reduceLT, Nat.reduceLeDiff]
    have hv := chk_val h
    refine call_ev (ev_Index hX hs ns s (by have := hv.le8; omega)) ?_
    cases hf : Lat.findO ns s with
    | none =>
      simp only [Lat.oi, go_sem, Nat.reduceMod, Nat.reduceBNe, Nat.reduceBEq, Nat.reduceEqDiff, Nat.reduceAdd, Int.reduceAdd, Nat.reduceMul, Nat.reduceSub, Int.reduceToNat, Int.reduceLE, Int.reduceLT, Int.reduceEq, Int.reduceNe, reduceCtorEq, Nat.reduceLT, Nat.reduceLeDiff]
      simp only [Lat.findS, h, hf, go_sem, Nat.reduceMod, Nat.reduceBNe, Nat.reduceBEq, Nat.reduceEqDiff, Nat.reduceAdd, Int.reduceAdd, Nat.reduceMul, Nat.reduceSub, Int.reduceToNat, Int.reduceLE, Int.reduceLT, Int.reduceEq, Int.reduceNe, reduceCtorEq, Nat.reduceLT, Nat.reduceLeDiff]
    | some a =>
      simp only [Lat.oi, go_sem, Nat.reduceMod, Nat.reduceBNe, Nat.reduceBEq, Nat.reduceEqDiff, Nat.reduceAdd, Int.reduceAdd, Nat.reduceMul, Nat.reduceSub, Int.reduceToNat, Int.reduceLE, Int.reduceLT, Int.reduceEq, Int.reduceNe, reduceCtorEq, Nat.reduceLT, Nat.reduceLeDiff]
      simp only [Lat.findS, h, hf, go_sem, Nat.reduceMod, Nat.reduceBNe, Nat.reduceBEq, Nat.reduceEqDiff, Nat.reduceAdd, Int.reduceAdd, Nat.reduceMul, Nat.reduceSub, Int.reduceToNat, Int.reduceLE, Int.reduceLT, Int.reduceEq, Int.reduceNe, reduceCtorEq, Nat.reduceLT, Nat.reduceLeDiff]
      exact fun h => absurd (by omega) h
  · simp only [h, go_sem, Nat.reduceMod, Nat.reduceBNe, Nat.reduceBEq, Nat.reduceEqDiff, Nat.reduceAdd, Int.reduceAdd, Nat.reduceMul, Nat.reduceSub, Int.reduceToNat, Int.reduceLE, Int.reduceLT, Int.reduceEq, Int.reduceNe, reduceCtorEq, Nat.reduceLT, Nat.reduceLeDiff, Lat.findS]
end
end Go.Avm

/- Clone, row, Dual. -/
namespace Go.Avm
open Go
set_option maxRecDepth 10000
section
variable {X : Cx} (hX : X.P = Go.Proofs.Tryz.prog) (hs : Std X)
include hX hs
end
end Go.Avm

/- Make. -/
namespace Go.Avm
open Go
theorem ev_of_wpcd {X : Cx} (hs : Std X) {f : FuncId} {hint : Nat → Bool} {af : AFun} (hc : compileFun X.P f hint = some af) {args : List AV} {r : AV} (k : Nat)
    (h : wpc X af.n af.code (kq X af.n (RetIs af.res fun r' H' => dry (fin H' k r') = r) []) (FL.get (args.zipIdx.map fun p => (p.2, p.1))) []) : Ev X f args r := by
  have h0 := (evM_of_wpc hs hc h).evF
  exact ⟨h0.1, fun g w vs h1 h2 h3 => (h0.2 g w vs h1 h2 h3).mono fun e w' ⟨v, r', g', H', k1, k2, k3, k4, k5, k6⟩ => by
    subst k6
    exact ⟨v, _, finG g' w', [], k1, finG_flat ▸ dry_rel _ (fin_rel k4 k r' k2), finG_wf k3, hr_nil (fun _ => rfl) (fun _ => rfl) (fun _ => rfl), k5.trans finG_ext, rfl, rfl⟩⟩
set_option maxRecDepth 10000
section
variable {X : Cx} (hX : X.P = Go.Proofs.Tryz.prog) (hs : Std X)
include hX hs
end
end Go.Avm

/- The program: orders of types. -/
namespace Go.Avm
open Go
def tyV (t : Lat.Ty) : AV := .agg [.int .i64 t.k, .int .i64 t.r, .int .i64 t.a0, .int .i64 t.a1, .int .i64 t.d]
def ordT (ns : List (List UInt8)) (up : List UInt8) (b : Int) : AV := .agg [lst AV.str .ro ns, lst u8 .ro up, .int .i64 b]
section
variable {X : Cx} (hX : X.P = Go.Proofs.Tryz.prog) (hs : Std X)
include hX hs
theorem ev_t_of (ns : List (List UInt8)) (up : List UInt8) : Ev X F_types_of [latV ns up] (.tuple [ordT (if (Lat.checkS ns up).2 = 0 then ns else []) (if (Lat.checkS ns up).2 = 0 then up else []) (if (Lat.checkS ns up).2 = 0 then (Lat.bot ns.length up : Nat) else 0), .int .i64 (Lat.checkS ns up).2]) := by
  refine ev_of_wpcd hs (A_types_of_ok hX) 1 ?_
  simp only [A_types_of, latV, go_sem, Nat.reduceMod, Nat.reduceBNe, Nat.reduceBEq, Nat.reduceEqDiff, Nat.reduceAdd, Int.reduceAdd, Nat.reduceMul, Nat.reduceSub, Int.reduceToNat, Int.reduceLE, Int.reduceLT, Int.reduceEq, Int.reduceNe, reduceCtorEq, Nat.reduceLT, Nat.reduceLeDiff]
  refine call_ev (ev_Check hX hs ns up) ?_
  by_cases h : (Lat.checkS ns up).2 = 0
  · simp only [h, go_sem, Nat.reduceMod, Nat.reduceBNe, Nat.reduceBEq, Nat.reduceEqDiff, Nat.reduceAdd, Int.reduceAdd, Nat.reduceMul, Nat.reduceSub, Int.reduceToNat, Int.reduceLE, Int.reduceLT, Int.reduceEq, Int.reduceNe, reduceCtorEq, Nat.reduceLT, Nat.reduceLeDiff]
    refine call_ev (ev_Bottom hX hs ns up) ?_
    simp only [h, botS, go_sem, Nat.reduceMod, Nat.reduceBNe, Nat.reduceBEq, Nat.reduceEqDiff, Nat.reduceAdd, Int.reduceAdd, Nat.reduceMul, Nat.reduceSub, Int.reduceToNat, Int.reduceLE, Int.reduceLT, Int.reduceEq, Int.reduceNe, reduceCtorEq, Nat.reduceLT, Nat.reduceLeDiff]
    rfl
  · simp only [h, go_sem, Nat.reduceMod, Nat.reduceBNe, Nat.reduceBEq, Nat.reduceEqDiff, Nat.reduceAdd, Int.reduceAdd, Nat.reduceMul, Nat.reduceSub, Int.reduceToNat, Int.reduceLE, Int.reduceLT, Int.reduceEq, Int.reduceNe, reduceCtorEq, Nat.reduceLT, Nat.reduceLeDiff]
    rfl
theorem ev_t_label (ns : List (List UInt8)) (up : List UInt8) (b a : Int) : Ev X F_types_order_label [ordT ns up b, .int .i64 a] (.bool (Lat.lab ns.length a)) := by
  refine ev_of_wpc hs (A_types_order_label_ok hX) 1 ?_
  simp only [A_types_order_label, ordT, go_sem, Nat.reduceMod, Nat.reduceBNe, Nat.reduceBEq, Nat.reduceEqDiff, Nat.reduceAdd, Int.reduceAdd, Nat.reduceMul, Nat.reduceSub, Int.reduceToNat, Int.reduceLE, Int.reduceLT, Int.reduceEq, Int.reduceNe, reduceCtorEq, Nat.reduceLT, Nat.reduceLeDiff, Lat.lab]
  refine ⟨fun h => ?_, fun h => ?_⟩
  · simp [h]
  · simp [h]
theorem ev_t_leq (ns : List (List UInt8)) (up : List UInt8) (b : Int) {x y : Int} (hx : Lat.lab up.length x = true) (hy : Lat.lab up.length y = true) : Ev X F_types_order_leq [ordT ns up b, .int .i64 x, .int .i64 y] (.bool (Lat.leI up x y)) := by
  obtain ⟨x, rfl, hx⟩ := Lat.lab_nat hx
  obtain ⟨y, rfl, hy⟩ := Lat.lab_nat hy
  refine ev_of_wpc hs (A_types_order_leq_ok hX) 1 ?_
  simp only [A_types_order_leq, ordT, go_sem, Nat.reduceMod, Nat.reduceBNe, Nat.reduceBEq, Nat.reduceEqDiff, Nat.reduceAdd, Int.reduceAdd, Nat.reduceMul, Nat.reduceSub, Int.reduceToNat, Int.reduceLE, Int.reduceLT, Int.reduceEq, Int.reduceNe, reduceCtorEq, Nat.reduceLT, Nat.reduceLeDiff, getD_def, bt_and y (Lat.msk_lt up x), if1]
  refine ⟨by omega, by omega, ?_⟩
  simp only [Lat.leI_nat, Lat.le, Bool.decide_eq_true]
theorem ev_IndexU8 (l : List UInt8) (v : Nat) (hl : l.length < 1000000) : Ev X F_slices_Index_uint8_uint8 [lst u8 .ro l, .int .u8 v] (.int .i64 (Lat.oi (Lat.ff l.length fun c => Lat.msk l c == v))) := by
  refine ev_of_wpc hs (A_slices_Index_uint8_uint8_ok hX) 0 ?_
  simp only [A_slices_Index_uint8_uint8, go_sem, Nat.reduceMod, Nat.reduceBNe, Nat.reduceBEq, Nat.reduceEqDiff, Nat.reduceAdd, Int.reduceAdd, Nat.reduceMul, Nat.reduceSub, Int.reduceToNat, Int.reduceLE, Int.reduceLT, Int.reduceEq, Int.reduceNe, reduceCtorEq, Nat.reduceLT, Nat.reduceLeDiff]
  refine w_loop' hs.hm (ι := Nat) (fun i => i ≤ l.length ∧ ∀ j, j < i → (Lat.msk l j == v) = false) (fun i => [(8, .int .i64 i), (7, .int .i64 l.length), (1, .int .u8 v), (0, lst u8 .ro l)]) (fun _ => []) (fun i => l.length - i) 0 ?_ fun i hi => ?_
  · simp only [go_sem, Nat.reduceMod, Nat.reduceBNe, Nat.reduceBEq, Nat.reduceEqDiff, Nat.reduceAdd, Int.reduceAdd, Nat.reduceMul, Nat.reduceSub, Int.reduceToNat, Int.reduceLE, Int.reduceLT, Int.reduceEq, Int.reduceNe, reduceCtorEq, Nat.reduceLT, Nat.reduceLeDiff]
    exact ⟨Nat.zero_le _, no_lt0⟩
  · obtain ⟨i1, i2⟩ := hi
    simp only [A_slices_Index_uint8_uint8L0, go_sem, Nat.reduceMod, Nat.reduceBNe, Nat.reduceBEq, Nat.reduceEqDiff, Nat.reduceAdd, Int.reduceAdd, Nat.reduceMul, Nat.reduceSub, Int.reduceToNat, Int.reduceLE, Int.reduceLT, Int.reduceEq, Int.reduceNe, reduceCtorEq, Nat.reduceLT, Nat.reduceLeDiff, getD_def]
    refine ⟨fun c => ⟨⟨by omega, c⟩, fun e => ?_, fun e => nxt1 (by omega) i2 ?_ (by omega)⟩, fun c => ?_⟩
    · have e' : (Lat.msk l i == v) = true := by rw [beq_iff_eq]; omega
      rw [Lat.ff_some (p := fun a => Lat.msk l a == v) (show i < l.length by omega) e' i2]
      rfl
    · rw [beq_eq_false_iff_ne]; omega
    · rw [Lat.ff_none (p := fun a => Lat.msk l a == v) (n := l.length) fun j hj => i2 j (by omega)]
      rfl
theorem ev_t_join (ns : List (List UInt8)) (up : List UInt8) (b : Int) (hv : Lat.Val ns.length up) {x y : Int} (hx : Lat.lab ns.length x = true) (hy : Lat.lab ns.length y = true) : Ev X F_types_order_join [ordT ns up b, .int .i64 x, .int .i64 y] (.int .i64 (Lat.jnI ns.length up x y)) := by
  obtain ⟨x, rfl, hx'⟩ := Lat.lab_nat hx
  obtain ⟨y, rfl, hy'⟩ := Lat.lab_nat hy
  have hl := hv.len
  have h8 := hv.le8
  refine ev_of_wpc hs (A_types_order_join_ok hX) 1 ?_
  simp only [A_types_order_join, ordT, go_sem, Nat.reduceMod, Nat.reduceBNe, Nat.reduceBEq, Nat.reduceEqDiff, Nat.reduceAdd, Int.reduceAdd, Nat.reduceMul, Nat.reduceSub, Int.reduceToNat, Int.reduceLE, Int.reduceLT, Int.reduceEq, Int.reduceNe, reduceCtorEq, Nat.reduceLT, Nat.reduceLeDiff, getD_def, bu_and (Lat.msk_lt up x) (Lat.msk_lt up y)]
  refine ⟨by omega, by omega, callq_ev (ev_IndexU8 hX hs up _ (by omega)) ?_⟩
  simp only [go_sem, Nat.reduceMod, Nat.reduceBNe, Nat.reduceBEq, Nat.reduceEqDiff, Nat.reduceAdd, Int.reduceAdd, Nat.reduceMul, Nat.reduceSub, Int.reduceToNat, Int.reduceLE, Int.reduceLT, Int.reduceEq, Int.reduceNe, reduceCtorEq, Nat.reduceLT, Nat.reduceLeDiff, hl]
  have := (hv.ou.near_some hx' hy').1
  rw [Lat.near] at this
  rw [this]
  rfl
theorem ev_IndexFuncI (l : List Int) (f : Nat) (cs : List AV) (hd : dryL cs = cs) (p : Int → Bool) (hp : ∀ x ∈ l, Ev X f (.int .i64 x :: cs) (.bool (p x))) (hl : l.length < 1000000) : Ev X F_slices_IndexFunc_int_int [lst (AV.int .i64) .ro l, .clo f [] cs] (.int .i64 (Lat.oi (Lat.ff l.length fun i => p (l.getD i 0)))) := by
  refine ev_of_wpc hs (A_slices_IndexFunc_int_int_ok hX) 0 ?_
  simp only [A_slices_IndexFunc_int_int, go_sem, Nat.reduceMod, Nat.reduceBNe, Nat.reduceBEq, Nat.reduceEqDiff, Nat.reduceAdd, Int.reduceAdd, Nat.reduceMul, Nat.reduceSub, Int.reduceToNat, Int.reduceLE, Int.reduceLT, Int.reduceEq, Int.reduceNe, reduceCtorEq, Nat.reduceLT, Nat.reduceLeDiff]
  refine w_loop' hs.hm (ι := Nat) (fun i => i ≤ l.length ∧ ∀ j, j < i → p (l.getD j 0) = false) (fun i => [(8, .int .i64 i), (7, .int .i64 l.length), (1, .clo f [] cs), (0, lst (AV.int .i64) .ro l)]) (fun _ => []) (fun i => l.length - i) 0 ?_ fun i hi => ?_
  · simp only [go_sem, Nat.reduceMod, Nat.reduceBNe, Nat.reduceBEq, Nat.reduceEqDiff, Nat.reduceAdd, Int.reduceAdd, Nat.reduceMul, Nat.reduceSub, Int.reduceToNat, Int.reduceLE, Int.reduceLT, Int.reduceEq, Int.reduceNe, reduceCtorEq, Nat.reduceLT, Nat.reduceLeDiff]
    exact ⟨Nat.zero_le _, no_lt0⟩
  · obtain ⟨i1, i2⟩ := hi
    simp only [A_slices_IndexFunc_int_intL0, go_sem, Nat.reduceMod, Nat.reduceBNe, Nat.reduceBEq, Nat.reduceEqDiff, Nat.reduceAdd, Int.reduceAdd, Nat.reduceMul, Nat.reduceSub, Int.reduceToNat, Int.reduceLE, Int.reduceLT, Int.reduceEq, Int.reduceNe, reduceCtorEq, Nat.reduceLT, Nat.reduceLeDiff]
    refine ⟨fun c => ⟨⟨by omega, c⟩, call_ev (r := .bool (p (l.getD i 0))) ?_ ?_⟩, fun c => ?_⟩
    · simp only [dryL, dry, hd]
      refine hp _ ?_
      rw [List.getD_eq_getElem?_getD, List.getElem?_eq_getElem (show i < l.length by omega)]
      exact List.getElem_mem _
    · cases e : p (l.getD i 0) with
      | true =>
        simp only [go_sem, Nat.reduceMod, Nat.reduceBNe, Nat.reduceBEq, Nat.reduceEqDiff, Nat.reduceAdd, Int.reduceAdd, Nat.reduceMul, Nat.reduceSub, Int.reduceToNat, Int.reduceLE, Int.reduceLT, Int.reduceEq, Int.reduceNe, reduceCtorEq, Nat.reduceLT, Nat.reduceLeDiff]
        rw [Lat.ff_some (p := fun a => p (l.getD a 0)) (show i < l.length by omega) e i2]
        rfl
      | false =>
        simp only [go_sem, Nat.reduceMod, Nat.reduceBNe, Nat.reduceBEq, Nat.reduceEqDiff, Nat.reduceAdd, Int.reduceAdd, Nat.reduceMul, Nat.reduceSub, Int.reduceToNat, Int.reduceLE, Int.reduceLT, Int.reduceEq, Int.reduceNe, reduceCtorEq, Nat.reduceLT, Nat.reduceLeDiff]
        exact nxt1 (by omega) i2 e (by omega)
    · rw [Lat.ff_none (p := fun a => p (l.getD a 0)) (n := l.length) fun j hj => i2 j (by omega)]
      rfl
theorem ev_ContainsFuncI (l : List Int) (f : Nat) (cs : List AV) (hd : dryL cs = cs) (p : Int → Bool) (hp : ∀ x ∈ l, Ev X f (.int .i64 x :: cs) (.bool (p x))) (hl : l.length < 1000000) : Ev X F_slices_ContainsFunc_int_int [lst (AV.int .i64) .ro l, .clo f [] cs] (.bool (l.any p)) := by
  refine ev_of_wpc hs (A_slices_ContainsFunc_int_int_ok hX) 0 ?_
  simp only [A_slices_ContainsFunc_int_int, go_sem, Nat.reduceMod, Nat.reduceBNe, Nat.reduceBEq, Nat.reduceEqDiff, Nat.reduceAdd, Int.reduceAdd, Nat.reduceMul, Nat.reduceSub, Int.reduceToNat, Int.reduceLE, Int.reduceLT, Int.reduceEq, Int.reduceNe, reduceCtorEq, Nat.reduceLT, Nat.reduceLeDiff]
  refine call_ev (r := .int .i64 (Lat.oi (Lat.ff l.length fun i => p (l.getD i 0)))) ?_ ?_
  · simp only [dryL, dry, lst, hd]
    exact ev_IndexFuncI hX hs l f cs hd p hp hl
  · simp only [go_sem, Nat.reduceMod, Nat.reduceBNe, Nat.reduceBEq, Nat.reduceEqDiff, Nat.reduceAdd, Int.reduceAdd, Nat.reduceMul, Nat.reduceSub, Int.reduceToNat, Int.reduceLE, Int.reduceLT, Int.reduceEq, Int.reduceNe, reduceCtorEq, Nat.reduceLT, Nat.reduceLeDiff]
    rw [show l.any p = (Lat.ff l.length fun i => p (l.getD i 0)).isSome from ?_]
    · cases Lat.ff l.length fun i => p (l.getD i 0) with
      | none => rfl
      | some c => simp [Lat.oi]
    · rw [Bool.eq_iff_iff, List.any_eq_true]
      constructor
      · rintro ⟨x, hx, hpx⟩
        obtain ⟨i, hi, e⟩ := List.getElem_of_mem hx
        cases hq : Lat.ff l.length fun i => p (l.getD i 0) with
        | some c => rfl
        | none =>
          have := Lat.ff_eq_none.1 hq i hi
          rw [List.getD_eq_getElem?_getD, List.getElem?_eq_getElem hi, Option.getD_some, e, hpx] at this
          exact absurd this (by decide)
      · intro h
        obtain ⟨a, ha⟩ := Option.isSome_iff_exists.1 h
        obtain ⟨h1, h2, _⟩ := Lat.ff_eq_some.1 ha
        exact ⟨_, List.getElem_mem h1, by rw [List.getD_eq_getElem?_getD, List.getElem?_eq_getElem h1] at h2; exact h2⟩
theorem ev_t_check1 (ns : List (List UInt8)) (up : List UInt8) (b : Int) (k r a0 a1 d : Int) {x : Int} (hx : Lat.lab up.length x = true) (hd : Lat.lab up.length d = true) : Ev X F_types_order_check_1 [.int .i64 x, .vp [lst AV.str .ro ns, lst u8 .ro up, .int .i64 b], .vp [.int .i64 k, .int .i64 r, .int .i64 a0, .int .i64 a1, .int .i64 d]] (.bool (!Lat.leI up x d)) := by
  refine ev_of_wpc hs (A_types_order_check_1_ok hX) 1 ?_
  simp only [A_types_order_check_1, go_sem, Nat.reduceMod, Nat.reduceBNe, Nat.reduceBEq, Nat.reduceEqDiff, Nat.reduceAdd, Int.reduceAdd, Nat.reduceMul, Nat.reduceSub, Int.reduceToNat, Int.reduceLE, Int.reduceLT, Int.reduceEq, Int.reduceNe, reduceCtorEq, Nat.reduceLT, Nat.reduceLeDiff]
  refine call_ev (ev_t_leq hX hs ns up b hx hd) ?_
  simp only [go_sem, Nat.reduceMod, Nat.reduceBNe, Nat.reduceBEq, Nat.reduceEqDiff, Nat.reduceAdd, Int.reduceAdd, Nat.reduceMul, Nat.reduceSub, Int.reduceToNat, Int.reduceLE, Int.reduceLT, Int.reduceEq, Int.reduceNe, reduceCtorEq, Nat.reduceLT, Nat.reduceLeDiff]
set_option maxHeartbeats 4000000 in
theorem ev_t_check (ns : List (List UInt8)) (up : List UInt8) (hv : Lat.Val ns.length up) (t : Lat.Ty) : Ev X F_types_order_check [ordT ns up (Lat.bot ns.length up : Nat), tyV t] (.int .i64 (Lat.goodS ns.length up t)) := by
  refine ev_of_wpc hs (A_types_order_check_ok hX) 1 ?_
  obtain ⟨k, r, a0, a1, d⟩ := t
  by_cases hk : k = 1 ∨ k = 2
  · by_cases hr : r = 0 ∨ r = 1 ∨ r = 2
    · have e : (if (k ≠ 1 ∧ k ≠ 2) ∨ r < 0 ∨ 2 < r then (7 : Int) else 0) = 0 := by rw [if_neg]; omega
      have e2 : ∀ z : Int, (if (k ≠ 1 ∧ k ≠ 2) ∨ r < 0 ∨ 2 < r then (7 : Int) else z) = z := fun z => by rw [if_neg]; omega
      simp only [Lat.goodS, e2]
      clear e e2
      rcases hk with rfl | rfl <;> rcases hr with rfl | rfl | rfl <;> simp only [A_types_order_check, ordT, tyV, go_sem, Nat.reduceMod, Nat.reduceBNe, Nat.reduceBEq, Nat.reduceEqDiff, Nat.reduceAdd, Int.reduceAdd, Nat.reduceMul, Nat.reduceSub, Int.reduceToNat, Int.reduceLE, Int.reduceLT, Int.reduceEq, Int.reduceNe, reduceCtorEq, Nat.reduceLT, Nat.reduceLeDiff]
      all_goals
        refine call_ev (ev_t_label hX hs ns up _ a0) ?_
        cases e0 : Lat.lab ns.length a0
        · simp only [go_sem, Nat.reduceMod, Nat.reduceBNe, Nat.reduceBEq, Nat.reduceEqDiff, Nat.reduceAdd, Int.reduceAdd, Nat.reduceMul, Nat.reduceSub, Int.reduceToNat, Int.reduceLE, Int.reduceLT, Int.reduceEq, Int.reduceNe, reduceCtorEq, Nat.reduceLT, Nat.reduceLeDiff]
        simp only [go_sem, Nat.reduceMod, Nat.reduceBNe, Nat.reduceBEq, Nat.reduceEqDiff, Nat.reduceAdd, Int.reduceAdd, Nat.reduceMul, Nat.reduceSub, Int.reduceToNat, Int.reduceLE, Int.reduceLT, Int.reduceEq, Int.reduceNe, reduceCtorEq, Nat.reduceLT, Nat.reduceLeDiff]
        refine call_ev (ev_t_label hX hs ns up _ a1) ?_
        cases e1 : Lat.lab ns.length a1
        · simp only [go_sem, Nat.reduceMod, Nat.reduceBNe, Nat.reduceBEq, Nat.reduceEqDiff, Nat.reduceAdd, Int.reduceAdd, Nat.reduceMul, Nat.reduceSub, Int.reduceToNat, Int.reduceLE, Int.reduceLT, Int.reduceEq, Int.reduceNe, reduceCtorEq, Nat.reduceLT, Nat.reduceLeDiff]
        simp only [go_sem, Nat.reduceMod, Nat.reduceBNe, Nat.reduceBEq, Nat.reduceEqDiff, Nat.reduceAdd, Int.reduceAdd, Nat.reduceMul, Nat.reduceSub, Int.reduceToNat, Int.reduceLE, Int.reduceLT, Int.reduceEq, Int.reduceNe, reduceCtorEq, Nat.reduceLT, Nat.reduceLeDiff]
        refine call_ev (ev_t_label hX hs ns up _ d) ?_
        cases e2 : Lat.lab ns.length d
        · simp only [go_sem, Nat.reduceMod, Nat.reduceBNe, Nat.reduceBEq, Nat.reduceEqDiff, Nat.reduceAdd, Int.reduceAdd, Nat.reduceMul, Nat.reduceSub, Int.reduceToNat, Int.reduceLE, Int.reduceLT, Int.reduceEq, Int.reduceNe, reduceCtorEq, Nat.reduceLT, Nat.reduceLeDiff]
        simp only [go_sem, Nat.reduceMod, Nat.reduceBNe, Nat.reduceBEq, Nat.reduceEqDiff, Nat.reduceAdd, Int.reduceAdd, Nat.reduceMul, Nat.reduceSub, Int.reduceToNat, Int.reduceLE, Int.reduceLT, Int.reduceEq, Int.reduceNe, reduceCtorEq, Nat.reduceLT, Nat.reduceLeDiff, Bool.true_eq_false]
      all_goals
        have l0 : Lat.lab up.length a0 = true := by rw [hv.len]; exact e0
        have l1 : Lat.lab up.length a1 = true := by rw [hv.len]; exact e1
        have ld : Lat.lab up.length d = true := by rw [hv.len]; exact e2
      · refine ⟨fun h => ?_, fun h => call_lend (r := .bool (([] : List Int).any fun x => !Lat.leI up x d)) (ev_ContainsFuncI hX hs [] F_types_order_check_1 [.vp [lst AV.str .ro ns, lst u8 .ro up, .int .i64 (Lat.bot ns.length up : Nat)], .vp [.int .i64 1, .int .i64 0, .int .i64 a0, .int .i64 a1, .int .i64 d]] rfl _ (fun x hx => by simp at hx) (by simp)) rfl ?_⟩
        · rw [if_pos (by grind)]
        · simp only [List.any_nil, go_sem, Nat.reduceMod, Nat.reduceBNe, Nat.reduceBEq, Nat.reduceEqDiff, Nat.reduceAdd, Int.reduceAdd, Nat.reduceMul, Nat.reduceSub, Int.reduceToNat, Int.reduceLE, Int.reduceLT, Int.reduceEq, Int.reduceNe, reduceCtorEq, Nat.reduceLT, Nat.reduceLeDiff]
          rw [if_neg (by grind), if_neg (by simp)]
      · refine ⟨fun h => ?_, fun h => call_lend (r := .bool ([a0].any fun x => !Lat.leI up x d)) (ev_ContainsFuncI hX hs [a0] F_types_order_check_1 [.vp [lst AV.str .ro ns, lst u8 .ro up, .int .i64 (Lat.bot ns.length up : Nat)], .vp [.int .i64 1, .int .i64 1, .int .i64 a0, .int .i64 a1, .int .i64 d]] rfl _ (fun x hx => by simp at hx; subst hx; exact ev_t_check1 hX hs ns up _ _ _ _ _ _ l0 ld) (by simp)) rfl ?_⟩
        · rw [if_pos (by grind)]
        · cases e : Lat.leI up a0 d <;> simp only [List.any_nil, List.any_cons, e, go_sem, Nat.reduceMod, Nat.reduceBNe, Nat.reduceBEq, Nat.reduceEqDiff, Nat.reduceAdd, Int.reduceAdd, Nat.reduceMul, Nat.reduceSub, Int.reduceToNat, Int.reduceLE, Int.reduceLT, Int.reduceEq, Int.reduceNe, reduceCtorEq, Nat.reduceLT, Nat.reduceLeDiff] <;> rw [if_neg (by grind)] <;> simp
      · refine call_lend (r := .bool ([a0, a1].any fun x => !Lat.leI up x d)) (ev_ContainsFuncI hX hs [a0, a1] F_types_order_check_1 [.vp [lst AV.str .ro ns, lst u8 .ro up, .int .i64 (Lat.bot ns.length up : Nat)], .vp [.int .i64 1, .int .i64 2, .int .i64 a0, .int .i64 a1, .int .i64 d]] rfl _ (fun x hx => by
          simp at hx
          rcases hx with rfl | rfl
          · exact ev_t_check1 hX hs ns up _ _ _ _ _ _ l0 ld
          · exact ev_t_check1 hX hs ns up _ _ _ _ _ _ l1 ld) (by simp)) rfl ?_
        cases e : Lat.leI up a0 d <;> cases e' : Lat.leI up a1 d <;> simp only [List.any_nil, List.any_cons, e, e', go_sem, Nat.reduceMod, Nat.reduceBNe, Nat.reduceBEq, Nat.reduceEqDiff, Nat.reduceAdd, Int.reduceAdd, Nat.reduceMul, Nat.reduceSub, Int.reduceToNat, Int.reduceLE, Int.reduceLT, Int.reduceEq, Int.reduceNe, reduceCtorEq, Nat.reduceLT, Nat.reduceLeDiff] <;> simp
      · refine ⟨fun h => ?_, fun h => call_lend (r := .bool (([] : List Int).any fun x => !Lat.leI up x d)) (ev_ContainsFuncI hX hs [] F_types_order_check_1 [.vp [lst AV.str .ro ns, lst u8 .ro up, .int .i64 (Lat.bot ns.length up : Nat)], .vp [.int .i64 2, .int .i64 0, .int .i64 a0, .int .i64 a1, .int .i64 d]] rfl _ (fun x hx => by simp at hx) (by simp)) rfl ?_⟩
        · rw [if_pos (by grind)]
        · simp only [List.any_nil, go_sem, Nat.reduceMod, Nat.reduceBNe, Nat.reduceBEq, Nat.reduceEqDiff, Nat.reduceAdd, Int.reduceAdd, Nat.reduceMul, Nat.reduceSub, Int.reduceToNat, Int.reduceLE, Int.reduceLT, Int.reduceEq, Int.reduceNe, reduceCtorEq, Nat.reduceLT, Nat.reduceLeDiff]
          rw [if_neg (by grind), if_neg (by simp)]
      · refine ⟨fun h => ?_, fun h => call_lend (r := .bool ([a0].any fun x => !Lat.leI up x d)) (ev_ContainsFuncI hX hs [a0] F_types_order_check_1 [.vp [lst AV.str .ro ns, lst u8 .ro up, .int .i64 (Lat.bot ns.length up : Nat)], .vp [.int .i64 2, .int .i64 1, .int .i64 a0, .int .i64 a1, .int .i64 d]] rfl _ (fun x hx => by simp at hx; subst hx; exact ev_t_check1 hX hs ns up _ _ _ _ _ _ l0 ld) (by simp)) rfl ?_⟩
        · rw [if_pos (by grind)]
        · cases e : Lat.leI up a0 d <;> simp only [List.any_nil, List.any_cons, e, go_sem, Nat.reduceMod, Nat.reduceBNe, Nat.reduceBEq, Nat.reduceEqDiff, Nat.reduceAdd, Int.reduceAdd, Nat.reduceMul, Nat.reduceSub, Int.reduceToNat, Int.reduceLE, Int.reduceLT, Int.reduceEq, Int.reduceNe, reduceCtorEq, Nat.reduceLT, Nat.reduceLeDiff] <;> rw [if_neg (by grind)] <;> simp
      · refine call_lend (r := .bool ([a0, a1].any fun x => !Lat.leI up x d)) (ev_ContainsFuncI hX hs [a0, a1] F_types_order_check_1 [.vp [lst AV.str .ro ns, lst u8 .ro up, .int .i64 (Lat.bot ns.length up : Nat)], .vp [.int .i64 2, .int .i64 2, .int .i64 a0, .int .i64 a1, .int .i64 d]] rfl _ (fun x hx => by
          simp at hx
          rcases hx with rfl | rfl
          · exact ev_t_check1 hX hs ns up _ _ _ _ _ _ l0 ld
          · exact ev_t_check1 hX hs ns up _ _ _ _ _ _ l1 ld) (by simp)) rfl ?_
        cases e : Lat.leI up a0 d <;> cases e' : Lat.leI up a1 d <;> simp only [List.any_nil, List.any_cons, e, e', go_sem, Nat.reduceMod, Nat.reduceBNe, Nat.reduceBEq, Nat.reduceEqDiff, Nat.reduceAdd, Int.reduceAdd, Nat.reduceMul, Nat.reduceSub, Int.reduceToNat, Int.reduceLE, Int.reduceLT, Int.reduceEq, Int.reduceNe, reduceCtorEq, Nat.reduceLT, Nat.reduceLeDiff] <;> simp
    · have e : Lat.goodS ns.length up ⟨k, r, a0, a1, d⟩ = 7 := if_pos (by simp only; omega)
      rw [e]
      have h1 : (r < 0) = True ∨ ((r < 0) = False ∧ (2 < r) = True) := by
        by_cases h : r < 0
        · exact .inl (eq_true h)
        · exact .inr ⟨eq_false h, eq_true (by omega)⟩
      rcases hk with rfl | rfl <;> rcases h1 with h1 | ⟨h1, h2⟩ <;> simp only [A_types_order_check, ordT, tyV, go_sem, Nat.reduceMod, Nat.reduceBNe, Nat.reduceBEq, Nat.reduceEqDiff, Nat.reduceAdd, Int.reduceAdd, Nat.reduceMul, Nat.reduceSub, Int.reduceToNat, Int.reduceLE, Int.reduceLT, Int.reduceEq, Int.reduceNe, reduceCtorEq, Nat.reduceLT, Nat.reduceLeDiff, h1, gt_iff_lt, *]
  · have e : Lat.goodS ns.length up ⟨k, r, a0, a1, d⟩ = 7 := if_pos (by simp only; omega)
    rw [e]
    have h1 : (k = 1) = False := eq_false (by omega)
    have h2 : (k = 2) = False := eq_false (by omega)
    simp only [A_types_order_check, ordT, tyV, go_sem, Nat.reduceMod, Nat.reduceBNe, Nat.reduceBEq, Nat.reduceEqDiff, Nat.reduceAdd, Int.reduceAdd, Nat.reduceMul, Nat.reduceSub, Int.reduceToNat, Int.reduceLE, Int.reduceLT, Int.reduceEq, Int.reduceNe, reduceCtorEq, Nat.reduceLT, Nat.reduceLeDiff, h1, h2]
end
end Go.Avm
