/- The laws' own functions: Line, vector, Large, shown. -/
import Derived.Test.YtbhdhlkjchgddaaGreatDoorAQ5
import Derived.Test.YtbhdhlkjchgddaaGreatDoorAQ4
import Derived.Test.YtbhdhlkjchgddaaGreatDoorA8
set_option linter.unusedSectionVars false
set_option linter.unusedSimpArgs false
set_option linter.unusedVariables false

/- The laws' own functions: Line, vector, Large, shown. -/
namespace Go.Avm
open Go
def lN : List (List UInt8) := [[108, 111, 119], [115, 116, 97, 102, 102], [104, 105, 103, 104]]
def lU : List UInt8 := [7, 6, 4]
def vec (a d : Int) : Lat.Ty := ⟨1, 1, a, 0, d⟩
theorem l_within : Lat.withinS lN lU (vec 0 2) (vec 1 2) = true := by decide +kernel
theorem l_both : Lat.bothS lN lU (vec 0 2) (vec 1 2) = 0 := by decide +kernel
theorem l_raise : Lat.raiseS lN lU (vec 1 2) 2 = vec 2 2 := by decide +kernel
theorem l_raiseE : Lat.raiseE lN lU (vec 1 2) 2 = 0 := by decide +kernel
theorem l_seesE : Lat.raiseE lN lU (vec 1 2) 1 = 0 := by decide +kernel
theorem l_ax0 : Lat.ax0 lU (vec 1 2) 1 = true := by decide +kernel
theorem l_ax1 : Lat.ax1 lU (vec 1 2) 1 = false := by decide +kernel
theorem l_seesC : Lat.seesC lU (vec 1 2) 1 = false := by decide +kernel
theorem l_ty2 : Lat.tyS lN lU (vec 2 0) = 25 := by decide +kernel
def largeS (ns : List (List UInt8)) (up : List UInt8) : Bool := (ns.take 30).any (fun s => decide (50 < s.length)) || decide (20 < ns.length) || decide (20 < up.length)
theorem ev_eqr {X : Cx} {f : Nat} {args : List AV} {r r' : AV} (h : Ev X f args r) (e : r = r') : Ev X f args r' := e ▸ h
set_option maxRecDepth 10000
section
variable {X : Cx} (hX : X.P = Go.Proofs.Tryz.prog) (hs : Std X)
include hX hs
theorem ev_Line : Ev X F_law20_Line [] (.agg [lst AV.str .ex lN, lst u8 .ex lU]) := by
  refine ev_of_wpc hs (A_law20_Line_ok hX) 1 ?_
  simp only [A_law20_Line, go_sem, Nat.reduceMod, Nat.reduceBNe, Nat.reduceBEq, Nat.reduceEqDiff, Nat.reduceAdd, Int.reduceAdd, Nat.reduceMul, Nat.reduceSub, Int.reduceToNat, Int.reduceLE, Int.reduceLT, Int.reduceEq, Int.reduceNe, reduceCtorEq, Nat.reduceLT, Nat.reduceLeDiff]
  rfl
theorem ev_vector (a d : Int) : Ev X F_law20_vector [.int .i64 a, .int .i64 d] (tyV (vec a d)) := by
  refine ev_of_wpc hs (A_law20_vector_ok hX) 1 ?_
  simp only [A_law20_vector, go_sem, Nat.reduceMod, Nat.reduceBNe, Nat.reduceBEq, Nat.reduceEqDiff, Nat.reduceAdd, Int.reduceAdd, Nat.reduceMul, Nat.reduceSub, Int.reduceToNat, Int.reduceLE, Int.reduceLT, Int.reduceEq, Int.reduceNe, reduceCtorEq, Nat.reduceLT, Nat.reduceLeDiff, tyV, vec]
theorem ev_Large (ns : List (List UInt8)) (up : List UInt8) : Ev X F_law20_Large [latV ns up] (.bool (largeS ns up)) := by
  refine ev_of_wpc hs (A_law20_Large_ok hX) 1 ?_
  simp only [A_law20_Large, latV, go_sem, Nat.reduceMod, Nat.reduceBNe, Nat.reduceBEq, Nat.reduceEqDiff, Nat.reduceAdd, Int.reduceAdd, Nat.reduceMul, Nat.reduceSub, Int.reduceToNat, Int.reduceLE, Int.reduceLT, Int.reduceEq, Int.reduceNe, reduceCtorEq, Nat.reduceLT, Nat.reduceLeDiff]
  refine w_loop' hs.hm (ι := Nat) (fun i => (i ≤ ns.length ∧ i ≤ 30) ∧ (ns.take i).any (fun s => decide (50 < s.length)) = false) (fun i => [(3, .int .i64 i), (1, .ptr 0 0)]) (fun _ => [.box [lst AV.str .ro ns, lst u8 .ro up]]) (fun i => 30 - i) 0 ?_ fun i hi => ?_
  · simp only [go_sem, Nat.reduceMod, Nat.reduceBNe, Nat.reduceBEq, Nat.reduceEqDiff, Nat.reduceAdd, Int.reduceAdd, Nat.reduceMul, Nat.reduceSub, Int.reduceToNat, Int.reduceLE, Int.reduceLT, Int.reduceEq, Int.reduceNe, reduceCtorEq, Nat.reduceLT, Nat.reduceLeDiff]
    exact ⟨by omega, rfl⟩
  · obtain ⟨⟨i1, i3⟩, i2⟩ := hi
    simp only [A_law20_LargeL0, go_sem, Nat.reduceMod, Nat.reduceBNe, Nat.reduceBEq, Nat.reduceEqDiff, Nat.reduceAdd, Int.reduceAdd, Nat.reduceMul, Nat.reduceSub, Int.reduceToNat, Int.reduceLE, Int.reduceLT, Int.reduceEq, Int.reduceNe, reduceCtorEq, Nat.reduceLT, Nat.reduceLeDiff]
    have fin : (i = 30 ∨ i = ns.length) → (20 < (ns.length : Int) → AV.bool true = AV.bool (largeS ns up)) ∧ (¬20 < (ns.length : Int) → AV.bool (decide (20 < (up.length : Int))) = AV.bool (largeS ns up)) := fun h => by
      have e : ns.take 30 = ns.take i := by
        rcases h with h | h
        · rw [h]
        · rw [List.take_of_length_le (by omega), List.take_of_length_le (by omega)]
      have e2 : decide (20 < (up.length : Int)) = decide (20 < up.length) := by simp; omega
      rw [largeS, e, i2, Bool.false_or, e2]
      exact ⟨fun h => by rw [decide_eq_true (show 20 < ns.length by omega), Bool.true_or], fun h => by rw [decide_eq_false (show ¬ 20 < ns.length by omega), Bool.false_or]⟩
    refine ⟨fun c1 => ⟨fun c2 => ⟨⟨by omega, c1⟩, fun e => ?_, fun e => ⟨i + 1, by omega, ⟨⟨by omega, by omega⟩, ?_⟩, by rw [wi64 (by omega)]; rfl⟩⟩, fun c2 => fin (.inl (by omega))⟩, fun c1 => fin (.inr (by omega))⟩
    · have hi : i < ns.length := by omega
      have hg : ns.getD i default = ns[i] := by rw [List.getD_eq_getElem?_getD, List.getElem?_eq_getElem hi]; rfl
      rw [hg] at e
      have : (ns.take 30).any (fun s => decide (50 < s.length)) = true := List.any_eq_true.2 ⟨ns[i], by rw [List.mem_take_iff_getElem]; exact ⟨i, by omega, rfl⟩, by simp; omega⟩
      rw [largeS, this, Bool.true_or, Bool.true_or]
    · have hi : i < ns.length := by omega
      have hg : ns.getD i default = ns[i] := by rw [List.getD_eq_getElem?_getD, List.getElem?_eq_getElem hi]; rfl
      rw [hg] at e
      rw [List.take_succ_eq_append_getElem hi, List.any_append, i2]
      simp; omega
def tyC (t : Lat.Ty) : List AV := [.int .i64 t.k, .int .i64 t.r, .int .i64 t.a0, .int .i64 t.a1, .int .i64 t.d]
end
end Go.Avm

/- The reference: shapes and arrays; types of arrays. -/
namespace Go.Avm
open Go
section
variable {X : Cx} (hX : X.P = Go.Proofs.Tryz.prog) (hs : Std X)
include hX hs
end
end Go.Avm

/- Of, Fits, Sees, Agree: the program's Of, and the reference. -/
namespace Go.Lat
end Go.Lat
namespace Go.Avm
open Go
section
variable {X : Cx} (hX : X.P = Go.Proofs.Tryz.prog) (hs : Std X)
include hX hs
set_option maxRecDepth 10000
end
end Go.Avm

/- TypesSees. -/
namespace Go.Avm
open Go
set_option maxRecDepth 10000
section
variable {X : Cx} (hX : X.P = Go.Proofs.Tryz.prog) (hs : Std X)
include hX hs
end
end Go.Avm
