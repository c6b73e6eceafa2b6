/- The reference's tables, on. -/
import Derived.Test.YtcldomkahgaplaaGreatDoorAF6
set_option linter.all false
namespace Go.Avm
open Go Go.Fm
set_option maxRecDepth 10000
section
variable {X : Cx} (hX : X.P = Go.Proofs.Tryz.prog) (hs : Std X)
include hX hs
end
end Go.Avm
namespace Go.Avm
open Go Go.Fm
set_option maxRecDepth 10000
def farA (a : Lat.Arr) : Bool := (decide (60 < a.c.length) && decide (a.c.length ≤ 400)) || decide (405 < a.c.length)
section
variable {X : Cx} (hX : X.P = Go.Proofs.Tryz.prog) (hs : Std X)
include hX hs
theorem ev_Far33 (a : Lat.Arr) : Ev X F_lw_Far [arrV a] (.bool (farA a)) := by
 obtain ⟨k, r, l0, l1, c⟩ := a
 refine ev_of_wpc hs (A_lw_Far_ok hX) 1 ?_
 have e405 : decide ((405 : Int) < (c.length : Nat)) = decide (405 < c.length) := decide_eq_decide.2 (by omega)
 simp only [A_lw_Far, arrV, go_sem, Nat.reduceEqDiff, Nat.reduceAdd, reduceCtorEq, Nat.reduceLT, farA, e405]
 refine ⟨fun h1 => ⟨fun h2 => ?_, fun h2 => ?_⟩, fun h1 => ?_⟩
 ·rw [decide_eq_true (show 60 < c.length by omega), decide_eq_true (show c.length ≤ 400 by omega)]; rfl
 ·rw [decide_eq_false (show ¬ c.length ≤ 400 by omega), Bool.and_false, Bool.false_or]
 ·rw [decide_eq_false (show ¬ 60 < c.length by omega), Bool.false_and, Bool.false_or]
variable (hP : X.G (sRen.g 17) = some tabQ) {te : Nat} (hR : X.G (sRen.g 16) = some [.ifc te .undef])
include hP hR
end
end Go.Avm
