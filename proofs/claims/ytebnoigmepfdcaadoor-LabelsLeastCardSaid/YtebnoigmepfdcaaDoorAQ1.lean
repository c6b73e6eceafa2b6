/- The reference's small functions. -/
import Derived.Test.YtebnoigmepfdcaaDoorAG3
import Derived.Test.YtebnoigmepfdcaaDoorAB
set_option linter.unusedSectionVars false
set_option linter.unusedSimpArgs false
set_option linter.unusedVariables false

/- The reference's small functions. -/
namespace Go.Avm
open Go
def below (up : List UInt8) (a b : Int) : Bool := decide (0 ≤ a) && decide (a < up.length) && decide (0 ≤ b) && Lat.le up a.toNat b.toNat
theorem below_nat (up : List UInt8) (a b : Nat) (h : a < up.length) : below up a b = Lat.le up a b := by
  simp [below, h]
section
variable {X : Cx} (hX : X.P = Go.Proofs.Tryd.prog) (hs : Std X)
include hX hs
theorem ev_Below (ns : List (List UInt8)) (up : List UInt8) (a b : Int) : Ev X F_ref03_Below [latV ns up, .int .i64 a, .int .i64 b] (.bool (below up a b)) := by
  refine ev_of_wpc hs (A_ref03_Below_ok hX) 0 ?_
  simp only [A_ref03_Below, latV, go_sem, Nat.reduceMod, Nat.reduceBNe, Nat.reduceBEq, Nat.reduceEqDiff, Nat.reduceAdd, Int.reduceAdd, Nat.reduceMul, Nat.reduceSub, Int.reduceToNat, Int.reduceLE, Int.reduceLT, Int.reduceEq, Int.reduceNe, reduceCtorEq, Nat.reduceLT, Nat.reduceLeDiff]
  refine ⟨fun h1 => ⟨fun h2 => ⟨fun h3 => ⟨⟨h1, h2⟩, h3, ?_⟩, fun h3 => ?_⟩, fun h2 => ?_⟩, fun h1 => ?_⟩
  · simp only [getD_def, bt_rem _ (Lat.msk_lt up _), if1]
    simp [below, h1, h2, h3, Lat.le]
  · simp [below, h3]
  · simp [below, h2]
  · simp [below, h1]
end
end Go.Avm

/- The reference: names, rows, Check. -/
namespace Go.Avm
open Go
section
variable {X : Cx} (hX : X.P = Go.Proofs.Tryd.prog) (hs : Std X)
include hX hs
end
end Go.Avm

/- The reference: Check and what asks it. -/
namespace Go.Avm
open Go
section
variable {X : Cx} (hX : X.P = Go.Proofs.Tryd.prog) (hs : Std X)
include hX hs
end
end Go.Avm

/- The reference: what asks Check. -/
namespace Go.Avm
open Go
def askS (ns : List (List UInt8)) (up : List UInt8) (a b : Int) : Int :=
  if (Lat.checkS ns up).2 = 0 ∧ (a < 0 ∨ (ns.length : Int) ≤ a ∨ b < 0 ∨ (ns.length : Int) ≤ b) then 7 else (Lat.checkS ns up).2
theorem askS_0 {ns : List (List UInt8)} {up : List UInt8} {a b : Int} (h : askS ns up a b = 0) : (Lat.checkS ns up).2 = 0 ∧ ∃ x y : Nat, a = x ∧ b = y ∧ x < ns.length ∧ y < ns.length := by
  unfold askS at h
  split at h
  · omega
  · rename_i h1
    exact ⟨h, a.toNat, b.toNat, by omega, by omega, by omega, by omega⟩
theorem askS_n {ns : List (List UInt8)} {up : List UInt8} {a b : Nat} (h : (Lat.checkS ns up).2 = 0) (ha : a < ns.length) (hb : b < ns.length) : askS ns up a b = 0 := by
  unfold askS
  rw [if_neg (by omega), h]
theorem chk_val {ns : List (List UInt8)} {up : List UInt8} (h : (Lat.checkS ns up).2 = 0) : Lat.Val ns.length up := (Lat.checkS_val h).2
theorem ask_00 {ns : List (List UInt8)} {up : List UInt8} : askS ns up 0 0 = (Lat.checkS ns up).2 := by
  unfold askS
  split
  · rename_i h
    have := (chk_val h.1).pos
    omega
  · rfl
def leqS (ns : List (List UInt8)) (up : List UInt8) (a b : Int) : Bool := decide (askS ns up a b = 0) && below up a b
def joinS (ns : List (List UInt8)) (up : List UInt8) (a b : Int) : Int := if askS ns up a b = 0 then (Lat.jn (Lat.msk up) ns.length a.toNat b.toNat : Nat) else 0
def meetS (ns : List (List UInt8)) (up : List UInt8) (a b : Int) : Int := if askS ns up a b = 0 then (Lat.jn (fun c => Lat.dn up c ns.length) ns.length a.toNat b.toNat : Nat) else 0
def botS (ns : List (List UInt8)) (up : List UInt8) : Int := if (Lat.checkS ns up).2 = 0 then (Lat.foldJ (fun c => Lat.dn up c ns.length) ns.length ns.length : Nat) else 0
def topS (ns : List (List UInt8)) (up : List UInt8) : Int := if (Lat.checkS ns up).2 = 0 then (Lat.foldJ (Lat.msk up) ns.length ns.length : Nat) else 0
section
variable {X : Cx} (hX : X.P = Go.Proofs.Tryd.prog) (hs : Std X)
include hX hs
end
end Go.Avm

/- The reference: Find, Same, rows. -/
namespace Go.Avm
open Go
section
variable {X : Cx} (hX : X.P = Go.Proofs.Tryd.prog) (hs : Std X)
include hX hs
end
end Go.Avm
