/- The known answers. -/
import Derived.Test.YtpkgglpiboeogaaDoorM3
set_option linter.unusedSectionVars false
set_option linter.unusedSimpArgs false
set_option linter.unusedVariables false

/- The known answers. -/
namespace Go.Lx
open Go Go.Avm Go.Rn
def knT : List (List UInt8 × Nat × Int) := [([120, 32, 60, 32, 53], 2, 6), ([45], 0, 6), ([53, 120], 1, 6), ([65], 0, 6), ([57, 50, 50, 51, 51, 55, 50, 48, 51, 54, 56, 53, 52, 55, 55, 53, 56, 48, 56], 0, 7), ([34, 97], 0, 6), ([34, 92, 113, 34], 1, 6), ([34, 92, 117, 49, 49, 48, 48, 48, 48, 59, 34], 1, 6), ([97, 98, 99, 100, 101, 102, 103, 104, 105, 106, 107, 108, 109, 110, 111, 112, 113], 16, 3)]
theorem kn_line : ∀ x ∈ knT, lineR x.1 = ([], x.2.1, x.2.2) := by decide +kernel
def k1T : List UInt8 := [40, 32, 120, 32, 32, 97, 100, 100, 91, 32, 49, 32, 50, 32, 93, 41]
def k1L : List PT := [(⟨4, 0, []⟩, 0, 1), (⟨1, 0, [120]⟩, 2, 3), (⟨1, 0, [97, 100, 100]⟩, 5, 8), (⟨6, 0, []⟩, 8, 9), (⟨2, 1, []⟩, 10, 11), (⟨2, 2, []⟩, 12, 13), (⟨7, 0, []⟩, 14, 15), (⟨5, 0, []⟩, 15, 16)]
theorem k1_line : lineR k1T = (k1L, 0, 0) := by decide +kernel
def k1P : List UInt8 := [40, 120, 32, 97, 100, 100, 32, 91, 49, 32, 50, 93, 41]
theorem wr22 : wr ⟨2, 2, []⟩ = [50] := by
  show Lib.itoa 2 = _
  rw [Wo.itoa_one (by decide) (by decide)]; rfl
theorem prR_k1 : prR true (k1L.map (·.1)) = k1P := by
  show wr _ ++ ([] ++ (wr _ ++ ([32] ++ (wr _ ++ ([32] ++ (wr _ ++ ([] ++ (wr ⟨2, 1, []⟩ ++ ([32] ++ (wr ⟨2, 2, []⟩ ++ ([] ++ (wr _ ++ ([] ++ (wr _ ++ []))))))))))))))= _
  rw [wr1, wr22]; rfl
theorem prS_k1 : prS (k1L.map (·.1)) = (k1P, 0, 0) := by
  unfold prS
  rw [show badT (k1L.map (·.1)) = none by decide +kernel]
  simp only [prR_k1]; rfl
def k2T : List UInt8 := [110, 50, 60, 45, 40, 53, 41]
def k2L : List PT := [(⟨1, 0, [110, 50]⟩, 0, 2), (⟨8, 0, []⟩, 2, 4), (⟨4, 0, []⟩, 4, 5), (⟨2, 5, []⟩, 5, 6), (⟨5, 0, []⟩, 6, 7)]
theorem k2_line : lineR k2T = (k2L, 0, 0) := by decide +kernel
end Go.Lx
