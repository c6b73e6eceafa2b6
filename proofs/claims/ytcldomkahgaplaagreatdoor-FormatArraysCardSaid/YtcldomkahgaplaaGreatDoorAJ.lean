/- Texts of arrays and arrays of texts, plain. -/
import Derived.Test.YtcldomkahgaplaaGreatDoorAI
import Derived.Test.YtcldomkahgaplaaGreatDoorAF7
import Derived.Test.YtcldomkahgaplaaGreatDoorM1
import Derived.Test.YtcldomkahgaplaaGreatDoorM2
set_option linter.all false
namespace Go.Avm
open Go Go.Fm Go.Rn Go.Lx
set_option maxRecDepth 10000
def runeOk (r : Int) : Bool := Lat.runeI r
theorem runeI_valid {r : Int} (h : runeOk r = true) : valid r = true := by
 unfold runeOk Lat.runeI at h
 simp only [Bool.and_eq_true, Bool.or_eq_true, decide_eq_true_eq] at h
 exact (valid_iff r).2 (by omega)
theorem arr_valid {a : Lat.Arr} (h : Lat.arrE a = 0) (hk : a.k ≠ 1) : ∀ r ∈ a.c, valid r = true := fun r hr => by
 have h0 := (Lat.arrE_0 h).1
 unfold Lat.arrE at h
 split at h
 ·omega
 ·split at h
  ·omega
  ·split at h
   ·omega
   ·split at h
    ·omega
    ·rename_i h5
     refine runeI_valid (Decidable.byContradiction fun hc => h5 ⟨by omega, List.any_eq_true.2 ⟨r, hr, ?_⟩⟩)
     unfold runeOk at hc
     simpa using hc
end Go.Avm
