/- Contracts of the functions that the statements reach. -/
import Derived.Test.YtpdhdilhlkpiaaaDoorT9
import Derived.Test.YtpdhdilhlkpiaaaDoorM9
import Derived.Test.YtpdhdilhlkpiaaaDoorRows
import Derived.LaidMore
import Derived.OpenShut
import Derived.Stop.Joined
import Derived.Lay
import Derived.Lib.LaidU8
set_option linter.unusedSectionVars false
set_option linter.unusedSimpArgs false
set_option linter.unusedVariables false

namespace Go.Proofs.YtpdhdilhlkpiaaaDoor
open Go Go.Avm Go.ChangeShapes Go.WideShapes Go.ChangeAt Go.WideMaps Go.WideElems Go.RowKit Go.Lib
theorem own : ownKnob Tryd.prog.godebug = none := by kernel_rfl
theorem laidOut : laidOutB Tryd.prog = true := by kernel_rfl
theorem gFirst : Tryd.prog.globalNamed "unicode/utf8.first" = some 0 := by kernel_rfl
theorem gRanges : Tryd.prog.globalNamed "unicode/utf8.acceptRanges" = some 1 := by kernel_rfl
theorem yFirst : (Tryd.prog.globals[0]?).map (·.type) = some 71 := by kernel_rfl
theorem yRanges : (Tryd.prog.globals[1]?).map (·.type) = some 74 := by kernel_rfl
def laidL : List (String × DataW Unit) := [("unicode/utf8.acceptRanges", Rows.laid_unicode_utf8_acceptRanges), ("unicode/utf8.first", Rows.laid_unicode_utf8_first)]
def firstZ : List Int := (List.range 256).map fun i : Nat => fb i
theorem first_eq : Go.Pinned.utf8First = tabData .u8 firstZ := by kernel_rfl
theorem ranges_eq : (Rows.laid_unicode_utf8_acceptRanges : DataW Unit) = .agg ((List.range 16).map fun i => .agg ([(accLo i : Int), (accHi i : Int)].map fun z => .lit (.int .u8 z))) := by kernel_rfl
theorem c5 : Tryd.prog.cellsOf 5 = 1 := by kernel_rfl
theorem c2 : Tryd.prog.cellsOf 2 = 1 := by kernel_rfl
theorem c71 : Tryd.prog.cellsOf 71 = 256 := by kernel_rfl
theorem c73 : Tryd.prog.cellsOf 73 = 2 := by kernel_rfl
/-- What the listed variables hold. -/
theorem of_laid {W : World} (h : laidMet Tryd.prog laidL W) : (∀ c : Nat, c < 256 → W.cell? ⟨0, c, none⟩ = some (.int .u8 (fb c))) ∧ ∀ i : Nat, i < 16 → W.cell? ⟨1, 2 * i, none⟩ = some (.int .u8 (accLo i)) ∧ W.cell? ⟨1, 2 * i + 1, none⟩ = some (.int .u8 (accHi i)) := by
  have h3 : VarReads Tryd.prog W "unicode/utf8.first" (tabData .u8 firstZ) := first_eq ▸ Lib.laidMet.reads h (.tail _ (.head _))
  have h4 : VarReads Tryd.prog W "unicode/utf8.acceptRanges" (.agg ((List.range 16).map fun i => .agg ([(accLo i : Int), (accHi i : Int)].map fun z => .lit (.int .u8 z)))) := ranges_eq ▸ Lib.laidMet.reads h (.head _)
  refine ⟨fun c hc => ?_, fun i hi => ?_⟩
  · obtain ⟨g, t, cs, fuel, p, hg, hty, hvar, hd⟩ := h3
    obtain rfl := Option.some.inj (gFirst.symm.trans hg)
    obtain rfl := Option.some.inj (yFirst.symm.trans hty)
    have hcs := cells_of_tab Tryd.underlying71 Tryd.underlying5 c5 c71 hd
    have := World.var?_cell hg hvar c
    rw [this, ← Array.getElem?_toList, hcs]
    simp [firstZ, hc]
  · obtain ⟨g, t, cs, fuel, p, hg, hty, hvar, hd⟩ := h4
    obtain rfl := Option.some.inj (gRanges.symm.trans hg)
    obtain rfl := Option.some.inj (yRanges.symm.trans hty)
    obtain ⟨fuel', d, q, hdi, he⟩ := array_elem Tryd.underlying74 hd i hi
    simp only [List.getElem?_map, List.getElem?_range hi, Option.map_some, Option.some.injEq] at hdi
    subst hdi
    rw [c73] at he
    have hcs := ints_of_struct Tryd.underlying73 (fun j f hj => by
      match j, hj with
      | 0, hj => simp at hj; subst hj; exact ⟨Tryd.underlying5, rfl, c5⟩
      | 1, hj => simp at hj; subst hj; exact ⟨Tryd.underlying5, rfl, c5⟩
      | j + 2, hj => simp at hj) (by rw [c73]; rfl) he
    have e0 := congrArg (·[0]?) hcs
    have e1 := congrArg (·[1]?) hcs
    simp only [List.getElem?_take, List.getElem?_drop] at e0 e1
    constructor
    · rw [World.var?_cell hg hvar (2 * i), ← Array.getElem?_toList]
      simpa [Nat.mul_comm] using e0
    · rw [World.var?_cell hg hvar (2 * i + 1), ← Array.getElem?_toList]
      simpa [Nat.mul_comm] using e1
theorem rel_tab {W : World} {x : Nat} (zs : List Int) (h : ∀ i z, zs[i]? = some z → W.cell? ⟨x, i, none⟩ = some (.int .u8 z)) : Rel (.vp (zs.map (AV.int .u8))) (gAll W) W (.pointer (some ⟨x, 0, none⟩)) := by
  simp only [Rel]
  refine ⟨x, 0, zs.map (Value.int .u8), rfl, relL_ints .u8 zs, fun i v hv => ?_⟩
  simp only [List.getElem?_map, Option.map_eq_some_iff] at hv
  obtain ⟨z, hz, rfl⟩ := hv
  rw [Nat.zero_add]
  exact ⟨S_of_cell (h i z hz), h i z hz⟩
/-- The context in which the seat's functions are proved. -/
theorem cx_ex : ∃ X : Cx, X.P = Tryd.prog ∧ Std X ∧ X.G 0 = some tab0 ∧ X.G 1 = some tab1 ∧ ∀ W, laidMet Tryd.prog laidL W → ∀ x cs, X.G x = some cs → Rel (.vp cs) (gAll W) W (.pointer (some ⟨x, 0, none⟩)) := by
  refine ⟨{ P := Tryd.prog, G := fun x => if x = 0 then some tab0 else if x = 1 then some tab1 else none }, rfl, ⟨by kernel_rfl, rfl⟩, rfl, rfl, fun W h => ?_⟩
  obtain ⟨h0, h1⟩ := of_laid h
  intro x cs hx
  replace hx : (if x = 0 then some tab0 else if x = 1 then some tab1 else Option.none) = some cs := hx
  split at hx
  · rename_i e
    cases hx
    subst e
    have : tab0 = ((List.range 256).map fun i : Nat => fb i).map (AV.int .u8) := by simp [tab0]
    rw [this]
    refine rel_tab _ fun i z hz => ?_
    by_cases hi : i < 256
    · simp only [List.getElem?_map, List.getElem?_range hi, Option.map_some, Option.some.injEq] at hz
      rw [← hz]; exact h0 i hi
    · rw [List.getElem?_eq_none (by simp; omega)] at hz; cases hz
  split at hx
  · rename_i e
    cases hx
    subst e
    refine rel_tab _ fun i z hz => ?_
    by_cases hi : i < 32
    · have hall : ∀ i : Fin 32, ([128, 191, 160, 191, 128, 159, 144, 191, 128, 143, 0, 0, 0, 0, 0, 0, 0, 0, 0, 0, 0, 0, 0, 0, 0, 0, 0, 0, 0, 0, 0, 0] : List Int)[i.val]? = some (if i.val % 2 = 0 then (accLo (i.val / 2) : Int) else (accHi (i.val / 2) : Int)) := by decide
      have h2 := hall ⟨i, hi⟩
      rw [h2, Option.some.injEq] at hz
      rw [← hz]
      have h3 := h1 (i / 2) (by omega)
      simp only
      split
      · have e2 : 2 * (i / 2) = i := by omega
        rw [e2] at h3; exact h3.1
      · have e2 : 2 * (i / 2) + 1 = i := by omega
        rw [e2] at h3; exact h3.2
    · rw [List.getElem?_eq_none (by simp; omega)] at hz; cases hz
  · cases hx
theorem rel_bytes {W : World} {v : Value} {zs : List Int} (hz : ∀ z ∈ zs, (Lit.int .u8 z).wf = true) (h : Rel (lst (AV.int .u8) .ro zs) (gAll W) W v) : Rel (lst u8 .ro (zs.map byteI)) (gAll W) W v := by
  have : lst u8 .ro (zs.map byteI) = lst (AV.int .u8) .ro zs := by
    simp only [lst, List.map_map, AV.sl.injEq, true_and]
    exact List.map_congr_left fun z hzz => u8_byteI (wf_u8 (hz z hzz))
  rw [this]; exact h
end Go.Proofs.YtpdhdilhlkpiaaaDoor
