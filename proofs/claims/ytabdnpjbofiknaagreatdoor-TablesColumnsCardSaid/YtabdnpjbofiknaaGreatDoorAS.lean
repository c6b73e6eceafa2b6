/- The shelf's contracts as contracts of ours, over any program. -/
import Derived.Test.YtabdnpjbofiknaaGreatDoorA8
import Derived.Shelf.Strconv.Itoa4
import Derived.Shelf.Strings.OnBuilder
import Derived.Lib.AppendIntMem
import Derived.Shelf.Small.Strs
import Derived.Shelf.Strings.Repeat
import Derived.Shelf.Strconv.Atoi
import Derived.Lib.AtoiErrMem
import Derived.Test.YtabdnpjbofiknaaGreatDoorAB
import Derived.Lib.LaidU8
set_option linter.all false
/- The shelf's contracts as contracts of ours, over any program. -/
namespace Go.Avm
open Go Go.Proofs Go.Shelf Go.RowKit
/-- A table that is laid. -/
theorem tab_of {G : Consts} {P : Program} {g : Gh} {w : World} (hwf : Wf G g w) {x : Nat} {k : IntKind} {zs : List Int} {name : String} (hG : G x = some (zs.map (AV.int k))) (hg : P.globalNamed name = some x) : Lib.TabIs P w name k zs := by
  obtain ⟨vs, e, fz, h1, h2⟩ := hwf.ex _ _ hG
  have hl := hwf.laid _ _ hG
  simp only [Rel] at hl
  obtain ⟨b, o, us, e1, e2, e3⟩ := hl
  simp only [Value.pointer.injEq, Option.some.injEq, Addr.mk.injEq, and_true] at e1
  obtain ⟨rfl, rfl⟩ := e1
  unfold Lib.TabIs World.var?
  rw [hg]
  simp only [Option.bind_some, h1, Option.some.injEq]
  have hul := e2.length
  rw [List.length_map] at h2 hul
  refine Array.ext (by simp [h2]) fun i hi1 hi2 => ?_
  have hi : i < zs.length := by omega
  obtain ⟨u, hu, hr⟩ := e2.get' i (x := .int k zs[i]) (by simp [hi])
  simp only [Rel] at hr
  have hc := (e3 i u hu).2
  simp only [World.cell?, h1, Nat.zero_add] at hc
  simp only [Option.isSome_none, Bool.false_eq_true, if_false] at hc
  rw [Array.getElem?_eq_getElem hi1] at hc
  injection hc with hc
  rw [hc, hr]
  simp
section
variable {X : Cx} {ρ : Ren}
theorem ev_s_FormatInt (L : LaysM.n173 X.P ρ) {x : Nat} (hg : X.P.globalNamed "internal/strconv.uint64pow10" = some x) (hG : X.G x = some (Lib.pow10Tab.map (AV.int .u64))) (n : Int) (h : -9223372036854775808 ≤ n ∧ n ≤ 9223372036854775807) :
    Ev X (ρ.f 173) [.int .i64 n, .int .i64 10] (.str (Lib.itoa n)) := by
  refine ev_below ⟨_, L.f173, by change "strconv.FormatInt" ≠ "runtime.NumGoroutine"; decide, rfl⟩ fun g w vs hwf hvs => ?_
  simp only [RelL, Rel] at hvs
  obtain ⟨v1, r1, rfl, rfl, v2, r2, rfl, rfl, rfl⟩ := hvs
  refine (Any.strconv_FormatInt_10 L n h.1 h.2 w (tab_of hwf hG hg)).mono ?_
  rintro e w' ⟨rfl, k, os, rfl⟩
  exact ⟨_, rfl, fun g => by simp [Rel], Lib.below_grow _ _ (Nat.le_refl _) _ _⟩
end
end Go.Avm

/- The tables that are laid, as a context. -/
namespace Go.Avm
open Go Go.ChangeShapes Go.WideShapes Go.ChangeAt Go.WideElems Go.RowKit Go.Lib
/-- What lies at a variable. -/
def LaidAt (W : World) (x : Nat) (us : List AV) : Prop := Rel (.vp us) (gAll W) W (.pointer (some ⟨x, 0, none⟩)) ∧ ∃ (vs : Array Value) (e : TypeId) (fz : Nat × Nat), W.heap[x]? = some (Obj.cells vs e fz) ∧ vs.size = us.length
theorem laid_of {P : Program} {W : World} {n : String} {g : Nat} {cs : Array Value} {us : List AV} (hg : P.globalNamed n = some g) (hvar : W.var? P n = some cs) (hrel : RelL us (gAll W) W cs.toList) : LaidAt W g us := by
  have hl := relL_len hrel
  rw [Array.length_toList] at hl
  refine ⟨?_, ?_⟩
  · simp only [Rel]
    refine ⟨g, 0, cs.toList, rfl, hrel, fun i v hv => ?_⟩
    have hc : W.cell? ⟨g, i, none⟩ = some v := by
      rw [World.var?_cell hg hvar i]
      simpa using hv
    rw [Nat.zero_add]
    exact ⟨S_of_cell hc, hc⟩
  · unfold World.var? at hvar
    rw [hg, Option.bind_some] at hvar
    split at hvar
    · rename_i vs e fz hv
      cases hvar
      exact ⟨_, e, fz, hv, hl⟩
    · cases hvar
/-- A table of integers. -/
theorem laid_tab {P : Program} {W : World} {n : String} {g t e m : Nat} {k : IntKind} {zs : List Int} (h : VarReads P W n (tabData k zs)) (hg : P.globalNamed n = some g) (hy : (P.globals[g]?).map (·.type) = some t) (ht : P.underlying t = some (.array m e)) (he : P.underlying e = some (.int k)) (hce : P.cellsOf e = 1) (hct : P.cellsOf t = m) : LaidAt W g (zs.map (AV.int k)) := by
  obtain ⟨g', t', cs, fuel, p, hg', hty, hvar, hd⟩ := h
  obtain rfl := Option.some.inj (hg.symm.trans hg')
  obtain rfl := Option.some.inj (hy.symm.trans hty)
  have hcs := cells_of_tab ht he hce hct hd
  exact laid_of hg hvar (by rw [hcs]; exact relL_ints k zs)
theorem lookup_mem {T : List (Nat × List AV)} {x : Nat} {cs : List AV} (h : T.lookup x = some cs) : (x, cs) ∈ T := by
  induction T with
  | nil => cases h
  | cons p T ih =>
    obtain ⟨y, us⟩ := p
    simp only [List.lookup] at h
    split at h
    · rename_i e
      cases h
      rw [beq_iff_eq] at e
      subst e
      exact List.mem_cons_self
    · exact List.mem_cons_of_mem _ (ih h)
/-- The context in which these are laid. -/
theorem cx_of (P : Program) (hm : P.follows .mixedOrders = true) {W : World} (T : List (Nat × List AV)) (h : ∀ p ∈ T, LaidAt W p.1 p.2) : ∃ X : Cx, X.P = P ∧ Std X ∧ X.G = (fun x => T.lookup x) ∧ ∀ x cs, X.G x = some cs → LaidAt W x cs :=
  ⟨{ P := P, G := fun x => T.lookup x }, rfl, ⟨hm, rfl⟩, rfl, fun x cs hx => h (x, cs) (lookup_mem hx)⟩
end Go.Avm
