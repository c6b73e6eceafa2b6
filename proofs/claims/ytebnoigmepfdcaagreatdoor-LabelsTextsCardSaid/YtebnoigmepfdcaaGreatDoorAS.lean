/- The shelf's contracts as contracts of ours, over any program. -/
import Derived.Test.YtebnoigmepfdcaaGreatDoorA8
import Derived.Shelf.Strconv.Itoa4
import Derived.Shelf.Strings.OnBuilder
import Derived.Lib.AppendIntMem
import Derived.Shelf.Small.Strs
import Derived.Shelf.Strings.Repeat
import Derived.Shelf.Strconv.Atoi
import Derived.Lib.AtoiErrMem
import Derived.Test.YtebnoigmepfdcaaGreatDoorAB
import Derived.Lib.LaidU8
import Derived.Shelf.Slices.Clone
import Derived.Shelf.Slices.CompactI
import Derived.Sort.Row
import Derived.Sort.Grow
import Derived.Shelf.SlSortCmp.NoneTotal
set_option linter.unusedSectionVars false
set_option linter.unusedSimpArgs false
set_option linter.unusedVariables false

/- The shelf's contracts as contracts of ours, over any program. -/
namespace Go.Avm
open Go Go.Proofs Go.Shelf Go.RowKit
/-- A table that is laid. -/
theorem tab_of {G : Consts} {P : Program} {g : Gh} {w : World} (hwf : Wf G g w) {x : Nat} {k : IntKind} {zs : List Int} {name : String} (hG : G x = some (zs.map (AV.int k))) (hg : P.globalNamed name = some x) : Lib.TabIs P w name k zs := by
  obtain ⟨vs, e, fz, h1, h2⟩ := hwf.ex _ _ hG
  have hl := hwf.laid _ _ hG
  simp only [Rel] at hl
  obtain ⟨b, o, us, e1, e2, e3⟩ := hl
  simp only [Value.pointer.injEq, Option.some.injEq, Addr.mk.injEq, and_true] at e1
  obtain ⟨rfl, rfl⟩ := e1
  unfold Lib.TabIs World.var?
  rw [hg]
  simp only [Option.bind_some, h1, Option.some.injEq]
  have hul := e2.length
  rw [List.length_map] at h2 hul
  refine Array.ext (by simp [h2]) fun i hi1 hi2 => ?_
  have hi : i < zs.length := by omega
  obtain ⟨u, hu, hr⟩ := e2.get' i (x := .int k zs[i]) (by simp [hi])
  simp only [Rel] at hr
  have hc := (e3 i u hu).2
  simp only [World.cell?, h1, Nat.zero_add] at hc
  simp only [Option.isSome_none, Bool.false_eq_true, if_false] at hc
  rw [Array.getElem?_eq_getElem hi1] at hc
  injection hc with hc
  rw [hc, hr]
  simp
section
variable {X : Cx} {ρ : Ren}
theorem ev_s_FormatInt (L : LaysM.n173 X.P ρ) {x : Nat} (hg : X.P.globalNamed "internal/strconv.uint64pow10" = some x) (hG : X.G x = some (Lib.pow10Tab.map (AV.int .u64))) (n : Int) (h : -9223372036854775808 ≤ n ∧ n ≤ 9223372036854775807) :
    Ev X (ρ.f 173) [.int .i64 n, .int .i64 10] (.str (Lib.itoa n)) := by
  refine ev_below ⟨_, L.f173, by change "strconv.FormatInt" ≠ "runtime.NumGoroutine"; decide, rfl⟩ fun g w vs hwf hvs => ?_
  simp only [RelL, Rel] at hvs
  obtain ⟨v1, r1, rfl, rfl, v2, r2, rfl, rfl, rfl⟩ := hvs
  refine (Any.strconv_FormatInt_10 L n h.1 h.2 w (tab_of hwf hG hg)).mono ?_
  rintro e w' ⟨rfl, k, os, rfl⟩
  exact ⟨_, rfl, fun g => by simp [Rel], Lib.below_grow _ _ (Nat.le_refl _) _ _⟩
theorem ev_s_Itoa (L : LaysM.n171 X.P ρ) {x : Nat} (hg : X.P.globalNamed "internal/strconv.uint64pow10" = some x) (hG : X.G x = some (Lib.pow10Tab.map (AV.int .u64))) (n : Int) (h : -9223372036854775808 ≤ n ∧ n ≤ 9223372036854775807) :
    Ev X (ρ.f 171) [.int .i64 n] (.str (Lib.itoa n)) := by
  refine ev_below ⟨_, L.f171, by change "strconv.Itoa" ≠ "runtime.NumGoroutine"; decide, rfl⟩ fun g w vs hwf hvs => ?_
  simp only [RelL, Rel] at hvs
  obtain ⟨v1, r1, rfl, rfl, rfl⟩ := hvs
  refine (Any.strconv_Itoa L n h.1 h.2 w (tab_of hwf hG hg)).mono ?_
  rintro e w' ⟨rfl, k, os, rfl⟩
  exact ⟨_, rfl, fun g => by simp [Rel], Lib.below_grow _ _ (Nat.le_refl _) _ _⟩
/-- Strings that lie in a row. -/
theorem strs_rel {g : Gh} {w : World} : ∀ (l : List (List UInt8)) {vs : List Value}, RelL (l.map AV.str) g w vs → ∃ xs : List ByteArray, vs = xs.map Value.string ∧ xs.map (·.data.toList) = l
  | [], vs, h => by
    simp only [List.map_nil, RelL] at h
    subst h
    exact ⟨[], rfl, rfl⟩
  | x :: l, vs, h => by
    simp only [List.map_cons, RelL, Rel] at h
    obtain ⟨v, r, rfl, ⟨s, rfl, h1⟩, h2⟩ := h
    obtain ⟨xs, rfl, h3⟩ := strs_rel l h2
    exact ⟨s :: xs, rfl, by rw [List.map_cons, h1, h3]⟩
theorem ev_s_Join (L : Lays.n156 X.P ρ) (E : Builder.Extra X.P ρ) (l : List (List UInt8)) (sep : List UInt8) (hl : l.length ≤ 140737488355328) (hlen : (Lib.join l sep).length ≤ 140737488355328) :
    Ev X (ρ.f 156) [lst AV.str .ro l, .str sep] (.str (Lib.join l sep)) := by
  refine ev_below ⟨_, L.f156, by change "strings.Join" ≠ "runtime.NumGoroutine"; decide, rfl⟩ fun g w vs hwf hvs => ?_
  simp only [RelL, Rel, lst] at hvs
  obtain ⟨v1, r1, rfl, ⟨a, cap, us, sz, rfl, hcap, hus, hlie, _⟩, v2, r2, rfl, ⟨s2, rfl, h2⟩, rfl⟩ := hvs
  obtain ⟨xs, rfl, rfl⟩ := strs_rel l hus
  subst h2
  rw [List.length_map, List.length_map] at hcap
  rw [List.length_map] at hl
  have e1 : ((xs.map (·.data.toList)).map AV.str).length = xs.length := by simp
  rw [e1]
  rcases hlie with h0 | ⟨b, o, rfl, hc⟩
  · have : xs = [] := by simpa using h0
    subst this
    refine (Any.strings_Join_none L E a cap s2 w).mono ?_
    rintro e w' ⟨rfl, rfl⟩
    exact ⟨_, rfl, fun g => by simp [Rel, Lib.join_nil], Below.refl _ _⟩
  · by_cases h0 : xs = []
    · subst h0
      refine (Any.strings_Join_none L E _ cap s2 w).mono ?_
      rintro e w' ⟨rfl, rfl⟩
      exact ⟨_, rfl, fun g => by simp [Rel, Lib.join_nil], Below.refl _ _⟩
    have hcell : ∀ (j : Nat) x, xs[j]? = some x → g.S b (o + j) ∧ w.cell? ⟨b, o + j, none⟩ = some (.string x) := fun j x hj => by
      obtain ⟨h3, h4⟩ := hc j (.string x) (by simp [hj])
      have hs1 : sz = 1 := by rw [← h3]; rfl
      subst hs1
      have := h4 0 (.string x) rfl
      simpa using this
    have hb : b < w.heap.size := by
      obtain ⟨x, r, rfl⟩ := List.exists_cons_of_ne_nil h0
      exact hwf.lt_S (hcell 0 x rfl).1
    refine (Any.strings_Join L E b o cap xs s2 w (fun j x hj => (hcell j x hj).2) hb hl hcap hlen).mono ?_
    rintro e w' ⟨rfl, hw⟩
    exact ⟨_, rfl, fun g => by simp [Rel], hw⟩
theorem ev_s_Compare (L : Lays.n106 X.P ρ) (a b : List UInt8) : Ev X (ρ.f 106) [.str a, .str b] (.int .i64 (Lib.compareBytes a b)) := by
  refine ev_below ⟨_, L.f106, by change "strings.Compare" ≠ "runtime.NumGoroutine"; decide, rfl⟩ fun g w vs hwf hvs => ?_
  simp only [RelL, Rel] at hvs
  obtain ⟨v1, r1, rfl, ⟨s1, rfl, rfl⟩, v2, r2, rfl, ⟨s2, rfl, rfl⟩, rfl⟩ := hvs
  refine (Any.strings_Compare L s1 s2 w).mono ?_
  rintro e w' ⟨rfl, rfl⟩
  exact ⟨_, rfl, fun g => by simp [Rel], Below.refl _ _⟩
theorem ev_s_Repeat (L : Lays.n105 X.P ρ) (E : Builder.Extra X.P ρ) (s : List UInt8) (c : Nat) (hc : c ≤ 9223372036854775807) (hl : s.length * c ≤ 140737488355328) : Ev X (ρ.f 105) [.str s, .int .i64 c] (.str (Lib.repeatL s c)) := by
  refine ev_below ⟨_, L.f105, by change "strings.Repeat" ≠ "runtime.NumGoroutine"; decide, rfl⟩ fun g w vs hwf hvs => ?_
  simp only [RelL, Rel] at hvs
  obtain ⟨v1, r1, rfl, ⟨s1, rfl, rfl⟩, v2, r2, rfl, rfl, rfl⟩ := hvs
  refine (Any.strings_Repeat L E s1 c w hc (by simpa using hl)).mono ?_
  rintro e w' ⟨rfl, hw⟩
  exact ⟨_, rfl, fun g => by simp [Rel], hw⟩
theorem ev_s_Atoi (L : Lays.n172 X.P ρ) (s : List UInt8) (n : Int) (hl : s.length ≤ 18) (h : Lib.atoi s = some n) : Ev X (ρ.f 172) [.str s] (.tuple [.int .i64 n, .nilI]) := by
  refine ev_below ⟨_, L.f172, by change "strconv.Atoi" ≠ "runtime.NumGoroutine"; decide, rfl⟩ fun g w vs hwf hvs => ?_
  simp only [RelL, Rel] at hvs
  obtain ⟨v1, r1, rfl, ⟨s1, rfl, rfl⟩, rfl⟩ := hvs
  refine (Any.strconv_Atoi L s1 n (by simpa using hl) h w).mono ?_
  rintro e w' ⟨rfl, t, rfl⟩
  refine ⟨_, rfl, fun g => ?_, Lib.bytesWorld_below _ _ _⟩
  simp only [Rel, RelL]
  exact ⟨_, rfl, _, _, rfl, rfl, _, _, rfl, rfl, rfl⟩
end
end Go.Avm

/- The tables that are laid, as a context. -/
namespace Go.Avm
open Go Go.ChangeShapes Go.WideShapes Go.ChangeAt Go.WideElems Go.RowKit Go.Lib
/-- What lies at a variable. -/
def LaidAt (W : World) (x : Nat) (us : List AV) : Prop := Rel (.vp us) (gAll W) W (.pointer (some ⟨x, 0, none⟩)) ∧ ∃ (vs : Array Value) (e : TypeId) (fz : Nat × Nat), W.heap[x]? = some (Obj.cells vs e fz) ∧ vs.size = us.length
theorem laid_of {P : Program} {W : World} {n : String} {g : Nat} {cs : Array Value} {us : List AV} (hg : P.globalNamed n = some g) (hvar : W.var? P n = some cs) (hrel : RelL us (gAll W) W cs.toList) : LaidAt W g us := by
  have hl := relL_len hrel
  rw [Array.length_toList] at hl
  refine ⟨?_, ?_⟩
  · simp only [Rel]
    refine ⟨g, 0, cs.toList, rfl, hrel, fun i v hv => ?_⟩
    have hc : W.cell? ⟨g, i, none⟩ = some v := by
      rw [World.var?_cell hg hvar i]
      simpa using hv
    rw [Nat.zero_add]
    exact ⟨S_of_cell hc, hc⟩
  · unfold World.var? at hvar
    rw [hg, Option.bind_some] at hvar
    split at hvar
    · rename_i vs e fz hv
      cases hvar
      exact ⟨_, e, fz, hv, hl⟩
    · cases hvar
/-- A table of integers. -/
theorem laid_tab {P : Program} {W : World} {n : String} {g t e m : Nat} {k : IntKind} {zs : List Int} (h : VarReads P W n (tabData k zs)) (hg : P.globalNamed n = some g) (hy : (P.globals[g]?).map (·.type) = some t) (ht : P.underlying t = some (.array m e)) (he : P.underlying e = some (.int k)) (hce : P.cellsOf e = 1) (hct : P.cellsOf t = m) : LaidAt W g (zs.map (AV.int k)) := by
  obtain ⟨g', t', cs, fuel, p, hg', hty, hvar, hd⟩ := h
  obtain rfl := Option.some.inj (hg.symm.trans hg')
  obtain rfl := Option.some.inj (hy.symm.trans hty)
  have hcs := cells_of_tab ht he hce hct hd
  exact laid_of hg hvar (by rw [hcs]; exact relL_ints k zs)
/-- A table of rows of integers. -/
theorem laid_rows {P : Program} {W : World} {n : String} {g t e m : Nat} {k : IntKind} {fs : Array Field} {rows : List (List Int)} (h : VarReads P W n (.agg (rows.map fun zs => .agg (zs.map fun z => .lit (.int k z))))) (hg : P.globalNamed n = some g) (hy : (P.globals[g]?).map (·.type) = some t) (ht : P.underlying t = some (.array m e)) (he : P.underlying e = some (.struct fs))
    (hf : ∀ (i : Nat) (f : Field), fs[i]? = some f → P.underlying f.type = some (.int k) ∧ f.offset = i ∧ P.cellsOf f.type = 1) (hce : P.cellsOf e = fs.size) (hct : P.cellsOf t = m * fs.size) (hm : rows.length = m) : LaidAt W g (rows.flatten.map (AV.int k)) := by
  obtain ⟨g', t', cs, fuel, p, hg', hty, hvar, hd⟩ := h
  obtain rfl := Option.some.inj (hg.symm.trans hg')
  obtain rfl := Option.some.inj (hy.symm.trans hty)
  have hlen : cs.toList.length = m * fs.size := by
    cases fuel with
    | zero => simp [DataW.trod] at hd
    | succ fuel =>
      simp only [DataW.trod, ht] at hd
      split at hd
      · rename_i hl
        rw [hl, hct]
      · cases hd
  have hrow : ∀ (i : Nat) zs, rows[i]? = some zs → (cs.toList.drop (i * fs.size)).take fs.size = zs.map fun z => Value.int k z := fun i zs hi => by
    have hlt : i < m := by rw [← hm]; exact (List.getElem?_eq_some_iff.1 hi).1
    obtain ⟨fuel', d, q', hdi, he'⟩ := array_elem ht hd i hlt
    simp only [List.getElem?_map, hi, Option.map_some, Option.some.injEq] at hdi
    subst hdi
    rw [hce] at he'
    exact ints_of_struct he hf hce he'
  have key : ∀ (rs : List (List Int)) (c : List Value), c.length = rs.length * fs.size → (∀ (i : Nat) zs, rs[i]? = some zs → (c.drop (i * fs.size)).take fs.size = zs.map fun z => Value.int k z) → c = rs.flatten.map fun z => Value.int k z := by
    intro rs
    induction rs with
    | nil => intro c hc _; simpa using hc
    | cons r rs ih =>
      intro c hc hr
      have h0 := hr 0 r rfl
      rw [Nat.zero_mul, List.drop_zero] at h0
      have h1 := ih (c.drop fs.size) (by rw [List.length_drop, hc, List.length_cons, Nat.succ_mul]; omega) fun i zs hi => by
        rw [List.drop_drop, show fs.size + i * fs.size = (i + 1) * fs.size by rw [Nat.succ_mul]; omega]
        exact hr (i + 1) zs hi
      rw [List.flatten_cons, List.map_append, ← h1, ← h0, List.take_append_drop]
  have hcs := key rows cs.toList (by rw [hlen, hm]) hrow
  exact laid_of hg hvar (by rw [hcs]; exact relL_ints k _)
/-- A value of an interface type. -/
theorem laid_iface {P : Program} {W : World} {n nm : String} {g t : Nat} {ms} {d : DataW Unit} (h : VarReads P W n (.iface nm d)) (hg : P.globalNamed n = some g) (hy : (P.globals[g]?).map (·.type) = some t) (ht : P.underlying t = some (.interface ms)) : ∃ te, LaidAt W g [.ifc te .undef] := by
  obtain ⟨g', t', cs, fuel, p, hg', hty, hvar, hd⟩ := h
  obtain rfl := Option.some.inj (hg.symm.trans hg')
  obtain rfl := Option.some.inj (hy.symm.trans hty)
  have : ∃ u v, cs.toList = [.iface u v] := by
    generalize cs.toList = l at hd
    cases fuel with
    | zero => simp [DataW.trod] at hd
    | succ fuel =>
      unfold DataW.trod at hd
      rw [ht] at hd
      split at hd <;> first
        | exact ⟨_, _, rfl⟩
        | (exfalso; rename_i h1; cases h1; done)
        | (exfalso; rename_i h1 _; cases h1; done)
        | (exfalso; rename_i h1 _ _; cases h1; done)
        | (exfalso; cases hd; done)
        | (exfalso; simp_all; done)
  obtain ⟨u, v, hc⟩ := this
  exact ⟨u, laid_of hg hvar (by rw [hc]; simp only [RelL, Rel]; exact ⟨_, _, rfl, ⟨_, rfl, trivial⟩, rfl⟩)⟩
theorem lf_sla {α : Type} {f : α → AV} {ks : List Lf} {v : AV} (hf : ∀ avs, LfL ks avs → ∃ x, AV.agg avs = f x) (h : LfR (.sl true ks) v) : ∃ l : List α, v = lst f .ro l ∧ l.length ≤ Go.maxLen := by
  simp only [LfR] at h
  obtain ⟨es, rfl, hlen, hes⟩ := h
  obtain ⟨l, rfl⟩ := map_ex (f := f) (es := es) fun e hm => by
    obtain ⟨avs, l1, h1 | h1⟩ := hes e hm
    · rw [h1.2]; exact hf _ l1
    · cases h1.1
  exact ⟨l, rfl, by simpa using hlen⟩
theorem lookup_mem {T : List (Nat × List AV)} {x : Nat} {cs : List AV} (h : T.lookup x = some cs) : (x, cs) ∈ T := by
  induction T with
  | nil => cases h
  | cons p T ih =>
    obtain ⟨y, us⟩ := p
    simp only [List.lookup] at h
    split at h
    · rename_i e
      cases h
      rw [beq_iff_eq] at e
      subst e
      exact List.mem_cons_self
    · exact List.mem_cons_of_mem _ (ih h)
/-- The context in which these are laid. -/
theorem cx_of (P : Program) (hm : P.follows .mixedOrders = true) {W : World} (T : List (Nat × List AV)) (h : ∀ p ∈ T, LaidAt W p.1 p.2) : ∃ X : Cx, X.P = P ∧ Std X ∧ X.G = (fun x => T.lookup x) ∧ ∀ x cs, X.G x = some cs → LaidAt W x cs :=
  ⟨{ P := P, G := fun x => T.lookup x }, rfl, ⟨hm, rfl⟩, rfl, fun x cs hx => h (x, cs) (lookup_mem hx)⟩
end Go.Avm

/- Rows of ours under the shelf's contracts: a new one, one that is written as a whole. -/
namespace Go.Avm
open Go Go.RowKit
section
variable {X : Cx} {g : Gh} {w w' : World} {H : Heap}
/-- A row that has come is ours. -/
theorem good_new (hwf : Wf X.G g w) (hhr : HR g w H) (hb : Below w.heap.size w w') {k : Nat} (hk : w.heap.size ≤ k) {cur : Array Value} {e : TypeId} (hrow : w'.heap[k]? = some (.cells cur e (0, 0))) {cs : List AV} (hcs : ∀ g' : Gh, RelL cs g' w' cur.toList) :
    ∃ g', Good X g w H g' w' (H ++ [.box cs]) ∧ g'.bx H.length = some k := by
  have hold : ∀ b : Nat, b < w.heap.size → w'.heap[b]? = w.heap[b]? := fun b h => hb.block b h
  have hlt' : k < w'.heap.size := (Array.getElem?_eq_some_iff.1 hrow).1
  have hcell : ∀ b p, b < w.heap.size → w'.cell? ⟨b, p, none⟩ = w.cell? ⟨b, p, none⟩ := fun b p h => by simp only [World.cell?, hold b h]
  let g' : Gh := { g with bx := fun i => if i = H.length then some k else g.bx i }
  obtain ⟨f1, f2, f3⟩ := hhr.far H.length (Nat.le_refl _)
  have hbx : ∀ i b, g'.bx i = some b → (i = H.length ∧ b = k) ∨ (i ≠ H.length ∧ g.bx i = some b) := fun i b h => by
    simp only [g'] at h
    split at h
    · rename_i e; cases h; exact .inl ⟨e, rfl⟩
    · rename_i e; exact .inr ⟨e, h⟩
  have hup : ∀ i b, g.bx i = some b → g'.bx i = some b := fun i b h => by
    simp only [g']
    rw [if_neg]
    · exact h
    · intro e; subst e; rw [f1] at h; cases h
  have hm : Mono g w g' w' := ⟨fun b p h => ⟨h, hcell b p (hwf.lt_S h)⟩, hup, fun i n h => ⟨n, h, .inl ⟨rfl, rfl⟩⟩⟩
  have hown : ∀ b p, b < w.heap.size → g'.owns b p → g.owns b p := fun b p hlt ho => by
    rcases ho with ⟨i, hi⟩ | ⟨i, lo, hi, hi', hl⟩
    · rcases hbx i b hi with ⟨_, e⟩ | ⟨_, e⟩
      · omega
      · exact .inl ⟨i, e⟩
    · exact .inr ⟨i, lo, hi, hi', hl⟩
  refine ⟨g', ⟨⟨fun b p h => ?_, fun i j b hi hj => ?_, hwf.tinj, fun i j b lo hi h1 h2 => ?_, fun i b h => ?_, fun i b lo hi h => ?_, fun x cs hx => Rel.mono _ hm (hwf.laid x cs hx), ex_shape hwf.ex fun b vs e fz h => ⟨vs, fz, (hold b (Array.getElem?_eq_some_iff.1 h).1).trans h, rfl⟩⟩,
    ⟨fun i x hx => ?_, fun i hi => ?_⟩, hm, ⟨hb.size, fun _ _ h => h, fun _ _ h => .inl h, fun b p hlt _ => hcell b p hlt, fun b hlt _ => hold b hlt, fun b vs e fz h => ⟨vs, fz, (hold b (Array.getElem?_eq_some_iff.1 h).1).trans h, rfl, .inl rfl⟩, fun b p ho => ?_, hb.os, hb.output⟩⟩, by simp [g']⟩
  · obtain ⟨⟨vs, e, fz, h1, h2⟩, h3⟩ := hwf.S b p h
    have hlt := (Array.getElem?_eq_some_iff.1 h1).1
    exact ⟨⟨vs, e, fz, (hold b hlt).trans h1, h2⟩, fun ho => h3 (hown b p hlt ho)⟩
  · rcases hbx i b hi with ⟨e1, e2⟩ | ⟨e1, e2⟩ <;> rcases hbx j b hj with ⟨e3, e4⟩ | ⟨e3, e4⟩
    · omega
    · have := hwf.lt_bx e4; omega
    · have := hwf.lt_bx e2; omega
    · exact hwf.inj i j b e2 e4
  · rcases hbx i b h1 with ⟨_, e⟩ | ⟨_, e⟩
    · subst e; have := hwf.lt_tk h2; omega
    · exact hwf.apart i j b lo hi e h2
  · rcases hbx i b h with ⟨_, e⟩ | ⟨_, e⟩
    · subst e
      refine ⟨hlt', fun vs e' lo hi h2 o ho => ?_⟩
      rw [hrow] at h2
      cases h2
      omega
    · obtain ⟨h1, h2⟩ := hwf.bx i b e
      exact ⟨Nat.lt_of_lt_of_le h1 hb.size, fun vs e' lo hi h3 => h2 vs e' lo hi ((hold b h1).symm.trans h3)⟩
  · obtain ⟨vs, e, fl, fh, h1, h2, h3⟩ := hwf.tk i b lo hi h
    exact ⟨vs, e, fl, fh, (hold b (hwf.lt_tk h)).trans h1, h2, h3⟩
  · rw [List.getElem?_append] at hx
    split at hx
    · exact (hhr.blk i x hx).mono hm (fun b hb' => hold b (hwf.lt_bx hb')) (fun _ h => h) (fun b lo hi h => ⟨h, hold b (hwf.lt_tk h)⟩)
    · rename_i hi
      have hi' : i = H.length := by
        rcases Nat.lt_or_ge (i - H.length) 1 with h' | h'
        · omega
        · rw [List.getElem?_eq_none (by simpa using h')] at hx; cases hx
      subst hi'
      simp at hx
      subst hx
      exact ⟨k, cur, e, (0, 0), by simp [g'], hrow, hcs g'⟩
  · rw [List.length_append, List.length_singleton] at hi
    obtain ⟨k1, k2, k3⟩ := hhr.far i (by omega)
    exact ⟨by simp only [g']; rw [if_neg (by omega)]; exact k1, k2, k3⟩
  · by_cases hlt : b < w.heap.size
    · exact .inr (hown b p hlt ho)
    · exact .inl (by omega)
/-- The row of one of our boxes is another one; new blocks may have come. -/
theorem good_cells (hwf : Wf X.G g w) (hhr : HR g w H) {id b : Nat} (hid : id < H.length) (hb : g.bx id = some b) {arr arr' : Array Value} {e : TypeId} {fz : Nat × Nat} (h0 : w.heap[b]? = some (.cells arr e fz)) (h1 : w'.heap[b]? = some (.cells arr' e fz)) (hsz : arr'.size = arr.size)
    {cs' : List AV} (hrel : RelL cs' g w' arr'.toList) (hot : ∀ k, k < w.heap.size → k ≠ b → w'.heap[k]? = w.heap[k]?) (hle : w.heap.size ≤ w'.heap.size) (hio : w'.os = w.os ∧ w'.output = w.output) : Good X g w H g w' (H.set id (.box cs')) := by
  have hlt : b < w.heap.size := (Array.getElem?_eq_some_iff.1 h0).1
  have hown : ∀ p, g.owns b p := fun p => .inl ⟨id, hb⟩
  have hS : ∀ c o, g.S c o → c ≠ b := fun c p h e' => by
    subst e'
    exact (hwf.S c p h).2 (hown p)
  have hcell : ∀ c p, c < w.heap.size → c ≠ b → w'.cell? ⟨c, p, none⟩ = w.cell? ⟨c, p, none⟩ := fun c p hc hne => by simp only [World.cell?, hot c hc hne]
  have hm : Mono g w g w' := ⟨fun c p h => ⟨h, hcell c p (hwf.lt_S h) (hS c p h)⟩, fun _ _ h => h, fun i n h => ⟨n, h, .inl ⟨rfl, rfl⟩⟩⟩
  have hsh : ∀ (c : Nat) (vs : Array Value) e' fz', w.heap[c]? = some (Obj.cells vs e' fz') → ∃ (vs' : Array Value), w'.heap[c]? = some (Obj.cells vs' e' fz') ∧ vs'.size = vs.size := fun c vs e' fz' h => by
    by_cases hc : c = b
    · subst hc
      rw [h0] at h
      cases h
      exact ⟨arr', h1, hsz⟩
    · exact ⟨vs, (hot c (Array.getElem?_eq_some_iff.1 h).1 hc).trans h, rfl⟩
  refine ⟨⟨fun c p h => ?_, hwf.inj, hwf.tinj, hwf.apart, fun j c h => ?_, fun j c lo hi h => ?_, fun x cs hx => Rel.mono _ hm (hwf.laid x cs hx), ex_shape hwf.ex fun c vs e' fz' h => by obtain ⟨vs', k1, k2⟩ := hsh c vs e' fz' h; exact ⟨vs', fz', k1, k2⟩⟩, ⟨fun j x hx => ?_, fun j hj => hhr.far j (by simpa using hj)⟩, hm,
    ⟨hle, fun _ _ h => h, fun _ _ h => .inl h, fun c p hc hp => hcell c p hc fun e' => hp (e' ▸ hown p), fun c hc hp => hot c hc fun e' => hp 0 (e' ▸ hown 0), fun c vs e' fz' hv => by obtain ⟨vs', k1, k2⟩ := hsh c vs e' fz' hv; exact ⟨vs', fz', k1, k2, .inl rfl⟩, fun _ _ h => .inr h, hio⟩⟩
  · obtain ⟨⟨vs, e', fz', k1, k2⟩, k3⟩ := hwf.S c p h
    exact ⟨⟨vs, e', fz', (hot c (hwf.lt_S h) (hS c p h)).trans k1, k2⟩, k3⟩
  · obtain ⟨k1, k2⟩ := hwf.bx j c h
    refine ⟨Nat.lt_of_lt_of_le k1 hle, fun vs e' lo hi k3 => ?_⟩
    by_cases hc : c = b
    · subst hc
      rw [h1] at k3
      cases k3
      intro o ho
      exact k2 arr e lo hi h0 o (by omega)
    · exact k2 vs e' lo hi ((hot c k1 hc).symm.trans k3)
  · obtain ⟨vs, e', fl, fh, k1, k2, k3⟩ := hwf.tk j c lo hi h
    have hc : c ≠ b := fun e' => hwf.apart id j c lo hi (e' ▸ hb) h
    exact ⟨vs, e', fl, fh, (hot c (hwf.lt_tk h) hc).trans k1, k2, k3⟩
  · rw [List.getElem?_set] at hx
    split at hx
    · rename_i hij
      subst hij
      first | rw [if_pos hid] at hx | skip
      cases hx
      exact ⟨b, arr', e, fz, hb, h1, hrel⟩
    · rename_i hij
      refine (hhr.blk j x hx).mono hm (fun c hc => hot c (hwf.lt_bx hc) fun e' => hij ?_) (fun _ h => h) (fun c lo hi h => ⟨h, hot c (hwf.lt_tk h) fun e' => ?_⟩)
      · subst e'; exact hwf.inj id j c hb hc
      · subst e'; exact hwf.apart id j c lo hi hb h
end
end Go.Avm

/- The shelf's Clone, SortFunc and Compact of integers, as contracts of ours. -/
namespace Go.Avm
open Go Go.Proofs Go.Shelf Go.RowKit Go.Lib Go.Sort
section
variable {X : Cx} {ρ : Ren}
theorem ints_rel {g : Gh} {w : World} : ∀ (l : List Int) {vs : List Value}, RelL (l.map (AV.int .i64)) g w vs → vs = l.map (Value.int .i64)
  | [], vs, h => by
    simp only [List.map_nil, RelL] at h
    subst h
    rfl
  | x :: l, vs, h => by
    simp only [List.map_cons, RelL, Rel] at h
    obtain ⟨v, r, rfl, rfl, h2⟩ := h
    rw [ints_rel l h2]
    rfl
theorem relL_ints' (g : Gh) (w : World) : ∀ l : List Int, RelL (l.map (AV.int .i64)) g w (l.map (Value.int .i64))
  | [] => by simp [RelL]
  | x :: l => by
    simp only [List.map_cons, RelL, Rel]
    exact ⟨_, _, rfl, rfl, relL_ints' g w l⟩
theorem relL_undefs (g : Gh) (w : World) : ∀ (vs : List Value), RelL (List.replicate vs.length AV.undef) g w vs
  | [] => by simp [RelL]
  | x :: l => by
    simp only [List.length_cons, List.replicate_succ, RelL, Rel]
    exact ⟨_, _, rfl, trivial, relL_undefs g w l⟩
theorem relL_app {g : Gh} {w : World} : ∀ {xs bs : List AV} {us vs : List Value}, RelL xs g w us → RelL bs g w vs → RelL (xs ++ bs) g w (us ++ vs)
  | [], bs, us, vs, h1, h2 => by
    simp only [RelL] at h1
    subst h1
    exact h2
  | a :: xs, bs, us, vs, h1, h2 => by
    simp only [RelL, List.cons_append] at h1 ⊢
    obtain ⟨v, r, rfl, k1, k2⟩ := h1
    exact ⟨v, r ++ vs, rfl, k1, relL_app k2 h2⟩
theorem hr_below {g : Gh} {w w' : World} {H : Heap} (hwf : Wf X.G g w) (hhr : HR g w H) (h : RowKit.Below w.heap.size w w') : HR g w' H :=
  ⟨fun i x hx => (hhr.blk i x hx).mono (wf_below hwf h).2.mono (fun b hb' => h.block b (hwf.lt_bx hb')) (fun _ h => h) (fun b lo hi k => ⟨k, h.block b (hwf.lt_tk k)⟩), hhr.far⟩
/-- A row of ours that the shelf has written. -/
theorem good_put {α : Type} [Inhabited α] {g : Gh} {w : World} {H : Heap} (hwf : Wf X.G g w) (hhr : HR g w H) {id b k : Nat} {cs : List AV} (hid : H[id]? = some (.box (cs ++ List.replicate k .undef))) (hb : g.bx id = some b) (enc : α → Value) (av : α → AV) (hav : ∀ x g w, Rel (av x) g w (enc x)) (d : List α) (hd : d.length = cs.length) (q : Nat) (os : Array Obj) :
    Good X g w H g (grow (putRow enc (Sort.ahead w q) b 0 d.toArray) os) (H.set id (.box (d.map av ++ List.replicate k .undef))) := by
  have hlt := (List.getElem?_eq_some_iff.1 hid).1
  obtain ⟨b', arr, e, fz, k1, k2, k3⟩ := hhr.blk id _ hid
  obtain rfl := Option.some.inj (k1.symm.trans hb)
  have hl := RelL.length k3
  rw [Array.length_toList, List.length_append, List.length_replicate] at hl
  have hbl : b' < w.heap.size := (Array.getElem?_eq_some_iff.1 k2).1
  have hget : ∀ j, (grow (putRow enc (Sort.ahead w q) b' 0 d.toArray) os).heap[j]? = if j < w.heap.size then (w.heap.modify b' (onCells (putCells enc 0 d.toArray)))[j]? else os[j - w.heap.size]? := fun j => by
    show ((w.heap.modify b' (onCells (putCells enc 0 d.toArray))) ++ os)[j]? = _
    rw [Array.getElem?_append, Array.size_modify]
  have hcells : (putCells enc 0 d.toArray arr).toList = d.map enc ++ arr.toList.drop d.length := by
    refine List.ext_getElem? fun j => ?_
    simp only [putCells, Array.toList_mapIdx, List.getElem?_mapIdx, List.getElem?_append, List.length_map, List.getElem?_map, List.getElem?_drop, List.size_toArray, Nat.zero_le, true_and, Nat.zero_add, Nat.sub_zero]
    by_cases hj : j < d.length
    · rw [List.getElem?_eq_getElem (l := arr.toList) (by rw [Array.length_toList]; omega), List.getElem?_eq_getElem hj]
      simp [hj]
    · simp only [if_neg hj]
      rw [show d.length + (j - d.length) = j by omega]
      simp
  refine good_cells hwf hhr hlt hb (e := e) (fz := fz) (arr := arr) (arr' := putCells enc 0 d.toArray arr) k2 ?_ (by simp [putCells]) ?_ (fun j hj hne => ?_) ?_ ⟨rfl, rfl⟩
  · rw [hget, if_pos hbl, Array.getElem?_modify, if_pos rfl, k2]
    rfl
  · rw [hcells]
    refine relL_app ?_ ?_
    · generalize grow (putRow enc (Sort.ahead w q) b' 0 d.toArray) os = w2
      clear hd hget hcells
      induction d with
      | nil => simp [RelL]
      | cons x d ih =>
        simp only [List.map_cons, RelL]
        exact ⟨_, _, rfl, hav _ _ _, ih⟩
    · have : k = (arr.toList.drop d.length).length := by rw [List.length_drop, Array.length_toList]; omega
      rw [this]
      exact relL_undefs _ _ _
  · rw [hget, if_pos hj, Array.getElem?_modify, if_neg (fun e => hne e.symm)]
  · show w.heap.size ≤ ((w.heap.modify b' (onCells (putCells enc 0 d.toArray))) ++ os).size
    rw [Array.size_append, Array.size_modify]
    omega
/-- The row of one of our boxes holds what it should. -/
theorem holds_box {α : Type} [Inhabited α] {g : Gh} {w : World} {H : Heap} (hwf : Wf X.G g w) (hhr : HR g w H) {id b : Nat} {cs rest : List AV} (hid : H[id]? = some (.box (cs ++ rest))) (hb : g.bx id = some b) (enc : α → Value) (d : List α) (hd : ∀ vs, RelL cs g w vs → vs = d.map enc) : Holds enc w b 0 d.toArray ∧ b < w.heap.size := by
  obtain ⟨b', arr, e, fz, k1, k2, k3⟩ := hhr.blk id _ hid
  obtain rfl := Option.some.inj (k1.symm.trans hb)
  have hbl : b' < w.heap.size := (Array.getElem?_eq_some_iff.1 k2).1
  refine ⟨fun j hj => ?_, hbl⟩
  have hsp : ∀ {xs bs : List AV} {vs : List Value}, RelL (xs ++ bs) g w vs → ∃ us ws, vs = us ++ ws ∧ RelL xs g w us := by
    intro xs
    induction xs with
    | nil => intro bs vs h; exact ⟨[], vs, rfl, rfl⟩
    | cons a xs ih =>
      intro bs vs h
      simp only [List.cons_append, RelL] at h
      obtain ⟨v, r, rfl, h1, h2⟩ := h
      obtain ⟨us, ws, rfl, h3⟩ := ih h2
      exact ⟨v :: us, ws, rfl, by simp only [RelL]; exact ⟨v, us, rfl, h1, h3⟩⟩
  obtain ⟨us, ws, e1, e2⟩ := hsp k3
  obtain rfl := hd us e2
  have hj' : j < d.length := by simpa using hj
  have ha : arr[j]? = some (enc d[j]) := by
    rw [← Array.getElem?_toList, e1, List.getElem?_append, if_pos (by simpa using hj')]
    simp [hj']
  have hja : j < arr.size := (Array.getElem?_eq_some_iff.1 ha).1
  refine ⟨?_, ?_⟩
  · rw [Nat.zero_add]
    simp only [World.cell?, k2, Option.isSome_none, Bool.false_eq_true, if_false, ha]
    simp [hj']
  · rw [Nat.zero_add]
    exact hwf.bx_frozen hb k2 hja
/-- What Clone returns. -/
def CloneR (l : List Int) (H : Heap) (r : AV) (H' : Heap) : Prop :=
  (l = [] ∧ r = .sl .ro [] ∧ H' = H) ∨ (l ≠ [] ∧ ∃ k, r = .rsl H.length 0 l.length (l.length + k) 1 ∧ H' = H ++ [.box (l.map (AV.int .i64) ++ List.replicate k .undef)])
theorem ev_s_Clone (L : Lays2.n15 X.P ρ) (hB : HasBody X (ρ.f 15)) (p : Perm) (l : List Int) (hl : l.length * 8 ≤ 140737488355328) (H : Heap) : EvM X (ρ.f 15) [lst (AV.int .i64) p l] H (CloneR l H) := by
  refine ⟨hB, fun g w vs hwf hhr hvs => ?_⟩
  simp only [RelL, Rel, lst] at hvs
  obtain ⟨v1, r1, rfl, ⟨a, cap, us, sz, rfl, hcap, hus, hlie, _⟩, rfl⟩ := hvs
  have hus' := ints_rel l hus
  subst hus'
  rw [List.length_map] at hcap ⊢
  by_cases h0 : l = []
  · subst h0
    cases a with
    | none =>
      refine (Any.slices_Clone_int_nil L 0 cap w).mono ?_
      rintro e w' ⟨rfl, rfl⟩
      exact ⟨_, .sl .ro [], g, H, rfl, by simp only [Rel, RelL]; exact ⟨none, 0, [], 1, rfl, Nat.le_refl _, rfl, .inl rfl, trivial⟩, hwf, hhr, ExtM.refl g w', .inl ⟨rfl, rfl, rfl⟩⟩
    | some a =>
      refine (Any.slices_Clone_int_zero L a cap w).mono ?_
      rintro e w' ⟨v', rfl, hown, hne, hb⟩
      rcases hown.2 with ⟨e1, _⟩ | ⟨k, cap', cur, e1, h1, h2, h3, h4, h5, h6⟩
      · exact absurd e1 hne
      · have hg := wf_below (X := X) hwf hb
        exact ⟨_, .sl .ro [], g, H, rfl, by simp only [Rel, RelL]; exact ⟨_, cap', [], 1, e1, h3, rfl, .inl rfl, trivial⟩, hg.1, hr_below hwf hhr hb, hg.2, .inl ⟨rfl, rfl, rfl⟩⟩
  · rcases hlie with h1 | ⟨b, o, rfl, hc⟩
    · exact absurd (by simpa using h1) h0
    have hpos : 0 < l.length := List.length_pos_iff.2 h0
    have hsz : sz = 1 := by
      have := (hc 0 (.int .i64 (l.getD 0 0)) (by simp [List.getD, List.getElem?_eq_getElem hpos])).1
      simpa [Value.cells] using this.symm
    subst hsz
    refine (Any.slices_Clone_int L b o l.length cap l w (Nat.le_refl _) hl fun j hj => ?_).mono ?_
    · have h2 := (hc j (.int .i64 (l.getD j 0)) (by simp [List.getD, List.getElem?_eq_getElem hj])).2 0 (.int .i64 (l.getD j 0)) (by simp [Value.cells])
      have h3 := h2.2
      rwa [Nat.mul_one, Nat.add_zero] at h3
    · rintro e w' ⟨v', rfl, hown, hne, hb⟩
      rcases hown.2 with ⟨e1, _⟩ | ⟨k, cap', cur, e1, h1, h2, h3, h4, h5, h6⟩
      · exact absurd e1 hne
      · rw [List.take_length] at h6
        obtain ⟨g', hg, hk⟩ := good_new (X := X) hwf hhr hb h1 h2 (cs := l.map (AV.int .i64) ++ List.replicate (cap' - l.length) .undef) fun g' => by
          have e2 : cur.toList = l.map (Value.int .i64) ++ cur.toList.drop (l.length * 1) := by rw [← h6, List.take_append_drop]
          rw [e2]
          refine relL_app (relL_ints' _ _ _) ?_
          have : cap' - l.length = (cur.toList.drop (l.length * 1)).length := by rw [List.length_drop, Array.length_toList (xs := cur), h5]; omega
          rw [this]
          exact relL_undefs _ _ _
        refine ⟨_, .rsl H.length 0 l.length cap' 1, g', _, rfl, ?_, hg.wf, hg.hr, hg.xm, .inr ⟨h0, cap' - l.length, by rw [Nat.add_sub_cancel' h3], rfl⟩⟩
        simp only [Rel]
        exact ⟨_, k, e1, hk, h3, .inr rfl⟩
/-- Compact, of a row of ours. -/
theorem ev_s_Compact (L : Lays2.n20 X.P ρ) (hB : HasBody X (ρ.f 20)) (l : List Int) (hl : l.length < 1000000) (id k : Nat) (H : Heap) (hid : H[id]? = some (.box (l.map (AV.int .i64) ++ List.replicate k .undef))) :
    EvM X (ρ.f 20) [.rsl id 0 l.length (l.length + k) 1] H fun r' H' => r' = .rsl id 0 (Lib.compact l).length (l.length + k) 1 ∧ H' = H.set id (.box ((Lib.compact l ++ List.replicate (l.length - (Lib.compact l).length) 0).map (AV.int .i64) ++ List.replicate k .undef)) := by
  refine ⟨hB, fun g w vs hwf hhr hvs => ?_⟩
  simp only [RelL, Rel] at hvs
  obtain ⟨v1, r1, rfl, ⟨a, b, rfl, hb, hcap, hor⟩, rfl⟩ := hvs
  have hle : (Lib.compact l).length ≤ l.length := by
    unfold Lib.compact Lib.compactUpTo
    rw [List.length_map]
    exact Nat.le_trans (List.length_filter_le _ _) (by simp)
  by_cases h0 : l = []
  · subst h0
    refine (Any.slices_Compact_int_empty L a _ w).mono ?_
    rintro e w' ⟨rfl, rfl⟩
    refine ⟨_, .rsl id 0 0 (0 + k) 1, g, H, rfl, by simp only [Rel]; exact ⟨a, b, rfl, hb, hcap, hor⟩, hwf, hhr, ExtM.refl g w', rfl, ?_⟩
    exact (set_same hid).symm
  · have hpos : 0 < l.length := List.length_pos_iff.2 h0
    have ha : a = some ⟨b, 0, none⟩ := by
      rcases hor with h | h
      · omega
      · exact h
    subst ha
    obtain ⟨hH, hbl⟩ := holds_box hwf hhr hid hb (Value.int .i64) l fun vs h => ints_rel l h
    refine (Any.slices_Compact_int L b 0 (l.length + k) l w hH (by omega) (by omega)).mono ?_
    rintro e w' ⟨rfl, n, rfl⟩
    have hg := good_put (X := X) hwf hhr hid hb (Value.int .i64) (AV.int .i64) (fun x g w => by simp [Rel]) (Lib.compact l ++ List.replicate (l.length - (Lib.compact l).length) 0) (by simp; omega) n #[]
    rw [grow_empty] at hg
    exact ⟨_, .rsl id 0 (Lib.compact l).length (l.length + k) 1, g, _, rfl, by simp only [Rel]; exact ⟨_, b, rfl, hb, by omega, .inr rfl⟩, hg.wf, hg.hr, hg.xm, rfl, rfl⟩
theorem ev_s_Compact0 (L : Lays2.n20 X.P ρ) (hB : HasBody X (ρ.f 20)) (H : Heap) :
    EvM X (ρ.f 20) [.sl .ro []] H fun r' H' => r' = .sl .ro [] ∧ H' = H := by
  refine ⟨hB, fun g w vs hwf hhr hvs => ?_⟩
  simp only [RelL, Rel] at hvs
  obtain ⟨v1, r1, rfl, ⟨a, cap, us, sz, rfl, hcap, hus, hlie, hp⟩, rfl⟩ := hvs
  refine (Any.slices_Compact_int_empty L a cap w).mono ?_
  rintro e w' ⟨rfl, rfl⟩
  exact ⟨_, .sl .ro [], g, H, rfl, by simp only [Rel, RelL]; exact ⟨a, cap, us, sz, rfl, hcap, hus, hlie, hp⟩, hwf, hhr, ExtM.refl g w', rfl, rfl⟩
end
end Go.Avm

/- The shelf's SortFunc of integers. -/
namespace Go.Avm
open Go Go.Proofs Go.Shelf Go.RowKit Go.Lib Go.Sort
section
variable {X : Cx} {ρ : Ren}
/-- SortFunc, of a row of ours. -/
theorem ev_s_Sort (L : SlLaysF.n6 X.P ρ) (hB : HasBody X (ρ.f 6)) {m : Nat} (cf : Fin (m + 1) → Fin (m + 1) → Int) (hO : SWO (ltOf cf)) (hT : ∀ x y, ltOf cf x y = false → ltOf cf y x = false → x = y) (f : Nat) (eg : ∀ args w, (callFunc f args).run X.P w = .ok (.enter f args) w) (caps : List AV) (d : List (Fin (m + 1))) (hd : d.length < 1000000) (id k : Nat) (H : Heap) (hid : H[id]? = some (.box (d.map (fun x => AV.int .i64 (x.val : Int)) ++ List.replicate k .undef)))
    (hcmp : ∀ g w us b, Wf X.G g w → HR g w H → RelL caps g w us → g.bx id = some b → CmpLays1 X.P f us.toArray (fun x : Fin (m + 1) => Value.int .i64 (x.val : Int)) cf b 0 d.length w) :
    EvM X (ρ.f 6) [.rsl id 0 d.length (d.length + k) 1, .clo f [] caps] H fun r' H' => r' = .tuple [] ∧ H' = H.set id (.box ((d.mergeSort fun x y => !(ltOf cf) y x).map (fun x => AV.int .i64 (x.val : Int)) ++ List.replicate k .undef)) := by
  refine ⟨hB, fun g w vs hwf hhr hvs => ?_⟩
  simp only [RelL, Rel] at hvs
  obtain ⟨v1, r1, rfl, ⟨a, b, rfl, hb, hcap, hor⟩, v2, r2, rfl, ⟨us0, us, rfl, rfl, hus⟩, rfl⟩ := hvs
  by_cases h0 : d = []
  · subst h0
    refine (AnyF.slices_SortFunc_none { L with } a _ _ w).mono ?_
    rintro e w' ⟨rfl, rfl⟩
    refine ⟨_, .tuple [], g, H, rfl, by simp only [Rel, RelL]; exact ⟨[], rfl, rfl⟩, hwf, hhr, ExtM.refl g w', rfl, ?_⟩
    simp only [List.mergeSort_nil]
    exact (set_same hid).symm
  · have hpos : 0 < d.length := List.length_pos_iff.2 h0
    have ha : a = some ⟨b, 0, none⟩ := by
      rcases hor with h | h
      · omega
      · exact h
    subst ha
    have hen : ∀ vs, RelL (d.map fun x => AV.int .i64 (x.val : Int)) g w vs → vs = d.map fun x : Fin (m + 1) => Value.int .i64 (x.val : Int) := fun vs h => by
      have := ints_rel (d.map fun x => (x.val : Int)) (by simpa [List.map_map, Function.comp_def] using h)
      simpa [List.map_map, Function.comp_def] using this
    obtain ⟨hH, hbl⟩ := holds_box hwf hhr hid hb (fun x : Fin (m + 1) => Value.int .i64 (x.val : Int)) d hen
    have hS := Any.slices_SortFunc_total L (fun x : Fin (m + 1) => Value.int .i64 (x.val : Int)) (fun _ => rfl) cf hO f us.toArray b 0 (d.length + k) d.toArray w eg (by simpa using hcmp g w us b hwf hhr hus hb) hH hbl (by simp; omega) hT
    refine Calls.mono (by simpa using hS) ?_
    rintro e w' ⟨rfl, n, os, rfl⟩
    have hg := good_put (X := X) hwf hhr hid hb (fun x : Fin (m + 1) => Value.int .i64 (x.val : Int)) (fun x => AV.int .i64 (x.val : Int)) (fun x g w => by simp [Rel]) (d.mergeSort fun x y => !(ltOf cf) y x) (by simp [List.length_mergeSort]) n os
    exact ⟨_, .tuple [], g, _, rfl, by simp only [Rel, RelL]; exact ⟨[], rfl, rfl⟩, hg.wf, by simpa [sortWorld] using hg.hr, by simpa [sortWorld] using hg.xm, rfl, rfl⟩
/-- SortFunc of no element. -/
theorem ev_s_Sort0 (L : SlLaysF.n6 X.P ρ) (hB : HasBody X (ρ.f 6)) (f : Nat) (caps : List AV) (H : Heap) :
    EvM X (ρ.f 6) [.sl .ro [], .clo f [] caps] H fun r' H' => r' = .tuple [] ∧ H' = H := by
  refine ⟨hB, fun g w vs hwf hhr hvs => ?_⟩
  simp only [RelL, Rel] at hvs
  obtain ⟨v1, r1, rfl, ⟨a, cap, us, sz, rfl, _⟩, v2, r2, rfl, ⟨us0, us, rfl, rfl, hus⟩, rfl⟩ := hvs
  refine (AnyF.slices_SortFunc_none { L with } a cap _ w).mono ?_
  rintro e w' ⟨rfl, rfl⟩
  exact ⟨_, .tuple [], g, H, rfl, by simp only [Rel, RelL]; exact ⟨[], rfl, rfl⟩, hwf, hhr, ExtM.refl g w', rfl, rfl⟩
end
end Go.Avm

/- The worlds that a sort passes through, seen from outside its row. -/
namespace Go.Avm
open Go Go.Proofs Go.Shelf Go.RowKit Go.Lib Go.Sort
theorem heap_sortWorld {α : Type} [Inhabited α] (enc : α → Value) (w : World) (blk off m : Nat) (dk : Array α) (os : Array Obj) {b : Nat} (hne : b ≠ blk) (hlt : b < w.heap.size) : (sortWorld enc w blk off m dk os).heap[b]? = w.heap[b]? := by
  show ((w.heap.modify blk (onCells (putCells enc off dk))) ++ os)[b]? = _
  rw [Array.getElem?_append, if_pos (by rw [Array.size_modify]; exact hlt), Array.getElem?_modify, if_neg (fun e => hne e.symm)]
theorem cell_sortWorld {α : Type} [Inhabited α] (enc : α → Value) (w : World) (blk off m : Nat) (dk : Array α) (os : Array Obj) {b o : Nat} (hne : b ≠ blk) {v : Value} (hv : w.cell? ⟨b, o, none⟩ = some v) : (sortWorld enc w blk off m dk os).cell? ⟨b, o, none⟩ = some v := by
  have hlt : b < w.heap.size := by
    rcases Nat.lt_or_ge b w.heap.size with h | h
    · exact h
    · simp only [World.cell?, Array.getElem?_eq_none h] at hv
      cases hv
  rw [← hv]
  simp only [World.cell?, heap_sortWorld enc w blk off m dk os hne hlt]
end Go.Avm
