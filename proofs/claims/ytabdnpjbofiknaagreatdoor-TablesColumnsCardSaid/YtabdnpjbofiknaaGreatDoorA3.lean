/- The operations' soundness: those that make memory. -/
import Derived.Test.YtabdnpjbofiknaaGreatDoorA2
import Derived.Laws.IdiomCopy
set_option linter.all false
/-
  The operations' soundness: those that make memory.
-/
namespace Go.Avm
open Go

/-! ### a new block -/

theorem heap_alloc_old {w : World} {o : Obj} {b : Nat} (hb : b < w.heap.size) : (w.alloc o).heap[b]? = w.heap[b]? := by
  show (w.heap.push o)[b]? = w.heap[b]?
  rw [Array.getElem?_push, if_neg (by omega)]
theorem heap_alloc_new {w : World} {o : Obj} : (w.alloc o).heap[w.heap.size]? = some o := by
  show (w.heap.push o)[w.heap.size]? = some o
  simp

section
variable {X : Cx} {N : Nat} {g : Gh} {w : World} {fr : Fr} {H : Heap} {a : Act}

theorem Wf.lt_S (h : Wf X.G g w) {b o : Nat} (hs : g.S b o) : b < w.heap.size := by
  obtain ⟨⟨vs, e, fz, hb, _⟩, _⟩ := h.S b o hs
  exact (Array.getElem?_eq_some_iff.1 hb).1
theorem Wf.lt_bx (h : Wf X.G g w) {i b : Nat} (hb : g.bx i = some b) : b < w.heap.size := by
  exact (h.bx i b hb).1
theorem Wf.lt_tk (h : Wf X.G g w) {i b lo hi : Nat} (hb : g.tk i = some (b, lo, hi)) : b < w.heap.size := by
  obtain ⟨vs, e, fl, fh, hh, _⟩ := h.tk i b lo hi hb
  exact (Array.getElem?_eq_some_iff.1 hh).1
theorem Wf.lt_owns (h : Wf X.G g w) {b o : Nat} (ho : g.owns b o) : b < w.heap.size := by
  rcases ho with ⟨i, hi⟩ | ⟨i, lo, hi, hi', _⟩
  · exact h.lt_bx hi
  · exact h.lt_tk hi'

/-- A block is made; whatever the ghost adds is of this block alone. -/
theorem good_push (hwf : Wf X.G g w) {vs : Array Value} {e : TypeId} {fl fh : Nat} {w' : World} (hw' : w'.heap = w.heap.push (.cells vs e (fl, fh))) (hfz : ∀ o, o < vs.size → ¬ (fl ≤ o ∧ o < fh)) {g' : Gh} {H' : Heap}
    (hm : Mono g w g' w')
    (hS : ∀ b o, g'.S b o → g.S b o ∨ (b = w.heap.size ∧ o < vs.size ∧ ¬ g'.owns b o))
    (hbx : ∀ i b, g'.bx i = some b → g.bx i = some b ∨ b = w.heap.size)
    (htk : ∀ i b lo hi, g'.tk i = some (b, lo, hi) → g.tk i = some (b, lo, hi) ∨ (b = w.heap.size ∧ hi ≤ vs.size))
    (hbi : ∀ i j, g'.bx i = some w.heap.size → g'.bx j = some w.heap.size → i = j)
    (hti : ∀ i j lo hi lo' hi', g'.tk i = some (w.heap.size, lo, hi) → g'.tk j = some (w.heap.size, lo', hi') → i = j)
    (hap : ∀ i j lo hi, g'.bx i = some w.heap.size → g'.tk j ≠ some (w.heap.size, lo, hi))
    (hhr' : HR g' w' H') (hio : w'.os = w.os ∧ w'.output = w.output := by exact ⟨rfl, rfl⟩) : Good X g w H g' w' H' := by
  have hold : ∀ b : Nat, b < w.heap.size → w'.heap[b]? = w.heap[b]? := fun b hb => by
    rw [hw', Array.getElem?_push, if_neg (by omega)]
  have hnew : w'.heap[w.heap.size]? = some (.cells vs e (fl, fh)) := by
    rw [hw']; simp
  have hcell : ∀ b o, b < w.heap.size → w'.cell? ⟨b, o, none⟩ = w.cell? ⟨b, o, none⟩ := fun b o hb => by
    simp only [World.cell?, hold b hb]
  have hown : ∀ b o, b < w.heap.size → (g'.owns b o → g.owns b o) := fun b o hb ho => by
    rcases ho with ⟨i, hi⟩ | ⟨i, lo, hi, hi', hl⟩
    · rcases hbx i b hi with h | h
      · exact .inl ⟨i, h⟩
      · omega
    · rcases htk i b lo hi hi' with h | h
      · exact .inr ⟨i, lo, hi, h, hl⟩
      · omega
  refine ⟨⟨?_, ?_, ?_, ?_, ?_, ?_, ?_, ?_⟩, hhr', hm, ⟨?_, fun b o h => (hm.stable b o h).1, ?_, fun b o hb _ => hcell b o hb, fun b hb _ => hold b hb, ?_, ?_, hio⟩⟩
  · intro b o hs
    rcases hS b o hs with h | ⟨rfl, h2, h3⟩
    · obtain ⟨⟨us, e', fz, hb, hlt⟩, hno⟩ := hwf.S b o h
      have hb' := hwf.lt_S h
      exact ⟨⟨us, e', fz, (hold b hb').trans hb, hlt⟩, fun ho => hno (hown b o hb' ho)⟩
    · exact ⟨⟨vs, e, (fl, fh), hnew, h2⟩, h3⟩
  · intro i j b hi hj
    rcases hbx i b hi with h | rfl
    · rcases hbx j b hj with h' | rfl
      · exact hwf.inj i j b h h'
      · have := hwf.lt_bx h; omega
    · exact hbi i j hi hj
  · intro i j b lo hi lo' hi' h1 h2
    rcases htk i b lo hi h1 with h | ⟨rfl, _⟩
    · rcases htk j b lo' hi' h2 with h' | ⟨rfl, _⟩
      · exact hwf.tinj i j b lo hi lo' hi' h h'
      · have := hwf.lt_tk h; omega
    · exact hti i j lo hi lo' hi' h1 h2
  · intro i j b lo hi h1 h2
    rcases hbx i b h1 with h | rfl
    · rcases htk j b lo hi h2 with h' | ⟨rfl, _⟩
      · exact hwf.apart i j b lo hi h h'
      · have := hwf.lt_bx h; omega
    · exact hap i j lo hi h1 h2
  · intro i b hb
    rcases hbx i b hb with h | rfl
    · obtain ⟨hlt, hf⟩ := hwf.bx i b h
      exact ⟨by rw [hw']; simp; omega, fun us e' lo hi hh => hf us e' lo hi ((hold b hlt).symm.trans hh)⟩
    · refine ⟨by rw [hw']; simp, fun us e' lo hi hh => ?_⟩
      rw [hnew] at hh
      cases hh
      exact hfz
  · intro i b lo hi hb
    rcases htk i b lo hi hb with h | ⟨rfl, h2⟩
    · obtain ⟨us, e', fl, fh, hh, h3, hf⟩ := hwf.tk i b lo hi h
      exact ⟨us, e', fl, fh, (hold b (hwf.lt_tk h)).trans hh, h3, hf⟩
    · exact ⟨vs, e, fl, fh, hnew, h2, fun o _ h => hfz o h⟩
  · exact fun x cs hx => Rel.mono _ hm (hwf.laid x cs hx)
  · exact ex_shape hwf.ex fun b us e' fz hb => ⟨us, fz, (hold b (Array.getElem?_eq_some_iff.1 hb).1).trans hb, rfl⟩
  · rw [hw']; simp
  · intro b o hs
    rcases hS b o hs with h | ⟨rfl, _, _⟩
    · exact .inl h
    · exact .inr (.inl (Nat.le_refl _))
  · intro b us e' fz hb
    exact ⟨us, fz, (hold b (Array.getElem?_eq_some_iff.1 hb).1).trans hb, rfl, .inl rfl⟩
  · intro b o ho
    by_cases hb : b < w.heap.size
    · exact .inr (hown b o hb ho)
    · exact .inl (by omega)

theorem good_alloc (hwf : Wf X.G g w) {vs : Array Value} {e : TypeId} {w1 : World} (hw1 : w1.heap = w.heap) {g' : Gh} {H' : Heap}
    (hm : Mono g w g' (w1.alloc (.cells vs e)))
    (hS : ∀ b o, g'.S b o → g.S b o ∨ (b = w.heap.size ∧ o < vs.size ∧ ¬ g'.owns b o))
    (hbx : ∀ i b, g'.bx i = some b → g.bx i = some b ∨ b = w.heap.size)
    (htk : ∀ i b lo hi, g'.tk i = some (b, lo, hi) → g.tk i = some (b, lo, hi) ∨ (b = w.heap.size ∧ hi ≤ vs.size))
    (hbi : ∀ i j, g'.bx i = some w.heap.size → g'.bx j = some w.heap.size → i = j)
    (hti : ∀ i j lo hi lo' hi', g'.tk i = some (w.heap.size, lo, hi) → g'.tk j = some (w.heap.size, lo', hi') → i = j)
    (hap : ∀ i j lo hi, g'.bx i = some w.heap.size → g'.tk j ≠ some (w.heap.size, lo, hi))
    (hhr' : HR g' (w1.alloc (.cells vs e)) H') (hio : w1.os = w.os ∧ w1.output = w.output := by exact ⟨rfl, rfl⟩) : Good X g w H g' (w1.alloc (.cells vs e)) H' :=
  good_push hwf (fl := 0) (fh := 0) (by rw [← hw1]; rfl) (fun _ _ => by omega) hm hS hbx htk hbi hti hap hhr' hio

theorem mono_push {g' : Gh} {w' : World} {obj : Obj} (hwf : Wf X.G g w) (hw' : w'.heap = w.heap.push obj) (hS : ∀ b o, g.S b o → g'.S b o) (hbx : ∀ i b, g.bx i = some b → g'.bx i = some b)
    (htl : ∀ i n, g.tl i = some n → ∃ n', g'.tl i = some n' ∧ ((n' = n ∧ g'.tk i = g.tk i) ∨ n < n')) : Mono g w g' w' := by
  refine ⟨fun b o h => ⟨hS b o h, ?_⟩, hbx, htl⟩
  have hlt := hwf.lt_S h
  simp only [World.cell?, hw']
  rw [Array.getElem?_push, if_neg (by omega)]

theorem mono_alloc {g' : Gh} {w1 : World} {obj : Obj} (hwf : Wf X.G g w) (hw1 : w1.heap = w.heap) (hS : ∀ b o, g.S b o → g'.S b o) (hbx : ∀ i b, g.bx i = some b → g'.bx i = some b)
    (htl : ∀ i n, g.tl i = some n → ∃ n', g'.tl i = some n' ∧ ((n' = n ∧ g'.tk i = g.tk i) ∨ n < n')) : Mono g w g' (w1.alloc obj) := by
  refine ⟨fun b o h => ⟨hS b o h, ?_⟩, hbx, htl⟩
  have hlt := hwf.lt_S h
  simp only [World.cell?]
  rw [heap_alloc_old (by rw [hw1]; exact hlt), hw1]

theorem HR.mono (h : HR g w H) {g' : Gh} {w' : World} (hm : Mono g w g' w') (hbox : ∀ i b x, H[i]? = some x → g.bx i = some b → w'.heap[b]? = w.heap[b]?)
    (htl : ∀ i, i < H.length → g'.tl i = g.tl i) (htk : ∀ i b lo hi, g.tk i = some (b, lo, hi) → g'.tk i = some (b, lo, hi) ∧ w'.heap[b]? = w.heap[b]?) (hfar : ∀ i, H.length ≤ i → g'.bx i = none ∧ g'.tl i = none ∧ g'.tk i = none) : HR g' w' H where
  blk i x hx := by
    have hi : i < H.length := by
      rcases Nat.lt_or_ge i H.length with h' | h'
      · exact h'
      · simp [List.getElem?_eq_none h'] at hx
    exact (h.blk i x hx).mono hm (fun b hb => hbox i b x hx hb) (fun n hn => (htl i hi).trans hn) (htk i)
  far := hfar

/-- A box is made. -/
theorem good_box (hs : StR X N g w fr H a) {vs : Array Value} {e : TypeId} {cs : List AV} (hr : RelL cs g w vs.toList) :
    ∃ g', Good X g w H g' (w.alloc (.cells vs e)) (H ++ [.box cs]) ∧ g'.bx H.length = some w.heap.size := by
  let g' : Gh := { g with bx := fun i => if i = H.length then some w.heap.size else g.bx i }
  have hfar := hs.hr.far
  have hm : Mono g w g' (w.alloc (.cells vs e)) := mono_alloc hs.wf rfl (fun _ _ h => h)
    (fun i b hb => by
      show (if i = H.length then some w.heap.size else g.bx i) = some b
      split
      · rename_i hi; rw [(hfar i (by omega)).1] at hb; cases hb
      · exact hb)
    (fun i n hn => ⟨n, hn, .inl ⟨rfl, rfl⟩⟩)
  refine ⟨g', good_alloc hs.wf rfl hm (fun b o h => .inl h) (fun i b hb => ?_) (fun i b lo hi h => .inl h) (fun i j hi hj => ?_) (fun i j lo hi lo' hi' h1 h2 => ?_) (fun i j lo hi h1 h2 => ?_) ⟨fun i x hx => ?_, fun i hi => ?_⟩, ?_⟩
  · change (if i = H.length then some w.heap.size else g.bx i) = some b at hb
    split at hb
    · cases hb; exact .inr rfl
    · exact .inl hb
  · change (if i = H.length then some w.heap.size else g.bx i) = _ at hi
    change (if j = H.length then some w.heap.size else g.bx j) = _ at hj
    split at hi
    · split at hj
      · omega
      · have := hs.wf.lt_bx hj; omega
    · have := hs.wf.lt_bx hi; omega
  · have := hs.wf.lt_tk h1; omega
  · have := hs.wf.lt_tk h2; omega
  · rw [List.getElem?_append] at hx
    split at hx
    · rename_i hi
      exact (hs.hr.blk i x hx).mono hm (fun b hb => heap_alloc_old (hs.wf.lt_bx hb)) (fun n h => h) (fun b lo hi h => ⟨h, heap_alloc_old (hs.wf.lt_tk h)⟩)
    · rename_i hi
      have hi' : i = H.length := by
        rcases Nat.lt_or_ge (i - H.length) 1 with h' | h'
        · omega
        · simp [List.getElem?_eq_none (l := [Blk.box cs]) (by simpa using h')] at hx
      subst hi'
      simp at hx
      subst hx
      exact ⟨w.heap.size, vs, e, (0, 0), if_pos rfl, heap_alloc_new, RelL.mono cs hm hr⟩
  · simp at hi
    obtain ⟨h1, h2, h3⟩ := hfar i (by omega)
    exact ⟨by show (if i = H.length then some w.heap.size else g.bx i) = none; rw [if_neg (by omega)]; exact h1, h2, h3⟩
  · exact if_pos rfl

theorem OpOk.of_good {o : Oper} {s : Sem Value} {u : Value} {v : AV} {w' : World} {g' : Gh} {H' : Heap} (hx : execOp a.eval o = (do pure (.value (← s)))) (hr : s.run X.P w = .ok u w') (hg : Good X g w H g' w' H') (hv : Rel v g' w' u) :
    OpOk X g w H ((execOp a.eval o).run X.P w) v H' :=
  ⟨u, w', g', .inl (by rw [hx]; simp [hr]), hg, hv⟩

theorem constAV_cells {v : Value} {c : AV} {g : Gh} {w : World} (h : constAV v = some c) : RelL c.cells g w v.cells.toList := by
  refine rel_cells (constAV_rel h) ?_
  unfold constAV at h
  split at h
  · simp only [Option.map_eq_some_iff] at h
    obtain ⟨as, _, rfl⟩ := h; rfl
  · unfold constS at h
    split at h <;> first | (cases h; done) | (cases h; rfl)

theorem zeroCells_spec {t : TypeId} {z : List AV} (h : zeroCells X.P t = some z) : ∃ i zv, X.P.info? t = some i ∧ i.zero = some zv ∧ ∀ g w, RelL z g w zv.cells.toList := by
  unfold zeroCells at h
  split at h
  · rename_i i hi
    split at h
    · rename_i zv hz
      simp only [Option.map_eq_some_iff] at h
      obtain ⟨c, hc, rfl⟩ := h
      exact ⟨i, zv, hi, hz, fun g w => constAV_cells hc⟩
    · cases h
  · cases h

theorem op_alloc (hs : StR X N g w fr H a) {o : Oper} {t : TypeId} {z : List AV} (ho : o.op = .alloc t) (hz : zeroCells X.P t = some z) :
    OpOk X g w H ((execOp a.eval o).run X.P w) (.ptr H.length 0) (H ++ [.box z]) := by
  obtain ⟨i, zv, hi, hzv, hr⟩ := zeroCells_spec hz
  obtain ⟨g', hg, hb⟩ := good_box hs (vs := zv.cells) (e := t) (hr g w)
  refine OpOk.of_good (u := .pointer (some ⟨w.heap.size, 0, none⟩)) (by simp only [execOp, ho]; try rfl) ?_ hg (by simp only [Rel]; exact ⟨_, rfl, hb⟩)
  simp [Instr.alloc, zeroValue, typeInfo, hi, hzv, newVar, newRow]

/-- The last block may be looked at otherwise. -/
theorem Good.last {g' : Gh} {w' : World} {x y : Blk} (h : Good X g w H g' w' (H ++ [x])) (hy : BlkOk g' w' H.length y) : Good X g w H g' w' (H ++ [y]) := by
  refine ⟨h.wf, ⟨fun i z hz => ?_, fun i hi => h.hr.far i (by simpa using hi)⟩, h.mono, h.ext⟩
  rw [List.getElem?_append] at hz
  split at hz
  · rename_i hi
    exact h.hr.blk i z (by rw [List.getElem?_append_left hi]; exact hz)
  · rename_i hi
    have hi' : i = H.length := by
      rcases Nat.lt_or_ge (i - H.length) 1 with h' | h'
      · omega
      · rw [List.getElem?_eq_none (by simpa using h')] at hz; cases hz
    subst hi'
    simp at hz
    subst hz
    exact hy

theorem bldOf_spec {P : Program} {t e : TypeId} (h : bldOf P t = some e) : ∃ i, P.info? t = some i ∧ i.zero = some (.agg #[.pointer none, .slice none 0 0]) := by
  unfold bldOf at h
  split at h
  · rename_i i hi
    split at h
    · rename_i vs hz
      split at h
      · rename_i hl
        refine ⟨i, hi, ?_⟩
        rw [hz]
        congr 2
        exact Array.ext' hl
      · cases h
    · cases h
  · cases h

theorem op_allocB (hs : StR X N g w fr H a) {o : Oper} {t e : TypeId} (ho : o.op = .alloc t) (hz : bldOf X.P t = some e) :
    OpOk X g w H ((execOp a.eval o).run X.P w) (.ptr H.length 0) (H ++ [.bld t e []]) := by
  obtain ⟨i, hi, hzv⟩ := bldOf_spec hz
  obtain ⟨g', hg, hb⟩ := good_box hs (vs := #[.pointer none, .slice none 0 0]) (e := t) (cs := [.undef, .undef]) (by simp only [RelL, Rel]; exact ⟨_, _, rfl, trivial, _, _, rfl, trivial, rfl⟩)
  have hg2 := hg.last (y := .bld t e []) ⟨w.heap.size, .pointer none, .slice none 0 0, hb, heap_alloc_new, .inl rfl, .inl ⟨rfl, rfl⟩, fun g0 h => by cases h⟩
  refine OpOk.of_good (u := .pointer (some ⟨w.heap.size, 0, none⟩)) (by simp only [execOp, ho]; try rfl) ?_ hg2 (by simp only [Rel]; exact ⟨_, rfl, hb⟩)
  simp [Instr.alloc, zeroValue, typeInfo, hi, hzv, newVar, newRow, Value.cells]

theorem op_box (hs : StR X N g w fr H a) {o : Oper} {t : TypeId} {x : Operand} {ax : AX} (ho : o.op = .box t x) (h1 : cx x = some ax) (hx : notTup (ax.eval X.G fr) = true) :
    OpOk X g w H ((execOp a.eval o).run X.P w) (.ptr H.length 0) (H ++ [.box (ax.eval X.G fr).cells]) := by
  obtain ⟨g', hg, hb⟩ := good_box hs (vs := (a.eval x).cells) (e := t) (rel_cells (cx_rel hs h1) hx)
  refine OpOk.of_good (u := .pointer (some ⟨w.heap.size, 0, none⟩)) (by simp only [execOp, ho]; try rfl) ?_ hg (by simp only [Rel]; exact ⟨_, rfl, hb⟩)
  simp [Instr.box, newVar, newRow]

end
end Go.Avm

/-
  The operations' soundness: those that write memory.
-/
namespace Go.Avm
open Go

def setVs (vs : Array Value) (o : Nat) : List Value → Array Value
  | [] => vs
  | v :: r => setVs (vs.setIfInBounds o v) (o + 1) r

theorem size_setVs : ∀ (us : List Value) (vs : Array Value) (o : Nat), (setVs vs o us).size = vs.size
  | [], _, _ => rfl
  | v :: r, vs, o => by rw [setVs, size_setVs r]; simp

theorem setCells_size (b : Nat) : ∀ (us : List Value) (o : Nat) (w : World), (w.setCells b o us).heap.size = w.heap.size
  | [], _, _ => rfl
  | v :: r, o, w => by rw [World.setCells, setCells_size b r]; simp

theorem setCells_other (b : Nat) : ∀ (us : List Value) (o : Nat) (w : World) (k : Nat), k ≠ b → (w.setCells b o us).heap[k]? = w.heap[k]?
  | [], _, _, _, _ => rfl
  | v :: r, o, w, k, hk => by
    rw [World.setCells, setCells_other b r _ _ k hk]
    simp [World.setCell, Array.getElem?_modify, Ne.symm hk]

theorem setCells_same (b : Nat) : ∀ (us : List Value) (o : Nat) (w : World) (vs : Array Value) (e : TypeId) (fz : Nat × Nat), w.heap[b]? = some (.cells vs e fz) → (w.setCells b o us).heap[b]? = some (.cells (setVs vs o us) e fz)
  | [], _, _, _, _, _, h => h
  | v :: r, o, w, vs, e, fz, h => by
    rw [World.setCells, setVs]
    refine setCells_same b r _ _ _ e fz ?_
    rw [setCell_eq_setRow w b o vs e fz v h]
    exact setRow_heap w b vs _ e fz h

theorem RelL.setCells {g : Gh} {w : World} : ∀ {ys : List AV} {us : List Value} {xs : List AV} {vs : Array Value} (o : Nat), RelL xs g w vs.toList → RelL ys g w us → RelL (setCells xs o ys) g w (setVs vs o us).toList
  | [], us, xs, vs, o, h, h' => by simp only [RelL] at h'; subst h'; exact h
  | y :: ys, us, xs, vs, o, h, h' => by
    simp only [RelL] at h'
    obtain ⟨u, rest, rfl, h1, h2⟩ := h'
    simp only [Avm.setCells, setVs]
    exact RelL.setCells (o + 1) (by simpa using h.set o h1) h2

section
variable {X : Cx} {N : Nat} {g : Gh} {w : World} {fr : Fr} {H : Heap} {a : Act}

theorem mono_write {g' : Gh} {b o : Nat} {us : List Value} (hwf : Wf X.G g w) (hown : ∀ j, j < us.length → g.owns b (o + j)) (hS : ∀ b o, g.S b o → g'.S b o) (hbx : ∀ i b, g.bx i = some b → g'.bx i = some b)
    (htl : ∀ i n, g.tl i = some n → ∃ n', g'.tl i = some n' ∧ ((n' = n ∧ g'.tk i = g.tk i) ∨ n < n')) : Mono g w g' (w.setCells b o us) := by
  refine ⟨fun b' o' h => ⟨hS b' o' h, ?_⟩, hbx, htl⟩
  refine World.cell?_setCells_out b us o w _ fun hb _ => ?_
  simp only at hb
  subst hb
  rcases Nat.lt_or_ge o' o with h1 | h1
  · exact .inl h1
  · rcases Nat.lt_or_ge o' (o + us.length) with h2 | h2
    · have := hown (o' - o) (by omega)
      rw [show o + (o' - o) = o' by omega] at this
      exact absurd this (hwf.S _ _ h).2
    · exact .inr h2

theorem setCell_io (w : World) (a : Addr) (v : Value) : (w.setCell a v).os = w.os ∧ (w.setCell a v).output = w.output := by
  unfold World.setCell
  split <;> (try split) <;> exact ⟨rfl, rfl⟩
theorem setCells_io (b : Nat) : ∀ (us : List Value) (o : Nat) (w : World), (w.setCells b o us).os = w.os ∧ (w.setCells b o us).output = w.output
  | [], _, _ => ⟨rfl, rfl⟩
  | v :: r, o, w => by
    have h1 := setCells_io b r (o + 1) (w.setCell ⟨b, o, none⟩ v)
    have h2 := setCell_io w ⟨b, o, none⟩ v
    exact ⟨h1.1.trans h2.1, h1.2.trans h2.2⟩
/-- Owned cells are written; the ghost may move a token. -/
theorem good_write (hwf : Wf X.G g w) {b o : Nat} {us : List Value} {vs : Array Value} {e : TypeId} {fz : Nat × Nat} (hb : w.heap[b]? = some (.cells vs e fz)) (hown : ∀ j, j < us.length → g.owns b (o + j))
    {g' : Gh} {H' : Heap} (hm : Mono g w g' (w.setCells b o us)) (hbx : g'.bx = g.bx)
    (hS : ∀ b' o', g'.S b' o' → (g.S b' o' ∨ (b' = b ∧ o' < vs.size ∧ g.owns b' o')) ∧ ¬ g'.owns b' o')
    (htk : ∀ i b' lo hi, g'.tk i = some (b', lo, hi) → ∃ lo', g.tk i = some (b', lo', hi) ∧ lo' ≤ lo)
    (hhr' : HR g' (w.setCells b o us) H') : Good X g w H g' (w.setCells b o us) H' := by
  have hshape : ∀ (k : Nat) (us' : Array Value) e' fz', w.heap[k]? = some (Obj.cells us' e' fz') → ∃ us'' : Array Value, (w.setCells b o us).heap[k]? = some (Obj.cells us'' e' fz') ∧ us''.size = us'.size := fun k us' e' fz' hk => by
    by_cases hkb : k = b
    · subst hkb
      rw [hb] at hk
      cases hk
      exact ⟨_, setCells_same k us o w vs e fz hb, size_setVs us vs o⟩
    · exact ⟨us', (setCells_other b us o w k hkb).trans hk, rfl⟩
  have howns : ∀ b' o', g'.owns b' o' → g.owns b' o' := fun b' o' ho => by
    rcases ho with ⟨i, hi⟩ | ⟨i, lo, hi, hi', hl⟩
    · rw [hbx] at hi; exact .inl ⟨i, hi⟩
    · obtain ⟨lo', h1, h2⟩ := htk i b' lo hi hi'
      exact .inr ⟨i, lo', hi, h1, by omega⟩
  refine ⟨⟨?_, ?_, ?_, ?_, ?_, ?_, ?_, ?_⟩, hhr', hm, ⟨?_, fun b o h => (hm.stable b o h).1, ?_, ?_, ?_, (fun k us' e' fz' hk => by obtain ⟨us'', h3, h4⟩ := hshape k us' e' fz' hk; exact ⟨us'', fz', h3, h4, .inl rfl⟩), fun b' o' h => .inr (howns b' o' h), setCells_io b us o w⟩⟩
  · intro b' o' hs
    obtain ⟨h1, h2⟩ := hS b' o' hs
    refine ⟨?_, h2⟩
    rcases h1 with h | ⟨rfl, h, _⟩
    · obtain ⟨⟨us', e', fz', hk, hlt⟩, _⟩ := hwf.S b' o' h
      obtain ⟨us'', h3, h4⟩ := hshape _ _ _ _ hk
      exact ⟨us'', e', fz', h3, by omega⟩
    · exact ⟨_, e, fz, setCells_same _ us o w vs e fz hb, by rw [size_setVs]; exact h⟩
  · intro i j b' hi hj; rw [hbx] at hi hj; exact hwf.inj i j b' hi hj
  · intro i j b' lo hi lo' hi' h1 h2
    obtain ⟨_, h3, _⟩ := htk _ _ _ _ h1
    obtain ⟨_, h4, _⟩ := htk _ _ _ _ h2
    exact hwf.tinj i j _ _ _ _ _ h3 h4
  · intro i j b' lo hi h1 h2
    obtain ⟨_, h3, _⟩ := htk _ _ _ _ h2
    rw [hbx] at h1
    exact hwf.apart i j _ _ _ h1 h3
  · intro i b' h1
    rw [hbx] at h1
    obtain ⟨hlt, hf⟩ := hwf.bx i b' h1
    refine ⟨by rw [setCells_size]; exact hlt, fun us' e' lo hi hk => ?_⟩
    by_cases hkb : b' = b
    · subst hkb
      rw [setCells_same b' us o w vs e fz hb] at hk
      cases hk
      intro o' h5
      rw [size_setVs] at h5
      exact hf _ _ _ _ hb o' h5
    · rw [setCells_other b us o w b' hkb] at hk
      exact hf _ _ _ _ hk
  · intro i b' lo hi h1
    obtain ⟨lo', h2, hle⟩ := htk _ _ _ _ h1
    obtain ⟨us', e', fl, fh, hk, hhi, hf⟩ := hwf.tk i b' lo' hi h2
    obtain ⟨us'', h3, h4⟩ := hshape _ _ _ _ hk
    exact ⟨us'', e', fl, fh, h3, by omega, fun o' h5 h6 => hf o' (by omega) (by omega)⟩
  · exact fun x cs hx => Rel.mono _ hm (hwf.laid x cs hx)
  · exact ex_shape hwf.ex fun b us' e' fz' hb' => by
      obtain ⟨us'', h3, h4⟩ := hshape _ _ _ _ hb'
      exact ⟨us'', fz', h3, h4⟩
  · rw [setCells_size]; exact Nat.le_refl _
  · intro b' o' hs
    rcases (hS b' o' hs).1 with h | ⟨rfl, _, h⟩
    · exact .inl h
    · exact .inr (.inr h)
  · intro b' o' _ hno
    refine World.cell?_setCells_out b us o w _ fun hb' _ => ?_
    simp only at hb'
    subst hb'
    rcases Nat.lt_or_ge o' o with h1 | h1
    · exact .inl h1
    · rcases Nat.lt_or_ge o' (o + us.length) with h2 | h2
      · have := hown (o' - o) (by omega)
        rw [show o + (o' - o) = o' by omega] at this
        exact absurd this hno
      · exact .inr h2
  · intro b' _ hno
    by_cases hbb : b' = b
    · subst hbb
      cases us with
      | nil => rfl
      | cons u r => exact absurd (hown 0 (by simp)) (hno _)
    · exact setCells_other b us o w b' hbb

theorem oneCells {ys : List AV} {us : List Value} (h : RelL ys g w us) (hy : ys.all scalarB = true) : ∀ v ∈ us, v.oneCell' = true := by
  intro v hv
  obtain ⟨i, hi, rfl⟩ := List.getElem_of_mem hv
  obtain ⟨x, hx, hr⟩ := h.get i (v := us[i]) (by simp [hi])
  exact (scalar_cells hr (List.all_eq_true.1 hy x (List.mem_of_getElem? hx))).2

theorem scalars_notTup {x : AV} (h : x.cells.all scalarB = true) : notTup x = true := by
  cases x <;> simp [AV.cells, scalarB] at h <;> rfl

theorem Wf.bx_frozen (hwf : Wf X.G g w) {i b : Nat} (hb : g.bx i = some b) {vs : Array Value} {e : TypeId} {fz : Nat × Nat} (hh : w.heap[b]? = some (.cells vs e fz)) {o : Nat} (ho : o < vs.size) : w.frozen? ⟨b, o, none⟩ = false := by
  obtain ⟨lo, hi⟩ := fz
  have := (hwf.bx i b hb).2 _ _ _ _ hh o ho
  simp only [World.frozen?, hh]
  by_cases h3 : lo ≤ o <;> by_cases h4 : o < hi <;> simp_all <;> omega

theorem op_st (hs : StR X N g w fr H a) {o : Oper} {t : TypeId} {i : TypeInfo} {x v : Operand} {ax av : AX} {id off : Nat} {cs : List AV} (ho : o.op = .store t x v) (hi : X.P.info? t = some i) (h1 : cx x = some ax) (h2 : cx v = some av)
    (e1 : ax.eval X.G fr = .ptr id off) (hH : H[id]? = some (.box cs)) (hl : (av.eval X.G fr).cells.length = i.size) (hoff : off + i.size ≤ cs.length) (hsc : (av.eval X.G fr).cells.all scalarB = true) :
    OpOk X g w H ((execOp a.eval o).run X.P w) .undef (H.set id (.box (setCells cs off (av.eval X.G fr).cells))) := by
  have r1 := cx_rel hs h1
  have r2 := rel_cells (cx_rel hs h2) (scalars_notTup hsc)
  rw [e1] at r1
  simp only [Rel] at r1
  obtain ⟨b, hp, hb⟩ := r1
  obtain ⟨vs, e, fz, hheap, hvs⟩ := hs.hr.box hH hb
  generalize hus : (a.eval v).cells.toList = us at r2
  have hulen : us.length = i.size := by rw [r2.length, hl]
  have hvlen : vs.size = cs.length := by simpa using hvs.length
  have hown : ∀ j, j < us.length → g.owns b (off + j) := fun j _ => .inl ⟨id, hb⟩
  have hm : Mono g w g (w.setCells b off us) := mono_write hs.wf hown (fun _ _ h => h) (fun _ _ h => h) (fun i n h => ⟨n, h, .inl ⟨rfl, rfl⟩⟩)
  have hlt : id < H.length := by
    rcases Nat.lt_or_ge id H.length with h' | h'
    · exact h'
    · simp [List.getElem?_eq_none h'] at hH
  refine ⟨Go.undef, w.setCells b off us, g, .inr ⟨?_, rfl⟩, good_write hs.wf hheap hown hm rfl (fun b' o' h => ⟨.inl h, (hs.wf.S b' o' h).2⟩) (fun i b' lo hi h => ⟨lo, h, Nat.le_refl _⟩) ⟨fun k y hy => ?_, fun k hk => hs.hr.far k (by simpa using hk)⟩, by simp [Rel]⟩
  · have hst := run_storeCells_cells (P := X.P) b off us 0 w (fun j hj => by rw [Nat.add_zero, cell_of_heap hheap (o := off + j) (v := vs[off + j]'(by omega)) (by rw [Array.getElem?_eq_getElem])]; rfl)
      (fun j hj => by rw [Nat.add_zero]; exact hs.wf.bx_frozen hb hheap (by omega)) (oneCells r2 hsc)
    have hsz : (a.eval v).cells.size = i.size := by rw [← hulen, ← hus]; simp
    simp only [execOp, ho, hp, Instr.storeAt, Instr.sureAddr, Sem.run_bind, Sem.run_pure, Result.andThen_ok, storeVar, sizeOf, typeInfo, run_program, hi, hsz, hus]
    simp [hst]
  · rw [List.getElem?_set] at hy
    split at hy
    · rename_i hk
      subst hk
      first | rw [if_pos hlt] at hy | skip
      cases hy
      exact ⟨b, _, e, fz, hb, setCells_same b us off w vs e fz hheap, RelL.setCells off (RelL.mono _ hm hvs) (RelL.mono _ hm r2)⟩
    · rename_i hk
      exact (hs.hr.blk k y hy).mono hm (fun b' hb' => setCells_other b us off w b' fun h => hk (hs.wf.inj id k b hb (h ▸ hb'))) (fun n h => h) (fun b' lo hi h => ⟨h, setCells_other b us off w b' fun e => hs.wf.apart id k b lo hi hb (e ▸ h)⟩)

/-! ### struct and array values -/

theorem partsP_vals (hs : StR X N g w fr H a) {place : Nat → Option (Nat × Nat)} : ∀ {ps : List (Nat × Operand)} {as : List (Nat × Nat × AX)}, partsP place ps = some as →
    ∀ (cs : List AV) (vs : Array Value), (fillA cs (as.map fun p => (p.1, p.2.1, p.2.2.eval X.G fr))).1 = true → RelL cs g w vs.toList →
    ∃ vs', Instr.fill place vs (ps.map fun p => (p.1, a.eval p.2)) = some vs' ∧ RelL (fillA cs (as.map fun p => (p.1, p.2.1, p.2.2.eval X.G fr))).2 g w vs'.toList
  | [], as, h, cs, vs, _, hr => by simp [partsP] at h; subst h; exact ⟨vs, rfl, hr⟩
  | (i, x) :: ps, as, h, cs, vs, hc, hr => by
    simp only [partsP] at h
    split at h
    · rename_i o n ax as' hp hx hps
      cases h
      simp only [List.map_cons, fillA, Bool.and_eq_true, decide_eq_true_eq] at hc ⊢
      obtain ⟨⟨⟨h1, h2⟩, h3⟩, h4⟩ := hc
      have hrc := rel_cells (cx_rel hs hx) h3
      have hsz : (a.eval x).cells.size = n := by rw [← h1]; simpa using hrc.length
      have hvl : vs.size = cs.length := by simpa using hr.length
      obtain ⟨vs', h5, h6⟩ := partsP_vals hs hps _ (setVs vs o (a.eval x).cells.toList) h4 (RelL.setCells o hr hrc)
      refine ⟨vs', ?_, h6⟩
      simp only [List.map_cons, Instr.fill, hp, hsz]
      rw [if_neg (by simp; omega)]
      have hfold : ∀ (l : List Value) (k : Nat) (cur : Array Value), (l.zipIdx k).foldl (fun cs (cj : Value × Nat) => cs.setIfInBounds (o + cj.2) cj.1) cur = setVs cur (o + k) l := by
        intro l
        induction l with
        | nil => intro k cur; rfl
        | cons c l ih => intro k cur; rw [List.zipIdx_cons, List.foldl_cons, ih, setVs, Nat.add_assoc]
      have := hfold (a.eval x).cells.toList 0 vs
      rw [Nat.add_zero] at this
      rw [← this] at h5
      rw [← h5]
      congr 1
      rw [← Array.foldl_toList]
      simp [Array.toList_zipIdx]
    · cases h

theorem placesOf_mapM : ∀ {fs : List Field} {pl : List (Nat × Nat)}, placesOf X.P fs = some pl → fs.mapM (fun f => (X.P.info? f.type).map fun i => (f.offset, i.size)) = some pl
  | [], pl, h => by simp [placesOf] at h; subst h; rfl
  | f :: fs, pl, h => by
    simp only [placesOf] at h
    split at h
    · rename_i i r hi hr
      cases h
      simp [List.mapM_cons, hi, placesOf_mapM hr]
    · cases h

theorem op_build_struct (hs : StR X N g w fr H a) {o : Oper} {t : TypeId} {fs : Array Field} {parts : Array (Nat × Operand)} {z : List AV} {pl : List (Nat × Nat)} {as : List (Nat × Nat × AX)} (ho : o.op = .build t parts)
    (hu : X.P.underlying t = some (.struct fs)) (hz : zeroCells X.P t = some z) (hp : placesOf X.P fs.toList = some pl) (hps : partsP (pl[·]?) parts.toList = some as)
    (hc : (fillA z (as.map fun p => (p.1, p.2.1, p.2.2.eval X.G fr))).1 = true) : OpOk X g w H ((execOp a.eval o).run X.P w) (.agg (fillA z (as.map fun p => (p.1, p.2.1, p.2.2.eval X.G fr))).2) H := by
  obtain ⟨i, zv, hi, hzv, hr⟩ := zeroCells_spec hz
  obtain ⟨vs', h1, h2⟩ := partsP_vals hs hps z zv.cells hc (hr g w)
  refine ok_value hs (u := .agg vs') (by simp only [execOp, ho]; try rfl) (run_build w t _ vs' ?_) (by simp only [Rel]; exact ⟨vs'.toList, by simp, h2⟩)
  simp only [Program.built, hi, hu, hzv, placesOf_mapM hp]
  rw [← h1]
  congr 1
  · funext x; simp
  · simp

theorem op_build_array (hs : StR X N g w fr H a) {o : Oper} {t e : TypeId} {n : Nat} {d : TypeInfo} {parts : Array (Nat × Operand)} {z : List AV} {as : List (Nat × Nat × AX)} (ho : o.op = .build t parts)
    (hu : X.P.underlying t = some (.array n e)) (hd : X.P.info? e = some d) (hz : zeroCells X.P t = some z) (hps : partsP (fun i => some (i * d.size, d.size)) parts.toList = some as)
    (hc : (fillA z (as.map fun p => (p.1, p.2.1, p.2.2.eval X.G fr))).1 = true) : OpOk X g w H ((execOp a.eval o).run X.P w) (.agg (fillA z (as.map fun p => (p.1, p.2.1, p.2.2.eval X.G fr))).2) H := by
  obtain ⟨i, zv, hi, hzv, hr⟩ := zeroCells_spec hz
  obtain ⟨vs', h1, h2⟩ := partsP_vals hs hps z zv.cells hc (hr g w)
  refine ok_value hs (u := .agg vs') (by simp only [execOp, ho]; try rfl) (run_build w t _ vs' ?_) (by simp only [Rel]; exact ⟨vs'.toList, by simp, h2⟩)
  simp only [Program.built, hi, hu, hzv, hd]
  rw [← h1]
  congr 1
  simp

end
end Go.Avm

/-
  The operations' soundness: slices that are made.
-/
namespace Go.Avm
open Go

/-- Values' cells, one value after the other. -/
def flat (vs : List Value) : List Value := vs.flatMap fun v => v.cells.toList

def Sized (sz : Nat) (vs : List Value) : Prop := ∀ v ∈ vs, v.cells.size = sz

theorem flat_length {sz : Nat} : ∀ {vs : List Value}, Sized sz vs → (flat vs).length = vs.length * sz
  | [], _ => by simp [flat]
  | v :: vs, h => by
    have h1 := h v (by simp)
    have h2 := flat_length (vs := vs) (fun x hx => h x (by simp [hx]))
    simp only [flat, List.flatMap_cons, List.length_append, Array.length_toList, h1] at h2 ⊢
    simp only [h2, List.length_cons, Nat.add_mul, Nat.one_mul]
    omega

theorem flat_append (vs us : List Value) : flat (vs ++ us) = flat vs ++ flat us := by simp [flat]

theorem flat_get {sz : Nat} : ∀ {vs : List Value} (i : Nat) {v : Value} (j : Nat), Sized sz vs → vs[i]? = some v → j < sz → (flat vs)[i * sz + j]? = v.cells[j]?
  | [], i, v, j, _, h, _ => by simp at h
  | x :: vs, 0, v, j, hs, h, hj => by
    simp at h; subst h
    have h1 := hs x (by simp)
    simp only [flat, List.flatMap_cons, Nat.zero_mul, Nat.zero_add]
    rw [List.getElem?_append_left (by simp [h1, hj])]
    simp
  | x :: vs, i + 1, v, j, hs, h, hj => by
    have h1 := hs x (by simp)
    have ih := flat_get (vs := vs) i j (fun y hy => hs y (by simp [hy])) (by simpa using h) hj
    simp only [flat, List.flatMap_cons] at ih ⊢
    rw [List.getElem?_append_right (by simp only [Array.length_toList, h1, Nat.add_mul, Nat.one_mul]; omega)]
    rw [← ih]
    congr 1
    simp only [Array.length_toList, h1, Nat.add_mul, Nat.one_mul]
    omega

/-- What lies in a row lies there. -/
theorem lies_flat {g : Gh} {w : World} {b off sz : Nat} {arr : Array Value} {e : TypeId} {fz : Nat × Nat} {vs : List Value} (hh : w.heap[b]? = some (.cells arr e fz)) (hs : Sized sz vs)
    (hc : ∀ k c, (flat vs)[k]? = some c → arr[off + k]? = some c) (hS : ∀ k, k < (flat vs).length → g.S b (off + k)) : Lies g w (some ⟨b, off, none⟩) sz vs := by
  refine .inr ⟨b, off, rfl, fun i x hx => ?_⟩
  have hm : x ∈ vs := List.mem_of_getElem? hx
  have hxs := hs x hm
  refine ⟨hxs, fun j c hj => ?_⟩
  have hjl : j < sz := by
    rw [← hxs]
    rcases Nat.lt_or_ge j x.cells.size with h | h
    · exact h
    · simp [Array.getElem?_eq_none h] at hj
  have hf := flat_get i j hs hx hjl
  rw [hj] at hf
  have hlt : i * sz + j < (flat vs).length := by
    rcases Nat.lt_or_ge (i * sz + j) (flat vs).length with h | h
    · exact h
    · simp [List.getElem?_eq_none h] at hf
  rw [Nat.add_assoc]
  exact ⟨hS _ hlt, cell_of_heap hh (hc _ _ hf)⟩

theorem Lies.sized {g : Gh} {w : World} {a : Option Addr} {sz : Nat} {vs : List Value} (h : Lies g w a sz vs) : Sized sz vs := by
  rcases h with rfl | ⟨b, o, rfl, h⟩
  · intro v hv; cases hv
  · intro v hv
    obtain ⟨i, hi, rfl⟩ := List.getElem_of_mem hv
    exact (h i vs[i] (by simp [hi])).1

theorem Lies.cells {g : Gh} {w : World} {b o sz : Nat} {vs : List Value} (h : Lies g w (some ⟨b, o, none⟩) sz vs) : ∀ j v, (flat vs)[j]? = some v → w.cell? ((⟨b, o, none⟩ : Addr).add j) = some v ∧ g.S b (o + j) := by
  intro j v hj
  have hs := h.sized
  rcases h with rfl | ⟨b', o', he, hc⟩
  · simp [flat] at hj
  · cases he
    have hlt : j < (flat vs).length := by
      rcases Nat.lt_or_ge j (flat vs).length with h | h
      · exact h
      · simp [List.getElem?_eq_none h] at hj
    rw [flat_length hs] at hlt
    have hpos : 0 < sz := by
      rcases Nat.eq_zero_or_pos sz with rfl | h
      · simp at hlt
      · exact h
    have hq : j / sz < vs.length := by rw [Nat.div_lt_iff_lt_mul hpos]; exact hlt
    have hr : j % sz < sz := Nat.mod_lt _ hpos
    have hdm : j / sz * sz + j % sz = j := by rw [Nat.mul_comm]; exact Nat.div_add_mod j sz
    have hv := flat_get (v := vs[j / sz]) (j / sz) (j % sz) hs (by simp [hq]) hr
    rw [hdm, hj] at hv
    obtain ⟨h1, h2⟩ := hc (j / sz) vs[j / sz] (by simp [hq])
    obtain ⟨h3, h4⟩ := h2 (j % sz) v hv.symm
    rw [addr_add]
    rw [Nat.add_assoc, hdm] at h3 h4
    exact ⟨h4, h3⟩

theorem flat_oneCell {es : List AV} {g : Gh} {w : World} {vs : List Value} (h : RelL es g w vs) (he : es.all (fun e => e.cells.all scalarB) = true) : ∀ v ∈ flat vs, v.oneCell' = true := by
  intro v hv
  simp only [flat, List.mem_flatMap, Array.mem_toList_iff] at hv
  obtain ⟨x, hx, hv⟩ := hv
  obtain ⟨i, hi, rfl⟩ := List.getElem_of_mem hx
  obtain ⟨y, hy, hr⟩ := h.get i (v := vs[i]) (by simp [hi])
  have hall := List.all_eq_true.1 he y (List.mem_of_getElem? hy)
  exact oneCells (rel_cells hr (scalars_notTup hall)) hall v (by simpa using hv)

mutual
theorem dry_rel : ∀ (x : AV) {g : Gh} {w : World} {v : Value}, Rel x g w v → Rel (dry x) g.flat w v
  | .undef, _, _, _, _ => by simp [dry, Rel]
  | .bool _, _, _, _, h => by simpa [dry, Rel] using h
  | .int _ _, _, _, _, h => by simpa [dry, Rel] using h
  | .str _, _, _, _, h => by simpa [dry, Rel] using h
  | .sl p es, g, w, v, h => by
    simp only [dry, Rel] at h ⊢
    obtain ⟨a, cap, vs, sz, h1, h2, h3, h4, _⟩ := h
    exact ⟨a, cap, vs, sz, h1, h2, h3, h4, trivial⟩
  | .rsl _ _ _ _ _, _, _, _, _ => by simp [dry, Rel]
  | .nilP, _, _, _, h => by simpa [dry, Rel] using h
  | .vp cs, g, w, v, h => by
    simp only [dry, Rel] at h ⊢
    exact h
  | .ptr _ _, _, _, _, _ => by simp [dry, Rel]
  | .agg cs, g, w, v, h => by
    simp only [dry, Rel] at h ⊢
    obtain ⟨vs, h1, h2⟩ := h
    exact ⟨vs, h1, dryL_rel cs h2⟩
  | .tuple cs, g, w, v, h => by
    simp only [dry, Rel] at h ⊢
    obtain ⟨vs, h1, h2⟩ := h
    exact ⟨vs, h1, dryL_rel cs h2⟩
  | .clo f fs cs, g, w, v, h => by
    simp only [dry, Rel] at h ⊢
    obtain ⟨us, vs, h1, h2, h3⟩ := h
    exact ⟨us, vs, h1, dryL_rel fs h2, dryL_rel cs h3⟩
  | .nilF, _, _, _, h => by simpa [dry, Rel] using h
  | .ifc t x, g, w, v, h => by
    simp only [dry, Rel] at h ⊢
    obtain ⟨u, h1, h2⟩ := h
    exact ⟨u, h1, dry_rel x h2⟩
  | .nilI, _, _, _, h => by simpa [dry, Rel] using h
  | .grd _ _, _, _, _, _ => by simp [dry, Rel]
  | .yv _, _, _, _, _ => by simp [dry, Rel]
  | .mp _, _, _, _, _ => by simp [dry, Rel]
theorem dryL_rel : ∀ (xs : List AV) {g : Gh} {w : World} {vs : List Value}, RelL xs g w vs → RelL (dryL xs) g.flat w vs
  | [], _, _, _, h => by simpa [dryL, RelL] using h
  | x :: xs, g, w, vs, h => by
    simp only [dryL, RelL] at h ⊢
    obtain ⟨v, rest, h1, h2, h3⟩ := h
    exact ⟨v, rest, h1, dry_rel x h2, dryL_rel xs h3⟩
end

theorem setVs_toList : ∀ (us : List Value) (vs : Array Value) (o : Nat) (k : Nat), (setVs vs o us)[k]? = if o ≤ k ∧ k < o + us.length ∧ k < vs.size then us[k - o]? else vs[k]?
  | [], vs, o, k => by simp only [setVs, List.length_nil]; rw [if_neg (by omega)]
  | u :: us, vs, o, k => by
    rw [setVs, setVs_toList us]
    simp only [Array.size_setIfInBounds, List.length_cons, Array.getElem?_setIfInBounds]
    by_cases h1 : o + 1 ≤ k ∧ k < o + 1 + us.length ∧ k < vs.size
    · rw [if_pos h1, if_pos (by omega)]
      rw [show k - o = (k - (o + 1)) + 1 by omega, List.getElem?_cons_succ]
    · rw [if_neg h1]
      by_cases h2 : o = k
      · subst h2
        by_cases h3 : o < vs.size
        · simp [h3]
        · simp [h3]
      · rw [if_neg h2, if_neg (by omega)]

/-- A part of a flat row is filled in. -/
theorem setVs_flat {sz : Nat} {vs : List Value} {arr : Array Value} (ha : arr.toList = flat vs) (hs : Sized sz vs) {i : Nat} (hi : i < vs.length) {u : Value} (hu : u.cells.size = sz) :
    (setVs arr (i * sz) u.cells.toList).toList = flat (vs.set i u) := by
  have hs' : Sized sz (vs.set i u) := fun v hv => by
    rcases List.mem_or_eq_of_mem_set hv with h | h
    · exact hs v h
    · subst h; exact hu
  have hlen : arr.size = vs.length * sz := by rw [← flat_length hs, ← ha]; simp
  apply List.ext_getElem?
  intro k
  rw [Array.getElem?_toList, setVs_toList]
  simp only [Array.length_toList, hu]
  by_cases hk : k < vs.length * sz
  · have hpos : 0 < sz := by
      rcases Nat.eq_zero_or_pos sz with rfl | h
      · simp at hk
      · exact h
    have hq : k / sz < vs.length := by rw [Nat.div_lt_iff_lt_mul hpos]; exact hk
    have hr : k % sz < sz := Nat.mod_lt _ hpos
    have hdm : k / sz * sz + k % sz = k := by rw [Nat.mul_comm]; exact Nat.div_add_mod k sz
    by_cases hki : k / sz = i
    · subst hki
      have hin : k / sz * sz ≤ k ∧ k < k / sz * sz + sz ∧ k < arr.size := by rw [hlen]; omega
      rw [if_pos hin]
      have := flat_get (v := u) (k / sz) (k % sz) hs' (by simp [hi]) hr
      rw [hdm] at this
      rw [this, Array.getElem?_toList]
      congr 1
      omega
    · have hout : ¬ (i * sz ≤ k ∧ k < i * sz + sz ∧ k < arr.size) := by
        intro ⟨h1, h2, _⟩
        apply hki
        rw [Nat.div_eq_iff hpos]
        constructor
        · exact h1
        · omega
      rw [if_neg hout]
      have h1 := flat_get (v := vs[k / sz]) (k / sz) (k % sz) hs (by simp [hq]) hr
      have h2 := flat_get (v := vs[k / sz]) (k / sz) (k % sz) hs' (by rw [List.getElem?_set_ne (Ne.symm hki)]; simp [hq]) hr
      rw [hdm] at h1 h2
      rw [h2, ← h1, ← ha]
      simp
  · rw [if_neg (by rw [hlen]; omega)]
    rw [Array.getElem?_eq_none (by omega), List.getElem?_eq_none (by rw [flat_length hs']; simp; omega)]

section
variable {X : Cx} {N : Nat} {g : Gh} {w : World} {fr : Fr} {H : Heap} {a : Act}

theorem partsE_vals (hs : StR X N g w fr H a) {sz : Nat} : ∀ {ps : List (Nat × Operand)} {as : List (Nat × AX)}, partsE ps = some as →
    ∀ (es : List AV) (vs : List Value) (arr : Array Value), (fillE sz es (as.map fun p => (p.1, p.2.eval X.G fr))).1 = true → RelL es g.flat w vs → Sized sz vs → arr.toList = flat vs →
    ∃ (arr' : Array Value) (vs' : List Value), Instr.fill (fun i => some (i * sz, sz)) arr (ps.map fun p => (p.1, a.eval p.2)) = some arr' ∧ arr'.toList = flat vs' ∧ Sized sz vs' ∧ vs'.length = vs.length ∧ RelL (fillE sz es (as.map fun p => (p.1, p.2.eval X.G fr))).2 g.flat w vs'
  | [], as, h, es, vs, arr, _, hr, hsz, ha => by simp [partsE] at h; subst h; exact ⟨arr, vs, rfl, ha, hsz, rfl, hr⟩
  | (i, x) :: ps, as, h, es, vs, arr, hc, hr, hsz, ha => by
    simp only [partsE] at h
    split at h
    · rename_i ax as' hx hps
      cases h
      simp only [List.map_cons, fillE, Bool.and_eq_true, decide_eq_true_eq] at hc ⊢
      obtain ⟨⟨⟨h1, h2⟩, h3⟩, h4⟩ := hc
      have hrx := cx_rel hs hx
      have hrc := rel_cells hrx h3
      have hus : (a.eval x).cells.size = sz := by rw [← h1]; simpa using hrc.length
      have hvl : i < vs.length := by rw [hr.length]; exact h2
      have hal : arr.size = vs.length * sz := by rw [← flat_length hsz, ← ha]; simp
      have hs' : Sized sz (vs.set i (a.eval x)) := fun v hv => by
        rcases List.mem_or_eq_of_mem_set hv with h | h
        · exact hsz v h
        · subst h; exact hus
      obtain ⟨arr', vs', h5, h6, h7, h8, h9⟩ := partsE_vals hs hps (es.set i (dry (ax.eval X.G fr))) (vs.set i (a.eval x)) (setVs arr (i * sz) (a.eval x).cells.toList) h4 (hr.set i (dry_rel _ hrx)) hs' (setVs_flat ha hsz hvl hus)
      refine ⟨arr', vs', ?_, h6, h7, by simpa using h8, h9⟩
      have hbound : i * sz + sz ≤ arr.size := by
        rw [hal]
        calc i * sz + sz = (i + 1) * sz := by rw [Nat.add_mul, Nat.one_mul]
          _ ≤ vs.length * sz := Nat.mul_le_mul_right _ hvl
      simp only [Instr.fill, hus]
      rw [if_neg (by simp; omega)]
      have hfold : ∀ (l : List Value) (k : Nat) (cur : Array Value), (l.zipIdx k).foldl (fun cs (cj : Value × Nat) => cs.setIfInBounds (i * sz + cj.2) cj.1) cur = setVs cur (i * sz + k) l := by
        intro l
        induction l with
        | nil => intro k cur; rfl
        | cons c l ih => intro k cur; rw [List.zipIdx_cons, List.foldl_cons, ih, setVs, Nat.add_assoc]
      have := hfold (a.eval x).cells.toList 0 arr
      rw [Nat.add_zero] at this
      rw [← this] at h5
      rw [← h5]
      congr 1
      rw [← Array.foldl_toList]
      simp [Array.toList_zipIdx]
    · cases h

theorem zeroAV_spec {t : TypeId} {z : AV} (h : zeroAV X.P t = some z) : ∃ i zv, X.P.info? t = some i ∧ i.zero = some zv ∧ constAV zv = some z := by
  unfold zeroAV at h
  split at h
  · rename_i i hi
    split at h
    · rename_i zv hz; exact ⟨i, zv, hi, hz, h⟩
    · cases h
  · cases h

/-- A row that nobody writes. -/
theorem good_row (hs : StR X N g w fr H a) {w1 : World} (hw1 : w1.heap = w.heap) {arr : Array Value} {e : TypeId} (n : Nat) (hn : n ≤ arr.size) (hio : w1.os = w.os ∧ w1.output = w.output := by exact ⟨rfl, rfl⟩) : Good X g w H { g with S := fun b o => g.S b o ∨ (b = w.heap.size ∧ o < n) } (w1.alloc (.cells arr e)) H := by
  have hm : Mono g w { g with S := fun b o => g.S b o ∨ (b = w.heap.size ∧ o < n) } (w1.alloc (.cells arr e)) := mono_alloc hs.wf hw1 (fun _ _ h => .inl h) (fun _ _ h => h) (fun i n h => ⟨n, h, .inl ⟨rfl, rfl⟩⟩)
  refine good_alloc hs.wf hw1 hm (fun b o h => ?_) (fun i b h => .inl h) (fun i b lo hi h => .inl h) (fun i j hi hj => ?_) (fun i j lo hi lo' hi' h1 h2 => ?_) (fun i j lo hi h1 h2 => ?_) (hs.hr.mono hm (fun i b cs hx hb => ?_) (fun i _ => rfl) (fun i b lo hi h => ⟨h, by rw [heap_alloc_old (by rw [hw1]; exact hs.wf.lt_tk h), hw1]⟩) hs.hr.far) hio
  · rcases h with h | ⟨rfl, h⟩
    · exact .inl h
    · refine .inr ⟨rfl, by omega, fun ho => ?_⟩
      have : w.heap.size < w.heap.size := hs.wf.lt_owns (o := o) ho
      omega
  · have := hs.wf.lt_bx hi; omega
  · have := hs.wf.lt_tk h1; omega
  · have := hs.wf.lt_bx h1; omega
  · rw [heap_alloc_old (by rw [hw1]; exact hs.wf.lt_bx hb), hw1]

theorem op_bsl (hs : StR X N g w fr H a) {o : Oper} {t e : TypeId} {len : Nat} {d : TypeInfo} {parts : Array (Nat × Operand)} {z : AV} {as : List (Nat × AX)} (ho : o.op = .buildSlice t len parts)
    (hu : X.P.underlying t = some (.slice e)) (hd : X.P.info? e = some d) (hz : zeroAV X.P e = some z) (hzl : z.cells.length = d.size) (hb : len * d.size ≤ 2 ^ 24) (hd0 : d.size ≠ 0) (hps : partsE parts.toList = some as)
    (hc : (fillE d.size (List.replicate len z) (as.map fun p => (p.1, p.2.eval X.G fr))).1 = true) :
    OpOk X g w H ((execOp a.eval o).run X.P w) (.sl .ex (fillE d.size (List.replicate len z) (as.map fun p => (p.1, p.2.eval X.G fr))).2) H := by
  obtain ⟨i, zv, hi, hzv, hcz⟩ := zeroAV_spec hz
  rw [hd] at hi; cases hi
  have hzr := constAV_rel (g := g.flat) (w := w) hcz
  have hzs : zv.cells.size = d.size := by rw [← hzl]; simpa using (constAV_cells (g := g) (w := w) hcz).length
  have hrep : RelL (List.replicate len z) g.flat w (List.replicate len zv) := RelL.of_get (by simp) fun i x v hx hv => by
    simp only [List.getElem?_replicate] at hx hv
    split at hx
    · rename_i h; rw [if_pos h] at hv; cases hx; cases hv; exact hzr
    · cases hx
  have hsz : Sized d.size (List.replicate len zv) := fun v hv => by rw [(List.mem_replicate.1 hv).2]; exact hzs
  obtain ⟨arr, hdef⟩ : ∃ arr : Array Value, (Array.range (len * d.size)).map (fun k => zv.cells[k % zv.cells.size]!) = arr := ⟨_, rfl⟩
  have harr : arr.toList = flat (List.replicate len zv) := by
    apply List.ext_getElem?
    intro k
    have hl := flat_length hsz
    rw [List.length_replicate] at hl
    rw [← hdef]
    by_cases hk : k < len * d.size
    · have hpos : 0 < d.size := Nat.pos_of_ne_zero hd0
      have hq : k / d.size < len := by rw [Nat.div_lt_iff_lt_mul hpos]; exact hk
      have hr : k % d.size < d.size := Nat.mod_lt _ hpos
      have hdm : k / d.size * d.size + k % d.size = k := by rw [Nat.mul_comm]; exact Nat.div_add_mod k d.size
      have := flat_get (v := zv) (k / d.size) (k % d.size) hsz (by simp [hq]) hr
      rw [hdm] at this
      rw [this]
      simp [hk, hzs, hr]
    · rw [List.getElem?_eq_none (by simp; omega), List.getElem?_eq_none (by omega)]
  obtain ⟨arr', vs', h1, h2, h3, h4, h5⟩ := partsE_vals hs hps _ _ arr hc hrep hsz harr
  have hlen' : arr'.size = len * d.size := by
    have := flat_length h3
    rw [← h2] at this
    simpa [h4] using this
  have hg := good_row hs (w1 := w) rfl (arr := arr') (e := e) arr'.size (Nat.le_refl _)
  refine OpOk.of_good (u := .slice (some ⟨w.heap.size, 0, none⟩) len len) (by simp only [execOp, ho]; try rfl) ?_ hg ?_
  · have hne : ¬ len * d.size > 2 ^ 24 := by omega
    simp only [Instr.buildSlice, Sem.run_bind, run_underlying hu, Result.andThen_ok, sizeOf, typeInfo, run_program, hd, Sem.run_pure, if_neg hne, zeroValue, hzv]
    by_cases h0 : len * d.size = 0
    · have : len = 0 := by
        rcases Nat.mul_eq_zero.1 h0 with h | h
        · exact h
        · exact absurd h hd0
      subst this
      have ha0 : arr = #[] := by rw [← hdef]; simp
      rw [ha0] at h1
      have hr0 : Array.range 0 = #[] := rfl
      simp [hr0, h1, newRow]
    · rw [← hdef] at h1
      simp [h0, h1, newRow, hd, hzv]
  · have hfl : (fillE d.size (List.replicate len z) (as.map fun p => (p.1, p.2.eval X.G fr))).2.length = len := by rw [← h5.length, h4]; simp
    simp only [Rel]
    refine ⟨some ⟨w.heap.size, 0, none⟩, len, vs', d.size, by rw [hfl], by omega, RelL.mono _ hg.mono.flat h5, lies_flat heap_alloc_new h3 (fun k c hk => ?_) (fun k hk => ?_), hfl.symm⟩
    · rw [Nat.zero_add, ← hk, ← h2]; simp
    · rw [Nat.zero_add]; exact .inr ⟨rfl, by rw [← h2] at hk; simpa using hk⟩

end
end Go.Avm
