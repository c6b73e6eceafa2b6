/- Appending to a builder's buffer: what it leaves, to the cell. -/
import Derived.Test.YtabdnpjbofiknaaGreatDoorA8
import Derived.Shelf.Strings.Builder1
set_option linter.all false
/- Appending to a builder's buffer: what it leaves, to the cell. -/
namespace Go.Avm
open Go Go.RowKit
def byteV (b : UInt8) : Value := .int .u8 b.toNat

/-- What a step on a buffer leaves of the world. -/
structure BStep (e : TypeId) (v : Value) (w : World) (v' : Value) (w' : World) : Prop where
  io : w'.os = w.os ∧ w'.output = w.output
  size : w.heap.size ≤ w'.heap.size
  other : ∀ k : Nat, k < w.heap.size → bufBlk v ≠ some k → w'.heap[k]? = w.heap[k]?
  shape : ∀ k : Nat, bufBlk v = some k → ∀ (cur : Array Value) fz, w.heap[k]? = some (.cells cur e fz) → ∃ cur' : Array Value, w'.heap[k]? = some (.cells cur' e fz) ∧ cur'.size = cur.size
  own : bufBlk v' = bufBlk v ∨ ∃ k, bufBlk v' = some k ∧ w.heap.size ≤ k
  fresh : ∀ k, bufBlk v' = some k → w.heap.size ≤ k → ∃ cur : Array Value, w'.heap[k]? = some (.cells cur e (0, 0))

section
variable {X : Cx} {w : World}
theorem bytes_one (m : List UInt8) : ∀ u ∈ m.map byteV, u.oneCell' = true := fun u hu => by
  obtain ⟨b, _, rfl⟩ := List.mem_map.1 hu
  rfl
theorem old_bytes {e : TypeId} {l : List UInt8} {g0 cap : Nat} {cur : Array Value} {fz : Nat × Nat} (hg : w.heap[g0]? = some (.cells cur e fz)) (ht : cur.toList.take l.length = l.map byteV) (hn : l.length ≤ cur.size) {w' : World} (hw' : w'.heap = w.heap) :
    (Builtin.firstCells 1 l.length (.slice (some ⟨g0, 0, none⟩) l.length cap)).run X.P w' = .ok (l.map byteV).toArray w' := by
  let g : Gh := { S := fun _ _ => True, bx := fun _ => none, tl := fun _ => none, tk := fun _ => none }
  have hl : Lies g w (some ⟨g0, 0, none⟩) 1 (l.map byteV) := by
    refine .inr ⟨g0, 0, rfl, fun i x hx => ?_⟩
    simp only [List.getElem?_map, Option.map_eq_some_iff] at hx
    obtain ⟨b, hb, rfl⟩ := hx
    refine ⟨rfl, fun j c hj => ⟨trivial, ?_⟩⟩
    have : j = 0 ∧ c = byteV b := by
      match j with
      | 0 => simp [byteV, Value.cells] at hj; exact ⟨rfl, hj.symm⟩
      | j + 1 => simp [byteV, Value.cells] at hj
    obtain ⟨rfl, rfl⟩ := this
    have hi : i < l.length := by
      rcases Nat.lt_or_ge i l.length with h | h
      · exact h
      · rw [List.getElem?_eq_none h] at hb; cases hb
    have h1 : (cur.toList.take l.length)[i]? = some (byteV b) := by rw [ht, List.getElem?_map, hb]; rfl
    rw [List.getElem?_take, if_pos hi] at h1
    simp only [World.cell?, hg]
    rw [show 0 + i * 1 + 0 = i by omega]
    simpa using h1
  have := firstCells_old (X := X) (g := g) (es := l.map u8) (ad := some ⟨g0, 0, none⟩) (cap := cap) (sz := 1) (vs := l.map byteV) (bytes_rel l) hl hw' (s := 1) (fun _ => rfl)
  rw [List.length_map] at this
  rw [this]
  have hf := bytes_flat l
  rw [show (l.map fun b => Value.int .u8 b.toNat) = l.map byteV from rfl] at hf
  rw [hf]

theorem app_exact {t u ty e : TypeId} {i : TypeInfo} {du : TypeDesc} {z : Value} (ht : X.P.underlying t = some (.slice e)) (hu : X.P.underlying u = some du) (hdu : SrcD du) (hi : X.P.info? e = some i) (hz : i.zero = some z) (hzs : z.cells.size = 1) (hs1 : i.size = 1) (hby : i.bytes = 1)
    {v : Value} {l m : List UInt8} (hv : BufOk w e l v) {x : Value} (hlen : (Builtin.lenOf x).run X.P w = .ok m.length w) (hnew : ∀ w', w'.heap = w.heap → (Builtin.firstCells 1 m.length x).run X.P w' = .ok (m.map byteV).toArray w')
    (hb : l.length + m.length ≤ 140737488355328) :
    ∃ v' w', (Builtin.append_ #[t, u] ty #[v, x]).run X.P w = .ok v' w' ∧ BufOk w' e (l ++ m) v' ∧ BStep e v w v' w' := by
  have hnew0 := hnew w rfl
  have hnewd := hnew w.drew rfl
  rw [← hs1] at hnew0 hnewd
  have grow : ∀ (ad : Option Addr) (cap : Nat), v = .slice ad l.length cap → cap < l.length + m.length → (Builtin.firstCells i.size l.length (.slice ad l.length cap)).run X.P w.drew = .ok (l.map byteV).toArray w.drew →
      ∃ v' w', (Builtin.append_ #[t, u] ty #[v, x]).run X.P w = .ok v' w' ∧ BufOk w' e (l ++ m) v' ∧ BStep e v w v' w' := fun ad cap hve hcap hold => by
    have hrun := run_app_grows (X := X) (ty := ty) ht hu hdu hi hz (ad := ad) (sLen := l.length) (sCap := cap) (n := m.length) hlen hnewd hold hcap (by omega) (by rw [hby]; omega)
    have hge := grownCap_ge w (l.length + m.length) cap e
    have hcm := grownCap_le_maxLen w (l.length + m.length) cap e (by unfold maxLen; omega)
    generalize hc : grownCap w (l.length + m.length) cap e = c at *
    have hnewb : (w.drew.alloc (.cells (l.map byteV ++ m.map byteV ++ (Builtin.zeroCells z.cells (c - (l.length + m.length))).toList).toArray e)).heap[w.heap.size]? = some (.cells (l.map byteV ++ m.map byteV ++ (Builtin.zeroCells z.cells (c - (l.length + m.length))).toList).toArray e (0, 0)) := heap_alloc_new (w := w.drew)
    have hold' : ∀ k : Nat, k < w.heap.size → (w.drew.alloc (.cells (l.map byteV ++ m.map byteV ++ (Builtin.zeroCells z.cells (c - (l.length + m.length))).toList).toArray e)).heap[k]? = w.heap[k]? := fun k hk => heap_alloc_old (w := w.drew) hk
    refine ⟨_, _, by rw [hve]; exact hrun, .inr ⟨w.heap.size, c, _, (0, 0), by rw [List.length_append], hnewb, Nat.zero_le _, by rw [List.length_append]; exact hge, by simpa [maxLen] using hcm, ?_, ?_⟩, ⟨⟨rfl, rfl⟩, ?_, fun k hk _ => hold' k hk, fun k hk cur fz h => ⟨cur, (hold' k (Array.getElem?_eq_some_iff.1 h).1).trans h, rfl⟩, .inr ⟨w.heap.size, rfl, Nat.le_refl _⟩, fun k hk _ => ?_⟩⟩
    · simp only [List.size_toArray, List.length_append, List.length_map, size_zeroCells', hzs]
      omega
    · rw [List.toList_toArray, List.length_append, List.append_assoc, ← List.append_assoc, List.take_left' (by simp), List.map_append]
      rfl
    · show w.heap.size ≤ (w.heap.push _).size
      rw [Array.size_push]; omega
    · simp only [bufBlk, Option.some.injEq] at hk
      subst hk
      exact ⟨_, hnewb⟩
  rcases hv with ⟨rfl, rfl⟩ | ⟨g0, cap, cur, fz, rfl, hg, hfz, hnc, hcm, hcs, htk⟩
  · by_cases hm : m = []
    · subst hm
      have hrun := run_app_fits (X := X) (ty := ty) (ad := none) (sLen := 0) (sCap := 0) (n := 0) (news := []) (w' := w) ht hu hdu hi hlen hnew0 (by omega) (fun d h => nomatch h) (fun _ => rfl)
      exact ⟨_, _, hrun, .inl ⟨rfl, rfl⟩, ⟨⟨rfl, rfl⟩, Nat.le_refl _, fun _ _ _ => rfl, fun k hk => (by cases hk), .inl rfl, fun k hk => (by cases hk)⟩⟩
    · have hpos : 0 < m.length := List.length_pos_iff.2 hm
      refine grow none 0 rfl (by simpa using hpos) ?_
      have hld : ∀ d, (loadCells d 0).run X.P w.drew = .ok #[] w.drew := fun d => by simp [loadCells, loadCellsFrom]
      simp [Builtin.firstCells]
  · by_cases hfit : l.length + m.length ≤ cap
    · have hst := run_storeCells_cells (P := X.P) g0 l.length (m.map byteV) 0 w
        (fun j hj => by rw [Nat.add_zero, cell_of_heap hg (v := cur[l.length + j]'(by rw [List.length_map] at hj; omega)) (by rw [Array.getElem?_eq_getElem])]; rfl)
        (fun j hj => by
          rw [Nat.add_zero]
          simp only [World.frozen?, hg]
          by_cases h4 : fz.1 ≤ l.length + j <;> by_cases h5 : l.length + j < fz.2 <;> simp_all <;> omega) (fun u hu => bytes_one m u hu)
      rw [Nat.add_zero] at hst
      have hrun := run_app_fits (X := X) (ty := ty) (ad := some ⟨g0, 0, none⟩) (sLen := l.length) (sCap := cap) (n := m.length) (news := m.map byteV) (w' := w.setCells g0 l.length (m.map byteV)) ht hu hdu hi hlen hnew0 hfit
        (fun d hd => by cases hd; rw [hs1, Nat.mul_one, addr_add, Nat.zero_add]; exact hst) (fun h => nomatch h)
      have hsame := setCells_same g0 (m.map byteV) l.length w cur e fz hg
      refine ⟨_, _, hrun, .inr ⟨g0, cap, _, fz, by rw [List.length_append], hsame, by rw [List.length_append]; omega, by rw [List.length_append]; exact hfit, hcm, ?_, ?_⟩, ⟨setCells_io g0 _ _ w, by rw [setCells_size]; exact Nat.le_refl _, fun k _ hk => setCells_other g0 _ _ w k fun e => hk (by simp [bufBlk, e]), ?_, .inl rfl, fun k hk hlt => ?_⟩⟩
      · rw [size_setVs]; exact hcs
      · apply List.ext_getElem?
        intro k
        rw [List.getElem?_take, List.length_append]
        split
        · rename_i hk
          rw [Array.getElem?_toList, setVs_toList, List.length_map]
          split
          · rename_i h
            rw [List.getElem?_map, List.getElem?_map, List.getElem?_append_right h.1]
            rfl
          · rename_i h
            have hkl : k < l.length := by omega
            have h1 : (cur.toList.take l.length)[k]? = (l.map fun b => Value.int .u8 b.toNat)[k]? := by rw [htk]
            rw [List.getElem?_take, if_pos hkl, Array.getElem?_toList] at h1
            rw [h1, List.getElem?_map, List.getElem?_map, List.getElem?_append_left hkl]
        · rename_i hk
          rw [eq_comm, List.getElem?_eq_none]
          simp; omega
      · intro k hk cur2 fz2 h
        simp only [bufBlk, Option.some.injEq] at hk
        subst hk
        rw [hg] at h
        cases h
        exact ⟨_, hsame, size_setVs _ _ _⟩
      · simp only [bufBlk, Option.some.injEq] at hk
        subst hk
        have := (Array.getElem?_eq_some_iff.1 hg).1
        omega
    · refine grow _ _ rfl (by omega) ?_
      rw [hs1]
      exact old_bytes hg htk (by omega) rfl
end
end Go.Avm

/- A builder's methods: what they leave, to the block. -/
set_option linter.unusedVariables false
namespace Go.Avm
open Go Go.Proofs Go.Shelf Go.RowKit
section
variable {P : Program} {ρ : Ren}

/-- What a call of a builder's method leaves of the world. -/
structure BPost (T e : TypeId) (b : Nat) (v : Value) (w : World) (l : List UInt8) (w' : World) : Prop where
  io : w'.os = w.os ∧ w'.output = w.output
  size : w.heap.size ≤ w'.heap.size
  other : ∀ k : Nat, k < w.heap.size → k ≠ b → bufBlk v ≠ some k → w'.heap[k]? = w.heap[k]?
  shape : ∀ k : Nat, bufBlk v = some k → ∀ (cur : Array Value) fz, w.heap[k]? = some (.cells cur e fz) → ∃ cur' : Array Value, w'.heap[k]? = some (.cells cur' e fz) ∧ cur'.size = cur.size
  bld : ∃ p v', w'.heap[b]? = some (.cells #[p, v'] T (0, 0)) ∧ (p = .pointer none ∨ p = .pointer (some ⟨b, 0, none⟩)) ∧ BufOk w' e l v' ∧ (bufBlk v' = bufBlk v ∨ ∃ k, bufBlk v' = some k ∧ w.heap.size ≤ k) ∧ ∀ k, bufBlk v' = some k → w.heap.size ≤ k → ∃ cur : Array Value, w'.heap[k]? = some (.cells cur e (0, 0))

theorem buf_ne {T e : TypeId} {w : World} {b : Nat} {cs : Array Value} {l : List UInt8} {v : Value} (hb : w.heap[b]? = some (.cells cs T (0, 0))) (hv : BufOk w e l v) (hTe : T ≠ e) : bufBlk v ≠ some b := by
  rcases hv with ⟨rfl, _⟩ | ⟨g0, cap, cur, fz, rfl, hg, _⟩
  · simp [bufBlk]
  · intro h
    simp only [bufBlk, Option.some.injEq] at h
    subst h
    rw [hg] at hb
    cases hb
    exact hTe rfl

theorem buf_lt {e : TypeId} {w : World} {l : List UInt8} {v : Value} (hv : BufOk w e l v) {k : Nat} (hk : bufBlk v = some k) : k < w.heap.size := by
  rcases hv with ⟨rfl, _⟩ | ⟨g0, cap, cur, fz, rfl, hg, _⟩
  · cases hk
  · simp only [bufBlk, Option.some.injEq] at hk
    subst hk
    exact (Array.getElem?_eq_some_iff.1 hg).1

theorem heap_setCell_same {w : World} {b j : Nat} {cs : Array Value} {T : TypeId} {fz : Nat × Nat} (hb : w.heap[b]? = some (.cells cs T fz)) (v : Value) : (w.setCell ⟨b, j, none⟩ v).heap[b]? = some (.cells (cs.setIfInBounds j v) T fz) := by
  simp [World.setCell, Array.getElem?_modify, hb]
theorem heap_setCell_ne {w : World} {b j k : Nat} (h : k ≠ b) (v : Value) : (w.setCell ⟨b, j, none⟩ v).heap[k]? = w.heap[k]? :=
  Below.heap_setCell _ _ _ _ h

/-- copyCheck: the builder's own address stands in it; nothing else turns. -/
theorem b_copy (L : Lays.n240 P ρ) (X : Builder.X72 P ρ) {b : Nat} {p v : Value} {w : World} (hb : w.heap[b]? = some (.cells #[p, v] (ρ.t 72) (0, 0))) (hp : p = .pointer none ∨ p = .pointer (some ⟨b, 0, none⟩)) :
    Calls P (ρ.f 240) #[.pointer (some ⟨b, 0, none⟩)] w fun e w' => e = .returned (.tuple #[]) ∧ w'.heap[b]? = some (.cells #[.pointer (some ⟨b, 0, none⟩), v] (ρ.t 72) (0, 0)) ∧ (∀ k, k ≠ b → w'.heap[k]? = w.heap[k]?) ∧ w.heap.size ≤ w'.heap.size ∧ w'.os = w.os ∧ w'.output = w.output := by
  have c0 : w.cell? ⟨b, 0, none⟩ = some p := by simp [World.cell?, hb]
  rcases hp with rfl | rfl
  · refine (Any.Builder_copyCheck_fresh L X b w c0 (by simp [World.shape?, hb]) (by simp [World.frozen?, hb])).mono ?_
    rintro e w' ⟨rfl, rfl⟩
    exact ⟨rfl, by rw [heap_setCell_same hb]; rfl, fun k hk => heap_setCell_ne hk _, by simp [World.setCell], (setCell_io w _ _).1, (setCell_io w _ _).2⟩
  · refine (Any.Builder_copyCheck_used L X b w c0).mono ?_
    rintro e w' ⟨rfl, rfl⟩
    exact ⟨rfl, hb, fun _ _ => rfl, Nat.le_refl _, rfl, rfl⟩

theorem wpList_app {ops : Array Oper} {rest : List Oper} {o : Oper} {a : Act} {w : World} {Q : Exit → Act → World → Prop} (hgd : o.guard = none) (sl x : Operand) (t u : TypeId)
    (ho : o.op = .call { callee := .builtin .append, args := #[sl, x], argTypes := #[t, u] }) {v1 v2 : Value} (h1 : a.eval sl = v1) (h2 : a.eval x = v2) {v' : Value} {w' : World} (hr : (Builtin.append_ #[t, u] o.type #[v1, v2]).run P w = .ok v' w')
    (h : wpList P ops Q rest (a.put o.dst v') w') : wpList P ops Q (o :: rest) a w := by
  refine wpList_plain hgd fun K hK => ?_
  unfold Oper.wp execOp
  simp only [ho, resolve, invoke, builtin, Sem.run_bind, Sem.run_pure, Result.andThen_ok, List.map_toArray, List.map_cons, List.map_nil, h1, h2, hr]
  exact hK _ _ h

/-- The store of the new buffer. -/
theorem bpost_put {T e : TypeId} {b : Nat} {v v' : Value} {w w1 w2 : World} {l : List UInt8} (hTe : T ≠ e) (h1b : w1.heap[b]? = some (.cells #[.pointer (some ⟨b, 0, none⟩), v] T (0, 0))) (h1 : ∀ k, k < w.heap.size → k ≠ b → w1.heap[k]? = w.heap[k]?) (h1s : w.heap.size ≤ w1.heap.size) (h1o : w1.os = w.os ∧ w1.output = w.output)
    (hbv : bufBlk v ≠ some b) (hvl : ∀ k, bufBlk v = some k → k < w.heap.size) (hs : BStep e v w1 v' w2) (hok : BufOk w2 e l v') : BPost T e b v w l (w2.setCell ⟨b, 1, none⟩ v') := by
  have hblt : b < w1.heap.size := (Array.getElem?_eq_some_iff.1 h1b).1
  have hb2 : w2.heap[b]? = some (.cells #[.pointer (some ⟨b, 0, none⟩), v] T (0, 0)) := (hs.other b hblt hbv).trans h1b
  have hne := buf_ne hb2 hok hTe
  refine ⟨?_, ?_, fun k hk hkb hkv => ?_, fun k hk cur fz hc => ?_, ⟨_, v', by rw [heap_setCell_same hb2]; rfl, .inr rfl, hok.keep fun g0 hg => heap_setCell_ne (fun e => hne (by rw [← e]; exact hg)) _, ?_, fun k hk hle => ?_⟩⟩
  · have := setCell_io w2 ⟨b, 1, none⟩ v'
    exact ⟨this.1.trans (hs.io.1.trans h1o.1), this.2.trans (hs.io.2.trans h1o.2)⟩
  · have : (w2.setCell ⟨b, 1, none⟩ v').heap.size = w2.heap.size := by simp [World.setCell]
    rw [this]
    have := hs.size
    omega
  · rw [heap_setCell_ne hkb]
    exact (hs.other k (by omega) hkv).trans (h1 k hk hkb)
  · have hkb : k ≠ b := fun e => hbv (by rw [← e]; exact hk)
    obtain ⟨cur', h2, h3⟩ := hs.shape k hk cur fz ((h1 k (hvl k hk) hkb).trans hc)
    exact ⟨cur', by rw [heap_setCell_ne hkb]; exact h2, h3⟩
  · rcases hs.own with h | ⟨k, h, hle⟩
    · exact .inl h
    · exact .inr ⟨k, h, by omega⟩
  · have hkb : k ≠ b := fun e => hne (by rw [← e]; exact hk)
    have hle1 : w1.heap.size ≤ k := by
      rcases hs.own with h | ⟨k', h, hle'⟩
      · have := hvl k (h ▸ hk); omega
      · rw [hk] at h; cases h; exact hle'
    obtain ⟨cur, h2⟩ := hs.fresh k hk hle1
    exact ⟨cur, by rw [heap_setCell_ne hkb]; exact h2⟩

set_option maxHeartbeats 2000000 in
set_option maxRecDepth 100000 in
theorem b_WriteString {C : Cx} (hC : C.P = P) (L : Lays.n166 P ρ) (X : Builder.Extra P ρ) {b : Nat} {p v : Value} {w : World} {l : List UInt8} (s : ByteArray) (hb : w.heap[b]? = some (.cells #[p, v] (ρ.t 72) (0, 0))) (hp : p = .pointer none ∨ p = .pointer (some ⟨b, 0, none⟩)) (hv : BufOk w (ρ.t 5) l v)
    (hlen : l.length + s.size ≤ 140737488355328) :
    Calls P (ρ.f 166) #[.pointer (some ⟨b, 0, none⟩), .string s] w fun e w' => e = .returned (.tuple #[.int .i64 s.size, .nilIface]) ∧ BPost (ρ.t 72) (ρ.t 5) b v w (l ++ s.data.toList) w' := by
  subst hC
  obtain ⟨i0, hi, hz0, hz1, hz2⟩ := info_parts X.infoByte
  have mixed := L.mixed
  have t72 := L.t72; have a72 := L.a72; have z72 := L.z72; have v72 := L.v72; have u72 := run_underlying L.t72
  have t70 := L.t70; have a70 := L.a70; have z70 := L.z70; have v70 := L.v70; have u70 := run_underlying L.t70
  have t37 := L.t37; have a37 := L.a37; have z37 := L.z37; have v37 := L.v37; have u37 := run_underlying L.t37
  have t3 := L.t3; have a3 := L.a3; have z3 := L.z3; have v3 := L.v3; have u3 := run_underlying L.t3
  have t9 := L.t9; have a9 := L.a9; have z9 := L.z9; have v9 := L.v9; have u9 := run_underlying L.t9
  have e240 : ∀ args w, (callFunc (ρ.f 240) args).run C.P w = .ok (.enter (ρ.f 240) args) w := enters_of L.f240 (by kernel_rfl) rfl
  have hbv := buf_ne hb hv X.neB5
  go_enter L.f166, Body.n166_ntmps ρ
  go_wp2_with (go_at_fn (ρ.f 240); refine (b_copy { L with } X.toX72 hb hp).mono ?_)
  rintro e w1 ⟨rfl, h1b, h1k, h1s, h1o⟩
  have hv1 : BufOk w1 (ρ.t 5) l v := hv.keep fun g0 hg => h1k g0 fun e => hbv (by rw [← e]; exact hg)
  have c1 : w1.cell? ⟨b, 1, none⟩ = some v := by simp [World.cell?, h1b]
  obtain ⟨v', w2, hrun, hok, hst⟩ := app_exact (X := C) (w := w1) (t := ρ.t 37) (u := ρ.t 9) (ty := ρ.t 37) L.t37 L.t9 (.inr rfl) hi hz0 rfl hz1 hz2 hv1 (m := s.data.toList) (x := .string s) (by simp [Builtin.lenOf])
    (fun w' _ => by
      have := Lib.run_firstCells_string (P := C.P) w' 1 s
      have h : s.data.toList.length = s.size := by simp
      rw [h]
      exact this) (by simpa using hlen)
  have hblt : b < w1.heap.size := (Array.getElem?_eq_some_iff.1 h1b).1
  have hb2 : w2.heap[b]? = some (.cells #[.pointer (some ⟨b, 0, none⟩), v] (ρ.t 72) (0, 0)) := (hst.other b hblt hbv).trans h1b
  have d1 : w2.cell? ⟨b, 1, none⟩ = some v := by simp [World.cell?, hb2]
  have f1 : w2.frozen? ⟨b, 1, none⟩ = false := by simp [World.frozen?, hb2]
  have hvs : ∃ ao n' cap, v' = .slice ao n' cap := by
    rcases hok with ⟨h, _⟩ | ⟨_, _, _, _, h, _⟩
    · exact ⟨_, _, _, h⟩
    · exact ⟨_, _, _, h⟩
  have fin := bpost_put X.neB5 h1b (fun k _ hk => h1k k hk) (by omega) h1o hbv (fun k hk => buf_lt hv hk) hst hok
  obtain ⟨ao, n', cap, rfl⟩ := hvs
  go_wp2_with (at_builtin; refine wpList_app (v1 := v) (v2 := .string s) rfl _ _ (ρ.t 37) (ρ.t 9) rfl rfl rfl hrun ?_)
  go_ret2
  exact ⟨rfl, fin⟩

set_option maxHeartbeats 2000000 in
set_option maxRecDepth 100000 in
theorem b_WriteByte {C : Cx} (hC : C.P = P) (L : Lays.n167 P ρ) (X : Builder.Extra P ρ) {b : Nat} {p v : Value} {w : World} {l : List UInt8} (c : UInt8) (hb : w.heap[b]? = some (.cells #[p, v] (ρ.t 72) (0, 0))) (hp : p = .pointer none ∨ p = .pointer (some ⟨b, 0, none⟩)) (hv : BufOk w (ρ.t 5) l v)
    (hlen : l.length + 1 ≤ 140737488355328) :
    Calls P (ρ.f 167) #[.pointer (some ⟨b, 0, none⟩), .int .u8 c.toNat] w fun e w' => e = .returned .nilIface ∧ BPost (ρ.t 72) (ρ.t 5) b v w (l ++ [c]) w' := by
  subst hC
  obtain ⟨i0, hi, hz0, hz1, hz2⟩ := info_parts X.infoByte
  have mixed := L.mixed
  have t72 := L.t72; have a72 := L.a72; have z72 := L.z72; have v72 := L.v72; have u72 := run_underlying L.t72
  have t70 := L.t70; have a70 := L.a70; have z70 := L.z70; have v70 := L.v70; have u70 := run_underlying L.t70
  have t5 := L.t5; have a5 := L.a5; have z5 := L.z5; have v5 := L.v5; have u5 := run_underlying L.t5
  have t37 := L.t37; have a37 := L.a37; have z37 := L.z37; have v37 := L.v37; have u37 := run_underlying L.t37
  have e240 : ∀ args w, (callFunc (ρ.f 240) args).run C.P w = .ok (.enter (ρ.f 240) args) w := enters_of L.f240 (by kernel_rfl) rfl
  have hbv := buf_ne hb hv X.neB5
  go_enter L.f167, Body.n167_ntmps ρ
  go_wp2_with (go_at_fn (ρ.f 240); refine (b_copy { L with } X.toX72 hb hp).mono ?_)
  rintro e w1 ⟨rfl, h1b, h1k, h1s, h1o⟩
  have hblt0 : b < w1.heap.size := (Array.getElem?_eq_some_iff.1 h1b).1
  have hold : ∀ k : Nat, k < w1.heap.size → (w1.alloc (.cells #[.int .u8 c.toNat] (ρ.t 5))).heap[k]? = w1.heap[k]? := fun k hk => heap_alloc_old hk
  have hnew : (w1.alloc (.cells #[.int .u8 c.toNat] (ρ.t 5))).heap[w1.heap.size]? = some (.cells #[.int .u8 c.toNat] (ρ.t 5) (0, 0)) := heap_alloc_new
  have hsz : (w1.alloc (.cells #[.int .u8 c.toNat] (ρ.t 5))).heap.size = w1.heap.size + 1 := by show (w1.heap.push _).size = _; rw [Array.size_push]
  have hv1 : BufOk w1 (ρ.t 5) l v := hv.keep fun g0 hg => h1k g0 fun e => hbv (by rw [← e]; exact hg)
  have hv2 : BufOk (w1.alloc (.cells #[.int .u8 c.toNat] (ρ.t 5))) (ρ.t 5) l v := hv1.keep fun g0 hg => hold g0 (buf_lt hv1 hg)
  have c1 : w1.cell? ⟨b, 1, none⟩ = some v := by simp [World.cell?, h1b]
  have h2b := (hold b hblt0).trans h1b
  obtain ⟨v', w2, hrun, hok, hst⟩ := app_exact (X := C) (w := w1.alloc (.cells #[.int .u8 c.toNat] (ρ.t 5))) (t := ρ.t 37) (u := ρ.t 37) (ty := ρ.t 37) L.t37 L.t37 (.inl ⟨_, rfl⟩) hi hz0 rfl hz1 hz2 hv2 (m := [c]) (x := .slice (some ⟨w1.heap.size, 0, none⟩) 1 1) (by simp [Builtin.lenOf])
    (fun w' hw' => by
      have := old_bytes (X := C) (e := ρ.t 5) (l := [c]) (g0 := w1.heap.size) (cap := 1) hnew rfl (by simp) hw'
      exact this) (by simpa using hlen)
  have hblt : b < (w1.alloc (.cells #[.int .u8 c.toNat] (ρ.t 5))).heap.size := by rw [hsz]; omega
  have hb2 : w2.heap[b]? = some (.cells #[.pointer (some ⟨b, 0, none⟩), v] (ρ.t 72) (0, 0)) := (hst.other b hblt hbv).trans h2b
  have d1 : w2.cell? ⟨b, 1, none⟩ = some v := by simp [World.cell?, hb2]
  have f1 : w2.frozen? ⟨b, 1, none⟩ = false := by simp [World.frozen?, hb2]
  have hvs : ∃ ao n' cap, v' = .slice ao n' cap := by
    rcases hok with ⟨h, _⟩ | ⟨_, _, _, _, h, _⟩
    · exact ⟨_, _, _, h⟩
    · exact ⟨_, _, _, h⟩
  have fin := bpost_put (w := w) X.neB5 h2b (fun k hk hkb => (hold k (by omega)).trans (h1k k hkb)) (by omega) h1o hbv (fun k hk => buf_lt hv hk) hst hok
  obtain ⟨ao, n', cap, rfl⟩ := hvs
  go_wp2_with (at_builtin; refine wpList_app (v1 := v) (v2 := .slice (some ⟨w1.heap.size, 0, none⟩) 1 1) rfl _ _ (ρ.t 37) (ρ.t 37) rfl rfl rfl hrun ?_)
  go_ret
  exact ⟨rfl, fin⟩

/-- What String leaves: the row's head is frozen, or nothing has turned. -/
structure SPost (e : TypeId) (v : Value) (w w' : World) : Prop where
  io : w'.os = w.os ∧ w'.output = w.output
  size : w.heap.size ≤ w'.heap.size
  other : ∀ k : Nat, k < w.heap.size → bufBlk v ≠ some k → w'.heap[k]? = w.heap[k]?
  shape : ∀ k : Nat, bufBlk v = some k → ∀ (cur : Array Value) fz, w.heap[k]? = some (.cells cur e fz) → ∃ fz', w'.heap[k]? = some (.cells cur e fz')

set_option maxHeartbeats 2000000 in
set_option maxRecDepth 100000 in
theorem b_String (L : Lays.n169 P ρ) (X : Builder.Extra P ρ) {b : Nat} {p v : Value} {w : World} {l : List UInt8} (hb : w.heap[b]? = some (.cells #[p, v] (ρ.t 72) (0, 0))) (hv : BufOk w (ρ.t 5) l v) (h0 : l ≠ []) :
    Calls P (ρ.f 169) #[.pointer (some ⟨b, 0, none⟩)] w fun e w' => e = .returned (.string ⟨l.toArray⟩) ∧ SPost (ρ.t 5) v w w' := by
  have hl0 : l.length ≠ 0 := by simpa using h0
  rcases hv with ⟨_, h⟩ | ⟨g, cap, cur, fz, rfl, hg, hfz, hnc, hcm, hcs, htk⟩
  · exact absurd h h0
  have c1 : w.drew.cell? ⟨b, 1, none⟩ = some (.slice (some ⟨g, 0, none⟩) l.length cap) := by
    have : w.drew.heap[b]? = some (.cells #[p, .slice (some ⟨g, 0, none⟩) l.length cap] (ρ.t 72) (0, 0)) := hb
    simp [World.cell?, this]
  have hgd : w.drew.heap[g]? = some (.cells cur (ρ.t 5) fz) := hg
  have hSD : (Builtin.unsafeSliceData_ #[(ρ.t 37)] (ρ.t 127) #[.slice (some ⟨g, 0, none⟩) l.length cap]).run P w.drew = .ok (.pointer (some ⟨g, 0, none⟩)) w.drew :=
    Lib.run_unsafeSliceData_row _ _ _ _ _ _ (by omega)
  have hUS : (Builtin.unsafeString_ #[(ρ.t 127), (ρ.t 3)] (ρ.t 9) #[.pointer (some ⟨g, 0, none⟩), .int .i64 l.length]).run P w.drew = .ok (.string ⟨l.toArray⟩) (w.drew.freeze ⟨g, 0, none⟩ l.length) := by
    refine Lib.run_unsafeString_row w.drew (ρ.t 127) (ρ.t 3) (ρ.t 9) (ρ.t 5) L.t127 X.cellsByte g cur.size (by simp [World.shape?, hgd]) l h0 (by omega) (by omega) ?_
    intro j x hx
    have hj : j < l.length := by
      rcases Nat.lt_or_ge j l.length with h | h
      · exact h
      · rw [List.getElem?_eq_none h] at hx; cases hx
    have h1 : (cur.toList.take l.length)[j]? = some (.int .u8 x.toNat) := by rw [htk, List.getElem?_map, hx]; rfl
    rw [List.getElem?_take, if_pos hj] at h1
    have ha : (⟨g, 0, none⟩ : Addr).add j = ⟨g, j, none⟩ := by simp [Addr.add]; omega
    rw [ha]
    simp only [World.cell?, hgd]
    simpa using h1
  have fin : SPost (ρ.t 5) (.slice (some ⟨g, 0, none⟩) l.length cap) w (w.drew.freeze ⟨g, 0, none⟩ l.length) := by
    refine ⟨?_, ?_, fun k _ hk => ?_, fun k hk cur2 fz2 h => ?_⟩
    · unfold World.freeze; split <;> exact ⟨rfl, rfl⟩
    · have : (w.drew.freeze ⟨g, 0, none⟩ l.length).heap.size = w.heap.size := by
        unfold World.freeze; rw [if_neg hl0]; simp
      omega
    · unfold World.freeze
      rw [if_neg hl0]
      simp only [Array.getElem?_modify]
      rw [if_neg (fun e => hk (by simp [bufBlk, e]))]
      rfl
    · simp only [bufBlk, Option.some.injEq] at hk
      subst hk
      unfold World.freeze
      rw [if_neg hl0]
      simp only [Array.getElem?_modify, if_true]
      rw [show w.drew.heap[g]? = some (.cells cur2 (ρ.t 5) fz2) from h]
      exact ⟨_, rfl⟩
  have mixed := L.mixed
  have t72 := L.t72; have a72 := L.a72; have z72 := L.z72; have v72 := L.v72; have u72 := run_underlying L.t72
  have t70 := L.t70; have a70 := L.a70; have z70 := L.z70; have v70 := L.v70; have u70 := run_underlying L.t70
  have t37 := L.t37; have a37 := L.a37; have z37 := L.z37; have v37 := L.v37; have u37 := run_underlying L.t37
  have t127 := L.t127; have a127 := L.a127; have z127 := L.z127; have v127 := L.v127; have u127 := run_underlying L.t127
  have t3 := L.t3; have a3 := L.a3; have z3 := L.z3; have v3 := L.v3; have u3 := run_underlying L.t3
  have t9 := L.t9; have a9 := L.a9; have z9 := L.z9; have v9 := L.v9; have u9 := run_underlying L.t9
  have t5 := X.t5; have a5 := X.a5; have z5 := X.z5; have v5 := X.v5; have u5 := run_underlying X.t5
  go_enter L.f169, Body.n169_ntmps ρ
  go_wp2
  go_region_o
  all_goals (go_wp2; go_ret; exact ⟨rfl, fin⟩)
end
end Go.Avm

/- A builder's methods as contracts. -/
namespace Go.Avm
open Go Go.Proofs Go.Shelf
section
variable {X : Cx} {g : Gh} {w w' : World} {H : Heap}
/-- The ghost behind a builder's step. -/
def ghB (g : Gh) (i : Nat) (nt : Option (Nat × Nat × Nat)) : Gh := { g with tk := fun j => if j = i then nt else g.tk j, tl := fun j => if j = i then (g.tl i).map (· + 1) else g.tl j }

theorem good_bld {i b T e : Nat} {p v : Value} {y : Blk} {nt : Option (Nat × Nat × Nat)} (hwf : Wf X.G g w) (hhr : HR g w H) (hi : i < H.length) (hbx : g.bx i = some b) (hb : w.heap[b]? = some (.cells #[p, v] T (0, 0)))
    (hbv : bufBlk v ≠ some b) (hvl : ∀ k, bufBlk v = some k → (∃ cur fz, w.heap[k]? = some (.cells cur e fz)) ∧ ∃ hi, g.tk i = some (k, 0, hi))
    (hio : w'.os = w.os ∧ w'.output = w.output) (hsz : w.heap.size ≤ w'.heap.size) (hot : ∀ k : Nat, k < w.heap.size → k ≠ b → bufBlk v ≠ some k → w'.heap[k]? = w.heap[k]?)
    (hsb : ∃ vs' : Array Value, w'.heap[b]? = some (.cells vs' T (0, 0)) ∧ vs'.size = 2)
    (hsg : ∀ k : Nat, bufBlk v = some k → ∀ (cur : Array Value) fz, w.heap[k]? = some (.cells cur e fz) → ∃ (cur' : Array Value) (fz' : Nat × Nat), w'.heap[k]? = some (.cells cur' e fz') ∧ cur'.size = cur.size)
    (hnt : nt = none ∨ (nt = g.tk i ∧ bufBlk v = none) ∨ (nt = g.tk i ∧ ∀ k, bufBlk v = some k → ∀ (cur : Array Value) fz, w.heap[k]? = some (.cells cur e fz) → ∃ cur' : Array Value, w'.heap[k]? = some (.cells cur' e fz) ∧ cur'.size = cur.size) ∨ ∃ k, nt = some (k, 0, 0) ∧ w.heap.size ≤ k ∧ ∃ cur : Array Value, w'.heap[k]? = some (.cells cur e (0, 0)))
    (hy : BlkOk (ghB g i nt) w' i y) : Good X g w H (ghB g i nt) w' (H.set i y) := by
  -- what is not of the builder has not turned
  have hkeep : ∀ k o, k < w.heap.size → ¬ g.owns k o → w'.heap[k]? = w.heap[k]? := fun k o hk hno =>
    hot k hk (fun e => hno (.inl ⟨i, e ▸ hbx⟩)) fun e => by
      obtain ⟨_, hi', h⟩ := hvl k e
      exact hno (.inr ⟨i, 0, hi', h, Nat.zero_le _⟩)
  have hbx' : ∀ j c, j ≠ i → g.bx j = some c → w'.heap[c]? = w.heap[c]? := fun j c hj hc =>
    hot c (hwf.lt_bx hc) (fun e => hj (hwf.inj j i c hc (e ▸ hbx))) fun e => by
      obtain ⟨_, hi', h⟩ := hvl c e
      exact hwf.apart j i c 0 hi' hc h
  have htk' : ∀ j c lo hi', j ≠ i → g.tk j = some (c, lo, hi') → w'.heap[c]? = w.heap[c]? := fun j c lo hi' hj hc =>
    hot c (hwf.lt_tk hc) (fun e => hwf.apart i j b lo hi' hbx (e ▸ hc)) fun e => by
      obtain ⟨_, hi2, h⟩ := hvl c e
      exact hj (hwf.tinj j i c lo hi' 0 hi2 hc h)
  have hm : Mono g w (ghB g i nt) w' := by
    refine ⟨fun c o h => ⟨h, ?_⟩, fun _ _ h => h, fun j n h => ?_⟩
    · obtain ⟨⟨vs, e', fz, h1, _⟩, h2⟩ := hwf.S c o h
      simp only [World.cell?, hkeep c o (hwf.lt_S h) h2]
    · by_cases hj : j = i
      · subst hj
        exact ⟨n + 1, by simp [ghB, h], .inr (by omega)⟩
      · exact ⟨n, by simp [ghB, hj, h], .inl ⟨rfl, by simp [ghB, hj]⟩⟩
  have hsh : ∀ (c : Nat) (vs : Array Value) e' fz, w.heap[c]? = some (Obj.cells vs e' fz) → ∃ (vs' : Array Value) (fz' : Nat × Nat), w'.heap[c]? = some (Obj.cells vs' e' fz') ∧ vs'.size = vs.size ∧ (fz' = fz ∨ ∃ o, g.owns c o) := fun c vs e' fz h => by
    by_cases hc : c = b
    · subst hc
      rw [hb] at h
      cases h
      obtain ⟨vs', h1, h2⟩ := hsb
      exact ⟨vs', _, h1, h2, .inl rfl⟩
    · by_cases hv : bufBlk v = some c
      · obtain ⟨⟨cur, fz2, h1⟩, hi', h2⟩ := hvl c hv
        rw [h1] at h
        cases h
        obtain ⟨cur', fz', h3, h4⟩ := hsg c hv _ _ h1
        exact ⟨cur', fz', h3, h4, .inr ⟨0, .inr ⟨i, 0, hi', h2, Nat.le_refl _⟩⟩⟩
      · exact ⟨vs, fz, (hot c (Array.getElem?_eq_some_iff.1 h).1 hc hv).trans h, rfl, .inl rfl⟩
  -- whose cells the new ghost owns
  have hntb : ∀ c lo hi', nt = some (c, lo, hi') → g.tk i = some (c, lo, hi') ∨ w.heap.size ≤ c := fun c lo hi' h => by
    rcases hnt with h1 | ⟨h1, _⟩ | ⟨h1, _⟩ | ⟨k, h1, h2, _⟩
    · rw [h1] at h; cases h
    · exact .inl (h1 ▸ h)
    · exact .inl (h1 ▸ h)
    · rw [h1] at h; cases h; exact .inr h2
  have htkc : ∀ j c lo hi', (ghB g i nt).tk j = some (c, lo, hi') → g.tk j = some (c, lo, hi') ∨ (j = i ∧ w.heap.size ≤ c) := fun j c lo hi' h => by
    by_cases hj : j = i
    · subst hj
      simp only [ghB, if_true] at h
      rcases hntb c lo hi' h with h1 | h1
      · exact .inl h1
      · exact .inr ⟨rfl, h1⟩
    · simp only [ghB, if_neg hj] at h
      exact .inl h
  have hown : ∀ c o, (ghB g i nt).owns c o → w.heap.size ≤ c ∨ g.owns c o := fun c o h => by
    rcases h with ⟨j, hj⟩ | ⟨j, lo, hi', hj, hlo⟩
    · exact .inr (.inl ⟨j, hj⟩)
    · rcases htkc j c lo hi' hj with h1 | ⟨_, h1⟩
      · exact .inr (.inr ⟨j, lo, hi', h1, hlo⟩)
      · exact .inl h1
  refine ⟨⟨fun c o h => ?_, hwf.inj, fun j k c lo hi1 lo' hi2 h1 h2 => ?_, fun j k c lo hi' h1 h2 => ?_, fun j c h => ?_, fun j c lo hi' h => ?_, fun x cs hx => Rel.mono _ hm (hwf.laid x cs hx), ex_shape hwf.ex fun b vs e fz h => by
    obtain ⟨vs', fz', h1, h2, _⟩ := hsh b vs e fz h
    exact ⟨vs', fz', h1, h2⟩⟩, ⟨fun j x hx => ?_, fun j hj => ?_⟩, hm,
    ⟨hsz, fun _ _ h => h, fun _ _ h => .inl h, fun c o hc hno => by simp only [World.cell?, hkeep c o hc hno], fun c hc hno => hkeep c 0 hc (hno 0), hsh, hown, hio⟩⟩
  · obtain ⟨⟨vs, e', fz, h1, h2⟩, h3⟩ := hwf.S c o h
    have hlt := hwf.lt_S h
    refine ⟨⟨vs, e', fz, (hkeep c o hlt h3).trans h1, h2⟩, fun ho => ?_⟩
    rcases hown c o ho with h4 | h4
    · omega
    · exact h3 h4
  · rcases htkc j c lo hi1 h1 with h3 | ⟨h3, h4⟩ <;> rcases htkc k c lo' hi2 h2 with h5 | ⟨h5, h6⟩
    · exact hwf.tinj j k c lo hi1 lo' hi2 h3 h5
    · have := hwf.lt_tk h3; omega
    · have := hwf.lt_tk h5; omega
    · rw [h3, h5]
  · rcases htkc k c lo hi' h2 with h3 | ⟨_, h3⟩
    · exact hwf.apart j k c lo hi' h1 h3
    · have := hwf.lt_bx h1; omega
  · have hlt := hwf.lt_bx h
    refine ⟨by omega, fun vs e' lo hi' hc => ?_⟩
    by_cases hj : j = i
    · subst hj
      have h0 : g.bx j = some c := h
      rw [hbx] at h0
      cases h0
      obtain ⟨vs', h1, h2⟩ := hsb
      rw [h1] at hc
      cases hc
      intro o _ ho
      omega
    · rw [hbx' j c hj h] at hc
      exact (hwf.bx j c h).2 _ _ _ _ hc
  · by_cases hj : j = i
    · subst hj
      simp only [ghB, if_true] at h
      rcases hnt with h1 | ⟨h1, h0⟩ | ⟨h1, h2⟩ | ⟨k, h1, h2, cur, h3⟩
      · rw [h1] at h; cases h
      · rw [h1] at h
        obtain ⟨vs, e', fl, fh, h3, h4, h5⟩ := hwf.tk j c lo hi' h
        have hcb : c ≠ b := fun e => hwf.apart j j b lo hi' hbx (e ▸ h)
        exact ⟨vs, e', fl, fh, (hot c (hwf.lt_tk h) hcb (by rw [h0]; simp)).trans h3, h4, h5⟩
      · rw [h1] at h
        obtain ⟨vs, e', fl, fh, h3, h4, h5⟩ := hwf.tk j c lo hi' h
        have hcb : c ≠ b := fun e => hwf.apart j j b lo hi' hbx (e ▸ h)
        by_cases hv : bufBlk v = some c
        · obtain ⟨⟨cur0, fz0, h6⟩, _⟩ := hvl c hv
          rw [h6] at h3
          cases h3
          obtain ⟨cur', h7, h8⟩ := h2 c hv _ _ h6
          exact ⟨cur', _, fl, fh, h7, by omega, fun o h9 h10 => h5 o h9 (by omega)⟩
        · exact ⟨vs, e', fl, fh, (hot c (hwf.lt_tk h) hcb hv).trans h3, h4, h5⟩
      · rw [h1] at h
        cases h
        exact ⟨cur, e, 0, 0, h3, Nat.zero_le _, fun o _ _ h4 => by omega⟩
    · simp only [ghB, if_neg hj] at h
      obtain ⟨vs, e', fl, fh, h3, h4, h5⟩ := hwf.tk j c lo hi' h
      exact ⟨vs, e', fl, fh, (htk' j c lo hi' hj h).trans h3, h4, h5⟩
  · rw [List.getElem?_set] at hx
    split at hx
    · rename_i hij
      subst hij
      first | rw [if_pos hi] at hx | skip
      cases hx
      exact hy
    · rename_i hij
      have hj : j ≠ i := fun e => hij e.symm
      exact (hhr.blk j x hx).mono hm (fun c hc => hbx' j c hj hc) (fun n hn => by simp [ghB, hj, hn]) (fun c lo hi' hc => ⟨by simp [ghB, hj, hc], htk' j c lo hi' hj hc⟩)
  · have hj' : H.length ≤ j := by simpa using hj
    obtain ⟨f1, f2, f3⟩ := hhr.far j hj'
    have hji : j ≠ i := by omega
    exact ⟨f1, by simp [ghB, hji, f2], by simp [ghB, hji, f3]⟩

/-- A writing method, as a contract. -/
theorem evM_bpost {f : Nat} {i T e : Nat} {l l' : List UInt8} {args : List AV} {r : AV} (hbody : HasBody X f) (hTe : T ≠ e) (hH : H[i]? = some (.bld T e l))
    (run : ∀ g w vs b p v, Wf X.G g w → HR g w H → RelL (.ptr i 0 :: args) g w vs → g.bx i = some b → w.heap[b]? = some (.cells #[p, v] T (0, 0)) → (p = .pointer none ∨ p = .pointer (some ⟨b, 0, none⟩)) → BufOk w e l v →
      Calls X.P f vs.toArray w fun en w' => ∃ u, en = .returned u ∧ (∀ g', Rel r g' w' u) ∧ BPost T e b v w l' w') :
    EvM X f (.ptr i 0 :: args) H fun r' H' => r' = r ∧ H' = H.set i (.bld T e l') := by
  refine ⟨hbody, fun g w vs hwf hhr hvs => ?_⟩
  obtain ⟨b, p, v, hbx, hb, hp, hv, hown⟩ := hhr.blk i _ hH
  have hi : i < H.length := by
    rcases Nat.lt_or_ge i H.length with h | h
    · exact h
    · rw [List.getElem?_eq_none h] at hH; cases hH
  have hbv := buf_ne hb hv hTe
  refine (run g w vs b p v hwf hhr hvs hbx hb hp hv).mono fun en w' ⟨u, h1, h2, h3⟩ => ?_
  obtain ⟨p', v', k1, k2, k3, k4, k5⟩ := h3.bld
  have hvl : ∀ k, bufBlk v = some k → (∃ cur fz, w.heap[k]? = some (.cells cur e fz)) ∧ ∃ hi, g.tk i = some (k, 0, hi) := fun k hk => by
    refine ⟨?_, hown k hk⟩
    rcases hv with ⟨rfl, _⟩ | ⟨g0, cap, cur, fz, rfl, hg, _⟩
    · cases hk
    · simp only [bufBlk, Option.some.injEq] at hk
      subst hk
      exact ⟨cur, fz, hg⟩
  have fin : ∀ nt, (nt = none ∨ (nt = g.tk i ∧ bufBlk v = none) ∨ (nt = g.tk i ∧ ∀ k, bufBlk v = some k → ∀ (cur : Array Value) fz, w.heap[k]? = some (.cells cur e fz) → ∃ cur' : Array Value, w'.heap[k]? = some (.cells cur' e fz) ∧ cur'.size = cur.size) ∨ ∃ k, nt = some (k, 0, 0) ∧ w.heap.size ≤ k ∧ ∃ cur : Array Value, w'.heap[k]? = some (.cells cur e (0, 0))) →
      (∀ g0, bufBlk v' = some g0 → ∃ hi, nt = some (g0, 0, hi)) → ∃ v r' g' H', en = .returned v ∧ Rel r' g' w' v ∧ Wf X.G g' w' ∧ HR g' w' H' ∧ ExtM g w g' w' ∧ (r' = r ∧ H' = H.set i (.bld T e l')) := fun nt hnt hyt => by
    have hg := good_bld (X := X) (y := .bld T e l') (nt := nt) hwf hhr hi hbx hb hbv hvl h3.io h3.size h3.other ⟨_, k1, rfl⟩ (fun k hk cur fz hc => by obtain ⟨c', x1, x2⟩ := h3.shape k hk cur fz hc; exact ⟨c', fz, x1, x2⟩) hnt
      ⟨b, p', v', hbx, k1, k2, k3, fun g0 hg0 => by obtain ⟨hi', h⟩ := hyt g0 hg0; exact ⟨hi', by simp [ghB, h]⟩⟩
    exact ⟨u, r, _, _, h1, h2 _, hg.wf, hg.hr, hg.xm, rfl, rfl⟩
  rcases k4 with h | ⟨k, h, hle⟩
  · exact fin (g.tk i) (.inr (.inr (.inl ⟨rfl, h3.shape⟩))) fun g0 hg0 => hown g0 (h ▸ hg0)
  · exact fin (some (k, 0, 0)) (.inr (.inr (.inr ⟨k, rfl, hle, k5 k h hle⟩))) fun g0 hg0 => by
      rw [h] at hg0; cases hg0; exact ⟨0, rfl⟩

/-- String, as a contract. -/
theorem evM_spost {f : Nat} {i T e : Nat} {l : List UInt8} (hbody : HasBody X f) (hTe : T ≠ e) (hH : H[i]? = some (.bld T e l))
    (run : ∀ w b p v, w.heap[b]? = some (.cells #[p, v] T (0, 0)) → BufOk w e l v → Calls X.P f #[.pointer (some ⟨b, 0, none⟩)] w fun en w' => en = .returned (.string ⟨l.toArray⟩) ∧ SPost e v w w') :
    EvM X f [.ptr i 0] H fun r' H' => r' = .str l ∧ H' = H.set i .dead := by
  refine ⟨hbody, fun g w vs hwf hhr hvs => ?_⟩
  obtain ⟨b, p, v, hbx, hb, hp, hv, hown⟩ := hhr.blk i _ hH
  have hi : i < H.length := by
    rcases Nat.lt_or_ge i H.length with h | h
    · exact h
    · rw [List.getElem?_eq_none h] at hH; cases hH
  have hbv := buf_ne hb hv hTe
  have hvs' : vs = [.pointer (some ⟨b, 0, none⟩)] := by
    simp only [RelL, Rel] at hvs
    obtain ⟨v1, rest, rfl, ⟨b', h1, h2⟩, rfl⟩ := hvs
    rw [hbx] at h2; cases h2
    rw [h1]
  subst hvs'
  refine (run w b p v hb hv).mono fun en w' ⟨h1, h3⟩ => ?_
  have hvl : ∀ k, bufBlk v = some k → (∃ cur fz, w.heap[k]? = some (.cells cur e fz)) ∧ ∃ hi, g.tk i = some (k, 0, hi) := fun k hk => by
    refine ⟨?_, hown k hk⟩
    rcases hv with ⟨rfl, _⟩ | ⟨g0, cap, cur, fz, rfl, hg, _⟩
    · cases hk
    · simp only [bufBlk, Option.some.injEq] at hk
      subst hk
      exact ⟨cur, fz, hg⟩
  have hblt : b < w.heap.size := (Array.getElem?_eq_some_iff.1 hb).1
  have hg := good_bld (X := X) (y := .dead) (nt := none) hwf hhr hi hbx hb hbv hvl h3.io h3.size (fun k hk _ hkv => h3.other k hk hkv) ⟨_, (h3.other b hblt hbv).trans hb, rfl⟩ (fun k hk cur fz hc => by obtain ⟨fz', x1⟩ := h3.shape k hk cur fz hc; exact ⟨cur, fz', x1, rfl⟩) (.inl rfl) trivial
  exact ⟨_, .str l, _, _, h1, by simp [Rel], hg.wf, hg.hr, hg.xm, rfl, rfl⟩
end
end Go.Avm

/- A builder's length. -/
namespace Go.Avm
open Go Go.Proofs Go.Shelf Go.RowKit
section
variable {P : Program} {ρ : Ren}
end
section
variable {X : Cx} {H : Heap}
end
end Go.Avm
