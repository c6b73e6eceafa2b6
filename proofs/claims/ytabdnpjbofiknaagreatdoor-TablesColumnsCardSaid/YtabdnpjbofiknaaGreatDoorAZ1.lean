/- clear of a slice whose elements have any number of cells. -/
import Derived.Lib.SliceRun
import Derived.Test.YtabdnpjbofiknaaGreatDoorAG2
import Derived.Shelf.RegionOpenPlain
import Derived.WalkKit
import Derived.Deep.LoopGhost
import Derived.Deep.RegionLaw
import Derived.Lib.Walk
import Derived.Test.YtabdnpjbofiknaaGreatDoorProg
set_option linter.all false
/- clear of a slice whose elements have any number of cells. -/
namespace Go.Avm
open Go Go.Lib
variable {P : Program}
theorem zero_len (z : Array Value) (n : Nat) : (Builtin.zeroCells z n).toList.length = n * z.size := by simp [Builtin.zeroCells]
theorem run_clear_cells (w : World) (t e ty : TypeId) (z : Value) (ht : P.underlying t = some (.slice e)) (hv : ∀ w, (zeroValue e).run P w = .ok z w) (h1 : ∀ v ∈ (Builtin.zeroCells z.cells 1).toList, v.oneCell' = true) (b o n c : Nat) (hn : n = 1)
    (hc : ∀ j, j < n * z.cells.size → (w.cell? ⟨b, o + j, none⟩).isSome = true) (hf : ∀ j, j < n * z.cells.size → w.frozen? ⟨b, o + j, none⟩ = false) :
    (Builtin.clear_ #[t] ty #[.slice (some ⟨b, o, none⟩) n c]).run P w = .ok (.tuple #[]) (w.setCells b o (Builtin.zeroCells z.cells n).toList) := by
  subst hn
  have hst := run_storeCells_cells (P := P) b o (Builtin.zeroCells z.cells 1).toList 0 w (by rw [zero_len]; simpa using hc) (by rw [zero_len]; simpa using hf) h1
  simp only [Nat.add_zero] at hst
  simp [Builtin.clear_, run_underlying ht, hv, hst]
end Go.Avm

/- slices.Delete of one column. -/
namespace Go.Avm
open Go Go.Proofs Go.Shelf Go.RowKit Go.Lib
def z5 : Value := .agg #[.int .i64 0, .int .i64 0, .int .i64 0, .int .i64 0, .slice none 0 0]
theorem hz5 : ∀ v ∈ (Builtin.zeroCells z5.cells 1).toList, v.oneCell' = true := fun v hv => by
  have h : ((Builtin.zeroCells z5.cells 1).toList.all fun v => v.oneCell') = true := by kernel_rfl
  exact List.all_eq_true.1 h v hv
set_option maxHeartbeats 4000000 in
set_option maxRecDepth 1000000 in
theorem z_del (b o n cap k : Nat) (w : World) (hk : k < n) (hcap : n ≤ cap) (hm : cap ≤ 9223372036854775807)
    (news : List Value) (hlen : news.length = (n - (k + 1)) * 5)
    (hsrc : ∀ A : Addr, (if cap = k + 1 then some (⟨b, o, none⟩ : Addr) else some ⟨b, o + (k + 1) * 5, none⟩) = some A → ∀ t u, news[t]? = some u → w.drew.cell? (A.add t) = some u)
    (h1 : ∀ u ∈ news, u.oneCell' = true)
    (hroom : ∀ t, t < news.length → (w.drew.cell? ⟨b, o + k * 5 + t, none⟩).isSome = true ∧ w.drew.frozen? ⟨b, o + k * 5 + t, none⟩ = false)
    (hc : ∀ j, j < 5 → ((w.drew.setCells b (o + k * 5) news).cell? ⟨b, o + (n - 1) * 5 + j, none⟩).isSome = true ∧ (w.drew.setCells b (o + k * 5) news).frozen? ⟨b, o + (n - 1) * 5 + j, none⟩ = false) :
    Calls Tryz.prog 50 #[.slice (some ⟨b, o, none⟩) n cap, .int .i64 k, .int .i64 ((k + 1 : Nat) : Int)] w fun e w' => e = .returned (.slice (some ⟨b, o, none⟩) (n - 1) cap) ∧ w' = (w.drew.setCells b (o + k * 5) news).setCells b (o + (n - 1) * 5) (Builtin.zeroCells z5.cells 1).toList := by
  have t22 : Tryz.prog.underlying 23 = some (.slice 44) := Tryz.underlying23
  obtain ⟨i0, hi0⟩ : ∃ i, Tryz.prog.info? 44 = some i := Option.isSome_iff_exists.1 (by kernel_rfl)
  have hz : i0.size = 5 := by
    have : (Tryz.prog.info? 44).map (·.size) = some 5 := by kernel_rfl
    rw [hi0] at this
    simpa using this
  obtain ⟨A, hA⟩ : ∃ A : Addr, (if cap = k + 1 then some (⟨b, o, none⟩ : Addr) else some ⟨b, o + (k + 1) * 5, none⟩) = some A := by
    split
    · exact ⟨_, rfl⟩
    · exact ⟨_, rfl⟩
  have hsrc := hsrc A hA
  have mixed : Tryz.prog.follows .mixedOrders = true := by kernel_rfl
  have hic : k ≤ cap := by omega
  have hjc : k + 1 ≤ cap := by omega
  have hk1 : (0 : Int) ≤ (k : Int) + 1 := by omega
  have hk2 : (k : Int) + 1 ≤ (n : Int) := by omega
  have hn1 : k + (n - (k + 1)) = n - 1 := by omega
  have hv : ∀ w, (zeroValue 44).run Tryz.prog w = .ok z5 w := fun w => by kernel_rfl
  obtain ⟨Z, hZ⟩ : ∃ Z, Z = (Builtin.zeroCells z5.cells 1).toList := ⟨_, rfl⟩
  rw [← hZ]
  have hcl : ∀ ty, (Builtin.clear_ #[23] ty #[.slice (some ⟨b, o + (n - 1) * 5, none⟩) (n - (n - 1)) (cap - (n - 1))]).run Tryz.prog (w.drew.setCells b (o + k * 5) news) = .ok (.tuple #[]) ((w.drew.setCells b (o + k * 5) news).setCells b (o + (n - 1) * 5) Z) := fun ty => by
    rw [show n - (n - 1) = 1 by omega]
    rw [hZ]
    exact run_clear_cells _ _ _ ty z5 t22 hv hz5 b _ 1 _ rfl (fun j hj => (hc j hj).1) (fun j hj => (hc j hj).2)
  clear hZ hv
  go_enter Tryz.func50, Tryz.ntmps50
  go_wp2_with fail
  go_region_law_o (refine step_append_room rfl (.tmp 22) (.tmp 25) 23 rfl 44 i0 5 t22 hi0 hz b o k cap (by simp [Act.eval, Act.put]) A (n - (k + 1)) (cap - (k + 1)) news (by simp [Act.eval, Act.put, hA]) hlen hsrc h1 (by omega) hroom ?_)
  go_wp2
  go_ret
  exact ⟨rfl, rfl⟩
end Go.Avm

/- slices.Delete of one name. -/
namespace Go.Avm
open Go Go.Proofs Go.Shelf Go.RowKit Go.Lib
theorem hzS : ∀ v ∈ (Builtin.zeroCells (Value.string .empty).cells 1).toList, v.oneCell' = true := fun v hv => by
  have h : ((Builtin.zeroCells (Value.string .empty).cells 1).toList.all fun v => v.oneCell') = true := by kernel_rfl
  exact List.all_eq_true.1 h v hv
set_option maxHeartbeats 4000000 in
set_option maxRecDepth 1000000 in
theorem z_delS (b o n cap k : Nat) (w : World) (hk : k < n) (hcap : n ≤ cap) (hm : cap ≤ 9223372036854775807)
    (news : List Value) (hlen : news.length = (n - (k + 1)))
    (hsrc : ∀ A : Addr, (if cap = k + 1 then some (⟨b, o, none⟩ : Addr) else some ⟨b, o + (k + 1), none⟩) = some A → ∀ t u, news[t]? = some u → w.drew.cell? (A.add t) = some u)
    (h1 : ∀ u ∈ news, u.oneCell' = true)
    (hroom : ∀ t, t < news.length → (w.drew.cell? ⟨b, o + k + t, none⟩).isSome = true ∧ w.drew.frozen? ⟨b, o + k + t, none⟩ = false)
    (hc : ∀ j, j < 1 → ((w.drew.setCells b (o + k) news).cell? ⟨b, o + (n - 1) + j, none⟩).isSome = true ∧ (w.drew.setCells b (o + k) news).frozen? ⟨b, o + (n - 1) + j, none⟩ = false) :
    Calls Tryz.prog 49 #[.slice (some ⟨b, o, none⟩) n cap, .int .i64 k, .int .i64 ((k + 1 : Nat) : Int)] w fun e w' => e = .returned (.slice (some ⟨b, o, none⟩) (n - 1) cap) ∧ w' = (w.drew.setCells b (o + k) news).setCells b (o + (n - 1)) (Builtin.zeroCells (Value.string .empty).cells 1).toList := by
  have t22 : Tryz.prog.underlying 22 = some (.slice 9) := Tryz.underlying22
  obtain ⟨i0, hi0⟩ : ∃ i, Tryz.prog.info? 9 = some i := Option.isSome_iff_exists.1 (by kernel_rfl)
  have hz : i0.size = 1 := by
    have : (Tryz.prog.info? 9).map (·.size) = some 1 := by kernel_rfl
    rw [hi0] at this
    simpa using this
  obtain ⟨A, hA⟩ : ∃ A : Addr, (if cap = k + 1 then some (⟨b, o, none⟩ : Addr) else some ⟨b, o + (k + 1), none⟩) = some A := by
    split
    · exact ⟨_, rfl⟩
    · exact ⟨_, rfl⟩
  have hsrc := hsrc A hA
  have mixed : Tryz.prog.follows .mixedOrders = true := by kernel_rfl
  have hic : k ≤ cap := by omega
  have hjc : k + 1 ≤ cap := by omega
  have hk1 : (0 : Int) ≤ (k : Int) + 1 := by omega
  have hk2 : (k : Int) + 1 ≤ (n : Int) := by omega
  have hn1 : k + (n - (k + 1)) = n - 1 := by omega
  have hv : ∀ w, (zeroValue 9).run Tryz.prog w = .ok (.string .empty) w := fun w => by kernel_rfl
  obtain ⟨Z, hZ⟩ : ∃ Z, Z = (Builtin.zeroCells (Value.string .empty).cells 1).toList := ⟨_, rfl⟩
  rw [← hZ]
  have hcl : ∀ ty, (Builtin.clear_ #[22] ty #[.slice (some ⟨b, o + (n - 1), none⟩) (n - (n - 1)) (cap - (n - 1))]).run Tryz.prog (w.drew.setCells b (o + k) news) = .ok (.tuple #[]) ((w.drew.setCells b (o + k) news).setCells b (o + (n - 1)) Z) := fun ty => by
    rw [show n - (n - 1) = 1 by omega]
    rw [hZ]
    exact run_clear_cells _ _ _ ty (.string .empty) t22 hv hzS b _ 1 _ rfl (fun j hj => (hc j hj).1) (fun j hj => (hc j hj).2)
  clear hZ hv
  go_enter Tryz.func49, Tryz.ntmps49
  go_wp2_with fail
  go_region_law_o (refine step_append_room rfl (.tmp 22) (.tmp 25) 22 rfl 9 i0 1 t22 hi0 hz b o k cap (by simp [Act.eval, Act.put]) A (n - (k + 1)) (cap - (k + 1)) news (by simp [Act.eval, Act.put, hA]) (by omega) hsrc h1 (by omega) (fun t ht => by rw [Nat.mul_one]; exact hroom t ht) ?_; rw [Nat.mul_one])
  go_wp2
  go_ret
  exact ⟨rfl, rfl⟩
end Go.Avm

/- slices.Clone of names, walked at the level of worlds. -/
namespace Go.Avm
open Go Go.Proofs Go.Shelf Go.RowKit Go.Lib
set_option maxHeartbeats 2000000 in
set_option maxRecDepth 100000 in
theorem z_cloneS (b off n c : Nat) (zs : List ByteArray) (w : World) (hz : n ≤ zs.length) (hbig : n * 16 ≤ 140737488355328) (hc : ∀ j, j < zs.length → w.cell? ⟨b, off + j, none⟩ = some (.string (zs.getD j ByteArray.empty))) :
    Calls Tryz.prog 69 #[.slice (some ⟨b, off, none⟩) n c] w fun e w' => ∃ v', e = .returned v' ∧ w'.ownsRow w.heap.size 9 1 v' n ((zs.take n).map (Value.string)) ∧ v' ≠ .slice none 0 0 ∧ Below w.heap.size w w' := by
  have ht : Tryz.prog.underlying 22 = some (.slice 9) := Tryz.underlying22
  have mixed : Tryz.prog.follows .mixedOrders = true := by kernel_rfl
  obtain ⟨i0, hi⟩ : ∃ i, Tryz.prog.info? 9 = some i := Option.isSome_iff_exists.1 (by kernel_rfl)
  have hz0 : i0.zero = some (.string .empty) := by
    have : (Tryz.prog.info? 9).bind (·.zero) = some (.string .empty) := by kernel_rfl
    rw [hi] at this
    exact this
  have hz1 : i0.size = 1 := by
    have : (Tryz.prog.info? 9).map (·.size) = some 1 := by kernel_rfl
    rw [hi] at this
    simpa using this
  have hz2 : i0.bytes = 16 := by
    have : (Tryz.prog.info? 9).map (·.bytes) = some 16 := by kernel_rfl
    rw [hi] at this
    simpa using this
  have q : ∀ (w : World) (a : Option Addr) (n c n' c' : Nat), (binOp .eql 22 (.slice a n c) (.slice none n' c')).run Tryz.prog w = .ok (.bool a.isNone) w := fun w a n c n' c' => Lib.run_eql_slice_nil w _ _ a n c n' c' ht
  have A : Aside (∀ j, j < zs.length → w.cell? ⟨b, off + j, none⟩ = some (.string (zs.getD j ByteArray.empty))) := hc
  clear hc
  go_enter Tryz.func69, Tryz.ntmps69
  go_wp2_with (at_builtin; refine wpList_append_own _ rfl _ _ 22 rfl w.heap.size 9 i0 (.string .empty) 1 16 ht hi hz0 hz1 hz2 rfl (by decide) _ _ _ rfl (World.ownsRow_made w #[] 0 (Nat.le_refl _) (Nat.zero_le _) rfl) ⟨b, off, none⟩ n c ((zs.take n).map (Value.string)) rfl ?qc1 ?qc2 ?qc3 ?qc4 ?qc5 ?qc6 ?_)
  case qc1 => simp; omega
  case qc2 =>
    intro j u hj
    have hjn : j < n ∧ j < zs.length := by
      have := (List.getElem?_eq_some_iff.1 hj).1
      simp at this
      omega
    rw [Addr.add_lit]
    refine Lib.cell?_alloc_some _ ?_
    rw [A.out j hjn.2]
    have e : ((zs.take n).map (Value.string))[j]? = some (Value.string (zs.getD j ByteArray.empty)) := by simp [List.getD, hjn.1, List.getElem?_eq_getElem hjn.2]
    rw [e] at hj
    exact hj
  case qc3 => intro u hu; obtain ⟨x, _, rfl⟩ := List.mem_map.1 hu; rfl
  case qc4 => unfold maxLen; omega
  case qc5 => omega
  case qc6 => simp
  intro v' w1 hown hgrow hnil
  go_wp2
  go_ret
  refine ⟨v', rfl, by simpa using hown, ?_, ?_⟩
  · exact hnil
  · exact ((Below.refl _ w).alloc (Nat.le_refl _) _).grown hgrow (by simp) (by intro k hk; simp [Value.ownBlock] at hk; omega)
end Go.Avm

/- each, walked at the level of worlds. -/
namespace Go.Avm
open Go Go.Proofs Go.Shelf Go.RowKit Go.Lib
theorem step_callv {P : Program} {ops : Array Oper} {o : Oper} {a : Act} {w : World} {K : Act → World → Prop} {Q : Exit → Act → World → Prop} {E : Prop}
    (hg : o.guard = none) (fo x : Operand) (ty : TypeId) (hop : o.op = .call { callee := .value fo, args := #[x], argTypes := #[ty] }) (f : FuncId) (v : Value) (hf : a.eval fo = .func (.func f) #[] #[]) (hx : a.eval x = v)
    (hE : ∀ args w, (callFunc f args).run P w = .ok (.enter f args) w) {R : Value → World → Prop} (h : Calls P f #[v] w fun e w' => ∃ u, e = .returned u ∧ R u w') (hK : ∀ u w', R u w' → K (a.put o.dst u) w') :
    if Region.wanted o (yielded ops a.tmps) = true then Oper.wp P o a w K Q else E := by
  have hw : Region.wanted o (yielded ops a.tmps) = true := by simp [Region.wanted, hg]
  rw [if_pos hw]
  have hrun : (execOp a.eval o).run P w = .ok (.enter f #[v]) w := by
    simp [execOp, hop, resolve, invoke, hf, hx, hE, Deferred.ofValue]
  unfold Oper.wp
  rw [hrun, Oper.upon_enter]
  refine h.mono ?_
  rintro e w' ⟨u, rfl, hR⟩
  exact hK u w' hR
theorem own_same {w w' : World} {base : Nat} {e : TypeId} {size : Nat} {v : Value} {n : Nat} {xs : List Value} (h : w.ownsRow base e size v n xs) (hh : ∀ g, v.ownBlock = some g → w'.heap[g]? = w.heap[g]?) : w'.ownsRow base e size v n xs := by
  refine ⟨h.1, ?_⟩
  rcases h.2 with h2 | ⟨g, cap, cur, rfl, h2, h3, h4⟩
  · exact .inl h2
  · exact .inr ⟨g, cap, cur, rfl, h2, (hh g rfl).trans h3, h4⟩
/-- In which block the slice lies that an append makes. -/
theorem append_blk {P : Program} (w : World) (base : Nat) (t ty e : TypeId) (i : TypeInfo) (z : Value) (ht : P.underlying t = some (.slice e)) (hi : P.info? e = some i) (hz : i.zero = some z)
    (v : Value) (n : Nat) (xs : List Value) (hown : w.ownsRow base e i.size v n xs)
    (a : Addr) (m c : Nat) (news : List Value) (hm : 0 < m) (hl : news.length = m * i.size) (hnews : ∀ j u, news[j]? = some u → w.cell? (a.add j) = some u) (h1 : ∀ u ∈ news, u.oneCell' = true)
    (h63 : n + m ≤ maxLen) (hbytes : (n + m) * i.bytes ≤ 140737488355328) {v' : Value} {w' : World} (hr : (Builtin.append_ #[t, t] ty #[v, .slice (some a) m c]).run P w = .ok v' w') :
    v'.ownBlock = v.ownBlock ∨ v'.ownBlock = some w.heap.size := by
  have hs : n + m ≤ 9223372036854775807 := by simp only [maxLen] at h63; omega
  rcases hown.2 with ⟨rfl, rfl⟩ | ⟨g, cap, cur, rfl, hbg, hg, hnc, hcm, hcs, htake⟩
  · have h2 := run_append_nil (P := P) w t ty e i z ht hi hz a m c news hl hnews (by omega) (by omega) (by have hb := hbytes; simp only [Nat.zero_add] at hb; omega)
    rw [h2] at hr
    cases hr
    exact .inr rfl
  · by_cases hroom : n + m ≤ cap
    · have hfit : n * i.size + news.length ≤ cur.size := by rw [hl, hcs, ← Nat.add_mul]; exact Nat.mul_le_mul_right _ hroom
      have h2 := run_append_room (P := P) w t ty e i ht hi g n cap cur hg a m c news hl hnews h1 hroom hfit
      rw [h2] at hr
      cases hr
      exact .inl rfl
    · have h2 := run_append_grow (P := P) w t ty e i z ht hi hz ⟨g, 0, none⟩ n cap xs hown.1 (hown.cells (g := g) rfl) a m c news hl hnews (by omega) (by omega) (growslice_fits (by omega) hbytes)
      rw [h2] at hr
      cases hr
      exact .inr rfl
theorem step_append_own {P : Program} {ops : Array Oper} {o : Oper} {a : Act} {w : World} {K : Act → World → Prop} {Q : Exit → Act → World → Prop} {E : Prop}
    (hg : o.guard = none) (s x : Operand) (t : TypeId) (hop : o.op = .call { callee := .builtin .append, args := #[s, x], argTypes := #[t, t] })
    (base : Nat) (e : TypeId) (i : TypeInfo) (z : Value) (size bytes : Nat) (ht : P.underlying t = some (.slice e)) (hi : P.info? e = some i) (hz : i.zero = some z)
    (hsize : i.size = size) (hby : i.bytes = bytes) (hzs : z.cells.size = size) (hsz : 0 < size)
    (v : Value) (n : Nat) (xs : List Value) (hs : a.eval s = v) (hown : w.ownsRow base e size v n xs)
    (ad : Addr) (m c : Nat) (news : List Value) (hx : a.eval x = .slice (some ad) m c) (hm : 0 < m) (hl : news.length = m * size) (hnews : ∀ j u, news[j]? = some u → w.cell? (ad.add j) = some u) (h1 : ∀ u ∈ news, u.oneCell' = true)
    (h63 : n + m ≤ maxLen) (hbytes : (n + m) * bytes ≤ 140737488355328) (hbase : base ≤ w.heap.size)
    (h : ∀ v' w', w'.ownsRow base e size v' (n + m) (xs ++ news) → w.grownBy w' v.ownBlock → (v'.ownBlock = v.ownBlock ∨ v'.ownBlock = some w.heap.size) → K (a.put o.dst v') w') :
    if Region.wanted o (yielded ops a.tmps) = true then Oper.wp P o a w K Q else E := by
  have hw : Region.wanted o (yielded ops a.tmps) = true := by simp [Region.wanted, hg]
  rw [if_pos hw]
  obtain ⟨v', w', hr, h2, h3, h4⟩ := run_append_own (P := P) w base t o.type e i z size bytes ht hi hz hsize hby hzs hsz v n xs hown ad m c news hl hnews h1 h63 hbytes hbase
  have h5 := append_blk (P := P) w base t o.type e i z ht hi hz v n xs (by rw [hsize]; exact hown) ad m c news hm (by rw [hsize]; exact hl) hnews h1 h63 (by rw [hby]; exact hbytes) hr
  unfold Oper.wp execOp
  simp only [hop, resolve, invoke, builtin, Sem.run_bind, Sem.run_pure, Result.andThen_ok, List.map_toArray, List.map_cons, List.map_nil, hs, hx, hr]
  exact h v' w' h2 h3 h5
/-- What `each` goes by: I B k xs w: k columns have been copied, their cells are xs; the blocks of B are ours alone. -/
structure EachI (bc oc n : Nat) (q : Nat → Nat → Int) (sv : Nat → Option Addr × Nat × Nat) (I : (Nat → Prop) → Nat → List Value → World → Prop) : Prop where
  step : ∀ B k xs w1 w2, I B k xs w1 → w1.heap.size ≤ w2.heap.size → w2.os = w1.os → w2.output = w1.output → (∀ b, b < w1.heap.size → ¬ B b → w2.heap[b]? = w1.heap[b]?) → I (fun b => B b ∨ w1.heap.size ≤ b) k xs w2
  src : ∀ B k xs w1, I B k xs w1 → ∀ i, i < n → w1.cell? ⟨bc, oc + i * 5, none⟩ = some (.int .i64 (q i 0)) ∧ w1.cell? ⟨bc, oc + i * 5 + 1, none⟩ = some (.int .i64 (q i 1)) ∧ w1.cell? ⟨bc, oc + i * 5 + 2, none⟩ = some (.int .i64 (q i 2)) ∧ w1.cell? ⟨bc, oc + i * 5 + 3, none⟩ = some (.int .i64 (q i 3)) ∧ w1.cell? ⟨bc, oc + i * 5 + 4, none⟩ = some (.slice (sv i).1 (sv i).2.1 (sv i).2.2)
  call : ∀ B k xs w1, I B k xs w1 → k < n → Calls Tryz.prog 45 #[.agg #[.int .i64 (q k 0), .int .i64 (q k 1), .int .i64 (q k 2), .int .i64 (q k 3), .slice (sv k).1 (sv k).2.1 (sv k).2.2]] w1 fun e w2 => ∃ v0 v1 v2 v3 v4, e = .returned (.agg #[v0, v1, v2, v3, v4]) ∧ (∀ u ∈ [v0, v1, v2, v3, v4], u.oneCell' = true) ∧
    I (fun b => B b ∧ b < w1.heap.size) (k + 1) (xs ++ [v0, v1, v2, v3, v4]) w2 ∧ w1.heap.size ≤ w2.heap.size ∧ ∀ b, b < w1.heap.size → B b → w2.heap[b]? = w1.heap[b]?
structure LpE (I : (Nat → Prop) → Nat → List Value → World → Prop) (base bu b1 c1 n : Nat) (nms : List Value) (k : Nat) (B : Nat → Prop) (xs : List Value) (vc : Value) (wr : World) : Prop where
  inv : I B k xs wr
  res : wr.heap[base]? = some (.cells #[.slice none 0 0, .slice none 0 0] 25 (0, 0))
  ub : wr.heap[bu]? = some (.cells #[.slice (some ⟨b1, 0, none⟩) n c1, vc] 25 (0, 0))
  row1 : wr.ownsRow base 9 1 (.slice (some ⟨b1, 0, none⟩) n c1) n nms
  row2 : wr.ownsRow base 44 5 vc k xs
  hB : B base ∧ B bu ∧ B b1
  hV : ∀ b, vc.ownBlock = some b → B b ∧ b ≠ base ∧ b ≠ bu ∧ b ≠ b1
  ne : base < bu ∧ b1 ≠ base ∧ b1 ≠ bu
theorem own_slice {w : World} {base : Nat} {e : TypeId} {size : Nat} {v : Value} {n : Nat} {xs : List Value} (h : w.ownsRow base e size v (n + 1) xs) : ∃ b c, v = .slice (some ⟨b, 0, none⟩) (n + 1) c := by
  rcases h.2 with ⟨_, h⟩ | ⟨g, cap, cur, h, _⟩
  · exact absurd h (by omega)
  · exact ⟨g, cap, h⟩
structure Mid (I : (Nat → Prop) → Nat → List Value → World → Prop) (base bu b1 c1 n : Nat) (nms : List Value) (k : Nat) (xs : List Value) (vc v0 v1 v2 v3 v4 : Value) (sz : Nat) (w4 : World) : Prop where
  inv : ∃ B, I B (k + 1) (xs ++ [v0, v1, v2, v3, v4]) w4 ∧ B base ∧ B bu ∧ B b1 ∧ ∀ b, vc.ownBlock = some b → B b ∧ b ≠ base ∧ b ≠ bu ∧ b ≠ b1
  one : ∀ u ∈ [v0, v1, v2, v3, v4], u.oneCell' = true
  res : w4.heap[base]? = some (.cells #[.slice none 0 0, .slice none 0 0] 25 (0, 0))
  ub : w4.heap[bu]? = some (.cells #[.slice (some ⟨b1, 0, none⟩) n c1, vc] 25 (0, 0))
  row1 : w4.ownsRow base 9 1 (.slice (some ⟨b1, 0, none⟩) n c1) n nms
  row2 : w4.ownsRow base 44 5 vc k xs
  ne : base < bu ∧ b1 ≠ base ∧ b1 ≠ bu
  size : sz ≤ w4.heap.size
  cu : w4.cell? ⟨bu, 1, none⟩ = some vc
  cua : ∀ o, (w4.alloc o).cell? ⟨bu, 1, none⟩ = some vc
structure End (I : (Nat → Prop) → Nat → List Value → World → Prop) (base bu b1 c1 n : Nat) (nms : List Value) (k : Nat) (xs : List Value) (vc v6 : Value) (w6 : World) : Prop where
  inv : ∃ B, I B k xs w6 ∧ B base ∧ B bu ∧ B b1 ∧ ∀ b, v6.ownBlock = some b → B b ∧ b ≠ base ∧ b ≠ bu ∧ b ≠ b1
  res : w6.heap[base]? = some (.cells #[.slice none 0 0, .slice none 0 0] 25 (0, 0))
  ub : w6.heap[bu]? = some (.cells #[.slice (some ⟨b1, 0, none⟩) n c1, vc] 25 (0, 0))
  row1 : w6.ownsRow base 9 1 (.slice (some ⟨b1, 0, none⟩) n c1) n nms
  row2 : w6.ownsRow base 44 5 v6 k xs
  ne : base < bu ∧ b1 ≠ base ∧ b1 ≠ bu
  cu : w6.cell? ⟨bu, 1, none⟩ = some vc
  fz : w6.frozen? ⟨bu, 1, none⟩ = false
theorem End.put {I : (Nat → Prop) → Nat → List Value → World → Prop} (hst : ∀ B k xs w1 w2, I B k xs w1 → w1.heap.size ≤ w2.heap.size → w2.os = w1.os → w2.output = w1.output → (∀ b, b < w1.heap.size → ¬ B b → w2.heap[b]? = w1.heap[b]?) → I (fun b => B b ∨ w1.heap.size ≤ b) k xs w2)
    {base bu b1 c1 n : Nat} {nms : List Value} {k : Nat} {xs : List Value} {vc v6 : Value} {w6 : World} (M : End I base bu b1 c1 n nms k xs vc v6 w6) : ∃ B, LpE I base bu b1 c1 n nms k B xs v6 (w6.setCell ⟨bu, 1, none⟩ v6) := by
  obtain ⟨B, hI, h1, h2, h3, h4⟩ := M.inv
  have hot : ∀ b, b ≠ bu → (w6.setCell ⟨bu, 1, none⟩ v6).heap[b]? = w6.heap[b]? := fun b hb => Below.heap_setCell _ _ _ _ hb
  refine ⟨_, hst _ _ _ _ (w6.setCell ⟨bu, 1, none⟩ v6) hI (by simp [World.setCell]) rfl rfl (fun b _ hb => hot b fun e => hb (e ▸ h2)), (hot _ (by have := M.ne.1; omega)).trans M.res, ?_, own_same M.row1 fun g hg => hot g ?_, own_same M.row2 fun g hg => hot g (h4 g hg).2.2.1, ⟨.inl h1, .inl h2, .inl h3⟩, fun b hb => ⟨.inl (h4 b hb).1, (h4 b hb).2⟩, M.ne⟩
  · have := M.ub
    simp only [World.setCell, Array.getElem?_modify, if_true, this]
    rfl
  · cases hg
    exact M.ne.2.2
theorem Mid.news {I : (Nat → Prop) → Nat → List Value → World → Prop} {base bu b1 c1 n : Nat} {nms : List Value} {k : Nat} {xs : List Value} {vc v0 v1 v2 v3 v4 : Value} {sz : Nat} {w4 : World} (M : Mid I base bu b1 c1 n nms k xs vc v0 v1 v2 v3 v4 sz w4) (j : Nat) (u : Value) (h : [v0, v1, v2, v3, v4][j]? = some u) :
    (w4.alloc (Obj.cells #[v0, v1, v2, v3, v4] 44)).cell? ((⟨w4.heap.size, 0, none⟩ : Addr).add j) = some u := by
  rw [Addr.add_lit, Nat.zero_add, cell_of_row _ _ _ _ _ _ (Go.heap_alloc_new w4 _)]
  simpa using h
theorem Mid.bsz {I : (Nat → Prop) → Nat → List Value → World → Prop} {base bu b1 c1 n : Nat} {nms : List Value} {k : Nat} {xs : List Value} {vc v0 v1 v2 v3 v4 : Value} {sz : Nat} {w4 : World} (M : Mid I base bu b1 c1 n nms k xs vc v0 v1 v2 v3 v4 sz w4) (o : Obj) : base ≤ (w4.alloc o).heap.size := by
  have := (Array.getElem?_eq_some_iff.1 M.res).1
  simp
  omega
theorem Mid.app {I : (Nat → Prop) → Nat → List Value → World → Prop} (hst : ∀ B k xs w1 w2, I B k xs w1 → w1.heap.size ≤ w2.heap.size → w2.os = w1.os → w2.output = w1.output → (∀ b, b < w1.heap.size → ¬ B b → w2.heap[b]? = w1.heap[b]?) → I (fun b => B b ∨ w1.heap.size ≤ b) k xs w2)
    {base bu b1 c1 n : Nat} {nms : List Value} {k : Nat} {xs : List Value} {vc v0 v1 v2 v3 v4 : Value} {sz : Nat} {w4 : World} (M : Mid I base bu b1 c1 n nms k xs vc v0 v1 v2 v3 v4 sz w4) {v6 : Value} {w6 : World} {o : Obj}
    (h6 : w6.ownsRow base 44 5 v6 (k + 1) (xs ++ [v0, v1, v2, v3, v4])) (h7 : (w4.alloc o).grownBy w6 vc.ownBlock) (h8 : v6.ownBlock = vc.ownBlock ∨ v6.ownBlock = some (w4.alloc o).heap.size) : End I base bu b1 c1 n nms (k + 1) (xs ++ [v0, v1, v2, v3, v4]) vc v6 w6 := by
  obtain ⟨B, hI, h1, h2, h3, h4⟩ := M.inv
  have hlb := (Array.getElem?_eq_some_iff.1 M.res).1
  have hlu := (Array.getElem?_eq_some_iff.1 M.ub).1
  have hl1 : b1 < w4.heap.size := (M.row1.lt b1 rfl).2
  have hsz : (w4.alloc o).heap.size = w4.heap.size + 1 := by simp
  have hot : ∀ b, b < w4.heap.size → some b ≠ vc.ownBlock → w6.heap[b]? = w4.heap[b]? := fun b hb hne => (h7.block b (by omega) hne).trans (Below.heap_alloc _ _ _ hb)
  have hne : ∀ b, (∀ g, vc.ownBlock = some g → g ≠ b) → some b ≠ vc.ownBlock := fun b h e => h b e.symm rfl
  have hub := (hot _ hlu (hne _ fun g hg => (h4 g hg).2.2.1)).trans M.ub
  refine ⟨⟨_, hst _ _ _ _ w6 hI (by have := h7.size; omega) h7.os h7.output (fun b hb hB => hot b hb (hne b fun g hg e => hB (e ▸ (h4 g hg).1))), .inl h1, .inl h2, .inl h3, fun b hb => ?_⟩, (hot _ hlb (hne _ fun g hg => (h4 g hg).2.1)).trans M.res, hub, own_same M.row1 fun g hg => ?_, h6, M.ne, cell_of_row _ _ 1 _ _ _ hub, ?_⟩
  · rcases h8 with h8 | h8
    · rw [h8] at hb
      exact ⟨.inl (h4 b hb).1, (h4 b hb).2⟩
    · rw [h8] at hb
      cases hb
      exact ⟨.inr (by omega), by omega, by omega, by omega⟩
  · cases hg
    exact hot _ hl1 (hne _ fun g hg => (h4 g hg).2.2.2)
  · simp [World.frozen?, hub]
set_option maxHeartbeats 4000000 in
set_option maxRecDepth 100000 in
theorem z_each (I : (Nat → Prop) → Nat → List Value → World → Prop) (w : World) (bt bn on cn bc oc cc n : Nat) (names : List ByteArray) (q : Nat → Nat → Int) (sv : Nat → Option Addr × Nat × Nat)
    (h0 : ∀ w1, Below w.heap.size w w1 → I (fun b => w.heap.size ≤ b) 0 [] w1) (E : EachI bc oc n q sv I) (hn : 0 < n) (hnl : names.length = n) (hbig : n < 1000000)
    (ht0 : w.cell? ⟨bt, 0, none⟩ = some (.slice (some ⟨bn, on, none⟩) n cn)) (ht1 : w.cell? ⟨bt, 1, none⟩ = some (.slice (some ⟨bc, oc, none⟩) n cc))
    (hnc : ∀ j, j < names.length → w.cell? ⟨bn, on + j, none⟩ = some (.string (names.getD j .empty))) :
    Calls Tryz.prog 48 #[.pointer (some ⟨bt, 0, none⟩), .func (.func 45) #[] #[]] w fun e w' => ∃ B xs b1 c1 b2 c2, e = .returned (.agg #[.slice (some ⟨b1, 0, none⟩) n c1, .slice (some ⟨b2, 0, none⟩) n c2]) ∧ I B n xs w' ∧ w'.ownsRow w.heap.size 9 1 (.slice (some ⟨b1, 0, none⟩) n c1) n (names.map Value.string) ∧ w'.ownsRow w.heap.size 44 5 (.slice (some ⟨b2, 0, none⟩) n c2) n xs ∧ B b1 ∧ B b2 ∧ b1 ≠ b2 := by
  have mixed : Tryz.prog.follows .mixedOrders = true := by kernel_rfl
  have t23 : Tryz.prog.underlying 23 = some (.slice 44) := Tryz.underlying23
  obtain ⟨i0, hi0⟩ : ∃ i, Tryz.prog.info? 44 = some i := Option.isSome_iff_exists.1 (by kernel_rfl)
  obtain ⟨z5', hz5⟩ : ∃ z : Value, z = .agg #[.int .i64 0, .int .i64 0, .int .i64 0, .int .i64 0, .slice none 0 0] := ⟨_, rfl⟩
  have hz0 : i0.zero = some z5' := by
    have : (Tryz.prog.info? 44).bind (·.zero) = some (.agg #[.int .i64 0, .int .i64 0, .int .i64 0, .int .i64 0, .slice none 0 0]) := by kernel_rfl
    rw [hi0] at this
    rw [hz5]
    exact this
  have hz1 : i0.size = 5 := by
    have : (Tryz.prog.info? 44).map (·.size) = some 5 := by kernel_rfl
    rw [hi0] at this
    simpa using this
  have hz2 : i0.bytes = 56 := by
    have : (Tryz.prog.info? 44).map (·.bytes) = some 56 := by kernel_rfl
    rw [hi0] at this
    simpa using this
  have hzs : z5'.cells.size = 5 := by rw [hz5]; rfl
  have ha0 : ∀ o, (w.alloc o).cell? ⟨bt, 0, none⟩ = some (.slice (some ⟨bn, on, none⟩) n cn) := fun o => Lib.cell?_alloc_some _ ht0
  go_enter Tryz.func48, Tryz.ntmps48
  go_wp2_with fail
  refine (z_cloneS bn on n cn names _ (Nat.le_of_eq hnl.symm) (by omega) (fun j hj => Lib.cell?_alloc_some _ (hnc j hj))).mono ?_
  rintro e w1 ⟨v1, rfl, hown1, hv1, hb1⟩
  have hb1' := ((Below.refl w.heap.size w).alloc (Nat.le_refl _) (Obj.cells #[Value.slice none 0 0, Value.slice none 0 0] 25)).trans (hb1.mono (by simp))
  have hsz1 : w.heap.size + 1 ≤ w1.heap.size := by have := hb1.size; simpa using this
  have hbt : bt < w.heap.size := World.block_lt_of_cell? w _ ht0
  have ha1 : ∀ o, (w1.alloc o).cell? ⟨bt, 1, none⟩ = some (.slice (some ⟨bc, oc, none⟩) n cc) := fun o => Lib.cell?_alloc_some _ ((hb1'.cell hbt).trans ht1)
  obtain ⟨hl1, hown1⟩ := hown1
  rcases hown1 with ⟨rfl, _⟩ | ⟨b1, c1, cur1, rfl, hbb1, hrow1, hnc1, hm1, hs1, htk1⟩
  · exact absurd rfl hv1
  go_wp2_with fail
  go_loopg [19] n (fun gk s19 wr => ∃ k B xs vc, k ≤ n ∧ n - k ≤ gk ∧ s19 = .int .i64 k ∧ LpE I w.heap.size w1.heap.size b1 c1 n (names.map Value.string) k B xs vc wr)
  case atStart =>
    have hsz0 : (w.alloc (Obj.cells #[Value.slice none 0 0, Value.slice none 0 0] 25)).heap.size = w.heap.size + 1 := by simp
    have hlt1 : b1 < w1.heap.size := (Array.getElem?_eq_some_iff.1 hrow1).1
    refine ⟨0, _, [], .slice none 0 0, Nat.zero_le _, Nat.le_refl _, rfl, h0 _ (hb1'.alloc (by omega) _), ?_, Go.heap_alloc_new w1 _, ⟨by rw [List.length_map]; omega, .inr ⟨b1, c1, cur1, rfl, by omega, ?_, hnc1, hm1, hs1, ?_⟩⟩, World.ownsRow_nil _ _ _ _, ⟨Nat.le_refl _, by omega, by omega⟩, (fun b hb => nomatch hb), by omega, by omega, by omega⟩
    · refine (Below.heap_alloc _ _ _ (by omega)).trans ((hb1.block _ (by omega)).trans (Go.heap_alloc_new w _))
    · exact (Below.heap_alloc _ _ _ hlt1).trans hrow1
    · rw [htk1, ← hnl, List.take_length]
  case round =>
    obtain ⟨k, B, xs, vc, hk, hg, rfl, L⟩ := hrel
    by_cases hlt : k < n
    · have hlt' : (k : Int) < (n : Int) := by omega
      obtain ⟨s0, s1, s2, s3, s4⟩ := E.src _ _ _ _ L.inv k hlt
      generalize hS : sv k = S at s4
      obtain ⟨sa, sl, sc⟩ := S
      dsimp only at s4
      have hinv := L.inv
      have hub := L.ub
      have hrow2 := L.row2
      have hV := L.hV
      have hbu : w1.heap.size < wr.heap.size := (Array.getElem?_eq_some_iff.1 hub).1
      have hcu : wr.cell? ⟨w1.heap.size, 1, none⟩ = some vc := by simp [World.cell?, hub]
      go_wp2_with fail
      obtain ⟨w2, hw2⟩ : ∃ w2 : World, w2 = wr.alloc (Obj.cells #[Value.int IntKind.i64 (q k 0), Value.int IntKind.i64 (q k 1), Value.int IntKind.i64 (q k 2), Value.int IntKind.i64 (q k 3), Value.slice sa sl sc] 44) := ⟨_, rfl⟩
      rw [← hw2]
      have hh2 : w2.drew.heap[wr.heap.size]? = some (Obj.cells #[Value.int IntKind.i64 (q k 0), Value.int IntKind.i64 (q k 1), Value.int IntKind.i64 (q k 2), Value.int IntKind.i64 (q k 3), Value.slice sa sl sc] 44 (0, 0)) := by rw [hw2]; exact Go.heap_alloc_new wr _
      have f0 : w2.drew.cell? ⟨wr.heap.size, 0, none⟩ = some (Value.int IntKind.i64 (q k 0)) := cell_of_row w2.drew _ 0 _ _ _ hh2
      have f1 : w2.drew.cell? ⟨wr.heap.size, 1, none⟩ = some (Value.int IntKind.i64 (q k 1)) := cell_of_row w2.drew _ 1 _ _ _ hh2
      have f2 : w2.drew.cell? ⟨wr.heap.size, 2, none⟩ = some (Value.int IntKind.i64 (q k 2)) := cell_of_row w2.drew _ 2 _ _ _ hh2
      have f3 : w2.drew.cell? ⟨wr.heap.size, 3, none⟩ = some (Value.int IntKind.i64 (q k 3)) := cell_of_row w2.drew _ 3 _ _ _ hh2
      have f4 : w2.drew.cell? ⟨wr.heap.size, 4, none⟩ = some (Value.slice sa sl sc) := cell_of_row w2.drew _ 4 _ _ _ hh2
      have hold : ∀ b, b < wr.heap.size → w2.drew.heap[b]? = wr.heap[b]? := fun b hb => by rw [hw2]; exact Below.heap_alloc wr _ b hb
      have hs2 : wr.heap.size + 1 ≤ w2.drew.heap.size := by rw [hw2]; simp
      have hcu2 : w2.drew.cell? ⟨w1.heap.size, 1, none⟩ = some vc := (World.cell?_of_block (hold _ hbu)).trans hcu
      have hi2 := E.step _ _ _ _ w2.drew hinv (by omega) (by rw [hw2]; rfl) (by rw [hw2]; rfl) (fun b hb _ => hold b hb)
      clear hw2
      have hcall := E.call _ _ _ _ hi2 hlt
      rw [hS] at hcall
      have hR : Calls Tryz.prog 45 #[.agg #[.int .i64 (q k 0), .int .i64 (q k 1), .int .i64 (q k 2), .int .i64 (q k 3), .slice sa sl sc]] w2.drew fun e w4 => ∃ u, e = .returned u ∧ ∃ v0 v1 v2 v3 v4, u = .agg #[v0, v1, v2, v3, v4] ∧ Mid I w.heap.size w1.heap.size b1 c1 n (names.map Value.string) k xs vc v0 v1 v2 v3 v4 wr.heap.size w4 := by
        refine hcall.mono ?_
        rintro e w4 ⟨v0, v1, v2, v3, v4, rfl, hone, hI4, hsz4, hsame⟩
        have hl : ∀ b, b < wr.heap.size → B b → w4.heap[b]? = wr.heap[b]? := fun b hb hB => (hsame b (by omega) (.inl hB)).trans (hold b hb)
        have hlr := (Array.getElem?_eq_some_iff.1 L.res).1
        have hlb := (L.row1.lt b1 rfl).2
        have hub4 := (hl _ hbu L.hB.2.1).trans L.ub
        have hbu4 : w1.heap.size < w4.heap.size := by omega
        refine ⟨_, rfl, v0, v1, v2, v3, v4, rfl, ⟨_, hI4, ⟨.inl L.hB.1, by omega⟩, ⟨.inl L.hB.2.1, by omega⟩, ⟨.inl L.hB.2.2, by omega⟩, fun b hb => ?_⟩, hone, (hl _ hlr L.hB.1).trans L.res, hub4, own_same L.row1 fun g hg => ?_, own_same L.row2 fun g hg => hl g (L.row2.lt g hg).2 (hV g hg).1, L.ne, by omega, cell_of_row _ _ 1 _ _ _ hub4, fun o => Lib.cell?_alloc_some _ (cell_of_row _ _ 1 _ _ _ hub4)⟩
        · have := (L.row2.lt b hb).2
          exact ⟨⟨.inl (hV b hb).1, by omega⟩, (hV b hb).2⟩
        · cases hg
          exact hl _ hlb L.hB.2.2
      have hE : ∀ args w, (callFunc 45 args).run Tryz.prog w = .ok (.enter 45 args) w := fun args w => by kernel_rfl
      go_region_law_o (first
        | (refine step_callv rfl (.tmp 25) (.tmp 26) 44 rfl 45 _ rfl rfl hE hR ?_; rintro u w4 ⟨v0, v1, v2, v3, v4, rfl, M⟩; have mc := M.cu; have mca := M.cua)
        | (refine step_append_own rfl (.tmp 24) (.tmp 28) 23 rfl w.heap.size 44 i0 z5' 5 56 t23 hi0 hz0 hz1 hz2 hzs (by decide) vc k xs rfl (M.row2.alloc _) ⟨w4.heap.size, 0, none⟩ 1 1 [v0, v1, v2, v3, v4] rfl (by decide) rfl (fun j u hj => M.news j u hj) M.one (by unfold maxLen; omega) (by omega) (M.bsz _) ?_; intro v6 w6 h6 h7 h8; obtain ⟨b6, c6, rfl⟩ := own_slice h6; have m6 := M.app E.step h6 h7 h8; have m6c := m6.cu; have m6f := m6.fz))
      all_goals
        obtain ⟨B7, L7⟩ := m6.put E.step
        go_wp2
        go_roundg (n - (k + 1))
        case measure => omega
        case rel => exact ⟨k + 1, B7, _, _, hlt, Nat.le_refl _, by go_num, L7⟩
    · have ek : k = n := by omega
      subst ek
      have hlt' : ¬ (k : Int) < (k : Int) := by omega
      have hub := L.ub
      have hres := L.res
      have g0 : wr.cell? ⟨w1.heap.size, 0, none⟩ = some (.slice (some ⟨b1, 0, none⟩) k c1) := cell_of_row wr _ 0 _ _ _ hub
      have g1 : wr.cell? ⟨w1.heap.size, 1, none⟩ = some vc := cell_of_row wr _ 1 _ _ _ hub
      have g2 : wr.cell? ⟨w.heap.size, 0, none⟩ = some (.slice none 0 0) := cell_of_row wr _ 0 _ _ _ hres
      have g3 : wr.cell? ⟨w.heap.size, 1, none⟩ = some (.slice none 0 0) := cell_of_row wr _ 1 _ _ _ hres
      have g4 : wr.frozen? ⟨w.heap.size, 0, none⟩ = false := by simp [World.frozen?, hres]
      have g5 : wr.frozen? ⟨w.heap.size, 1, none⟩ = false := by simp [World.frozen?, hres]
      obtain ⟨k, rfl⟩ : ∃ m, k = m + 1 := ⟨k - 1, by omega⟩
      obtain ⟨b2, c2, rfl⟩ := own_slice L.row2
      go_wp2
      obtain ⟨w9, hw9⟩ : ∃ w9, w9 = ((wr.setCell ⟨w.heap.size, 0, none⟩ (Value.slice (some ⟨b1, 0, none⟩) (k + 1) c1)).setCell ⟨w.heap.size, 1, none⟩ (Value.slice (some ⟨b2, 0, none⟩) (k + 1) c2)) := ⟨_, rfl⟩
      have hlr := (Array.getElem?_eq_some_iff.1 hres).1
      have hb9 : w9.heap[w.heap.size]? = some (.cells #[.slice (some ⟨b1, 0, none⟩) (k + 1) c1, .slice (some ⟨b2, 0, none⟩) (k + 1) c2] 25 (0, 0)) := by
        rw [hw9]
        simp only [World.setCell, Array.getElem?_modify, if_true, hres]
        rfl
      have ho9 : ∀ b, b ≠ w.heap.size → w9.heap[b]? = wr.heap[b]? := fun b hb => by
        rw [hw9]
        exact (Below.heap_setCell _ _ _ _ hb).trans (Below.heap_setCell _ _ _ _ hb)
      have hs9 : wr.heap.size ≤ w9.heap.size := by rw [hw9]; simp [World.setCell]
      have hos : w9.os = wr.os := by rw [hw9]; rfl
      have hout : w9.output = wr.output := by rw [hw9]; rfl
      rw [← hw9]
      clear hw9
      have k0 : w9.cell? ⟨w.heap.size, 0, none⟩ = some (.slice (some ⟨b1, 0, none⟩) (k + 1) c1) := cell_of_row w9 _ 0 _ _ _ hb9
      have k1 : w9.cell? ⟨w.heap.size, 1, none⟩ = some (.slice (some ⟨b2, 0, none⟩) (k + 1) c2) := cell_of_row w9 _ 1 _ _ _ hb9
      have hV := L.hV b2 rfl
      refine bodyPost_ret (v := .agg #[.slice (some ⟨b1, 0, none⟩) (k + 1) c1, .slice (some ⟨b2, 0, none⟩) (k + 1) c2]) (w := w9) (by simp only [results, show Tryz.f48.results = #[.cell 4 25] from rfl]; go_simp) rfl ⟨_, xs, b1, c1, b2, c2, rfl, E.step _ _ _ _ w9 L.inv hs9 hos hout (fun b _ hB => ho9 b fun e => hB (e ▸ L.hB.1)), own_same L.row1 fun g hg => ?_, own_same L.row2 fun g hg => ?_, .inl L.hB.2.2, .inl hV.1, fun e => hV.2.2.2 e.symm⟩
      · cases hg
        exact ho9 _ L.ne.2.1
      · cases hg
        exact ho9 _ hV.2.1
end Go.Avm
