/- slices.Delete, of a row that is ours. -/
import Derived.Test.YtabdnpjbofiknaaGreatDoorAZ1
import Derived.Test.YtabdnpjbofiknaaGreatDoorA3
import Derived.Test.YtabdnpjbofiknaaGreatDoorAK3
import Derived.Test.YtabdnpjbofiknaaGreatDoorM1
set_option linter.all false
/- slices.Delete, of a row that is ours. -/
namespace Go.Avm
open Go Go.Proofs Go.Shelf Go.RowKit Go.Lib
theorem setVs_list : ∀ (us : List Value) (vs : Array Value) (o : Nat), o + us.length ≤ vs.size → (setVs vs o us).toList = vs.toList.take o ++ us ++ vs.toList.drop (o + us.length)
  | [], vs, o, h => by simp [setVs]
  | u :: us, vs, o, h => by
    simp only [List.length_cons] at h
    have ho : o < vs.size := by omega
    show (setVs (vs.setIfInBounds o u) (o + 1) us).toList = _
    rw [setVs_list us _ _ (by simp; omega)]
    refine List.ext_getElem? fun j => ?_
    simp only [Array.toList_setIfInBounds, List.append_assoc, List.getElem?_append, List.length_take, List.length_set, Array.length_toList, List.getElem?_take, List.getElem?_drop, List.getElem?_set, List.length_cons]
    by_cases h1 : j < o
    · grind
    · by_cases h2 : j = o
      · grind
      · grind
theorem del_set (s n cap k : Nat) (cur : Array Value) (xs : List Value) (hcs : cur.size = cap * s) (htk : cur.toList.take (n * s) = xs) (hn : n ≤ cap) (hk : k < n) (Z : List Value) (hZ : Z.length = s) :
    (setVs (setVs cur (k * s) (xs.drop ((k + 1) * s))) ((n - 1) * s) Z).size = cap * s ∧ (setVs (setVs cur (k * s) (xs.drop ((k + 1) * s))) ((n - 1) * s) Z).toList.take ((n - 1) * s) = xs.take (k * s) ++ xs.drop ((k + 1) * s) := by
  obtain ⟨m, rfl⟩ : ∃ m, n = k + 1 + m := ⟨n - (k + 1), by omega⟩
  have e1 : k + 1 + m - 1 = k + m := by omega
  have hle : (k + 1 + m) * s ≤ cap * s := Nat.mul_le_mul_right _ hn
  have e2 : (k + 1 + m) * s = k * s + s + m * s := by rw [Nat.add_mul, Nat.add_mul, Nat.one_mul]
  have e3 : (k + m) * s = k * s + m * s := Nat.add_mul _ _ _
  have e4 : (k + 1) * s = k * s + s := by rw [Nat.add_mul, Nat.one_mul]
  have hxl : xs.length = k * s + s + m * s := by rw [← htk, List.length_take, Array.length_toList, hcs, e2, Nat.min_eq_left (by omega)]
  have hdl : (xs.drop ((k + 1) * s)).length = m * s := by rw [List.length_drop, hxl, e4]; omega
  refine ⟨by rw [size_setVs, size_setVs, hcs], ?_⟩
  rw [e1, e3]
  have h1 := setVs_list (xs.drop ((k + 1) * s)) cur (k * s) (by rw [hdl, hcs]; omega)
  have h2 := setVs_list Z (setVs cur (k * s) (xs.drop ((k + 1) * s))) (k * s + m * s) (by rw [size_setVs, hcs, hZ]; omega)
  rw [h2, List.append_assoc, List.take_append_of_le_length (by rw [List.length_take, Array.length_toList, size_setVs, hcs]; omega), List.take_take, Nat.min_self, h1]
  have hl1 : (cur.toList.take (k * s)).length = k * s := by rw [List.length_take, Array.length_toList, hcs]; omega
  have hl2 : (cur.toList.take (k * s) ++ xs.drop ((k + 1) * s)).length = k * s + m * s := by rw [List.length_append, hl1, hdl]
  rw [List.take_append_of_le_length (by omega), ← hl2, List.take_length, ← htk, List.take_take, Nat.min_eq_left (by omega)]
theorem one_get {xs : List Value} (h : ∀ u ∈ xs, u.oneCell' = true) (n : Nat) : ∀ u ∈ xs.drop n, u.oneCell' = true := fun u hu => h u (List.mem_of_mem_drop hu)
theorem frz0 {w : World} {b : Nat} {cur : Array Value} {e : TypeId} (h : w.heap[b]? = some (.cells cur e (0, 0))) (o : Nat) : w.frozen? ⟨b, o, none⟩ = false := by simp [World.frozen?, h]
section
variable {base b n cap k : Nat} {xs : List Value} {w : World}
theorem del_own {s : Nat} {e : TypeId} (hown : w.ownsRow base e s (.slice (some ⟨b, 0, none⟩) n cap) n xs) (hk : k < n) (Z : List Value) (hZ : Z.length = s) {w' : World} (hw : w' = (w.drew.setCells b (0 + k * s) (xs.drop ((k + 1) * s))).setCells b (0 + (n - 1) * s) Z) :
    w'.ownsRow base e s (.slice (some ⟨b, 0, none⟩) (n - 1) cap) (n - 1) (xs.take (k * s) ++ xs.drop ((k + 1) * s)) ∧ w'.heap.size = w.heap.size ∧ w'.os = w.os ∧ w'.output = w.output ∧ ∀ c, c ≠ b → w'.heap[c]? = w.heap[c]? := by
  rw [Nat.zero_add, Nat.zero_add] at hw
  rcases hown.2 with ⟨h, _⟩ | ⟨g, cap', cur, h, hb, hg, hnc, hcm, hcs, htk⟩
  · cases h
  · cases h
    have hd := del_set s n cap k cur xs hcs htk hnc hk Z hZ
    have hg' : w.drew.heap[b]? = some (.cells cur e (0, 0)) := hg
    have h2 := setCells_same b Z ((n - 1) * s) _ _ _ _ (setCells_same b (xs.drop ((k + 1) * s)) (k * s) _ _ _ _ hg')
    rw [← hw] at h2
    refine ⟨⟨?_, .inr ⟨b, cap, _, rfl, hb, h2, by omega, hcm, hd.1, hd.2⟩⟩, ?_, ?_, ?_, fun c hc => ?_⟩
    · rw [← hd.2, List.length_take, Array.length_toList, hd.1]
      exact Nat.min_eq_left (Nat.mul_le_mul_right _ (by omega))
    · rw [hw, setCells_size, setCells_size]; rfl
    · rw [hw, (setCells_io b _ _ _).1, (setCells_io b _ _ _).1]; rfl
    · rw [hw, (setCells_io b _ _ _).2, (setCells_io b _ _ _).2]; rfl
    · rw [hw, setCells_other b _ _ _ _ hc, setCells_other b _ _ _ _ hc]; rfl
theorem z_delS_own (hown : w.ownsRow base 9 1 (.slice (some ⟨b, 0, none⟩) n cap) n xs) (h1 : ∀ u ∈ xs, u.oneCell' = true) (hk : k < n) :
    Calls Tryz.prog 49 #[.slice (some ⟨b, 0, none⟩) n cap, .int .i64 k, .int .i64 ((k + 1 : Nat) : Int)] w fun e w' => e = .returned (.slice (some ⟨b, 0, none⟩) (n - 1) cap) ∧ w'.ownsRow base 9 1 (.slice (some ⟨b, 0, none⟩) (n - 1) cap) (n - 1) (xs.take k ++ xs.drop (k + 1)) ∧ w'.heap.size = w.heap.size ∧ w'.os = w.os ∧ w'.output = w.output ∧ ∀ c, c ≠ b → w'.heap[c]? = w.heap[c]? := by
  have ho := hown
  rcases hown.2 with ⟨h, _⟩ | ⟨g, cap', cur, h, hb, hg, hnc, hcm, hcs, htk⟩
  · cases h
  · cases h
    have hxl := hown.1
    have hg' : w.drew.heap[b]? = some (.cells cur 9 (0, 0)) := hg
    have hgg : (w.drew.setCells b (0 + k) (xs.drop (k + 1))).heap[b]? = some (.cells (setVs cur (0 + k) (xs.drop (k + 1))) 9 (0, 0)) := setCells_same b _ _ _ _ _ _ hg'
    have hcell : ∀ j, j < n → w.drew.cell? ⟨b, j, none⟩ = xs[j]? := fun j hj => by
      rw [cell_of_row w.drew b j cur 9 _ hg', ← htk, List.getElem?_take, if_pos (by omega), Array.getElem?_toList]
    refine (z_delS b 0 n cap k w hk hnc hcm (xs.drop (k + 1)) (by rw [List.length_drop]; omega) ?_ (one_get h1 _) (fun t ht => ?_) (fun j hj => ?_)).mono ?_
    · intro A hA t u hu
      have ht : t < n - (k + 1) := by have := (List.getElem?_eq_some_iff.1 hu).1; rw [List.length_drop] at this; omega
      rw [if_neg (by omega)] at hA
      cases hA
      rw [Addr.add_lit, hcell _ (by omega)]
      rw [List.getElem?_drop] at hu
      rw [← hu]
      congr 1
      omega
    · rw [List.length_drop] at ht
      refine ⟨?_, frz0 hg' _⟩
      rw [cell_of_row w.drew b _ cur 9 _ hg', Array.getElem?_eq_getElem (by omega)]
      rfl
    · refine ⟨?_, frz0 hgg _⟩
      rw [cell_of_row _ b _ _ 9 _ hgg, Array.getElem?_eq_getElem (by rw [size_setVs]; omega)]
      rfl
    · rintro e w' ⟨rfl, hw⟩
      have hd := del_own ho hk (Builtin.zeroCells (Value.string .empty).cells 1).toList (by rw [zero_len]; rfl) (w' := w') (by rw [hw]; simp only [Nat.mul_one])
      simp only [Nat.mul_one] at hd
      exact ⟨rfl, hd⟩
theorem z_delA_own (hown : w.ownsRow base 44 5 (.slice (some ⟨b, 0, none⟩) n cap) n xs) (h1 : ∀ u ∈ xs, u.oneCell' = true) (hk : k < n) :
    Calls Tryz.prog 50 #[.slice (some ⟨b, 0, none⟩) n cap, .int .i64 k, .int .i64 ((k + 1 : Nat) : Int)] w fun e w' => e = .returned (.slice (some ⟨b, 0, none⟩) (n - 1) cap) ∧ w'.ownsRow base 44 5 (.slice (some ⟨b, 0, none⟩) (n - 1) cap) (n - 1) (xs.take (k * 5) ++ xs.drop ((k + 1) * 5)) ∧ w'.heap.size = w.heap.size ∧ w'.os = w.os ∧ w'.output = w.output ∧ ∀ c, c ≠ b → w'.heap[c]? = w.heap[c]? := by
  have ho := hown
  rcases hown.2 with ⟨h, _⟩ | ⟨g, cap', cur, h, hb, hg, hnc, hcm, hcs, htk⟩
  · cases h
  · cases h
    have hxl := hown.1
    have hg' : w.drew.heap[b]? = some (.cells cur 44 (0, 0)) := hg
    have hgg : (w.drew.setCells b (0 + k * 5) (xs.drop ((k + 1) * 5))).heap[b]? = some (.cells (setVs cur (0 + k * 5) (xs.drop ((k + 1) * 5))) 44 (0, 0)) := setCells_same b _ _ _ _ _ _ hg'
    have hcell : ∀ j, j < n * 5 → w.drew.cell? ⟨b, j, none⟩ = xs[j]? := fun j hj => by
      rw [cell_of_row w.drew b j cur 44 _ hg', ← htk, List.getElem?_take, if_pos (by omega), Array.getElem?_toList]
    refine (z_del b 0 n cap k w hk hnc hcm (xs.drop ((k + 1) * 5)) (by rw [List.length_drop]; omega) ?_ (one_get h1 _) (fun t ht => ?_) (fun j hj => ?_)).mono ?_
    · intro A hA t u hu
      have ht : t < n * 5 - (k + 1) * 5 := by have := (List.getElem?_eq_some_iff.1 hu).1; rw [List.length_drop] at this; omega
      rw [if_neg (by omega)] at hA
      cases hA
      rw [Addr.add_lit, hcell _ (by omega)]
      rw [List.getElem?_drop] at hu
      rw [← hu]
      congr 1
      omega
    · rw [List.length_drop] at ht
      refine ⟨?_, frz0 hg' _⟩
      rw [cell_of_row w.drew b _ cur 44 _ hg', Array.getElem?_eq_getElem (by omega)]
      rfl
    · refine ⟨?_, frz0 hgg _⟩
      rw [cell_of_row _ b _ _ 44 _ hgg, Array.getElem?_eq_getElem (by rw [size_setVs]; omega)]
      rfl
    · rintro e w' ⟨rfl, hw⟩
      have hd := del_own ho hk (Builtin.zeroCells z5.cells 1).toList (by rw [zero_len]; rfl) (w' := w') hw
      exact ⟨rfl, hd⟩
end
end Go.Avm

/- Drop, walked at the level of worlds. -/
namespace Go.Avm
open Go Go.Proofs Go.Shelf Go.RowKit Go.Lib
theorem two_cells {w w9 : World} {b : Nat} {x y u v : Value} {e : TypeId} (h : w.heap[b]? = some (.cells #[x, y] e (0, 0))) (hw : w9 = ((w.setCell ⟨b, 0, none⟩ u).setCell ⟨b, 1, none⟩ v)) :
    w9.heap[b]? = some (.cells #[u, v] e (0, 0)) ∧ w9.heap.size = w.heap.size ∧ w9.os = w.os ∧ w9.output = w.output ∧ ∀ c, c ≠ b → w9.heap[c]? = w.heap[c]? := by
  subst hw
  refine ⟨?_, by simp [World.setCell], rfl, rfl, fun c hc => (Below.heap_setCell _ _ _ _ hc).trans (Below.heap_setCell _ _ _ _ hc)⟩
  simp only [World.setCell, Array.getElem?_modify, if_true, h]
  rfl
set_option maxHeartbeats 4000000 in
set_option maxRecDepth 1000000 in
theorem z_drop_err (w : World) (vn vc : Value) (nm : ByteArray) (i er : Int) (her : er ≠ 0) (G : World → Prop) (a1 a2 : Option Addr) (n1 c1 n2 c2 : Nat) (hvn : vn = .slice a1 n1 c1) (hvc : vc = .slice a2 n2 c2)
    (hat : Calls Tryz.prog 38 #[.pointer (some ⟨w.heap.size, 0, none⟩), .string nm] ((w.alloc (.cells #[vn, vc] 25)).alloc (.cells #[.slice none 0 0, .slice none 0 0] 25)) fun e w2 => e = .returned (.tuple #[.int .i64 i, .int .i64 er]) ∧ w2.heap[w.heap.size + 1]? = some (.cells #[.slice none 0 0, .slice none 0 0] 25 (0, 0)) ∧ G w2) :
    Calls Tryz.prog 27 #[.agg #[vn, vc], .string nm] w fun e w' => e = .returned (.tuple #[.agg #[.slice none 0 0, .slice none 0 0], .int .i64 er]) ∧ ∃ w2, G w2 ∧ w2.heap.size ≤ w'.heap.size ∧ w'.os = w2.os ∧ w'.output = w2.output ∧ ∀ b, b ≠ w.heap.size + 1 → w'.heap[b]? = w2.heap[b]? := by
  subst hvn hvc
  have mixed : Tryz.prog.follows .mixedOrders = true := by kernel_rfl
  go_enter Tryz.func27, Tryz.ntmps27
  go_wp2_with fail
  refine hat.mono ?_
  rintro e w2 ⟨rfl, hbr, hG⟩
  have k0 : w2.cell? ⟨w.heap.size + 1, 0, none⟩ = some (.slice none 0 0) := cell_of_row w2 _ 0 _ _ _ hbr
  have k1 : w2.cell? ⟨w.heap.size + 1, 1, none⟩ = some (.slice none 0 0) := cell_of_row w2 _ 1 _ _ _ hbr
  have k2 := frz0 hbr 0
  have k3 := frz0 hbr 1
  go_wp2_with fail
  obtain ⟨w9, hw9⟩ : ∃ w9, w9 = ((w2.setCell ⟨w.heap.size + 1, 0, none⟩ (Value.slice none 0 0)).setCell ⟨w.heap.size + 1, 1, none⟩ (Value.slice none 0 0)) := ⟨_, rfl⟩
  obtain ⟨hb9, hs9, hos, hout, ho9⟩ := two_cells hbr hw9
  rw [← hw9]
  clear hw9
  have k4 : w9.cell? ⟨w.heap.size + 1, 0, none⟩ = some (.slice none 0 0) := cell_of_row w9 _ 0 _ _ _ hb9
  have k5 : w9.cell? ⟨w.heap.size + 1, 1, none⟩ = some (.slice none 0 0) := cell_of_row w9 _ 1 _ _ _ hb9
  exact bodyPost_ret (v := .tuple #[.agg #[.slice none 0 0, .slice none 0 0], .int .i64 er]) (w := w9) (by simp only [results, show Tryz.f27.results = #[.cell 4 25, .tmp 5] from rfl]; go_simp) rfl ⟨rfl, w2, hG, by omega, hos, hout, ho9⟩
/-- What `each` has made for Drop. -/
structure DropE (base br n : Nat) (b1 c1 b2 c2 : Nat) (nms xs : List Value) (w3 : World) : Prop where
  row1 : w3.ownsRow base 9 1 (.slice (some ⟨b1, 0, none⟩) n c1) n nms
  row2 : w3.ownsRow base 44 5 (.slice (some ⟨b2, 0, none⟩) n c2) n xs
  ne : b1 ≠ b2
  one1 : ∀ u ∈ nms, u.oneCell' = true
  one2 : ∀ u ∈ xs, u.oneCell' = true
  res : w3.heap[br]? = some (.cells #[.slice none 0 0, .slice none 0 0] 25 (0, 0))
  lt : br < base
theorem step_call3 {P : Program} {ops : Array Oper} {o : Oper} {a : Act} {w : World} {K : Act → World → Prop} {Q : Exit → Act → World → Prop} {E : Prop}
    (hg : o.guard = none) (f : FuncId) (x y z : Operand) (tys : Array TypeId) (hop : o.op = .call { callee := .value (.func f), args := #[x, y, z], argTypes := tys }) (v1 v2 v3 : Value) (hx : a.eval x = v1) (hy : a.eval y = v2) (hz : a.eval z = v3)
    (hE : ∀ args w, (callFunc f args).run P w = .ok (.enter f args) w) {R : Value → World → Prop} (h : Calls P f #[v1, v2, v3] w fun e w' => ∃ u, e = .returned u ∧ R u w') (hK : ∀ u w', R u w' → K (a.put o.dst u) w') :
    if Region.wanted o (yielded ops a.tmps) = true then Oper.wp P o a w K Q else E := by
  have hw : Region.wanted o (yielded ops a.tmps) = true := by simp [Region.wanted, hg]
  rw [if_pos hw]
  have hrun : (execOp a.eval o).run P w = .ok (.enter f #[v1, v2, v3]) w := by
    have he : a.eval (.func f) = .func (.func f) #[] #[] := rfl
    simp [execOp, hop, resolve, invoke, he, hx, hy, hz, hE, Deferred.ofValue]
  unfold Oper.wp
  rw [hrun, Oper.upon_enter]
  refine h.mono ?_
  rintro e w' ⟨u, rfl, hR⟩
  exact hK u w' hR
/-- Two rows of ours, and a box that holds them; w: what the blocks held before. -/
structure DropW (base bu n1 b1 c1 n2 b2 c2 : Nat) (v1 v2 : Value) (nms xs : List Value) (w3 w : World) : Prop where
  row1 : w.ownsRow base 9 1 (.slice (some ⟨b1, 0, none⟩) n1 c1) n1 nms
  row2 : w.ownsRow base 44 5 (.slice (some ⟨b2, 0, none⟩) n2 c2) n2 xs
  ub : w.heap[bu]? = some (.cells #[v1, v2] 25 (0, 0))
  ne : b1 ≠ b2 ∧ b1 ≠ bu ∧ b2 ≠ bu
  size : w3.heap.size ≤ w.heap.size
  os : w.os = w3.os
  output : w.output = w3.output
  same : ∀ b, b < w3.heap.size → b ≠ b1 → b ≠ b2 → w.heap[b]? = w3.heap[b]?
  c0 : w.cell? ⟨bu, 0, none⟩ = some v1
  c1 : w.cell? ⟨bu, 1, none⟩ = some v2
  f0 : w.frozen? ⟨bu, 0, none⟩ = false
  f1 : w.frozen? ⟨bu, 1, none⟩ = false
section
variable {base bu n1 b1 c1 n2 b2 c2 : Nat} {v1 v2 : Value} {nms xs : List Value} {w3 w : World}
theorem DropW.delS (D : DropW base bu n1 b1 c1 n2 b2 c2 v1 v2 nms xs w3 w) (h1 : ∀ u ∈ nms, u.oneCell' = true) {k : Nat} (hk : k < n1) :
    Calls Tryz.prog 49 #[.slice (some ⟨b1, 0, none⟩) n1 c1, .int .i64 k, .int .i64 ((k + 1 : Nat) : Int)] w fun e w' => ∃ u, e = .returned u ∧ u = .slice (some ⟨b1, 0, none⟩) (n1 - 1) c1 ∧ DropW base bu (n1 - 1) b1 c1 n2 b2 c2 v1 v2 (nms.take k ++ nms.drop (k + 1)) xs w3 w' := by
  refine (z_delS_own D.row1 h1 hk).mono ?_
  rintro e w' ⟨rfl, hr, hs, ho, hp, hc⟩
  have hub := (hc bu D.ne.2.1.symm).trans D.ub
  exact ⟨_, rfl, rfl, hr, own_same D.row2 fun g hg => (by cases hg; exact hc _ D.ne.1.symm), hub, D.ne, by have := D.size; omega, ho.trans D.os, hp.trans D.output, fun b h1 h2 h3 => (hc b h2).trans (D.same b h1 h2 h3), cell_of_row _ _ 0 _ _ _ hub, cell_of_row _ _ 1 _ _ _ hub, frz0 hub 0, frz0 hub 1⟩
theorem DropW.delA (D : DropW base bu n1 b1 c1 n2 b2 c2 v1 v2 nms xs w3 w) (h1 : ∀ u ∈ xs, u.oneCell' = true) {k : Nat} (hk : k < n2) :
    Calls Tryz.prog 50 #[.slice (some ⟨b2, 0, none⟩) n2 c2, .int .i64 k, .int .i64 ((k + 1 : Nat) : Int)] w fun e w' => ∃ u, e = .returned u ∧ u = .slice (some ⟨b2, 0, none⟩) (n2 - 1) c2 ∧ DropW base bu n1 b1 c1 (n2 - 1) b2 c2 v1 v2 nms (xs.take (k * 5) ++ xs.drop ((k + 1) * 5)) w3 w' := by
  refine (z_delA_own D.row2 h1 hk).mono ?_
  rintro e w' ⟨rfl, hr, hs, ho, hp, hc⟩
  have hub := (hc bu D.ne.2.2.symm).trans D.ub
  exact ⟨_, rfl, rfl, own_same D.row1 fun g hg => (by cases hg; exact hc _ D.ne.1), hr, hub, D.ne, by have := D.size; omega, ho.trans D.os, hp.trans D.output, fun b h1 h2 h3 => (hc b h3).trans (D.same b h1 h2 h3), cell_of_row _ _ 0 _ _ _ hub, cell_of_row _ _ 1 _ _ _ hub, frz0 hub 0, frz0 hub 1⟩
end
theorem drop_end {G3 : Nat → Nat → List Value → World → Prop} {base br n b1 c1 b2 c2 k : Nat} {v1 v2 : Value} {nms xs : List Value} {w3 w6 w7 w9 : World} (D : DropE base br n b1 c1 b2 c2 nms xs w3) (hG3 : G3 b1 b2 xs w3)
    (D6 : DropW base w3.heap.size (n - 1) b1 c1 (n - 1) b2 c2 v1 v2 (nms.take k ++ nms.drop (k + 1)) (xs.take (k * 5) ++ xs.drop ((k + 1) * 5)) w3 w6)
    (hs7 : w7.heap.size = w6.heap.size) (ho7 : w7.os = w6.os) (hp7 : w7.output = w6.output) (h7 : ∀ c, c ≠ w3.heap.size → w7.heap[c]? = w6.heap[c]?)
    (hs9 : w9.heap.size = w7.heap.size) (ho9 : w9.os = w7.os) (hp9 : w9.output = w7.output) (h9 : ∀ c, c ≠ br → w9.heap[c]? = w7.heap[c]?) :
    ∃ b1' c1' b2' c2' xs w3', (Ending.returned (.tuple #[.agg #[.slice (some ⟨b1, 0, none⟩) (n - 1) c1, .slice (some ⟨b2, 0, none⟩) (n - 1) c2], .int .i64 0])) = .returned (.tuple #[.agg #[.slice (some ⟨b1', 0, none⟩) (n - 1) c1', .slice (some ⟨b2', 0, none⟩) (n - 1) c2'], .int .i64 0]) ∧ DropE base br n b1' c1' b2' c2' nms xs w3' ∧ G3 b1' b2' xs w3' ∧
      w9.ownsRow base 9 1 (.slice (some ⟨b1', 0, none⟩) (n - 1) c1') (n - 1) (nms.take k ++ nms.drop (k + 1)) ∧ w9.ownsRow base 44 5 (.slice (some ⟨b2', 0, none⟩) (n - 1) c2') (n - 1) (xs.take (k * 5) ++ xs.drop ((k + 1) * 5)) ∧
      w3'.heap.size ≤ w9.heap.size ∧ w9.os = w3'.os ∧ w9.output = w3'.output ∧ ∀ b, b < w3'.heap.size → b ≠ b1' → b ≠ b2' → b ≠ br → w9.heap[b]? = w3'.heap[b]? := by
  have hbr1 : b1 ≠ br := by have := (D.row1.lt b1 rfl).1; have := D.lt; omega
  have hbr2 : b2 ≠ br := by have := (D.row2.lt b2 rfl).1; have := D.lt; omega
  refine ⟨b1, c1, b2, c2, xs, w3, rfl, D, hG3, own_same D6.row1 fun g hg => ?_, own_same D6.row2 fun g hg => ?_, by have := D6.size; omega, by rw [ho9, ho7, D6.os], by rw [hp9, hp7, D6.output], fun b hb h1 h2 h3 => (h9 b h3).trans ((h7 b (by omega)).trans (D6.same b hb h1 h2))⟩
  · cases hg
    exact (h9 _ hbr1).trans (h7 _ D6.ne.2.1)
  · cases hg
    exact (h9 _ hbr2).trans (h7 _ D6.ne.2.2)
set_option maxHeartbeats 4000000 in
set_option maxRecDepth 1000000 in
theorem z_drop_ok (w : World) (vn vc : Value) (nm : ByteArray) (n k : Nat) (hk : k < n) (hn : n < 1000000) (G : World → Prop) (G3 : Nat → Nat → List Value → World → Prop) (a1 a2 : Option Addr) (n1 c1 n2 c2 base : Nat) (nms : List Value) (hvn : vn = .slice a1 n1 c1) (hvc : vc = .slice a2 n2 c2)
    (hat : Calls Tryz.prog 38 #[.pointer (some ⟨w.heap.size, 0, none⟩), .string nm] ((w.alloc (.cells #[vn, vc] 25)).alloc (.cells #[.slice none 0 0, .slice none 0 0] 25)) fun e w2 => e = .returned (.tuple #[.int .i64 k, .int .i64 0]) ∧ G w2)
    (heach : ∀ w2, G w2 → Calls Tryz.prog 48 #[.pointer (some ⟨w.heap.size, 0, none⟩), .func (.func 45) #[] #[]] w2 fun e w3 => ∃ b1 c1 b2 c2 xs, e = .returned (.agg #[.slice (some ⟨b1, 0, none⟩) n c1, .slice (some ⟨b2, 0, none⟩) n c2]) ∧ DropE base (w.heap.size + 1) n b1 c1 b2 c2 nms xs w3 ∧ G3 b1 b2 xs w3) :
    Calls Tryz.prog 27 #[.agg #[vn, vc], .string nm] w fun e w' => ∃ b1 c1 b2 c2 xs w3, e = .returned (.tuple #[.agg #[.slice (some ⟨b1, 0, none⟩) (n - 1) c1, .slice (some ⟨b2, 0, none⟩) (n - 1) c2], .int .i64 0]) ∧ DropE base (w.heap.size + 1) n b1 c1 b2 c2 nms xs w3 ∧ G3 b1 b2 xs w3 ∧
      w'.ownsRow base 9 1 (.slice (some ⟨b1, 0, none⟩) (n - 1) c1) (n - 1) (nms.take k ++ nms.drop (k + 1)) ∧ w'.ownsRow base 44 5 (.slice (some ⟨b2, 0, none⟩) (n - 1) c2) (n - 1) (xs.take (k * 5) ++ xs.drop ((k + 1) * 5)) ∧
      w3.heap.size ≤ w'.heap.size ∧ w'.os = w3.os ∧ w'.output = w3.output ∧ ∀ b, b < w3.heap.size → b ≠ b1 → b ≠ b2 → b ≠ w.heap.size + 1 → w'.heap[b]? = w3.heap[b]? := by
  subst hvn hvc
  have mixed : Tryz.prog.follows .mixedOrders = true := by kernel_rfl
  go_enter Tryz.func27, Tryz.ntmps27
  go_wp2_with fail
  refine hat.mono ?_
  rintro e w2 ⟨rfl, hG⟩
  clear hat
  go_wp2_with fail
  refine (heach w2 hG).mono ?_
  rintro e w3 ⟨b1, c3, b2, c4, xs, rfl, D, hG3⟩
  clear heach
  go_wp2_with fail
  obtain ⟨w4, hw4⟩ : ∃ w4 : World, w4 = (w3.alloc (Obj.cells #[Value.slice (some ⟨b1, 0, none⟩) n c3, Value.slice (some ⟨b2, 0, none⟩) n c4] 25)) := ⟨_, rfl⟩
  rw [← hw4]
  have hl1 := (D.row1.lt b1 rfl).2
  have hl2 := (D.row2.lt b2 rfl).2
  have D4 : DropW base w3.heap.size n b1 c3 n b2 c4 (Value.slice (some ⟨b1, 0, none⟩) n c3) (Value.slice (some ⟨b2, 0, none⟩) n c4) nms xs w3 w4.drew := by
    have hub : w4.drew.heap[w3.heap.size]? = some (Obj.cells #[Value.slice (some ⟨b1, 0, none⟩) n c3, Value.slice (some ⟨b2, 0, none⟩) n c4] 25 (0, 0)) := by rw [hw4]; exact heap_alloc_new
    have hold : ∀ b, b < w3.heap.size → w4.drew.heap[b]? = w3.heap[b]? := fun b hb => by rw [hw4]; exact Below.heap_alloc w3 _ b hb
    exact ⟨own_same D.row1 fun g hg => (by cases hg; exact hold _ hl1), own_same D.row2 fun g hg => (by cases hg; exact hold _ hl2), hub, ⟨D.ne, by omega, by omega⟩, by rw [hw4]; simp, by rw [hw4]; rfl, by rw [hw4]; rfl, fun b hb _ _ => hold b hb, cell_of_row _ _ 0 _ _ _ hub, cell_of_row _ _ 1 _ _ _ hub, frz0 hub 0, frz0 hub 1⟩
  clear hw4
  have d0 := D4.c0
  have d1 := D4.c1
  have one1 := D.one1
  have one2 := D.one2
  have hE1 : ∀ args w, (callFunc 49 args).run Tryz.prog w = .ok (.enter 49 args) w := fun args w => by kernel_rfl
  have hE2 : ∀ args w, (callFunc 50 args).run Tryz.prog w = .ok (.enter 50 args) w := fun args w => by kernel_rfl
  have hwr : IntKind.i64.wrap ((k : Int) + 1) = (k : Int) + 1 := by rw [IntKind.wrap]; simp [IntKind.bits, IntKind.signed]; omega
  go_region_law_o (first
    | (refine step_call3 rfl 49 (.tmp 20) (.tmp 21) (.tmp 23) #[22, 3, 3] rfl _ _ _ rfl rfl rfl hE1 (D4.delS one1 hk) ?_; rintro u w5 ⟨rfl, D5⟩; have d5 := D5.c1)
    | (refine step_call3 rfl 50 (.tmp 26) (.tmp 27) (.tmp 29) #[23, 3, 3] rfl _ _ _ rfl rfl rfl hE2 (D5.delA one2 hk) ?_; rintro u w6 ⟨rfl, D6⟩; have d6 := D6.c0; have d7 := D6.c1; have d8 := D6.f0; have d9 := D6.f1))
  all_goals
    obtain ⟨w7, hw7⟩ : ∃ w7, w7 = ((w6.setCell ⟨w3.heap.size, 0, none⟩ (Value.slice (some ⟨b1, 0, none⟩) (n - 1) c3)).setCell ⟨w3.heap.size, 1, none⟩ (Value.slice (some ⟨b2, 0, none⟩) (n - 1) c4)) := ⟨_, rfl⟩
    obtain ⟨hb7, hs7, hos7, hout7, ho7⟩ := two_cells D6.ub hw7
    rw [← hw7]
    clear hw7
    have lbr := (Array.getElem?_eq_some_iff.1 D.res).1
    have hbr7 : w7.heap[w.heap.size + 1]? = some (.cells #[.slice none 0 0, .slice none 0 0] 25 (0, 0)) := (ho7 _ (by omega)).trans ((D6.same _ lbr (by have := (D.row1.lt b1 rfl).1; have := D.lt; omega) (by have := (D.row2.lt b2 rfl).1; have := D.lt; omega)).trans D.res)
    have k0 : w7.cell? ⟨w.heap.size + 1, 0, none⟩ = some (.slice none 0 0) := cell_of_row w7 _ 0 _ _ _ hbr7
    have k1 : w7.cell? ⟨w.heap.size + 1, 1, none⟩ = some (.slice none 0 0) := cell_of_row w7 _ 1 _ _ _ hbr7
    have k2 := frz0 hbr7 0
    have k3 := frz0 hbr7 1
    have k4 : w7.cell? ⟨w3.heap.size, 0, none⟩ = some (.slice (some ⟨b1, 0, none⟩) (n - 1) c3) := cell_of_row w7 _ 0 _ _ _ hb7
    have k5 : w7.cell? ⟨w3.heap.size, 1, none⟩ = some (.slice (some ⟨b2, 0, none⟩) (n - 1) c4) := cell_of_row w7 _ 1 _ _ _ hb7
    go_wp2_with fail
    obtain ⟨w9, hw9⟩ : ∃ w9, w9 = ((w7.setCell ⟨w.heap.size + 1, 0, none⟩ (Value.slice (some ⟨b1, 0, none⟩) (n - 1) c3)).setCell ⟨w.heap.size + 1, 1, none⟩ (Value.slice (some ⟨b2, 0, none⟩) (n - 1) c4)) := ⟨_, rfl⟩
    obtain ⟨hb9, hs9, hos9, hout9, ho9⟩ := two_cells hbr7 hw9
    rw [← hw9]
    clear hw9
    have k6 : w9.cell? ⟨w.heap.size + 1, 0, none⟩ = some (.slice (some ⟨b1, 0, none⟩) (n - 1) c3) := cell_of_row w9 _ 0 _ _ _ hb9
    have k7 : w9.cell? ⟨w.heap.size + 1, 1, none⟩ = some (.slice (some ⟨b2, 0, none⟩) (n - 1) c4) := cell_of_row w9 _ 1 _ _ _ hb9
    exact bodyPost_ret (v := .tuple #[.agg #[.slice (some ⟨b1, 0, none⟩) (n - 1) c3, .slice (some ⟨b2, 0, none⟩) (n - 1) c4], .int .i64 0]) (w := w9) (by simp only [results, show Tryz.f27.results = #[.cell 4 25, .tmp 5] from rfl]; go_simp) rfl (drop_end D hG3 D6 hs7 hos7 hout7 ho7 hs9 hos9 hout9 ho9)
end Go.Avm

/- Drop's contract. -/
namespace Go.Avm
open Go Go.Tb Go.Proofs Go.Shelf Go.RowKit Go.Lib
set_option maxRecDepth 10000
def a5 (a : Lat.Arr) : List AV := [.int .i64 a.k, .int .i64 a.r, .int .i64 a.l0, .int .i64 a.l1, lst (AV.int .i64) .ro a.c]
theorem strs_get {g : Gh} {w : World} : ∀ (l : List (List UInt8)) {us : List Value}, RelL (l.map AV.str) g w us → ∃ ss : List ByteArray, us = ss.map Value.string ∧ ss.map (fun s => s.data.toList) = l
  | [], us, h => ⟨[], by simpa [RelL] using h, rfl⟩
  | x :: l, us, h => by
    simp only [List.map_cons, RelL, Rel] at h
    obtain ⟨v, r, rfl, ⟨s, rfl, hs⟩, h2⟩ := h
    obtain ⟨ss, rfl, e⟩ := strs_get l h2
    exact ⟨s :: ss, rfl, by rw [List.map_cons, hs, e]⟩
theorem relS_str {g : Gh} {w : World} : ∀ ss : List ByteArray, RelL (ss.map fun s => AV.str s.data.toList) g w (ss.map Value.string)
  | [] => by simp [RelL]
  | s :: ss => by
    simp only [List.map_cons, RelL, Rel]
    exact ⟨_, _, rfl, ⟨s, rfl, rfl⟩, relS_str ss⟩
section
variable {X : Cx}
theorem no_own {g : Gh} {w : World} (h : HR g w []) (b o : Nat) : ¬ g.owns b o := fun ho => by
  rcases ho with ⟨i, hi⟩ | ⟨i, lo, hi, h1, _⟩
  · rw [(h.far i (Nat.zero_le _)).1] at hi; cases hi
  · rw [(h.far i (Nat.zero_le _)).2.2] at h1; cases h1
theorem mono_ext {g g' : Gh} {w w' : World} (hwf : Wf X.G g w) (hhr : HR g w []) (he : Ext g w g' w') : Mono g w g' w' :=
  ⟨fun b o hs => ⟨he.S b o hs, he.cell b o (hwf.lt_S hs) (no_own hhr b o)⟩, (fun i b h => by rw [(hhr.far i (Nat.zero_le _)).1] at h; cases h), (fun i n h => by rw [(hhr.far i (Nat.zero_le _)).2.1] at h; cases h)⟩
/-- A state that has come of another one; nothing is owned. -/
structure Kp (X : Cx) (g : Gh) (w : World) (g1 : Gh) (w1 : World) : Prop where
  wf : Wf X.G g1 w1
  hr : HR g1 w1 []
  ext : Ext g w g1 w1
  mono : Mono g w g1 w1
theorem Kp.refl {g : Gh} {w : World} (hwf : Wf X.G g w) (hhr : HR g w []) : Kp X g w g w := ⟨hwf, hhr, Ext.refl g w, Mono.refl g w⟩
theorem Kp.next {g g1 g2 : Gh} {w w1 w2 : World} (k : Kp X g w g1 w1) (h1 : Wf X.G g2 w2) (h2 : HR g2 w2 []) (h3 : Ext g1 w1 g2 w2) : Kp X g w g2 w2 :=
  ⟨h1, h2, k.ext.trans h3, k.mono.trans (mono_ext k.wf k.hr h3)⟩
theorem Kp.step {g g1 : Gh} {w w1 w2 : World} (k : Kp X g w g1 w1) (hw0 : Wf X.G g w) {B : Nat → Prop} (hB : ∀ b, B b → w.heap.size ≤ b ∧ ∀ o, ¬ g1.S b o) (hs : w1.heap.size ≤ w2.heap.size) (ho : w2.os = w1.os) (hp : w2.output = w1.output)
    (hh : ∀ b, b < w1.heap.size → ¬ B b → w2.heap[b]? = w1.heap[b]?) : Kp X g w g1 w2 := by
  have hS : ∀ b o, g1.S b o → w2.heap[b]? = w1.heap[b]? := fun b o h => hh b (k.wf.lt_S h) fun hb => (hB b hb).2 o h
  have hold : ∀ b, b < w.heap.size → w2.heap[b]? = w1.heap[b]? := fun b h => hh b (Nat.lt_of_lt_of_le h k.ext.size) fun hb => by have := (hB b hb).1; omega
  have m : Mono g1 w1 g1 w2 := ⟨fun b o h => ⟨h, by simp only [World.cell?, hS b o h]⟩, fun _ _ h => h, fun i n h => ⟨n, h, .inl ⟨rfl, rfl⟩⟩⟩
  refine ⟨⟨fun b o h => ⟨?_, no_own k.hr b o⟩, k.wf.inj, k.wf.tinj, k.wf.apart, fun i b h => ?_, fun i b lo hi h => ?_, fun x cs hx => Rel.mono _ m (k.wf.laid x cs hx), fun x cs hx => ?_⟩, ⟨fun i x hx => by simp at hx, k.hr.far⟩,
    ⟨by have := k.ext.size; omega, k.ext.S, k.ext.S', fun b o hb hn => ?_, fun b hb hn => (hold b hb).trans (k.ext.obj b hb hn), fun b vs e fz h => ?_, k.ext.own, ho.trans k.ext.io.1, hp.trans k.ext.io.2⟩, k.mono.trans m⟩
  · obtain ⟨⟨vs, e, fz, h1, h2⟩, _⟩ := k.wf.S b o h
    exact ⟨vs, e, fz, (hS b o h).trans h1, h2⟩
  · rw [(k.hr.far i (Nat.zero_le _)).1] at h; cases h
  · rw [(k.hr.far i (Nat.zero_le _)).2.2] at h; cases h
  · obtain ⟨vs, e, fz, h1, h2⟩ := k.wf.ex x cs hx
    obtain ⟨_, _, _, h3, _⟩ := hw0.ex x cs hx
    exact ⟨vs, e, fz, (hold x (Array.getElem?_eq_some_iff.1 h3).1).trans h1, h2⟩
  · rw [← k.ext.cell b o hb hn]
    simp only [World.cell?, hold b hb]
  · obtain ⟨vs', fz', h1, h2⟩ := k.ext.shape b vs e fz h
    exact ⟨vs', fz', (hold b (Array.getElem?_eq_some_iff.1 h).1).trans h1, h2⟩
theorem Kp.row {g g1 : Gh} {w w1 : World} (k : Kp X g w g1 w1) {b : Nat} {cur : Array Value} {e : TypeId} {fz : Nat × Nat} (hb : w.heap.size ≤ b) (hr : w1.heap[b]? = some (.cells cur e fz)) (m : Nat) (hm : m ≤ cur.size) :
    Kp X g w { g1 with S := fun c o => g1.S c o ∨ (c = b ∧ o < m) } w1 ∧ Mono g1 w1 { g1 with S := fun c o => g1.S c o ∨ (c = b ∧ o < m) } w1 := by
  have hm1 : Mono g1 w1 { g1 with S := fun c o => g1.S c o ∨ (c = b ∧ o < m) } w1 := ⟨fun c o h => ⟨.inl h, rfl⟩, fun _ _ h => h, fun i n h => ⟨n, h, .inl ⟨rfl, rfl⟩⟩⟩
  refine ⟨⟨⟨fun c o h => ⟨?_, no_own k.hr c o⟩, k.wf.inj, k.wf.tinj, k.wf.apart, k.wf.bx, k.wf.tk, fun x cs hx => Rel.mono _ hm1 (k.wf.laid x cs hx), k.wf.ex⟩, ⟨fun i x hx => by simp at hx, k.hr.far⟩,
    ⟨k.ext.size, fun c o h => .inl (k.ext.S c o h), fun c o h => ?_, k.ext.cell, k.ext.obj, k.ext.shape, k.ext.own, k.ext.io⟩, k.mono.trans hm1⟩, hm1⟩
  · rcases h with h | ⟨rfl, h⟩
    · exact (k.wf.S c o h).1
    · exact ⟨cur, e, fz, hr, by omega⟩
  · rcases h with h | ⟨rfl, _⟩
    · exact k.ext.S' c o h
    · exact .inr (.inl hb)
theorem kp_m {g g1 : Gh} {w w1 w2 : World} (k : Kp X g w g1 w1) {B : Nat → Prop} (hB : ∀ b, B b → w.heap.size ≤ b ∧ ∀ o, ¬ g1.S b o) (hh : ∀ b, b < w1.heap.size → ¬ B b → w2.heap[b]? = w1.heap[b]?) : Mono g1 w1 g1 w2 :=
  ⟨fun b o h => ⟨h, by simp only [World.cell?, hh b (k.wf.lt_S h) fun hb => (hB b hb).2 o h]⟩, fun _ _ h => h, fun i n h => ⟨n, h, .inl ⟨rfl, rfl⟩⟩⟩
end
section
variable {g : Gh} {w : World}
theorem relL_flat {xs : List AV} {vs : List Value} (hd : ∀ x ∈ xs, dry x = x) (h : RelL xs g w vs) : RelL xs g.flat w vs :=
  RelL.of_get h.length fun i x v hx hv => by
    obtain ⟨u, hu, hr⟩ := h.get' i hx
    rw [hv] at hu
    cases hu
    have := dry_rel x hr
    rwa [hd x (List.mem_of_getElem? hx)] at this
theorem unflat {xs : List AV} {vs : List Value} (h : RelL xs g.flat w vs) : RelL xs g w vs := RelL.mono xs (g := g.flat) (g' := g) (w := w) ⟨fun _ _ h => ⟨h, rfl⟩, (fun _ _ e => nomatch e), (fun _ _ e => nomatch e)⟩ h
theorem take_a5 : ∀ (l : List Lat.Arr) (k : Nat), (l.flatMap a5).take (k * 5) = (l.take k).flatMap a5
  | _, 0 => by simp
  | [], k + 1 => by simp
  | a :: l, k + 1 => by
    rw [List.flatMap_cons, List.take_succ_cons, List.flatMap_cons, ← take_a5 l k, Nat.add_mul, Nat.one_mul, Nat.add_comm, show 5 = (a5 a).length from rfl, List.take_length_add_append]
theorem drop_a5 : ∀ (l : List Lat.Arr) (k : Nat), (l.flatMap a5).drop (k * 5) = (l.drop k).flatMap a5
  | _, 0 => by simp
  | [], k + 1 => by simp
  | a :: l, k + 1 => by
    rw [List.flatMap_cons, List.drop_succ_cons, ← drop_a5 l k, Nat.add_mul, Nat.one_mul, Nat.add_comm, show 5 = (a5 a).length from rfl, List.drop_length_add_append]
theorem a5_one : ∀ (l : List Lat.Arr) {xs : List Value}, RelL (l.flatMap a5) g w xs → ∀ u ∈ xs, u.oneCell' = true
  | [], xs, h, u, hu => by
    simp only [List.flatMap_nil, RelL] at h
    subst h
    simp at hu
  | a :: l, xs, h, u, hu => by
    simp only [List.flatMap_cons, a5, List.cons_append, List.nil_append, RelL, Rel, lst] at h
    obtain ⟨v0, r0, rfl, rfl, v1, r1, rfl, rfl, v2, r2, rfl, rfl, v3, r3, rfl, rfl, v4, r4, rfl, ⟨_, _, _, _, rfl, _⟩, h⟩ := h
    simp only [List.mem_cons] at hu
    rcases hu with rfl | rfl | rfl | rfl | rfl | hu
    all_goals first | rfl | exact a5_one l h u hu
theorem a5_grp : ∀ (l : List Lat.Arr) {xs : List Value}, RelL (l.flatMap a5) g w xs → ∃ us, RelL (l.map arrV) g w us ∧ ∀ (i : Nat) (x : Value), us[i]? = some x → x.cells.size = 5 ∧ ∀ (j : Nat) (c : Value), x.cells[j]? = some c → xs[i * 5 + j]? = some c
  | [], xs, h => ⟨[], by simp [RelL], fun i x hx => by simp at hx⟩
  | a :: l, xs, h => by
    simp only [List.flatMap_cons, a5, List.cons_append, List.nil_append, RelL] at h
    obtain ⟨v0, r0, rfl, h0, v1, r1, rfl, h1, v2, r2, rfl, h2, v3, r3, rfl, h3, v4, r4, rfl, h4, h⟩ := h
    obtain ⟨us, k1, k2⟩ := a5_grp l h
    refine ⟨.agg #[v0, v1, v2, v3, v4] :: us, ?_, fun i x hx => ?_⟩
    · simp only [List.map_cons, RelL, arrV, Rel] at h0 h1 h2 h3 ⊢
      exact ⟨_, us, rfl, ⟨[v0, v1, v2, v3, v4], rfl, v0, _, rfl, h0, v1, _, rfl, h1, v2, _, rfl, h2, v3, _, rfl, h3, v4, _, rfl, h4, rfl⟩, k1⟩
    · cases i with
      | zero =>
        simp only [List.getElem?_cons_zero, Option.some.injEq] at hx
        subst hx
        refine ⟨rfl, fun j c hc => ?_⟩
        have hj : j < 5 := (Array.getElem?_eq_some_iff.1 hc).1
        have : #[v0, v1, v2, v3, v4][j]? = some c := hc
        rw [Nat.zero_mul, Nat.zero_add]
        match j, hj with
        | 0, _ | 1, _ | 2, _ | 3, _ | 4, _ => simpa using this
      | succ i =>
        rw [List.getElem?_cons_succ] at hx
        obtain ⟨k3, k4⟩ := k2 i x hx
        refine ⟨k3, fun j c hc => ?_⟩
        have := k4 j c hc
        rw [show (i + 1) * 5 + j = i * 5 + j + 5 by omega]
        simpa using this
theorem lies_str {ss : List ByteArray} {a : Option Addr} {sz : Nat} (h : Lies g w a sz (ss.map Value.string)) (hne : 0 < ss.length) : ∃ b o, a = some ⟨b, o, none⟩ ∧ ∀ j, j < ss.length → g.S b (o + j) ∧ w.cell? ⟨b, o + j, none⟩ = some (.string (ss.getD j .empty)) := by
  rcases h with h | ⟨b, o, rfl, hc⟩
  · simp only [List.map_eq_nil_iff] at h
    subst h
    simp at hne
  · have hget : ∀ j, j < ss.length → (ss.map Value.string)[j]? = some (.string (ss.getD j .empty)) := fun j hj => by simp [List.getD, hj]
    have hsz : 1 = sz := (hc 0 _ (hget 0 hne)).1
    subst hsz
    refine ⟨b, o, rfl, fun j hj => ?_⟩
    have := (hc j _ (hget j hj)).2 0 (.string (ss.getD j .empty)) rfl
    simpa using this
def slOf (v : Value) : Option Addr × Nat × Nat := match v with
  | .agg arr => (match arr.getD 4 Go.undef with | .slice a n c => (a, n, c) | _ => (none, 0, 0))
  | _ => (none, 0, 0)
def qOf (a : Lat.Arr) : Nat → Int
  | 0 => a.k
  | 1 => a.r
  | 2 => a.l0
  | _ => a.l1
def five (q : Nat → Int) (s : Option Addr × Nat × Nat) : List Value := [.int .i64 (q 0), .int .i64 (q 1), .int .i64 (q 2), .int .i64 (q 3), .slice s.1 s.2.1 s.2.2]
theorem lies_arr {l : List Lat.Arr} {us : List Value} {a : Option Addr} {sz : Nat} (h : Lies g w a sz us) (hr : RelL (l.map arrV) g w us) (hne : 0 < l.length) :
    ∃ b o, a = some ⟨b, o, none⟩ ∧ ∀ i, i < l.length → Rel (arrV (l.getD i default)) g w (.agg (five (qOf (l.getD i default)) (slOf (us.getD i Go.undef))).toArray) ∧
      ∀ (j : Nat) (v : Value), (five (qOf (l.getD i default)) (slOf (us.getD i Go.undef)))[j]? = some v → g.S b (o + i * 5 + j) ∧ w.cell? ⟨b, o + i * 5 + j, none⟩ = some v := by
  have key : ∀ i, i < l.length → us[i]? = some (.agg (five (qOf (l.getD i default)) (slOf (us.getD i Go.undef))).toArray) ∧ Rel (arrV (l.getD i default)) g w (.agg (five (qOf (l.getD i default)) (slOf (us.getD i Go.undef))).toArray) := fun i hi => by
    obtain ⟨u, hu, hru⟩ := hr.get' i (x := arrV (l.getD i default)) (by simp [List.getD, hi])
    have hru' := hru
    generalize l.getD i default = x at hru hru' ⊢
    have hg : us.getD i Go.undef = u := by simp [List.getD, hu]
    rw [hg]
    simp only [arrV, Rel, RelL, lst] at hru'
    obtain ⟨vs, rfl, v0, r0, rfl, rfl, v1, r1, rfl, rfl, v2, r2, rfl, rfl, v3, r3, rfl, rfl, v4, r4, rfl, ⟨_, _, _, _, rfl, _⟩, rfl⟩ := hru'
    exact ⟨hu, hru⟩
  rcases h with h | ⟨b, o, rfl, hc⟩
  · subst h
    have := (key 0 hne).1
    simp at this
  · have hsz : 5 = sz := (hc 0 _ (key 0 hne).1).1
    subst hsz
    exact ⟨b, o, rfl, fun i hi => ⟨(key i hi).2, fun j v hv => (hc i _ (key i hi).1).2 j v (by simpa [Value.cells] using hv)⟩⟩
end
/-- What `each` goes by, here. -/
def EaI (X : Cx) (g : Gh) (w w2 : World) (br : Nat) (t : Tab) (B : Nat → Prop) (k : Nat) (xs : List Value) (w3 : World) : Prop :=
  ∃ g3, Kp X g w g3 w3 ∧ (∀ b, B b → w2.heap.size ≤ b ∧ ∀ o, ¬ g3.S b o) ∧ RelL ((t.c.take k).flatMap a5) g3 w3 xs ∧ (∀ o, ¬ g3.S br o) ∧ (∀ b, b < w2.heap.size → w3.heap[b]? = w2.heap[b]?) ∧ w2.heap.size ≤ w3.heap.size
section
variable {X : Cx} (hX : X.P = Go.Proofs.Tryz.prog) (hs : Std X)
include hX hs
theorem eachI {g : Gh} {w w2 : World} (hw0 : Wf X.G g w) (hsz : w.heap.size ≤ w2.heap.size) {br : Nat} (hbr : br < w2.heap.size) {t : Tab} {bc oc : Nat} {us : List Value}
    (hsrc : ∀ i, i < t.c.length → Rel (arrV (t.c.getD i default)) g w (.agg (five (qOf (t.c.getD i default)) (slOf (us.getD i Go.undef))).toArray) ∧
      ∀ (j : Nat) (v : Value), (five (qOf (t.c.getD i default)) (slOf (us.getD i Go.undef)))[j]? = some v → g.S bc (oc + i * 5 + j) ∧ w.cell? ⟨bc, oc + i * 5 + j, none⟩ = some v)
    (hl : ∀ a ∈ t.c, a.c.length < 1000000) : EachI bc oc t.c.length (fun i => qOf (t.c.getD i default)) (fun i => slOf (us.getD i Go.undef)) (EaI X g w w2 br t) where
  step B k xs w3 w4 := by
    rintro ⟨g3, K, hB, hr, hb, h2, h3⟩ h4 ho hp hh
    have hB' : ∀ b, B b → w.heap.size ≤ b ∧ ∀ o, ¬ g3.S b o := fun b h => ⟨by have := (hB b h).1; omega, (hB b h).2⟩
    refine ⟨g3, K.step hw0 hB' h4 ho hp hh, fun b h => ?_, RelL.mono _ (kp_m K hB' hh) hr, hb, fun b h => (hh b (by omega) fun hb => by have := (hB b hb).1; omega).trans (h2 b h), by omega⟩
    rcases h with h | h
    · exact hB b h
    · exact ⟨by omega, fun o ho => by have := K.wf.lt_S ho; omega⟩
  src B k xs w3 := by
    rintro ⟨g3, K, _⟩ i hi
    have hc : ∀ (j : Nat) (v : Value), (five (qOf (t.c.getD i default)) (slOf (us.getD i Go.undef)))[j]? = some v → w3.cell? ⟨bc, oc + i * 5 + j, none⟩ = some v := fun j v hv => by
      obtain ⟨h1, h2⟩ := (hsrc i hi).2 j v hv
      exact (K.mono.stable _ _ h1).2.trans h2
    exact ⟨hc 0 _ rfl, hc 1 _ rfl, hc 2 _ rfl, hc 3 _ rfl, hc 4 _ rfl⟩
  call B k xs w3 := by
    rintro ⟨g3, K, hB, hr, hb, h2, h3⟩ hk
    have ha := RelL.mono [arrV (t.c.getD k default)] K.mono (vs := [.agg (five (qOf (t.c.getD k default)) (slOf (us.getD k Go.undef))).toArray]) (by simp only [RelL]; exact ⟨_, _, rfl, (hsrc k hk).1, rfl⟩)
    have hm : t.c.getD k default ∈ t.c := by rw [List.getD_eq_getElem?_getD, List.getElem?_eq_getElem hk]; exact List.getElem_mem _
    have hcall := (ev_cloneA hX hs (t.c.getD k default) (hl _ hm)).2 g3 w3 _ K.wf K.hr ha
    rw [hX] at hcall
    refine hcall.mono ?_
    rintro e w4 ⟨v, r, g4, H', rfl, hv, wf4, hr4, ext4, rfl, rfl⟩
    have hno := no_own K.hr
    simp only [arrV, Rel, RelL] at hv
    obtain ⟨vs, rfl, v0, r0, rfl, h10, v1, r1, rfl, h11, v2, r2, rfl, h12, v3, r3, rfl, h13, v4, r4, rfl, h14, rfl⟩ := hv
    have ho4 : v4.oneCell' = true := by
      simp only [lst, Rel] at h14
      obtain ⟨_, _, _, _, rfl, _⟩ := h14
      rfl
    have hS : ∀ b, b < w3.heap.size → (∀ o, ¬ g3.S b o) → ∀ o, ¬ g4.S b o := fun b h1 h2 o ho => by
      rcases ext4.S' b o ho with h | h | h
      · exact h2 o h
      · omega
      · exact hno _ _ h
    have hblk : ∀ b, b < w3.heap.size → w4.heap[b]? = w3.heap[b]? := fun b hb => ext4.obj b hb fun o => hno b o
    refine ⟨v0, v1, v2, v3, v4, rfl, ?_, ⟨g4, K.next wf4 hr4 ext4, fun b h => ⟨(hB b h.1).1, hS b h.2 (hB b h.1).2⟩, ?_, hS br (by omega) hb, fun b h => (hblk b (by omega)).trans (h2 b h), by have := ext4.size; omega⟩, ext4.size, fun b h _ => hblk b h⟩
    · subst h10 h11 h12 h13
      intro u hu
      simp only [List.mem_cons, List.not_mem_nil, or_false] at hu
      rcases hu with rfl | rfl | rfl | rfl | rfl
      all_goals first | rfl | exact ho4
    · rw [List.take_succ_eq_append_getElem hk, List.flatMap_append]
      refine RelL.append (RelL.mono _ (mono_ext K.wf K.hr ext4) hr) ?_
      have e : t.c[k] = t.c.getD k default := by rw [List.getD_eq_getElem?_getD, List.getElem?_eq_getElem hk]; rfl
      rw [e]
      simp only [List.flatMap_cons, List.flatMap_nil, List.append_nil, a5, RelL, Rel]
      exact ⟨v0, _, rfl, h10, v1, _, rfl, h11, v2, _, rfl, h12, v3, _, rfl, h13, v4, _, rfl, h14, rfl⟩
end
end Go.Avm

/- Drop's contract. -/
namespace Go.Avm
open Go Go.Tb Go.Proofs Go.Shelf Go.RowKit Go.Lib
set_option maxRecDepth 10000
theorem map_er {α β : Type} (f : α → β) (l : List α) (i : Nat) : (l.map f).eraseIdx i = (l.eraseIdx i).map f := by
  rw [List.eraseIdx_eq_take_drop_succ, List.eraseIdx_eq_take_drop_succ, List.map_append, List.map_take, List.map_drop]
theorem own_base {w : World} {base base' : Nat} (hb : base' ≤ base) {e : TypeId} {size : Nat} {v : Value} {n : Nat} {xs : List Value} (h : w.ownsRow base e size v n xs) : w.ownsRow base' e size v n xs := by
  refine ⟨h.1, ?_⟩
  rcases h.2 with h2 | ⟨g, cap, cur, rfl, h2, h3⟩
  · exact .inl h2
  · exact .inr ⟨g, cap, cur, rfl, by omega, h3⟩
section
variable {X : Cx} (hX : X.P = Go.Proofs.Tryz.prog) (hs : Std X)
include hX hs
theorem ev_Drop (t : Tab) (s : List UInt8) (hl : ∀ a ∈ t.c, a.c.length < 1000000) : Ev X F_tables_Drop [tabV t, .str s] (.tuple [tabV (dropR t s).1, .int .i64 (dropR t s).2]) := by
  refine ⟨⟨Tryz.f27, by rw [hX]; exact Tryz.func27, by decide, by kernel_rfl⟩, fun g w vs hwf hhr hvs => ?_⟩
  simp only [tabV, RelL, Rel] at hvs
  obtain ⟨v1, r1, rfl, ⟨vs1, rfl, vn, r2, rfl, hvn, vc, r3, rfl, hvc, rfl⟩, v2, r4, rfl, ⟨nm, rfl, hnm⟩, rfl⟩ := hvs
  have hvn' := hvn
  have hvc' := hvc
  simp only [lst, Rel] at hvn' hvc'
  obtain ⟨an, cn, usn, szn, en, hcn, hun, hln, _⟩ := hvn'
  obtain ⟨ac, cc, usc, szc, ec, hcc, huc, hlc, _⟩ := hvc'
  obtain ⟨w1, hw1⟩ : ∃ w1, w1 = (w.alloc (.cells #[vn, vc] 25)).alloc (.cells #[.slice none 0 0, .slice none 0 0] 25) := ⟨_, rfl⟩
  have hbt : w1.heap[w.heap.size]? = some (.cells #[vn, vc] 25 (0, 0)) := by rw [hw1]; exact (Below.heap_alloc _ _ _ (by simp)).trans heap_alloc_new
  have hbr : w1.heap[w.heap.size + 1]? = some (.cells #[.slice none 0 0, .slice none 0 0] 25 (0, 0)) := by
    rw [hw1]
    have := heap_alloc_new (w := w.alloc (.cells #[vn, vc] 25)) (o := .cells #[.slice none 0 0, .slice none 0 0] 25)
    simpa using this
  have hold : ∀ b, b < w.heap.size → w1.heap[b]? = w.heap[b]? := fun b hb => by rw [hw1]; exact (Below.heap_alloc _ _ _ (by simp; omega)).trans (Below.heap_alloc _ _ _ hb)
  have hs1 : w1.heap.size = w.heap.size + 2 := by rw [hw1]; simp
  have K1 : Kp X g w g w1 := (Kp.refl hwf hhr).step hwf (B := fun _ => False) (fun b h => h.elim) (by omega) (by rw [hw1]; rfl) (by rw [hw1]; rfl) fun b hb _ => hold b hb
  obtain ⟨K2, m2⟩ := K1.row (b := w.heap.size) (Nat.le_refl _) hbt 2 (Nat.le_refl _)
  have harg : RelL [tabP t, .str s] { g with S := fun c o => g.S c o ∨ (c = w.heap.size ∧ o < 2) } w1 [.pointer (some ⟨w.heap.size, 0, none⟩), .string nm] := by
    simp only [RelL, tabP, Rel]
    refine ⟨_, _, rfl, ⟨w.heap.size, 0, [vn, vc], rfl, ⟨vn, _, rfl, ?_, vc, _, rfl, ?_, rfl⟩, fun i x hx => ?_⟩, _, _, rfl, ⟨nm, rfl, hnm⟩, rfl⟩
    · exact Rel.mono _ (K1.mono.trans m2).flat (dry_rel _ hvn)
    · have := Rel.mono _ (K1.mono.trans m2).flat (dry_rel _ hvc)
      have e : dry (lst arrV .ro t.c) = lst arrV .ro t.c := by simp only [lst, dry]
      rwa [e] at this
    · have hi : i < 2 := (List.getElem?_eq_some_iff.1 hx).1
      rw [Nat.zero_add]
      refine ⟨.inr ⟨rfl, hi⟩, ?_⟩
      rw [cell_of_row w1 _ i _ _ _ hbt]
      simpa using hx
  have hat := (ev_at hX hs t s hl).2 _ w1 _ K2.wf K2.hr harg
  rw [hX] at hat
  have hnbr : ∀ {g2 : Gh} {w2 : World}, Ext { g with S := fun c o => g.S c o ∨ (c = w.heap.size ∧ o < 2) } w1 g2 w2 → ∀ o, ¬ g2.S (w.heap.size + 1) o := fun {g2 w2} he o ho => by
    rcases he.S' _ o ho with (h | h) | h | h
    · have := hwf.lt_S h; omega
    · omega
    · omega
    · exact no_own K2.hr _ _ h
  by_cases h : (atI t s).2 = 0
  · obtain ⟨i, ei, hi, hg, _⟩ := atI_0 h
    have heq := hg.eq
    have h16 := hg.len
    have hic : i < t.c.length := by rw [heq]; exact hi
    have e0 : dropR t s = (⟨t.n.eraseIdx i, t.c.eraseIdx i⟩, 0) := by unfold dropR; rw [if_neg (by omega), ei]; rfl
    obtain ⟨ss, rfl, hss⟩ := strs_get t.n (unflat hun)
    have hssl : ss.length = t.c.length := by rw [heq, ← hss, List.length_map]
    obtain ⟨bn, on, rfl, hnc⟩ := lies_str hln (by omega)
    obtain ⟨bc, oc, rfl, hsrc⟩ := lies_arr hlc (unflat huc) (by omega)
    have en' : vn = .slice (some ⟨bn, on, none⟩) t.c.length cn := by rw [en, List.length_map, heq]
    have ec' : vc = .slice (some ⟨bc, oc, none⟩) t.c.length cc := by rw [ec, List.length_map]
    have hz := z_drop_ok w vn vc nm t.c.length i hic (by omega) (fun w2 => ∃ g2, Kp X g w g2 w2 ∧ (∀ o, ¬ g2.S (w.heap.size + 1) o) ∧ w1.heap.size ≤ w2.heap.size ∧ ∀ b, b < w1.heap.size → w2.heap[b]? = w1.heap[b]?)
      (fun b1 b2 xs w3 => ∃ g3, Kp X g w g3 w3 ∧ RelL (t.c.flatMap a5) g3 w3 xs ∧ (∀ o, ¬ g3.S (w.heap.size + 1) o) ∧ (w.heap.size ≤ b1 ∧ ∀ o, ¬ g3.S b1 o) ∧ (w.heap.size ≤ b2 ∧ ∀ o, ¬ g3.S b2 o)) _ _ _ cn _ cc w1.heap.size (ss.map Value.string) en' ec' (by
        rw [← hw1]
        refine hat.mono ?_
        rintro e w2 ⟨v, r, g2, H', rfl, hv, wf2, hr2, ext2, rfl, rfl⟩
        simp only [Rel, RelL, ei] at hv
        obtain ⟨vs, rfl, _, _, rfl, rfl, _, _, rfl, rfl, rfl⟩ := hv
        exact ⟨rfl, g2, K2.next wf2 hr2 ext2, hnbr ext2, ext2.size, fun b hb => ext2.obj b hb (no_own K2.hr b)⟩) (by
        rintro w2 ⟨g2, K, hnS, hsz2, hsame⟩
        refine (z_each (EaI X g w w2 (w.heap.size + 1) t) w2 w.heap.size bn on cn bc oc cc t.c.length ss _ _ (fun w5 hb => ⟨g2, K.step hwf (B := fun _ => False) (fun b h => h.elim) hb.size hb.os hb.output (fun b hb' _ => hb.block b hb'), fun b h => ⟨h, fun o ho => by have := K.wf.lt_S ho; omega⟩, by simp [RelL], hnS, fun b h => hb.block b h, hb.size⟩)
          (eachI hX hs hwf (by omega) (by omega) hsrc hl) (by omega) hssl (by omega) ?_ ?_ fun j hj => ?_).mono ?_
        · rw [← en']
          exact cell_of_row w2 _ 0 _ _ _ ((hsame _ (by omega)).trans hbt)
        · rw [← ec']
          exact cell_of_row w2 _ 1 _ _ _ ((hsame _ (by omega)).trans hbt)
        · obtain ⟨k1, k2⟩ := hnc j hj
          exact (K.mono.stable _ _ k1).2.trans k2
        · rintro e w3 ⟨B, xs, b1, c1, b2, c2, rfl, ⟨g3, K3, hB, hr, hb, h2, h3⟩, o1, o2, hB1, hB2, hne⟩
          rw [List.take_length] at hr
          refine ⟨b1, c1, b2, c2, xs, rfl, ⟨own_base hsz2 o1, own_base hsz2 o2, hne, fun u hu => ?_, a5_one _ hr, (h2 _ (by omega)).trans ((hsame _ (by omega)).trans hbr), by omega⟩, g3, K3, hr, hb, ⟨by have := (hB b1 hB1).1; omega, (hB b1 hB1).2⟩, by have := (hB b2 hB2).1; omega, (hB b2 hB2).2⟩
          obtain ⟨x, _, rfl⟩ := List.mem_map.1 hu
          rfl)
    rw [hX]
    refine hz.mono ?_
    rintro e w' ⟨b1, c1, b2, c2, xs, w3, rfl, D, ⟨g3, K3, hr, hbrS, ⟨hb1, hS1⟩, hb2, hS2⟩, ho1, ho2, hsz, hos, hout, hh⟩
    have hB : ∀ b, (b = b1 ∨ b = b2 ∨ b = w.heap.size + 1) → w.heap.size ≤ b ∧ ∀ o, ¬ g3.S b o := fun b hb => by
      rcases hb with rfl | rfl | rfl
      · exact ⟨hb1, hS1⟩
      · exact ⟨hb2, hS2⟩
      · exact ⟨by omega, hbrS⟩
    have hh' : ∀ b, b < w3.heap.size → ¬ (b = b1 ∨ b = b2 ∨ b = w.heap.size + 1) → w'.heap[b]? = w3.heap[b]? := fun b hb hn => hh b hb (fun e => hn (.inl e)) (fun e => hn (.inr (.inl e))) (fun e => hn (.inr (.inr e)))
    have K4 := K3.step hwf hB hsz hos hout hh'
    have m4 := kp_m K3 hB hh'
    obtain ⟨hx1, ho1⟩ := ho1
    obtain ⟨hx2, ho2⟩ := ho2
    rcases ho1 with ⟨h9, _⟩ | ⟨_, _, cur1, e1, _, hrow1, hcap1, _, hcs1, htk1⟩
    · cases h9
    rcases ho2 with ⟨h9, _⟩ | ⟨_, _, cur2, e2, _, hrow2, hcap2, _, hcs2, htk2⟩
    · cases h9
    cases e1
    cases e2
    have hle2 : (t.c.length - 1) * 5 ≤ c2 * 5 := Nat.mul_le_mul_right _ hcap2
    obtain ⟨K5, m5⟩ := K4.row hb1 hrow1 (t.c.length - 1) (by omega)
    obtain ⟨K6, m6⟩ := K5.row hb2 hrow2 ((t.c.length - 1) * 5) (by omega)
    have hr4 := RelL.mono _ ((m4.trans m5).trans m6) hr
    have hr6 := (hr4.take (i * 5)).append (hr4.drop ((i + 1) * 5))
    rw [take_a5, drop_a5, ← List.flatMap_append, ← List.eraseIdx_eq_take_drop_succ] at hr6
    have hd5 : ∀ x ∈ (t.c.eraseIdx i).map arrV, dry x = x := fun x hx => by
      obtain ⟨a, _, rfl⟩ := List.mem_map.1 hx
      rfl
    obtain ⟨us, hus, hget⟩ := a5_grp _ hr6
    have hxe : ((ss.map Value.string).take i ++ (ss.map Value.string).drop (i + 1)) = (ss.eraseIdx i).map Value.string := by
      rw [← List.map_take, ← List.map_drop, ← List.map_append, ← List.eraseIdx_eq_take_drop_succ]
    have hel : (ss.eraseIdx i).length = t.c.length - 1 := by rw [List.length_eraseIdx_of_lt (by omega), hssl]
    have hcl : (t.c.eraseIdx i).length = t.c.length - 1 := List.length_eraseIdx_of_lt hic
    refine ⟨_, _, _, [], rfl, ?_, K6.wf, K6.hr, K6.ext, rfl, rfl⟩
    rw [e0]
    simp only [tabV, Rel, RelL]
    refine ⟨[_, _], rfl, _, _, rfl, ⟨[_, _], rfl, _, _, rfl, ?_, _, _, rfl, ?_, rfl⟩, _, _, rfl, rfl, rfl⟩
    · simp only [lst, Rel]
      refine ⟨_, c1, (ss.eraseIdx i).map Value.string, 1, ?_, ?_, ?_, .inr ⟨b1, 0, rfl, fun j x hx => ?_⟩, trivial⟩
      · rw [← hss, List.length_map, map_er, List.length_map, hel]
      · rw [← hss, List.length_map, map_er, List.length_map, hel]; exact hcap1
      · rw [← hss, map_er, List.map_map]; exact relS_str _
      · have hj : j < t.c.length - 1 := by have := (List.getElem?_eq_some_iff.1 hx).1; rwa [List.length_map, hel] at this
        obtain ⟨x', hx', rfl⟩ : ∃ x', (ss.eraseIdx i)[j]? = some x' ∧ Value.string x' = x := by simpa [List.getElem?_map] using hx
        refine ⟨rfl, fun m c hc => ?_⟩
        have hm : m = 0 ∧ c = Value.string x' := by
          cases m with
          | zero => simp [Value.cells] at hc; exact ⟨rfl, hc.symm⟩
          | succ m => simp [Value.cells] at hc
        obtain ⟨rfl, rfl⟩ := hm
        refine ⟨.inl (.inr ⟨rfl, by omega⟩), ?_⟩
        rw [cell_of_row w' _ _ _ _ _ hrow1, Nat.zero_add, Nat.mul_one, Nat.add_zero, ← Array.getElem?_toList]
        have h9 := hx
        rw [← hxe, ← htk1, List.getElem?_take] at h9
        split at h9
        · exact h9
        · cases h9
    · simp only [lst, Rel]
      refine ⟨_, c2, us, 5, ?_, ?_, relL_flat hd5 hus, .inr ⟨b2, 0, rfl, fun j x hx => ?_⟩, trivial⟩
      · rw [List.length_map, hcl]
      · rw [List.length_map, hcl]; exact hcap2
      · have hj : j < t.c.length - 1 := by
          have := (List.getElem?_eq_some_iff.1 hx).1
          rwa [hus.length, List.length_map, hcl] at this
        obtain ⟨k1, k2⟩ := hget j x hx
        refine ⟨k1, fun m c hc => ?_⟩
        have hm : m < 5 := by have := (Array.getElem?_eq_some_iff.1 hc).1; omega
        refine ⟨.inr ⟨rfl, by omega⟩, ?_⟩
        have h9 := k2 m c hc
        rw [cell_of_row w' _ _ _ _ _ hrow2, Nat.zero_add, ← Array.getElem?_toList]
        rw [← htk2, List.getElem?_take] at h9
        split at h9
        · exact h9
        · cases h9
  · have e0 : dropR t s = (zeroT, (atI t s).2) := if_pos h
    have hz := z_drop_err w vn vc nm (atI t s).1 (atI t s).2 h (fun w2 => ∃ g2, Kp X g w g2 w2 ∧ ∀ o, ¬ g2.S (w.heap.size + 1) o) an ac _ cn _ cc en ec (by
      rw [← hw1]
      refine hat.mono ?_
      rintro e w2 ⟨v, r, g2, H', rfl, hv, wf2, hr2, ext2, rfl, rfl⟩
      simp only [Rel, RelL] at hv
      obtain ⟨vs, rfl, _, _, rfl, rfl, _, _, rfl, rfl, rfl⟩ := hv
      exact ⟨rfl, (ext2.obj _ (by omega) (no_own K2.hr _)).trans hbr, g2, K2.next wf2 hr2 ext2, hnbr ext2⟩)
    rw [hX]
    refine hz.mono ?_
    rintro e w' ⟨rfl, w2, ⟨g2, K, hnS⟩, hsz, ho, hp, hh⟩
    have K9 := K.step hwf (B := fun b => b = w.heap.size + 1) (fun b hb => by subst hb; exact ⟨by omega, hnS⟩) hsz ho hp fun b _ hb => hh b hb
    refine ⟨_, _, g2, [], rfl, ?_, K9.wf, K9.hr, K9.ext, rfl, rfl⟩
    rw [e0]
    simp only [tabV, zeroT, lst, Rel, RelL, List.map_nil]
    exact ⟨_, rfl, _, _, rfl, ⟨_, rfl, _, _, rfl, ⟨none, 0, [], 1, rfl, Nat.le_refl _, rfl, .inl rfl, trivial⟩, _, _, rfl, ⟨none, 0, [], 1, rfl, Nat.le_refl _, rfl, .inl rfl, trivial⟩, rfl⟩, _, _, rfl, rfl, rfl⟩
end
end Go.Avm
