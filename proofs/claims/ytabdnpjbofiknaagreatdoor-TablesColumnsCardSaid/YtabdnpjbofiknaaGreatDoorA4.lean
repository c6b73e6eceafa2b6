/- The operations' soundness: append. -/
import Derived.Test.YtabdnpjbofiknaaGreatDoorA3
import Derived.ChangeKeysEq
import Derived.Laws.StructEq
import Derived.Laws.Pointers
import Derived.Lib.SliceRun
import Derived.MapKept
set_option linter.all false
/-
  The operations' soundness: append.
-/
namespace Go.Avm
open Go

section
variable {X : Cx} {N : Nat} {g : Gh} {w : World} {fr : Fr} {H : Heap} {a : Act}

def SrcD (d : TypeDesc) : Prop := (∃ e, d = .slice e) ∨ d = .string

theorem run_app_fits {t u ty e : TypeId} {i : TypeInfo} {du : TypeDesc} (ht : X.P.underlying t = some (.slice e)) (hu : X.P.underlying u = some du) (hdu : SrcD du) (hi : X.P.info? e = some i)
    {ad : Option Addr} {sLen sCap n : Nat} {x : Value} {news : List Value} {w' : World} (hlen : (Builtin.lenOf x).run X.P w = .ok n w) (hnew : (Builtin.firstCells i.size n x).run X.P w = .ok news.toArray w) (hfit : sLen + n ≤ sCap)
    (hst : ∀ d, ad = some d → (storeCells (d.add (sLen * i.size)) news).run X.P w = .ok () w') (hno : ad = none → w' = w) :
    (Builtin.append_ #[t, u] ty #[.slice ad sLen sCap, x]).run X.P w = .ok (.slice ad (sLen + n) sCap) w' := by
  cases ad with
  | none =>
    rw [hno rfl]
    rcases hdu with ⟨e', rfl⟩ | rfl <;> simp [Builtin.append_, run_underlying ht, run_underlying hu, sizeOf, typeInfo, hi, hlen, hfit, hnew]
  | some d =>
    have := hst d rfl
    rcases hdu with ⟨e', rfl⟩ | rfl <;> simp [Builtin.append_, run_underlying ht, run_underlying hu, sizeOf, typeInfo, hi, hlen, hfit, hnew, this]

theorem run_app_grows {t u ty e : TypeId} {i : TypeInfo} {du : TypeDesc} {z : Value} (ht : X.P.underlying t = some (.slice e)) (hu : X.P.underlying u = some du) (hdu : SrcD du) (hi : X.P.info? e = some i) (hz : i.zero = some z)
    {ad : Option Addr} {sLen sCap n : Nat} {x : Value} {olds news : List Value} (hlen : (Builtin.lenOf x).run X.P w = .ok n w) (hnew : (Builtin.firstCells i.size n x).run X.P w.drew = .ok news.toArray w.drew)
    (hold : (Builtin.firstCells i.size sLen (.slice ad sLen sCap)).run X.P w.drew = .ok olds.toArray w.drew) (hg : sCap < sLen + n) (h63 : sLen + n ≤ 9223372036854775807) (hb : (sLen + n) * i.bytes ≤ 140737488355328) :
    (Builtin.append_ #[t, u] ty #[.slice ad sLen sCap, x]).run X.P w = .ok (.slice (some ⟨w.heap.size, 0, none⟩) (sLen + n) (grownCap w (sLen + n) sCap e))
      (w.drew.alloc (.cells (olds ++ news ++ (Builtin.zeroCells z.cells (grownCap w (sLen + n) sCap e - (sLen + n))).toList).toArray e)) := by
  have hn : ¬ (sLen + n ≤ sCap) := by omega
  have h63' : ¬ (9223372036854775807 < ((sLen : Int) + (n : Int))) := by omega
  have h48 := growslice_fits hg hb
  have h48' : ¬ (281474976710656 < Builtin.nextslicecap (sLen + n) sCap * i.bytes) := by omega
  rcases hdu with ⟨e', rfl⟩ | rfl <;> simp [Builtin.append_, run_underlying ht, run_underlying hu, sizeOf, typeInfo, zeroValue, hi, hz, hlen, hn, h63', h48', Question.forced, hnew, hold, newRow, grownCap]
  all_goals
    congr 2
    apply Array.ext'
    simp

/-- What is read of a slice or a string, as append and copy read it. -/
theorem src_spec {v : AV} {ys : List AV} {u : Value} (hv : appSrc v = some ys) (hr : Rel v g w u) :
    ∃ (vs : List Value) (sz : Nat), RelL ys g.flat w vs ∧ Sized sz vs ∧ (∀ w', w'.heap = w.heap → (Builtin.lenOf u).run X.P w' = .ok ys.length w') ∧
      ∀ w' s, w'.heap = w.heap → (vs ≠ [] → s = sz) → (Builtin.firstCells s ys.length u).run X.P w' = .ok (flat vs).toArray w' := by
  unfold appSrc at hv
  split at hv
  · rename_i p es
    cases hv
    simp only [Rel] at hr
    obtain ⟨ad, cap, vs, sz, rfl, hcap, hvs, hl, _⟩ := hr
    refine ⟨vs, sz, hvs, hl.sized, fun w' _ => by simp [Builtin.lenOf], fun w' s hw' hs => ?_⟩
    have hld : ∀ d, (loadCells d 0).run X.P w' = .ok #[] w' := fun d => by simp [loadCells, loadCellsFrom]
    rcases hl with rfl | ⟨b, o, rfl, hc⟩
    · have : ys.length = 0 := by rw [← hvs.length]; rfl
      cases ad with
      | none => simp [Builtin.firstCells, flat]
      | some d => rw [this]; simp only [Builtin.firstCells, Nat.zero_mul, hld]; simp [flat]
    · by_cases h0 : vs = []
      · subst h0
        have : ys.length = 0 := by rw [← hvs.length]; rfl
        rw [this]; simp only [Builtin.firstCells, Nat.zero_mul, hld]; simp [flat]
      · have hl : Lies g w (some ⟨b, o, none⟩) sz vs := .inr ⟨b, o, rfl, hc⟩
        rw [hs h0]
        refine run_firstCells_some w' sz ys.length ⟨b, o, none⟩ _ _ (flat vs) ?_ fun j v hj => ?_
        · rw [flat_length hl.sized, hvs.length]
        · have := (hl.cells j v hj).1
          simpa only [World.cell?, hw'] using this
  · rename_i l
    cases hv
    rw [rel_str] at hr
    obtain ⟨s, rfl, rfl⟩ := hr
    refine ⟨s.data.toList.map fun b => .int .u8 b.toNat, 1, ?_, ?_, fun w' _ => ?_, fun w' sz _ hsz => ?_⟩
    · refine RelL.of_get (by simp) fun i x v hx hv => ?_
      simp only [List.getElem?_map, Option.map_eq_some_iff] at hx hv
      obtain ⟨b, hb, rfl⟩ := hx
      obtain ⟨b', hb', rfl⟩ := hv
      rw [hb] at hb'; cases hb'
      simp [u8, Rel]
    · intro v hv
      obtain ⟨b, _, rfl⟩ := List.mem_map.1 hv
      rfl
    · rw [List.length_map]; rfl
    · have hflat : ∀ l : List UInt8, flat (l.map fun b => Value.int .u8 b.toNat) = l.map fun b => Value.int .u8 b.toNat := by
        intro l
        induction l with
        | nil => rfl
        | cons b l ih => simp only [flat, List.map_cons, List.flatMap_cons] at ih ⊢; rw [ih]; rfl
      rw [hflat]
      simp only [Builtin.firstCells, List.length_map, Array.length_toList]
      have : (s.extract 0 s.data.size).data = s.data := by
        rw [ByteArray.data_extract]
        simp
      rw [this]
      simp only [Sem.run_pure]
      congr 1
      apply Array.ext'
      simp
  · cases hv

theorem okE_sized {sz s : Nat} {ys : List AV} {vs : List Value} (h : okE sz ys = true) (hr : RelL ys g w vs) (hs : Sized s vs) : vs ≠ [] → sz = s := by
  intro hne
  cases vs with
  | nil => exact absurd rfl hne
  | cons v vs =>
    obtain ⟨y, hy, hr'⟩ := hr.get 0 (v := v) rfl
    have hall := List.all_eq_true.1 h y (List.mem_of_getElem? hy)
    simp only [Bool.and_eq_true, decide_eq_true_eq] at hall
    have h1 := (rel_cells hr' (scalars_notTup hall.2)).length
    have h2 := hs v (by simp)
    rw [← h2, ← hall.1]
    simpa using h1.symm

theorem okE_scalar {sz : Nat} {ys : List AV} (h : okE sz ys = true) : ys.all (fun e => e.cells.all scalarB) = true := by
  unfold okE at h
  rw [List.all_eq_true] at h ⊢
  intro x hx
  have := h x hx
  simp only [Bool.and_eq_true] at this
  exact this.2

theorem Sized.append {sz : Nat} {vs us : List Value} (h : Sized sz vs) (h' : Sized sz us) : Sized sz (vs ++ us) := fun v hv => by
  rcases List.mem_append.1 hv with h1 | h1
  · exact h v h1
  · exact h' v h1

theorem Sized.of_ne {sz s : Nat} {vs : List Value} (h : Sized s vs) (he : vs ≠ [] → sz = s) : Sized sz vs := fun v hv => by
  rw [he (List.ne_nil_of_mem hv)]; exact h v hv

/-- The new row of an append: the elements, and spare places that the token i owns. -/
theorem app_grown' (hs : StR X N g w fr H a) {w' : World} {i sz : Nat} {es : List AV} {vs : List Value} {rest : List Value} {e : TypeId} {cap fl fh : Nat} (hw' : w'.heap = w.heap.push (.cells (flat vs ++ rest).toArray e (fl, fh))) (hfz : ∀ o, o < cap * sz → ¬ (fl ≤ o ∧ o < fh)) (hr : RelL es g.flat w vs) (hsz : Sized sz vs)
    (hcap : es.length ≤ cap) (hrest : rest.length = (cap - es.length) * sz) {H' : Heap} (htl : ∀ n, g.tl i = some n → n < es.length)
    (hH : ∀ k y, H'[k]? = some y → (k = i ∧ y = .tok es.length) ∨ (k ≠ i ∧ H[k]? = some y)) (hHl : H.length ≤ H'.length) (hil : i < H'.length) (hio : w'.os = w.os ∧ w'.output = w.output := by exact ⟨rfl, rfl⟩) :
    ∃ g', Good X g w H g' w' H' ∧ Rel (.sl (.tok i sz) es) g' w' (.slice (some ⟨w.heap.size, 0, none⟩) es.length cap) := by
  let g' : Gh := { S := fun b o => g.S b o ∨ (b = w.heap.size ∧ o < es.length * sz), bx := g.bx, tl := fun k => if k = i then some es.length else g.tl k,
                   tk := fun k => if k = i then some (w.heap.size, es.length * sz, cap * sz) else g.tk k }
  have hflen : (flat vs).length = es.length * sz := by rw [flat_length hsz, hr.length]
  have hsize : (flat vs ++ rest).toArray.size = cap * sz := by
    simp only [List.size_toArray, List.length_append, hflen, hrest, ← Nat.add_mul]
    congr 1; omega
  have hle : es.length * sz ≤ cap * sz := Nat.mul_le_mul_right _ hcap
  have hm : Mono g w g' w' := by
    refine mono_push hs.wf hw' (fun _ _ h => .inl h) (fun _ _ h => h) (fun k n h => ?_)
    by_cases hk : k = i
    · subst hk
      exact ⟨es.length, if_pos rfl, .inr (htl n h)⟩
    · exact ⟨n, by show (if k = i then _ else g.tl k) = _; rw [if_neg hk]; exact h, .inl ⟨rfl, if_neg hk⟩⟩
  have hne : ∀ b o, g.owns b o → b < w.heap.size := fun b o h => hs.wf.lt_owns h
  have hgood : Good X g w H g' w' H' := by
    refine good_push hs.wf hw' (by rw [hsize]; exact hfz) hm (fun b o h => ?_) (fun k b h => .inl h) (fun k b lo hi h => ?_) (fun k j hk hj => ?_) (fun k j lo hi lo' hi' h1 h2 => ?_) (fun k j lo hi h1 h2 => ?_) ⟨fun k y hy => ?_, fun k hk => ?_⟩ hio
    · rcases h with h | ⟨rfl, h⟩
      · exact .inl h
      · refine .inr ⟨rfl, by omega, fun ho => ?_⟩
        rcases ho with ⟨k, hk⟩ | ⟨k, lo, hi, hk, hlo⟩
        · have := hs.wf.lt_bx hk; omega
        · change (if k = i then _ else g.tk k) = _ at hk
          split at hk
          · cases hk; omega
          · have := hs.wf.lt_tk hk; omega
    · change (if k = i then _ else g.tk k) = _ at h
      split at h
      · cases h; exact .inr ⟨rfl, by omega⟩
      · exact .inl h
    · have := hs.wf.lt_bx hk; omega
    · change (if k = i then _ else g.tk k) = _ at h1
      change (if j = i then _ else g.tk j) = _ at h2
      split at h1
      · split at h2
        · omega
        · have := hs.wf.lt_tk h2; omega
      · have := hs.wf.lt_tk h1; omega
    · have := hs.wf.lt_bx h1; omega
    · rcases hH k y hy with ⟨rfl, rfl⟩ | ⟨hk, hy'⟩
      · exact if_pos rfl
      · have h3 := hs.hr.blk k y hy'
        exact h3.mono hm (fun b hb => by rw [hw', Array.getElem?_push, if_neg (by have := hs.wf.lt_bx hb; omega)]) (fun n hn => by show (if k = i then _ else g.tl k) = _; rw [if_neg hk]; exact hn) (fun b lo hi h => ⟨by show (if k = i then _ else g.tk k) = _; rw [if_neg hk]; exact h, by rw [hw', Array.getElem?_push, if_neg (by have := hs.wf.lt_tk h; omega)]⟩)
    · obtain ⟨f1, f2, f3⟩ := hs.hr.far k (by omega)
      have hki : k ≠ i := by omega
      exact ⟨f1, by show (if k = i then _ else g.tl k) = _; rw [if_neg hki]; exact f2, by show (if k = i then _ else g.tk k) = _; rw [if_neg hki]; exact f3⟩
  refine ⟨g', hgood, ?_⟩
  simp only [Rel]
  refine ⟨some ⟨w.heap.size, 0, none⟩, cap, vs, sz, rfl, hcap, RelL.mono es hm.flat hr, lies_flat (by rw [hw']; simp; exact ⟨rfl, rfl, rfl⟩) hsz (fun k c hk => ?_) (fun k hk => ?_), rfl, es.length, if_pos rfl, Nat.le_refl _, fun _ => .inr ⟨w.heap.size, 0, cap * sz, rfl, ?_, ?_⟩⟩
  · rw [Nat.zero_add]
    simp only [List.getElem?_toArray]
    rw [List.getElem?_append_left (by
      rcases Nat.lt_or_ge k (flat vs).length with h | h
      · exact h
      · simp [List.getElem?_eq_none h] at hk)]
    exact hk
  · rw [Nat.zero_add]; exact .inr ⟨rfl, by omega⟩
  · show (if i = i then _ else g.tk i) = _
    rw [if_pos rfl, Nat.zero_add]
  · omega

theorem app_grown (hs : StR X N g w fr H a) {w1 : World} (hw1 : w1.heap = w.heap) {i sz : Nat} {es : List AV} {vs : List Value} {rest : List Value} {e : TypeId} {cap : Nat} (hr : RelL es g.flat w vs) (hsz : Sized sz vs)
    (hcap : es.length ≤ cap) (hrest : rest.length = (cap - es.length) * sz) {H' : Heap} (htl : ∀ n, g.tl i = some n → n < es.length)
    (hH : ∀ k y, H'[k]? = some y → (k = i ∧ y = .tok es.length) ∨ (k ≠ i ∧ H[k]? = some y)) (hHl : H.length ≤ H'.length) (hil : i < H'.length) (hio : w1.os = w.os ∧ w1.output = w.output := by exact ⟨rfl, rfl⟩) :
    ∃ g', Good X g w H g' (w1.alloc (.cells (flat vs ++ rest).toArray e)) H' ∧ Rel (.sl (.tok i sz) es) g' (w1.alloc (.cells (flat vs ++ rest).toArray e)) (.slice (some ⟨w.heap.size, 0, none⟩) es.length cap) :=
  app_grown' hs (fl := 0) (fh := 0) (e := e) (rest := rest) (by rw [← hw1]; rfl) (fun _ _ => by omega) hr hsz hcap hrest htl hH hHl hil hio

end
end Go.Avm

/-
  The operations' soundness: append and make, put together.
-/
namespace Go.Avm
open Go

section
variable {X : Cx} {N : Nat} {g : Gh} {w : World} {fr : Fr} {H : Heap} {a : Act}

theorem eval_call2 {o : Oper} {b : Builtin} {x y : Operand} {ts : Array TypeId} (ho : o.op = .call { callee := .builtin b, args := #[x, y], argTypes := ts }) :
    ∃ cs, (execOp a.eval o).run X.P w = (builtin b ts o.type cs #[a.eval x, a.eval y]).run X.P w := by
  refine ⟨#[x, y].map fun | .const _ => true | _ => false, ?_⟩
  · simp only [execOp, ho, resolve, Sem.run_bind, Sem.run_pure, Result.andThen_ok, invoke]
    simp only [List.map_toArray, List.map_cons, List.map_nil]
    rfl

theorem ok_append {o : Oper} {x y : Operand} {t u : TypeId} {v : Value} {r : AV} {w' : World} {g' : Gh} {H' : Heap} (ho : o.op = .call { callee := .builtin .append, args := #[x, y], argTypes := #[t, u] })
    (hr : (Builtin.append_ #[t, u] o.type #[a.eval x, a.eval y]).run X.P w = .ok v w') (hg : Good X g w H g' w' H') (hv : Rel r g' w' v) : OpOk X g w H ((execOp a.eval o).run X.P w) r H' := by
  obtain ⟨cs, h⟩ := eval_call2 (X := X) (w := w) (a := a) ho
  refine ⟨v, w', g', .inl ?_, hg, hv⟩
  rw [h]
  simp [builtin, hr]

theorem firstCells_old {es : List AV} {ad : Option Addr} {cap sz : Nat} {vs : List Value} (hvs : RelL es g.flat w vs) (hl : Lies g w ad sz vs) {w' : World} (hw' : w'.heap = w.heap) {s : Nat} (hs : vs ≠ [] → s = sz) :
    (Builtin.firstCells s es.length (.slice ad es.length cap)).run X.P w' = .ok (flat vs).toArray w' := by
  have hld : ∀ d, (loadCells d 0).run X.P w' = .ok #[] w' := fun d => by simp [loadCells, loadCellsFrom]
  rcases hl with rfl | ⟨b, o, rfl, hc⟩
  · have : es.length = 0 := by rw [← hvs.length]; rfl
    cases ad with
    | none => simp [Builtin.firstCells, flat]
    | some d => rw [this]; simp only [Builtin.firstCells, Nat.zero_mul, hld]; simp [flat]
  · by_cases h0 : vs = []
    · subst h0
      have : es.length = 0 := by rw [← hvs.length]; rfl
      rw [this]; simp only [Builtin.firstCells, Nat.zero_mul, hld]; simp [flat]
    · have hl : Lies g w (some ⟨b, o, none⟩) sz vs := .inr ⟨b, o, rfl, hc⟩
      rw [hs h0]
      refine run_firstCells_some w' sz es.length ⟨b, o, none⟩ _ _ (flat vs) ?_ fun j v hj => ?_
      · rw [flat_length hl.sized, hvs.length]
      · have := (hl.cells j v hj).1
        simpa only [World.cell?, hw'] using this

theorem size_zeroCells' {z : Array Value} {n : Nat} : (Builtin.zeroCells z n).toList.length = n * z.size := by simp [Builtin.zeroCells]

/-- The ghost alone is changed: a new token for a slice that has no room. -/
theorem good_newtok (hs : StR X N g w fr H a) (n : Nat) : Good X g w H { g with tl := fun k => if k = H.length then some n else g.tl k } w (H ++ [.tok n]) := by
  have hfar := hs.hr.far
  have hm : Mono g w { g with tl := fun k => if k = H.length then some n else g.tl k } w :=
    ⟨fun b o h => ⟨h, rfl⟩, fun _ _ h => h, fun k m hk => by
      have : k ≠ H.length := fun e => by rw [(hfar k (by omega)).2.1] at hk; cases hk
      exact ⟨m, by show (if k = H.length then _ else g.tl k) = _; rw [if_neg this]; exact hk, .inl ⟨rfl, rfl⟩⟩⟩
  refine ⟨⟨hs.wf.S, hs.wf.inj, hs.wf.tinj, hs.wf.apart, hs.wf.bx, hs.wf.tk, fun x cs hx => Rel.mono _ hm (hs.wf.laid x cs hx), hs.wf.ex⟩, ⟨fun k y hy => ?_, fun k hk => ?_⟩, hm,
    ⟨Nat.le_refl _, fun _ _ h => h, fun _ _ h => .inl h, fun _ _ _ _ => rfl, fun _ _ _ => rfl, fun _ vs _ fz h => ⟨vs, fz, h, rfl, .inl rfl⟩, fun _ _ h => .inr h, rfl, rfl⟩⟩
  · rw [List.getElem?_append] at hy
    split at hy
    · rename_i hk
      have h3 := hs.hr.blk k y hy
      exact h3.mono hm (fun _ _ => rfl) (fun n hn => by show (if k = H.length then _ else g.tl k) = _; rw [if_neg (by omega)]; exact hn) (fun _ _ _ h => ⟨h, rfl⟩)
    · rename_i hk
      have hk' : k = H.length := by
        rcases Nat.lt_or_ge (k - H.length) 1 with h' | h'
        · omega
        · simp [List.getElem?_eq_none (l := [Blk.tok n]) (by simpa using h')] at hy
      subst hk'
      simp at hy
      subst hy
      exact if_pos rfl
  · simp at hk
    obtain ⟨h1, h2, h3⟩ := hfar k (by omega)
    exact ⟨h1, by show (if k = H.length then _ else g.tl k) = _; rw [if_neg (by omega)]; exact h2, h3⟩

theorem op_app_ex (hs : StR X N g w fr H a) {o : Oper} {t u e : TypeId} {i : TypeInfo} {z : Value} {du : TypeDesc} {x y : Operand} {ax ay : AX} {es ys : List AV} (ho : o.op = .call { callee := .builtin .append, args := #[x, y], argTypes := #[t, u] })
    (ht : X.P.underlying t = some (.slice e)) (hu : X.P.underlying u = some du) (hdu : SrcD du) (hi : X.P.info? e = some i) (hz : i.zero = some z) (hzs : z.cells.size = i.size) (_hi0 : i.size ≠ 0)
    (h1 : cx x = some ax) (h2 : cx y = some ay) (e1 : ax.eval X.G fr = .sl .ex es) (e2 : appSrc (ay.eval X.G fr) = some ys)
    (hb : (es.length + ys.length) * i.bytes ≤ 140737488355328) (h63 : es.length + ys.length ≤ 9223372036854775807) (hoe : okE i.size es = true) (hoy : okE i.size ys = true) (hne : (!es.isEmpty && ys.isEmpty) = false) :
    OpOk X g w H ((execOp a.eval o).run X.P w) (.sl (.tok H.length i.size) (es ++ ys)) (H ++ [.tok (es.length + ys.length)]) := by
  have r1 := cx_rel hs h1
  have r2 := cx_rel hs h2
  rw [e1] at r1
  simp only [Rel] at r1
  obtain ⟨ad, cap, vs, sz, hx, hcap, hvs, hl, hp⟩ := r1
  have hcl : cap = es.length := hp
  subst hcl
  obtain ⟨us, sz', hus, hsu, hlen, hcells⟩ := src_spec (X := X) e2 r2
  have hy1 : us ≠ [] → i.size = sz' := okE_sized hoy hus hsu
  have he1 : vs ≠ [] → i.size = sz := okE_sized hoe hvs hl.sized
  have hsz : Sized i.size vs := hl.sized.of_ne he1
  have hszu : Sized i.size us := hsu.of_ne hy1
  have hfar := hs.hr.far H.length (Nat.le_refl _)
  by_cases hys : ys = []
  · subst hys
    have hu0 : us = [] := List.eq_nil_of_length_eq_zero (by rw [hus.length]; rfl)
    subst hu0
    have hrun := run_app_fits (X := X) (ty := o.type) (ad := ad) (sLen := es.length) (sCap := es.length) (n := 0) (news := flat []) (w' := w) ht hu hdu hi (hlen w rfl) (hcells w i.size rfl hy1) (Nat.le_refl _) (fun d _ => by simp [flat, storeCells]) (fun _ => rfl)
    rw [← hx] at hrun
    refine ok_append ho hrun (good_newtok hs (es.length + ([] : List AV).length)) ?_
    simp only [Rel, List.append_nil, List.length_nil, Nat.add_zero]
    have hl' : Lies g w ad i.size vs := by
      rcases hl with h | ⟨b, o', h, h'⟩
      · exact .inl h
      · by_cases h0 : vs = []
        · exact .inl h0
        · exact .inr ⟨b, o', h, by rw [he1 h0]; exact h'⟩
    have hes0 : es.length = 0 := by
      cases es with
      | nil => rfl
      | cons x xs => simp at hne
    exact ⟨ad, es.length, vs, i.size, rfl, Nat.le_refl _, hvs, hl', rfl, es.length, if_pos rfl, Nat.le_refl _, fun _ => .inl ⟨rfl, hes0⟩⟩
  · have hpos : 0 < ys.length := List.length_pos_iff.2 hys
    have hrun := run_app_grows (X := X) (w := w) (ty := o.type) (ad := ad) (sLen := es.length) (sCap := es.length) (n := ys.length) (olds := flat vs) (news := flat us) ht hu hdu hi hz (hlen w rfl) (hcells w.drew i.size rfl hy1)
      (firstCells_old (X := X) (w' := w.drew) hvs hl rfl he1) (by omega) h63 hb
    rw [← hx] at hrun
    have hcapl := grownCap_ge w (es.length + ys.length) es.length e
    rw [← flat_append] at hrun
    obtain ⟨g', hg, hr⟩ := app_grown (X := X) hs (w1 := w.drew) rfl (i := H.length) (sz := i.size) (es := es ++ ys) (vs := vs ++ us) (rest := (Builtin.zeroCells z.cells (grownCap w (es.length + ys.length) es.length e - (es.length + ys.length))).toList) (e := e)
      (cap := grownCap w (es.length + ys.length) es.length e) (hvs.append hus) (hsz.append hszu) (by simpa using hcapl) (by rw [size_zeroCells', hzs, List.length_append]) (H' := H ++ [.tok (es ++ ys).length])
      (fun n hn => by rw [hfar.2.1] at hn; cases hn) (fun k y hy => by
        rw [List.getElem?_append] at hy
        split at hy
        · rename_i hk; exact .inr ⟨by omega, hy⟩
        · rename_i hk
          have hk' : k = H.length := by
            rcases Nat.lt_or_ge (k - H.length) 1 with h' | h'
            · omega
            · rw [List.getElem?_eq_none (by simpa using h')] at hy; cases hy
          subst hk'
          simp at hy
          exact .inl ⟨rfl, by simp [← hy]⟩) (by simp) (by simp)
    rw [List.length_append] at hg hr
    exact ok_append ho hrun hg hr

theorem op_app_tok (hs : StR X N g w fr H a) {o : Oper} {t u e : TypeId} {i : TypeInfo} {z : Value} {du : TypeDesc} {x y : Operand} {ax ay : AX} {es ys : List AV} {id : Nat} (ho : o.op = .call { callee := .builtin .append, args := #[x, y], argTypes := #[t, u] })
    (ht : X.P.underlying t = some (.slice e)) (hu : X.P.underlying u = some du) (hdu : SrcD du) (hi : X.P.info? e = some i) (hz : i.zero = some z) (hzs : z.cells.size = i.size)
    (h1 : cx x = some ax) (h2 : cx y = some ay) (e1 : ax.eval X.G fr = .sl (.tok id i.size) es) (e2 : appSrc (ay.eval X.G fr) = some ys) (hH : H[id]? = some (.tok es.length))
    (hb : (es.length + ys.length) * i.bytes ≤ 140737488355328) (h63 : es.length + ys.length ≤ 9223372036854775807) (hoy : okE i.size ys = true) :
    OpOk X g w H ((execOp a.eval o).run X.P w) (.sl (.tok id i.size) (es ++ ys)) (H.set id (.tok (es.length + ys.length))) := by
  have r1 := cx_rel hs h1
  have r2 := cx_rel hs h2
  rw [e1] at r1
  simp only [Rel] at r1
  obtain ⟨ad, cap, vs, sz, hx, hcap, hvs, hl, hp⟩ := r1
  obtain ⟨hsz0, n, hn, hle, hcur⟩ := hp
  subst hsz0
  have hntl : g.tl id = some es.length := hs.hr.blk id _ hH
  rw [hntl] at hn
  cases hn
  have hcur := hcur rfl
  obtain ⟨us, sz', hus, hsu, hlen, hcells⟩ := src_spec (X := X) e2 r2
  have hy1 : us ≠ [] → i.size = sz' := okE_sized hoy hus hsu
  have hsz : Sized i.size vs := hl.sized
  have hszu : Sized i.size us := hsu.of_ne hy1
  have hidl : id < H.length := by
    rcases Nat.lt_or_ge id H.length with h' | h'
    · exact h'
    · simp [List.getElem?_eq_none h'] at hH
  have hset : ∀ (m : Nat) (k : Nat) y, (H.set id (.tok m))[k]? = some y → (k = id ∧ y = .tok m) ∨ (k ≠ id ∧ H[k]? = some y) := fun m k y hy => by
    rw [List.getElem?_set] at hy
    split at hy
    · rename_i hk
      subst hk
      first
        | (cases hy; exact .inl ⟨rfl, rfl⟩)
        | (split at hy
           · cases hy; exact .inl ⟨rfl, rfl⟩
           · cases hy)
    · rename_i hk
      exact .inr ⟨fun h => hk h.symm, hy⟩
  by_cases hys : ys = []
  · subst hys
    have hu0 : us = [] := List.eq_nil_of_length_eq_zero (by rw [hus.length]; rfl)
    subst hu0
    have hrun := run_app_fits (X := X) (ty := o.type) (ad := ad) (sLen := es.length) (sCap := cap) (n := 0) (news := flat []) (w' := w) ht hu hdu hi (hlen w rfl) (hcells w i.size rfl hy1) (by omega) (fun d _ => by simp [flat, storeCells]) (fun _ => rfl)
    rw [← hx] at hrun
    have hHs : H.set id (.tok es.length) = H := by
      apply List.ext_getElem?
      intro k
      rw [List.getElem?_set]
      split
      · rename_i hk; subst hk; first | rw [if_pos hidl, hH] | rw [hH]
      · rfl
    simp only [List.append_nil, List.length_nil, Nat.add_zero, hHs]
    refine ok_append ho hrun (Good.refl hs) ?_
    simp only [Rel]
    exact ⟨ad, cap, vs, i.size, rfl, hcap, hvs, hl, rfl, es.length, hntl, Nat.le_refl _, fun _ => hcur⟩
  · have hpos : 0 < ys.length := List.length_pos_iff.2 hys
    by_cases hfit : es.length + ys.length ≤ cap
    · rcases hcur with hc | ⟨b, off, hi', rfl, htk, hoc⟩
      · omega
      · obtain ⟨arr, e', fl, fh, hh, hhi, hfz⟩ := hs.wf.tk id b _ hi' htk
        have hflen : (flat us).length = ys.length * i.size := by rw [flat_length hszu, hus.length]
        have hend : off + es.length * i.size + (flat us).length ≤ hi' := by
          have : (es.length + ys.length) * i.size ≤ cap * i.size := Nat.mul_le_mul_right _ hfit
          rw [Nat.add_mul] at this
          rw [hflen]; omega
        have hst := run_storeCells_cells (P := X.P) b (off + es.length * i.size) (flat us) 0 w
          (fun j hj => by rw [Nat.add_zero, cell_of_heap hh (v := arr[off + es.length * i.size + j]'(by omega)) (by rw [Array.getElem?_eq_getElem])]; rfl)
          (fun j hj => by
            have h3 := hfz (off + es.length * i.size + j) (by omega) (by omega)
            rw [Nat.add_zero]
            simp only [World.frozen?, hh]
            by_cases h4 : fl ≤ off + es.length * i.size + j <;> by_cases h5 : off + es.length * i.size + j < fh <;> simp_all <;> omega) (flat_oneCell hus (okE_scalar hoy))
        rw [Nat.add_zero] at hst
        have hrun := run_app_fits (X := X) (ty := o.type) (ad := some ⟨b, off, none⟩) (sLen := es.length) (sCap := cap) (n := ys.length) (news := flat us) (w' := w.setCells b (off + es.length * i.size) (flat us)) ht hu hdu hi (hlen w rfl) (hcells w i.size rfl hy1) hfit
          (fun d hd => by cases hd; rw [addr_add]; exact hst) (fun h => nomatch h)
        rw [← hx] at hrun
        let g' : Gh := { S := fun b' o' => g.S b' o' ∨ (b' = b ∧ off + es.length * i.size ≤ o' ∧ o' < off + (es.length + ys.length) * i.size), bx := g.bx, tl := fun k => if k = id then some (es.length + ys.length) else g.tl k,
                         tk := fun k => if k = id then some (b, off + (es.length + ys.length) * i.size, hi') else g.tk k }
        have hown : ∀ j, j < (flat us).length → g.owns b (off + es.length * i.size + j) := fun j _ => .inr ⟨id, _, hi', htk, by omega⟩
        have hmul : (es.length + ys.length) * i.size = es.length * i.size + ys.length * i.size := Nat.add_mul ..
        have hm : Mono g w g' (w.setCells b (off + es.length * i.size) (flat us)) := mono_write hs.wf hown (fun _ _ h => .inl h) (fun _ _ h => h) (fun k m hk => by
          by_cases hki : k = id
          · subst hki
            rw [hntl] at hk; cases hk
            exact ⟨_, if_pos rfl, .inr (by omega)⟩
          · exact ⟨m, by show (if k = id then _ else g.tl k) = _; rw [if_neg hki]; exact hk, .inl ⟨rfl, if_neg hki⟩⟩)
        have hgood : Good X g w H g' (w.setCells b (off + es.length * i.size) (flat us)) (H.set id (.tok (es.length + ys.length))) := by
          refine good_write hs.wf hh hown hm rfl (fun b' o' h => ?_) (fun k b' lo hi h => ?_) ⟨fun k y hy => ?_, fun k hk => ?_⟩
          · have hnot : ∀ (hb' : b' = b) (ho' : o' < off + (es.length + ys.length) * i.size), ¬ g'.owns b' o' := fun hb' ho' ho => by
              subst hb'
              rcases ho with ⟨k, hk⟩ | ⟨k, lo, hi, hk, hlo⟩
              · exact hs.wf.apart k id _ _ _ hk htk
              · change (if k = id then _ else g.tk k) = _ at hk
                split at hk
                · cases hk; omega
                · rename_i hki
                  exact hki (hs.wf.tinj k id _ _ _ _ _ hk htk)
            rcases h with h | ⟨rfl, h1, h2⟩
            · refine ⟨.inl h, fun ho => ?_⟩
              by_cases hbb : b' = b
              · subst hbb
                have hno := (hs.wf.S _ _ h).2
                have : o' < off + es.length * i.size := by
                  rcases Nat.lt_or_ge o' (off + es.length * i.size) with h3 | h3
                  · exact h3
                  · exact absurd (.inr ⟨id, _, hi', htk, h3⟩) hno
                exact hnot rfl (by omega) ho
              · refine (hs.wf.S _ _ h).2 ?_
                rcases ho with ⟨k, hk⟩ | ⟨k, lo, hi, hk, hlo⟩
                · exact .inl ⟨k, hk⟩
                · change (if k = id then _ else g.tk k) = _ at hk
                  split at hk
                  · cases hk; exact absurd rfl hbb
                  · exact .inr ⟨k, lo, hi, hk, hlo⟩
            · exact ⟨.inr ⟨rfl, by omega, .inr ⟨id, _, hi', htk, h1⟩⟩, hnot rfl h2⟩
          · change (if k = id then _ else g.tk k) = _ at h
            split at h
            · rename_i hk; subst hk; cases h; exact ⟨_, htk, by omega⟩
            · exact ⟨lo, h, Nat.le_refl _⟩
          · rcases hset _ k y hy with ⟨rfl, rfl⟩ | ⟨hk, hy'⟩
            · exact if_pos rfl
            · have h3 := hs.hr.blk k y hy'
              exact h3.mono hm (fun b' hb' => setCells_other b _ _ w b' fun h => hs.wf.apart k id b' _ _ hb' (h ▸ htk)) (fun n hn => by show (if k = id then _ else g.tl k) = _; rw [if_neg hk]; exact hn) (fun b' lo hi h => ⟨by show (if k = id then _ else g.tk k) = _; rw [if_neg hk]; exact h, setCells_other b _ _ w b' fun e => hk (hs.wf.tinj k id _ _ _ _ _ (e ▸ h) htk)⟩)
          · simp at hk
            obtain ⟨f1, f2, f3⟩ := hs.hr.far k hk
            have hki : k ≠ id := by omega
            exact ⟨f1, by show (if k = id then _ else g.tl k) = _; rw [if_neg hki]; exact f2, by show (if k = id then _ else g.tk k) = _; rw [if_neg hki]; exact f3⟩
        refine ok_append ho hrun hgood ?_
        simp only [Rel, List.length_append]
        have hh' := setCells_same b (flat us) (off + es.length * i.size) w arr e' (fl, fh) hh
        have hflv : (flat vs).length = es.length * i.size := by rw [flat_length hsz, hvs.length]
        have hl1 : ∀ k c, (flat vs)[k]? = some c → (setVs arr (off + es.length * i.size) (flat us))[off + k]? = some c ∧ g.S b (off + k) := fun k c hk => by
          have hkl : k < (flat vs).length := by
            rcases Nat.lt_or_ge k (flat vs).length with h | h
            · exact h
            · simp [List.getElem?_eq_none h] at hk
          obtain ⟨h3, h4⟩ := hl.cells k c hk
          rw [addr_add] at h3
          rw [setVs_toList, if_neg (by omega)]
          simp only [World.cell?, hh] at h3
          exact ⟨by simpa using h3, h4⟩
        refine ⟨some ⟨b, off, none⟩, cap, vs ++ us, i.size, rfl, hfit, (RelL.mono es hm.flat hvs).append (RelL.mono ys hm.flat hus), lies_flat hh' (hsz.append hszu) (fun k c hk => ?_) (fun k hk => ?_), rfl, es.length + ys.length, if_pos rfl, Nat.le_refl _, fun _ => .inr ⟨b, off, hi', rfl, ?_, hoc⟩⟩
        · rw [flat_append, List.getElem?_append] at hk
          split at hk
          · exact (hl1 k c hk).1
          · rename_i hkl
            have hkl2 : k - (flat vs).length < (flat us).length := by
              rcases Nat.lt_or_ge (k - (flat vs).length) (flat us).length with h | h
              · exact h
              · simp [List.getElem?_eq_none h] at hk
            rw [setVs_toList, if_pos (by omega)]
            rw [show off + k - (off + es.length * i.size) = k - (flat vs).length by omega]
            exact hk
        · rw [flat_append, List.length_append, hflen, hflv] at hk
          by_cases h5 : k < es.length * i.size
          · exact .inl (hl1 k ((flat vs)[k]'(by omega)) (by rw [List.getElem?_eq_getElem])).2
          · exact .inr ⟨rfl, by omega, by omega⟩
        · exact if_pos rfl
    · have hrun := run_app_grows (X := X) (w := w) (ty := o.type) (ad := ad) (sLen := es.length) (sCap := cap) (n := ys.length) (olds := flat vs) (news := flat us) ht hu hdu hi hz (hlen w rfl) (hcells w.drew i.size rfl hy1)
        (firstCells_old (X := X) (w' := w.drew) hvs hl rfl (fun _ => rfl)) (by omega) h63 hb
      rw [← hx] at hrun
      have hcapl := grownCap_ge w (es.length + ys.length) cap e
      rw [← flat_append] at hrun
      obtain ⟨g', hg, hr⟩ := app_grown (X := X) hs (w1 := w.drew) rfl (i := id) (sz := i.size) (es := es ++ ys) (vs := vs ++ us) (rest := (Builtin.zeroCells z.cells (grownCap w (es.length + ys.length) cap e - (es.length + ys.length))).toList) (e := e)
        (cap := grownCap w (es.length + ys.length) cap e) (hvs.append hus) (hsz.append hszu) (by simpa using hcapl) (by rw [size_zeroCells', hzs, List.length_append]) (H' := H.set id (.tok (es ++ ys).length))
        (fun n hn => by rw [hntl] at hn; cases hn; simp; omega) (fun k y hy => by rw [List.length_append] at hy ⊢; exact hset _ k y hy) (by simp) (by simpa using hidl)
      rw [List.length_append] at hg hr
      exact ok_append ho hrun hg hr

end
end Go.Avm

/-
  The operations' soundness: slicing, make, conversions.
-/
namespace Go.Avm
open Go

section
variable {X : Cx} {N : Nat} {g : Gh} {w : World} {fr : Fr} {H : Heap} {a : Act}

theorem op_smov (hs : StR X N g w fr H a) {o : Oper} {s d : TypeId} {x : Operand} {ax : AX} {l : List UInt8} (ho : o.op = .convert s d x) (h1 : cx x = some ax)
    (hs1 : X.P.underlying s = some .string) (hd : X.P.underlying d = some .string) (e1 : ax.eval X.G fr = .str l) : OpOk X g w H ((execOp a.eval o).run X.P w) (.str l) H := op_strmov hs ho h1 hs1 hd e1

theorem op_r2s (hs : StR X N g w fr H a) {o : Oper} {s d : TypeId} {x : Operand} {ax : AX} {k k' : IntKind} {n : Int} (ho : o.op = .convert s d x) (h1 : cx x = some ax)
    (hs1 : X.P.underlying s = some (.int k')) (hd : X.P.underlying d = some .string) (e1 : ax.eval X.G fr = .int k n) : OpOk X g w H ((execOp a.eval o).run X.P w) (.str (Utf8.encode n).data.toList) H := by
  have r1 := cx_rel hs h1
  rw [e1, rel_int] at r1
  exact ok_value hs (u := .string (Utf8.encode n)) (by simp only [execOp, ho]; try rfl) (by rw [r1]; simp [convert, run_underlying hs1, run_underlying hd, Conv.intToString]) (by rw [rel_str]; exact ⟨_, rfl, rfl⟩)

theorem freeze_heap {w : World} {ad : Addr} {arr : Array Value} {e : TypeId} {h0 : Array Obj} (hw : w.heap = h0.push (.cells arr e (0, 0))) (ha : ad.block = h0.size) :
    (w.freeze ad 1).heap = h0.push (.cells arr e (ad.off, ad.off + 1)) := by
  simp only [World.freeze, if_neg (show ¬ (1 = 0) by decide), hw, ha]
  apply Array.ext_getElem?
  intro i
  rw [Array.getElem?_modify, Array.getElem?_push, Array.getElem?_push]
  split
  · rename_i h; subst h; simp
  · rename_i h
    have h' : ¬ i = h0.size := fun e => h e.symm
    rw [if_neg h', if_neg h']

/-- What a conversion of a string to bytes leaves. -/
theorem run_s2b {s d e : TypeId} {l : ByteArray} (hs1 : X.P.underlying s = some .string) (hd : X.P.underlying d = some (.slice e)) (he : X.P.underlying e = some (.int .u8)) :
    ∃ (cap : Nat) (w' : World) (rest : List Value), l.size ≤ cap ∧ rest.length = cap - l.size ∧ (convert s d (.string l)).run X.P w = .ok (.slice (some ⟨w.heap.size, 0, none⟩) l.size cap) w' ∧
      w'.heap = w.heap.push (.cells (l.data.toList.map (fun b => Value.int .u8 b.toNat) ++ rest).toArray e (cap, cap + 1)) ∧ w'.os = w.os ∧ w'.output = w.output := by
  let cap := (Question.appendCap l.size 0 e).cut (w.tape w.drawn (.appendCap l.size 0 e))
  have hge : l.size ≤ cap := grownCap_ge w l.size 0 e
  let arr : Array Value := (l.data.map fun b => Value.int .u8 b.toNat) ++ Array.replicate (cap - l.size) (.int .u8 0)
  have hsz : arr.size = cap := by simp only [arr, Array.size_append, Array.size_map, Array.size_replicate]; have : l.data.size = l.size := rfl; omega
  have harr : arr = (l.data.toList.map (fun (b : UInt8) => Value.int .u8 b.toNat) ++ List.replicate (cap - l.size) (Value.int .u8 0)).toArray := by
    apply Array.ext'; simp [arr]
  refine ⟨cap, (w.drew.alloc (.cells arr e)).freeze ⟨w.heap.size, cap, none⟩ 1, List.replicate (cap - l.size) (Value.int .u8 0), hge, by simp, ?_, ?_, rfl, rfl⟩
  · have hshape : (w.drew.alloc (.cells arr e)).shape? w.heap.size = some (e, cap) := by
      have : (w.drew.alloc (.cells arr e)).heap[w.heap.size]? = some (.cells arr e) := heap_alloc_new (w := w.drew)
      simp only [World.shape?]
      rw [this]
      simp only [hsz]
    have hc : (convert s d (.string l)).run X.P w = (Conv.stringToBytes e l).run X.P w := by
      simp [convert, run_underlying hs1, run_underlying hd, run_underlying he]
    rw [hc]
    have hm : (markStringish ⟨w.heap.size, 0, none⟩).run X.P (w.drew.alloc (.cells arr e)) = .ok () ((w.drew.alloc (.cells arr e)).freeze ⟨w.heap.size, cap, none⟩ 1) := by
      simp [markStringish, hshape]
    simp only [Conv.stringToBytes, Sem.run_bind, run_choose_drew, Question.forced, Bool.false_eq_true, if_false, Result.andThen_ok, newRow, run_newObj_alloc, Sem.run_pure]
    show ((markStringish ⟨w.heap.size, 0, none⟩).run X.P (w.drew.alloc (.cells arr e))).andThen _ = _
    rw [hm]; rfl
  · rw [freeze_heap (h0 := w.heap) (arr := arr) (e := e) rfl rfl, harr]

theorem bytes_rel (l : List UInt8) : RelL (l.map u8) g w (l.map fun b => Value.int .u8 b.toNat) := by
  refine RelL.of_get (by simp) fun i x v hx hv => ?_
  simp only [List.getElem?_map, Option.map_eq_some_iff] at hx hv
  obtain ⟨b, hb, rfl⟩ := hx
  obtain ⟨b', hb', rfl⟩ := hv
  rw [hb] at hb'; cases hb'
  simp [u8, Rel]

theorem bytes_flat (l : List UInt8) : flat (l.map fun b => Value.int .u8 b.toNat) = l.map fun b => Value.int .u8 b.toNat := by
  induction l with
  | nil => rfl
  | cons b l ih => simp only [flat, List.map_cons, List.flatMap_cons] at ih ⊢; rw [ih]; rfl

theorem bytes_sized (l : List UInt8) : Sized 1 (l.map fun b => Value.int .u8 b.toNat) := fun v hv => by
  obtain ⟨b, _, rfl⟩ := List.mem_map.1 hv
  rfl

theorem op_s2b_tok (hs : StR X N g w fr H a) {o : Oper} {s d e : TypeId} {x : Operand} {ax : AX} {l : List UInt8} (ho : o.op = .convert s d x) (h1 : cx x = some ax)
    (hs1 : X.P.underlying s = some .string) (hd : X.P.underlying d = some (.slice e)) (he : X.P.underlying e = some (.int .u8)) (e1 : ax.eval X.G fr = .str l) :
    OpOk X g w H ((execOp a.eval o).run X.P w) (.sl (.tok H.length 1) (l.map u8)) (H ++ [.tok l.length]) := by
  have r1 := cx_rel hs h1
  rw [e1, rel_str] at r1
  obtain ⟨b, rb, rfl⟩ := r1
  obtain ⟨cap, w', rest, hcap, hrest, hrun, hheap, hio⟩ := run_s2b (X := X) (w := w) (l := b) hs1 hd he
  have hfar := hs.hr.far H.length (Nat.le_refl _)
  have hbl : b.data.toList.length = b.size := rfl
  have hml : (b.data.toList.map u8).length = b.size := by rw [List.length_map]; rfl
  obtain ⟨g', hg, hr⟩ := app_grown' (X := X) hs (w' := w') (i := H.length) (sz := 1) (es := b.data.toList.map u8) (vs := b.data.toList.map fun b => Value.int .u8 b.toNat) (rest := rest) (e := e) (cap := cap) (fl := cap) (fh := cap + 1)
    (by rw [bytes_flat]; exact hheap) (fun o ho => by omega) (bytes_rel _) (bytes_sized _) (by rw [hml]; exact hcap) (by rw [hml, hrest, Nat.mul_one]) (H' := H ++ [.tok b.data.toList.length])
    (fun n hn => by rw [hfar.2.1] at hn; cases hn) (fun k y hy => by
      rw [List.getElem?_append] at hy
      split at hy
      · rename_i hk; exact .inr ⟨by omega, hy⟩
      · rename_i hk
        have hk' : k = H.length := by
          rcases Nat.lt_or_ge (k - H.length) 1 with h' | h'
          · omega
          · rw [List.getElem?_eq_none (by simpa using h')] at hy; cases hy
        subst hk'
        simp at hy
        exact .inl ⟨rfl, by simp [← hy]⟩) (by simp) (by simp) hio
  refine OpOk.of_good (by simp only [execOp, ho]; try rfl) (by rw [rb]; exact hrun) hg ?_
  rwa [hml] at hr

theorem op_s2b_ro (hs : StR X N g w fr H a) {o : Oper} {s d e : TypeId} {x : Operand} {ax : AX} {l : List UInt8} (ho : o.op = .convert s d x) (h1 : cx x = some ax)
    (hs1 : X.P.underlying s = some .string) (hd : X.P.underlying d = some (.slice e)) (he : X.P.underlying e = some (.int .u8)) (e1 : ax.eval X.G fr = .str l) :
    OpOk X g w H ((execOp a.eval o).run X.P w) (.sl .ro (l.map u8)) H := by
  have r1 := cx_rel hs h1
  rw [e1, rel_str] at r1
  obtain ⟨b, rb, rfl⟩ := r1
  obtain ⟨cap, w', rest, hcap, hrest, hrun, hheap, hio⟩ := run_s2b (X := X) (w := w) (l := b) hs1 hd he
  have hml : (b.data.toList.map u8).length = b.size := by rw [List.length_map]; rfl
  let g' : Gh := { g with S := fun b' o => g.S b' o ∨ (b' = w.heap.size ∧ o < b.size) }
  have hsize : (b.data.toList.map (fun b => Value.int .u8 b.toNat) ++ rest).toArray.size = cap := by
    simp only [List.size_toArray, List.length_append, List.length_map, hrest]
    have : b.data.toList.length = b.size := rfl
    omega
  have hm : Mono g w g' w' := mono_push hs.wf hheap (fun _ _ h => .inl h) (fun _ _ h => h) (fun i n h => ⟨n, h, .inl ⟨rfl, rfl⟩⟩)
  have hg : Good X g w H g' w' H := by
    refine good_push hs.wf hheap (by rw [hsize]; exact fun o ho => by omega) hm (fun b' o h => ?_) (fun i b h => .inl h) (fun i b lo hi h => .inl h) (fun i j hi hj => ?_) (fun i j lo hi lo' hi' h1 h2 => ?_) (fun i j lo hi h1 h2 => ?_) (hs.hr.mono hm (fun i b' cs hx hb => ?_) (fun i _ => rfl) (fun i b' lo hi h => ⟨h, by rw [hheap, Array.getElem?_push, if_neg (by have := hs.wf.lt_tk h; omega)]⟩) hs.hr.far) hio
    · rcases h with h | ⟨rfl, h⟩
      · exact .inl h
      · refine .inr ⟨rfl, by omega, fun ho => ?_⟩
        have : w.heap.size < w.heap.size := hs.wf.lt_owns (o := o) ho
        omega
    · have := hs.wf.lt_bx hi; omega
    · have := hs.wf.lt_tk h1; omega
    · have := hs.wf.lt_bx h1; omega
    · rw [hheap, Array.getElem?_push, if_neg (by have := hs.wf.lt_bx hb; omega)]
  refine OpOk.of_good (by simp only [execOp, ho]; try rfl) (by rw [rb]; exact hrun) hg ?_
  simp only [Rel]
  refine ⟨_, cap, _, 1, by rw [hml], by rw [hml]; exact hcap, bytes_rel _, lies_flat (b := w.heap.size) (off := 0) (by rw [hheap]; simp; exact ⟨rfl, rfl, rfl⟩) (bytes_sized _) (fun k c hk => ?_) (fun k hk => ?_), trivial⟩
  · rw [bytes_flat] at hk
    rw [Nat.zero_add]
    simp only [List.getElem?_toArray]
    rw [List.getElem?_append_left (by
      rcases Nat.lt_or_ge k (b.data.toList.map fun b => Value.int .u8 b.toNat).length with h | h
      · exact h
      · simp only [List.getElem?_eq_none h] at hk; cases hk)]
    exact hk
  · rw [bytes_flat, List.length_map] at hk
    rw [Nat.zero_add]; exact .inr ⟨rfl, hk⟩

/-! ### slices of slices -/

theorem Lies.part {ad : Option Addr} {sz : Nat} {vs : List Value} {l h : Nat} (hl : Lies g w ad sz vs) : Lies g w (ad.map (·.add (l * sz))) sz ((vs.take h).drop l) := by
  rcases hl with rfl | ⟨b, o, rfl, hc⟩
  · exact .inl (by simp)
  · refine .inr ⟨b, o + l * sz, by simp [addr_add], fun i x hx => ?_⟩
    rw [List.getElem?_drop, List.getElem?_take] at hx
    split at hx
    · obtain ⟨h1, h2⟩ := hc _ _ hx
      refine ⟨h1, fun j c hj => ?_⟩
      have := h2 j c hj
      rwa [show o + (l + i) * sz + j = o + l * sz + i * sz + j by rw [Nat.add_mul]; omega] at this
    · cases hx

theorem run_slice_slice {t e : TypeId} {d : TypeInfo} {ad : Option Addr} {len cap : Nat} {lo hi mx : Option Value} {l h m : Nat} (ht : X.P.underlying t = some (.slice e)) (hd : X.P.info? e = some d)
    (hb : (Instr.sliceBounds true len cap lo hi mx).run X.P w = .ok (l, h, m) w) :
    (Instr.sliceAt t (.slice ad len cap) lo hi mx).run X.P w = .ok (.slice (if m = l then ad else ad.map (·.add (l * d.size))) (h - l) (m - l)) w := by
  simp [Instr.sliceAt, run_underlying ht, Instr.slice, hb, sizeOf, typeInfo, hd]

/-- A part of a slice that is told by its elements. -/
theorem rel_part {ad : Option Addr} {sz : Nat} {es : List AV} {vs : List Value} {l h m : Nat} {p : Perm} (hvs : RelL es g.flat w vs) (hl : Lies g w ad sz vs) (hlh : l ≤ h) (hhl : h ≤ es.length) (hhm : h ≤ m) {s : Nat} (hs : vs ≠ [] → s = sz)
    (hp : p = .ro ∨ (p = .ex ∧ m = h)) : Rel (.sl p ((es.take h).drop l)) g w (.slice (if m = l then ad else ad.map (·.add (l * s))) (h - l) (m - l)) := by
  have hlen : ((es.take h).drop l).length = h - l := by simp; omega
  simp only [Rel]
  refine ⟨_, m - l, (vs.take h).drop l, sz, by rw [hlen], by rw [hlen]; omega, (hvs.take h).drop l, ?_, ?_⟩
  · by_cases hml : m = l
    · have : (vs.take h).drop l = [] := by rw [List.drop_eq_nil_iff]; simp; omega
      exact .inl this
    · rw [if_neg hml]
      by_cases h0 : vs = []
      · subst h0; exact .inl (by simp)
      · rw [hs h0]; exact hl.part
  · rcases hp with rfl | ⟨rfl, rfl⟩
    · trivial
    · show m - l = _; rw [hlen]

theorem lies_size {ad : Option Addr} {es : List AV} {vs : List Value} {sz s : Nat} (hvs : RelL es g.flat w vs) (hl : Lies g w ad sz vs) (hok : szE s es = true) : vs ≠ [] → s = sz := by
  intro hne
  cases vs with
  | nil => exact absurd rfl hne
  | cons v vs =>
    obtain ⟨y, hy, hr'⟩ := hvs.get 0 (v := v) rfl
    have hall := List.all_eq_true.1 hok y (List.mem_of_getElem? hy)
    simp only [Bool.and_eq_true, decide_eq_true_eq] at hall
    have h1 := (rel_cells hr' hall.2).length
    have h2 := hl.sized v (by simp)
    rw [← h2, ← hall.1]
    simpa using h1.symm

theorem op_sls_sl (hs : StR X N g w fr H a) {o : Oper} {t e : TypeId} {d : TypeInfo} {x : Operand} {lo hi : Option Operand} {ax : AX} {alo ahi : Option AX} {p : Perm} {es : List AV} {kl kh : IntKind} {l h : Int} (ho : o.op = .slice t x lo hi none)
    (ht : X.P.underlying t = some (.slice e)) (hd : X.P.info? e = some d) (h1 : cx x = some ax) (h2 : cxO lo = some alo) (h3 : cxO hi = some ahi) (e1 : ax.eval X.G fr = .sl p es)
    (e2 : (alo.map (·.eval X.G fr)).getD (.int .i64 0) = .int kl l) (e3 : (ahi.map (·.eval X.G fr)).getD (.int .i64 es.length) = .int kh h) (hl0 : 0 ≤ l) (hlh : l ≤ h) (hhl : h ≤ es.length) (hok : szE d.size es = true) :
    OpOk X g w H ((execOp a.eval o).run X.P w) (.sl (match p, ahi with | .ex, none => .ex | _, _ => .ro) ((es.take h.toNat).drop l.toNat)) H := by
  have r1 := cx_rel hs h1
  rw [e1] at r1
  simp only [Rel] at r1
  obtain ⟨ad, cap, vs, sz, hx, hcap, hvs, hl, hp⟩ := r1
  have b1 := cxO_rel hs h2 (dv := .int .i64 0) (by simp [Rel]) e2
  have b2 := cxO_rel hs h3 (dv := .int .i64 es.length) (by simp [Rel]) e3
  have hb := run_sliceBounds (X := X) (w := w) (isS := true) (len := es.length) (cap := cap) b1 b2 hl0 hlh (by omega)
  refine ok_value hs (by simp only [execOp, ho]; try rfl) (by rw [hx]; simp only [Option.map_none]; exact run_slice_slice ht hd hb) ?_
  refine rel_part hvs hl (by omega) (by omega) (by omega) (lies_size hvs hl hok) ?_
  cases p with
  | ro => exact .inl rfl
  | tok i s => exact .inl rfl
  | ex =>
    cases ahi with
    | some _ => exact .inl rfl
    | none =>
      refine .inr ⟨rfl, ?_⟩
      have hcl : cap = es.length := hp
      simp at e3
      omega

theorem op_sls_rsl (hs : StR X N g w fr H a) {o : Oper} {t e : TypeId} {d : TypeInfo} {x : Operand} {lo hi : Option Operand} {ax : AX} {alo ahi : Option AX} {id off n cap : Nat} {kl kh : IntKind} {l h : Int} (ho : o.op = .slice t x lo hi none)
    (ht : X.P.underlying t = some (.slice e)) (hd : X.P.info? e = some d) (h1 : cx x = some ax) (h2 : cxO lo = some alo) (h3 : cxO hi = some ahi) (e1 : ax.eval X.G fr = .rsl id off n cap d.size)
    (e2 : (alo.map (·.eval X.G fr)).getD (.int .i64 0) = .int kl l) (e3 : (ahi.map (·.eval X.G fr)).getD (.int .i64 n) = .int kh h) (hl0 : 0 ≤ l) (hlh : l ≤ h) (hhl : h ≤ cap) :
    OpOk X g w H ((execOp a.eval o).run X.P w) (.rsl id (off + l.toNat * d.size) (h.toNat - l.toNat) (cap - l.toNat) d.size) H := by
  have r1 := cx_rel hs h1
  rw [e1] at r1
  simp only [Rel] at r1
  obtain ⟨ad, b, hx, hb, hnc, hc⟩ := r1
  have b1 := cxO_rel hs h2 (dv := .int .i64 0) (by simp [Rel]) e2
  have b2 := cxO_rel hs h3 (dv := .int .i64 n) (by simp [Rel]) e3
  have hbd := run_sliceBounds (X := X) (w := w) (isS := true) (len := n) (cap := cap) b1 b2 hl0 hlh (by omega)
  refine ok_value hs (by simp only [execOp, ho]; try rfl) (by rw [hx]; simp only [Option.map_none]; exact run_slice_slice ht hd hbd) ?_
  simp only [Rel]
  refine ⟨_, b, rfl, hb, by omega, ?_⟩
  rcases hc with hc | rfl
  · left; omega
  · by_cases hml : cap = l.toNat
    · left; omega
    · right; rw [if_neg hml]; simp [addr_add]

theorem op_sls3_sl (hs : StR X N g w fr H a) {o : Oper} {t e : TypeId} {d : TypeInfo} {x hi mx : Operand} {lo : Option Operand} {ax ahi amx : AX} {alo : Option AX} {p : Perm} {es : List AV} {kl kh km : IntKind} {l h m : Int} (ho : o.op = .slice t x lo (some hi) (some mx))
    (ht : X.P.underlying t = some (.slice e)) (hd : X.P.info? e = some d) (h1 : cx x = some ax) (h2 : cxO lo = some alo) (h3 : cx hi = some ahi) (h4 : cx mx = some amx) (e1 : ax.eval X.G fr = .sl p es)
    (e2 : (alo.map (·.eval X.G fr)).getD (.int .i64 0) = .int kl l) (e3 : ahi.eval X.G fr = .int kh h) (e4 : amx.eval X.G fr = .int km m) (hl0 : 0 ≤ l) (hlh : l ≤ h) (hhm : h ≤ m) (hml : m ≤ es.length) (hok : szE d.size es = true) :
    OpOk X g w H ((execOp a.eval o).run X.P w) (.sl (if h = m then .ex else .ro) ((es.take h.toNat).drop l.toNat)) H := by
  have r1 := cx_rel hs h1
  have r3 := cx_rel hs h3
  have r4 := cx_rel hs h4
  rw [e1] at r1
  rw [e3, rel_int] at r3
  rw [e4, rel_int] at r4
  simp only [Rel] at r1
  obtain ⟨ad, cap, vs, sz, hx, hcap, hvs, hl, hp⟩ := r1
  have b1 := cxO_rel hs h2 (dv := .int .i64 0) (by simp [Rel]) e2
  have hb := run_sliceBounds3 (X := X) (w := w) (isS := true) (len := es.length) (cap := cap) (hi := some (a.eval hi)) (mx := some (a.eval mx)) b1 (by rw [r3]) (by rw [r4]) hl0 hlh hhm (by omega)
  refine ok_value hs (by simp only [execOp, ho]; try rfl) (by rw [hx]; simp only [Option.map_some]; exact run_slice_slice ht hd hb) ?_
  refine rel_part hvs hl (by omega) (by omega) (by omega) (lies_size hvs hl hok) ?_
  by_cases hhm' : h = m
  · rw [if_pos hhm']; exact .inr ⟨rfl, by omega⟩
  · rw [if_neg hhm']; exact .inl rfl

theorem op_sls3_rsl (hs : StR X N g w fr H a) {o : Oper} {t e : TypeId} {d : TypeInfo} {x hi mx : Operand} {lo : Option Operand} {ax ahi amx : AX} {alo : Option AX} {id off n cap : Nat} {kl kh km : IntKind} {l h m : Int} (ho : o.op = .slice t x lo (some hi) (some mx))
    (ht : X.P.underlying t = some (.slice e)) (hd : X.P.info? e = some d) (h1 : cx x = some ax) (h2 : cxO lo = some alo) (h3 : cx hi = some ahi) (h4 : cx mx = some amx) (e1 : ax.eval X.G fr = .rsl id off n cap d.size)
    (e2 : (alo.map (·.eval X.G fr)).getD (.int .i64 0) = .int kl l) (e3 : ahi.eval X.G fr = .int kh h) (e4 : amx.eval X.G fr = .int km m) (hl0 : 0 ≤ l) (hlh : l ≤ h) (hhm : h ≤ m) (hml : m ≤ cap) :
    OpOk X g w H ((execOp a.eval o).run X.P w) (.rsl id (off + l.toNat * d.size) (h.toNat - l.toNat) (m.toNat - l.toNat) d.size) H := by
  have r1 := cx_rel hs h1
  have r3 := cx_rel hs h3
  have r4 := cx_rel hs h4
  rw [e1] at r1
  rw [e3, rel_int] at r3
  rw [e4, rel_int] at r4
  simp only [Rel] at r1
  obtain ⟨ad, b, hx, hb, hnc, hc⟩ := r1
  have b1 := cxO_rel hs h2 (dv := .int .i64 0) (by simp [Rel]) e2
  have hbd := run_sliceBounds3 (X := X) (w := w) (isS := true) (len := n) (cap := cap) (hi := some (a.eval hi)) (mx := some (a.eval mx)) b1 (by rw [r3]) (by rw [r4]) hl0 hlh hhm (by omega)
  refine ok_value hs (by simp only [execOp, ho]; try rfl) (by rw [hx]; simp only [Option.map_some]; exact run_slice_slice ht hd hbd) ?_
  simp only [Rel]
  refine ⟨_, b, rfl, hb, by omega, ?_⟩
  rcases hc with hc | rfl
  · left; omega
  · by_cases hml' : m.toNat = l.toNat
    · left; omega
    · right; rw [if_neg hml']; simp [addr_add]

theorem run_slice_array {t e : TypeId} {k : Nat} {d : TypeInfo} {b off : Nat} {lo hi : Option Value} {l h : Nat} (ht : X.P.underlying t = some (.array k e)) (hd : X.P.info? e = some d)
    (hb : (Instr.sliceBounds false k k lo hi none).run X.P w = .ok (l, h, k) w) :
    (Instr.sliceAt t (.pointer (some ⟨b, off, none⟩)) lo hi none).run X.P w = .ok (.slice (some (if k = l then ⟨b, off, none⟩ else ⟨b, off + l * d.size, none⟩)) (h - l) (k - l)) w := by
  simp [Instr.sliceAt, run_underlying ht, Instr.sureAddr, hb, sizeOf, typeInfo, hd, addr_add]

theorem op_slA_ptr (hs : StR X N g w fr H a) {o : Oper} {t e : TypeId} {k : Nat} {d : TypeInfo} {x : Operand} {lo hi : Option Operand} {ax : AX} {alo ahi : Option AX} {id off : Nat} {kl kh : IntKind} {l h : Int} (ho : o.op = .slice t x lo hi none)
    (ht : X.P.underlying t = some (.array k e)) (hd : X.P.info? e = some d) (h1 : cx x = some ax) (h2 : cxO lo = some alo) (h3 : cxO hi = some ahi) (e1 : ax.eval X.G fr = .ptr id off)
    (e2 : (alo.map (·.eval X.G fr)).getD (.int .i64 0) = .int kl l) (e3 : (ahi.map (·.eval X.G fr)).getD (.int .i64 k) = .int kh h) (hl0 : 0 ≤ l) (hlh : l ≤ h) (hhl : h ≤ k) :
    OpOk X g w H ((execOp a.eval o).run X.P w) (.rsl id (off + l.toNat * d.size) (h.toNat - l.toNat) (k - l.toNat) d.size) H := by
  have r1 := cx_rel hs h1
  rw [e1] at r1
  simp only [Rel] at r1
  obtain ⟨b, hx, hb⟩ := r1
  have b1 := cxO_rel hs h2 (dv := .int .i64 0) (by simp [Rel]) e2
  have b2 := cxO_rel hs h3 (dv := .int .i64 k) (by simp [Rel]) e3
  have hbd := run_sliceBounds (X := X) (w := w) (isS := false) (len := k) (cap := k) b1 b2 hl0 hlh hhl
  refine ok_value hs (by simp only [execOp, ho]; try rfl) (by rw [hx]; simp only [Option.map_none]; exact run_slice_array ht hd hbd) ?_
  simp only [Rel]
  refine ⟨_, b, rfl, hb, by omega, ?_⟩
  by_cases hml : k = l.toNat
  · left; omega
  · right; rw [if_neg hml]

theorem op_slA_vp (hs : StR X N g w fr H a) {o : Oper} {t e : TypeId} {k : Nat} {d : TypeInfo} {x : Operand} {lo hi : Option Operand} {ax : AX} {alo ahi : Option AX} {cs : List AV} {kl kh : IntKind} {l h : Int} (ho : o.op = .slice t x lo hi none)
    (ht : X.P.underlying t = some (.array k e)) (hd : X.P.info? e = some d) (hd1 : d.size = 1) (h1 : cx x = some ax) (h2 : cxO lo = some alo) (h3 : cxO hi = some ahi) (e1 : ax.eval X.G fr = .vp cs)
    (e2 : (alo.map (·.eval X.G fr)).getD (.int .i64 0) = .int kl l) (e3 : (ahi.map (·.eval X.G fr)).getD (.int .i64 k) = .int kh h) (hl0 : 0 ≤ l) (hlh : l ≤ h) (hhl : h ≤ k) (hkc : k ≤ cs.length) (hsc : cs.all scalarB = true) :
    OpOk X g w H ((execOp a.eval o).run X.P w) (.sl .ro ((cs.take h.toNat).drop l.toNat)) H := by
  have r1 := cx_rel hs h1
  rw [e1] at r1
  simp only [Rel] at r1
  obtain ⟨b, off, vs, hx, hvs, hcell⟩ := r1
  have b1 := cxO_rel hs h2 (dv := .int .i64 0) (by simp [Rel]) e2
  have b2 := cxO_rel hs h3 (dv := .int .i64 k) (by simp [Rel]) e3
  have hbd := run_sliceBounds (X := X) (w := w) (isS := false) (len := k) (cap := k) b1 b2 hl0 hlh hhl
  refine ok_value hs (by simp only [execOp, ho]; try rfl) (by rw [hx]; simp only [Option.map_none]; exact run_slice_array ht hd hbd) ?_
  have hl : Lies g w (some ⟨b, off, none⟩) 1 vs := .inr ⟨b, off, rfl, fun i y hy => by
    obtain ⟨c, hc, hr⟩ := hvs.get i hy
    have hcs := scalar_cells hr (List.all_eq_true.1 hsc c (List.mem_of_getElem? hc))
    refine ⟨by rw [hcs.1]; rfl, fun j z hz => ?_⟩
    rw [hcs.1] at hz
    have hj : j = 0 := by
      rcases Nat.eq_zero_or_pos j with h | h
      · exact h
      · rw [Array.getElem?_eq_none (by simp; omega)] at hz; cases hz
    subst hj
    simp at hz
    subst hz
    simpa using hcell i y hy⟩
  have := rel_part (p := .ro) (l := l.toNat) (h := h.toNat) (m := k) hvs hl (by omega) (by omega) (by omega) (s := 1) (fun _ => rfl) (.inl rfl)
  rw [hd1, Nat.mul_one]
  rw [Nat.mul_one] at this
  by_cases hml : k = l.toNat
  · rw [if_pos hml] at this ⊢; exact this
  · rw [if_neg hml] at this ⊢; simpa [addr_add] using this

/-! ### make -/

theorem run_make_ok {t e : TypeId} {d : TypeInfo} {z : Value} {n m : Int} (ht : X.P.underlying t = some (.slice e)) (hd : X.P.info? e = some d) (hz : d.zero = some z) (hzs : z.cells.size = d.size)
    (h0 : 0 ≤ n) (hnm : n ≤ m) (hb : m * d.bytes ≤ 140737488355328) (h63 : m ≤ 9223372036854775807) :
    ∃ arr : Array Value, (Instr.makeSlice t (.int .i64 n) (.int .i64 m)).run X.P w = .ok (.slice (some ⟨w.heap.size, 0, none⟩) n.toNat m.toNat) (w.alloc (.cells arr e)) ∧ arr.toList = flat (List.replicate m.toNat z) := by
  have hw : ∀ k : Int, 0 ≤ k → k ≤ 9223372036854775807 → IntKind.i64.wrap k = k := fun k hk0 hk1 => by
    have hmod : k % 2 ^ 64 = k := Int.emod_eq_of_lt hk0 (by omega)
    simp only [IntKind.wrap, IntKind.bits, hmod, IntKind.signed]
    simp
    omega
  have hsz : Sized d.size (List.replicate m.toNat z) := fun v hv => by rw [(List.mem_replicate.1 hv).2]; exact hzs
  refine ⟨(Array.range (m.toNat * d.size)).map (fun k => z.cells[k % z.cells.size]!), ?_, ?_⟩
  · have hbn : (d.bytes : Int) * n ≤ 281474976710656 := by
      have h1 : (d.bytes : Int) * n ≤ d.bytes * m := Int.mul_le_mul_of_nonneg_left hnm (by omega)
      have h2 : (d.bytes : Int) * m = m * d.bytes := Int.mul_comm _ _
      omega
    have hbm : (d.bytes : Int) * m ≤ 281474976710656 := by
      have h2 : (d.bytes : Int) * m = m * d.bytes := Int.mul_comm _ _
      omega
    have hnot : ¬ (281474976710656 < (d.bytes : Int) * m) := by omega
    simp only [Instr.makeSlice, Sem.run_bind, run_underlying ht, Result.andThen_ok, asInt, asIntOf, Sem.run_pure, typeInfo, run_program, hd, hw n h0 (by omega), hw m (by omega) h63]
    simp only [show ¬ m < 0 by omega, show ¬ n < 0 by omega, show ¬ n > m by omega, hnot, gt_iff_lt, show ((2 : Int) ^ 48) = 281474976710656 by decide, decide_false, Bool.or_false, Bool.false_eq_true, if_false, Sem.run_bind, run_askRoom, Result.andThen_ok, sizeOf, typeInfo, run_program, hd, Sem.run_pure]
    by_cases hz0 : m.toNat * d.size = 0
    · simp [hz0, newRow]
      congr 2
      simp [show Array.range 0 = #[] from rfl]
    · simp [hz0, newRow, zeroValue, typeInfo, hd, hz]
  · apply List.ext_getElem?
    intro k
    have hl := flat_length hsz
    rw [List.length_replicate] at hl
    by_cases hk : k < m.toNat * d.size
    · have hpos : 0 < d.size := by
        rcases Nat.eq_zero_or_pos d.size with h | h
        · rw [h] at hk; simp at hk
        · exact h
      have hq : k / d.size < m.toNat := by rw [Nat.div_lt_iff_lt_mul hpos]; exact hk
      have hr : k % d.size < d.size := Nat.mod_lt _ hpos
      have hdm : k / d.size * d.size + k % d.size = k := by rw [Nat.mul_comm]; exact Nat.div_add_mod k d.size
      have := flat_get (v := z) (k / d.size) (k % d.size) hsz (by simp [hq]) hr
      rw [hdm] at this
      rw [this]
      simp [hk, hzs, hr]
    · rw [List.getElem?_eq_none (by simp; omega), List.getElem?_eq_none (by omega)]

theorem op_mkT (hs : StR X N g w fr H a) {o : Oper} {t e : TypeId} {d : TypeInfo} {z : List AV} {l c : Operand} {ac : AX} {m : Int} (ho : o.op = .makeSlice t l c) (ht : X.P.underlying t = some (.slice e)) (hd : X.P.info? e = some d)
    (hz : zeroCells X.P e = some z) (hzl : z.length = d.size) (h1 : cx l = some (.c (.int .i64 0))) (h2 : cx c = some ac) (e2 : ac.eval X.G fr = .int .i64 m) (h0 : 0 ≤ m) (hb : m * d.bytes ≤ 140737488355328) (h63 : m ≤ 9223372036854775807) :
    OpOk X g w H ((execOp a.eval o).run X.P w) (.sl (.tok H.length d.size) []) (H ++ [.tok 0]) := by
  obtain ⟨i, zv, hi, hzv, hzr⟩ := zeroCells_spec hz
  rw [hd] at hi; cases hi
  have r1 := cx_rel hs h1
  have r2 := cx_rel hs h2
  simp only [AX.eval, rel_int] at r1
  rw [e2, rel_int] at r2
  have hzs : zv.cells.size = d.size := by rw [← hzl]; simpa using (hzr g w).length
  obtain ⟨arr, hrun, harr⟩ := run_make_ok (X := X) (w := w) ht hd hzv hzs (Int.le_refl 0) h0 hb h63
  have hfar := hs.hr.far H.length (Nat.le_refl _)
  have hsz : Sized d.size (List.replicate m.toNat zv) := fun v hv => by rw [(List.mem_replicate.1 hv).2]; exact hzs
  obtain ⟨g', hg, hr⟩ := app_grown (X := X) hs (w1 := w) rfl (i := H.length) (sz := d.size) (es := []) (vs := []) (rest := arr.toList) (e := e) (cap := m.toNat) (by simp [RelL]) (fun v hv => nomatch hv) (by simp)
    (by rw [harr, flat_length hsz]; simp) (H' := H ++ [.tok 0]) (fun n hn => by rw [hfar.2.1] at hn; cases hn) (fun k y hy => by
        rw [List.getElem?_append] at hy
        split at hy
        · rename_i hk; exact .inr ⟨by omega, hy⟩
        · rename_i hk
          have hk' : k = H.length := by
            rcases Nat.lt_or_ge (k - H.length) 1 with h' | h'
            · omega
            · rw [List.getElem?_eq_none (by simpa using h')] at hy; cases hy
          subst hk'
          simp at hy
          exact .inl ⟨rfl, by simp [← hy]⟩) (by simp) (by simp)
  have he : (flat [] ++ arr.toList).toArray = arr := by simp [flat]
  rw [he] at hg hr
  exact OpOk.of_good (by simp only [execOp, ho]; try rfl) (by rw [r1, r2]; exact hrun) hg hr

theorem op_mkR (hs : StR X N g w fr H a) {o : Oper} {t e : TypeId} {d : TypeInfo} {z : List AV} {l c : Operand} {al ac : AX} {n m : Int} (ho : o.op = .makeSlice t l c) (ht : X.P.underlying t = some (.slice e)) (hd : X.P.info? e = some d)
    (hz : zeroCells X.P e = some z) (hzl : z.length = d.size) (h1 : cx l = some al) (h2 : cx c = some ac) (e1 : al.eval X.G fr = .int .i64 n) (e2 : ac.eval X.G fr = .int .i64 m) (h0 : 0 ≤ n) (hnm : n ≤ m) (hb : m * d.bytes ≤ 140737488355328) (h63 : m ≤ 9223372036854775807) :
    OpOk X g w H ((execOp a.eval o).run X.P w) (.rsl H.length 0 n.toNat m.toNat d.size) (H ++ [.box (repCells m.toNat z)]) := by
  obtain ⟨i, zv, hi, hzv, hzr⟩ := zeroCells_spec hz
  rw [hd] at hi; cases hi
  have r1 := cx_rel hs h1
  have r2 := cx_rel hs h2
  rw [e1, rel_int] at r1
  rw [e2, rel_int] at r2
  have hzs : zv.cells.size = d.size := by rw [← hzl]; simpa using (hzr g w).length
  obtain ⟨arr, hrun, harr⟩ := run_make_ok (X := X) (w := w) ht hd hzv hzs h0 hnm hb h63
  have hcell : repCells m.toNat z = (List.replicate m.toNat z).flatten := by
    unfold repCells
    split
    · rename_i v
      induction m.toNat with
      | zero => rfl
      | succ k ih => rw [List.replicate_succ, List.replicate_succ, List.flatten_cons, ← ih]; rfl
    · rfl
  rw [hcell]
  have hrel : RelL (List.replicate m.toNat z).flatten g w arr.toList := by
    rw [harr]
    induction m.toNat with
    | zero => simp [flat, RelL]
    | succ k ih =>
      rw [List.replicate_succ, List.flatten_cons, List.replicate_succ]
      exact (hzr g w).append ih
  obtain ⟨g', hg, hbx⟩ := good_box hs (vs := arr) (e := e) hrel
  exact OpOk.of_good (by simp only [execOp, ho]; try rfl) (by rw [r1, r2]; exact hrun) hg (by simp only [Rel]; exact ⟨_, _, rfl, hbx, by omega, .inr rfl⟩)

end
end Go.Avm

/-
  The operations' soundness: nil's tests, arrays held against each other, min and max.
-/
namespace Go.Avm
open Go

section
variable {X : Cx} {N : Nat} {g : Gh} {w : World} {fr : Fr} {H : Heap} {a : Act}

theorem op_app_exnil (hs : StR X N g w fr H a) {o : Oper} {t u e : TypeId} {i : TypeInfo} {du : TypeDesc} {x y : Operand} {ax ay : AX} {es : List AV} (ho : o.op = .call { callee := .builtin .append, args := #[x, y], argTypes := #[t, u] })
    (ht : X.P.underlying t = some (.slice e)) (hu : X.P.underlying u = some du) (hdu : SrcD du) (hi : X.P.info? e = some i)
    (h1 : cx x = some ax) (h2 : cx y = some ay) (e1 : ax.eval X.G fr = .sl .ex es) (e2 : appSrc (ay.eval X.G fr) = some []) :
    OpOk X g w H ((execOp a.eval o).run X.P w) (.sl .ex es) H := by
  have r1 := cx_rel hs h1
  have r2 := cx_rel hs h2
  rw [e1] at r1
  have r1' := r1
  simp only [Rel] at r1
  obtain ⟨ad, cap, vs, sz, hx, hcap, hvs, hl, hp⟩ := r1
  have hcl : cap = es.length := hp
  subst hcl
  obtain ⟨us, sz', hus, hsu, hlen, hcells⟩ := src_spec (X := X) e2 r2
  have hu0 : us = [] := List.eq_nil_of_length_eq_zero (by rw [hus.length]; rfl)
  subst hu0
  have hrun := run_app_fits (X := X) (ty := o.type) (ad := ad) (sLen := es.length) (sCap := es.length) (n := 0) (news := flat []) (w' := w) ht hu hdu hi (hlen w rfl) (hcells w i.size rfl (fun h => absurd rfl h)) (Nat.le_refl _) (fun d _ => by simp [flat, storeCells]) (fun _ => rfl)
  rw [← hx] at hrun
  rw [hx] at r1'
  exact ok_append ho hrun (Good.refl hs) r1'

theorem op_nck (hs : StR X N g w fr H a) {o : Oper} {x : Operand} {ax : AX} {v : AV} (ho : o.op = .nilCheck x) (h1 : cx x = some ax) (e1 : ax.eval X.G fr = v) (hv : (∃ i p, v = .ptr i p) ∨ ∃ cs, v = .vp cs) :
    OpOk X g w H ((execOp a.eval o).run X.P w) v H := by
  have r1 := cx_rel hs h1
  rw [e1] at r1
  obtain ⟨ad, hp⟩ : ∃ ad, a.eval x = .pointer (some ad) := by
    rcases hv with ⟨i, p, rfl⟩ | ⟨cs, rfl⟩
    · simp only [Rel] at r1; obtain ⟨b, h, _⟩ := r1; exact ⟨_, h⟩
    · simp only [Rel] at r1; obtain ⟨b, o, vs, h, _⟩ := r1; exact ⟨_, h⟩
  refine ⟨a.eval x, w, g, .inl ?_, Good.refl hs, r1⟩
  simp only [execOp, ho, hp]
  rfl

theorem eqGuard_ptr (op : BinOp) (t : TypeId) (x y : Operand) (p q : Option Addr) : (eqGuard op t x y (.pointer p) (.pointer q)).run X.P w = .ok () w := by
  cases op <;> simp [eqGuard]
theorem eqGuard_sl (op : BinOp) (t : TypeId) (x y : Operand) (p q : Option Addr) (n c n' c' : Nat) : (eqGuard op t x y (.slice p n c) (.slice q n' c')).run X.P w = .ok () w := by
  cases op <;> simp [eqGuard]

theorem negOf_cases {op : BinOp} {n : Bool} (h : negOf op = some n) : (op = .eql ∧ n = false) ∨ (op = .neq ∧ n = true) := by
  cases op <;> simp [negOf] at h <;> simp [h]

theorem op_peq (hs : StR X N g w fr H a) {o : Oper} {op : BinOp} {t e yt : TypeId} {x y : Operand} {ax ay : AX} {n b : Bool} (ho : o.op = .binOp op t x y yt) (hop : negOf op = some n) (ht : X.P.underlying t = some (.pointer e))
    (h1 : cx x = some ax) (h2 : cx y = some ay) (e2 : ay.eval X.G fr = .nilP) (e1 : (ax.eval X.G fr = .nilP ∧ b = !n) ∨ ((∃ i p, ax.eval X.G fr = .ptr i p) ∨ ∃ cs, ax.eval X.G fr = .vp cs) ∧ b = n) :
    OpOk X g w H ((execOp a.eval o).run X.P w) (.bool b) H := by
  have r1 := cx_rel hs h1
  have r2 := cx_rel hs h2
  rw [e2] at r2
  simp only [Rel] at r2
  have hpt : X.P.underlying t = some (.pointer (X.P.pointee t)) := by simp [Program.pointee, ht]
  obtain ⟨p, hp, hb⟩ : ∃ p, a.eval x = .pointer p ∧ b = (p.isNone != n) := by
    rcases e1 with ⟨e, rfl⟩ | ⟨⟨i, p, e⟩ | ⟨cs, e⟩, rfl⟩
    · rw [e] at r1; simp only [Rel] at r1; exact ⟨_, r1, by simp⟩
    · rw [e] at r1; simp only [Rel] at r1; obtain ⟨b, h, _⟩ := r1; exact ⟨_, h, by simp⟩
    · rw [e] at r1; simp only [Rel] at r1; obtain ⟨b, o, vs, h, _⟩ := r1; exact ⟨_, h, by simp⟩
  refine ok_value hs (u := .bool b) (by simp only [execOp, ho]; try rfl) ?_ (by simp [Rel])
  rw [hp, r2, hb]
  rcases negOf_cases hop with ⟨rfl, rfl⟩ | ⟨rfl, rfl⟩
  · simp only [Sem.run_bind, eqGuard_ptr, Result.andThen_ok]
    rw [run_eql_pointer_nil w t p hpt]; simp
  · simp only [Sem.run_bind, eqGuard_ptr, Result.andThen_ok]
    rw [run_neq_pointer_nil w t p hpt]; simp

theorem op_isn (hs : StR X N g w fr H a) {o : Oper} {op : BinOp} {t e yt : TypeId} {x : Operand} {ax : AX} {n : Bool} {p : Perm} {es : List AV} (ho : o.op = .binOp op t x (.const (.slice none 0 0)) yt) (hop : negOf op = some n) (ht : X.P.underlying t = some (.slice e))
    (h1 : cx x = some ax) (e1 : ax.eval X.G fr = .sl p es) (hne : es.isEmpty = false) :
    OpOk X g w H ((execOp a.eval o).run X.P w) (.bool n) H := by
  have r1 := cx_rel hs h1
  rw [e1] at r1
  simp only [Rel] at r1
  obtain ⟨ad, cap, vs, sz, hx, hcap, hvs, hl, hp⟩ := r1
  have hvl := hvs.length
  obtain ⟨d, rfl⟩ : ∃ d, ad = some d := by
    rcases hl with rfl | ⟨b, o, h, _⟩
    · cases es with
      | nil => simp at hne
      | cons => simp at hvl
    · exact ⟨_, h⟩
  refine ok_value hs (u := .bool n) (by simp only [execOp, ho]; try rfl) ?_ (by simp [Rel])
  have hy : a.eval (.const (.slice none 0 0)) = .slice none 0 0 := rfl
  rw [hx, hy]
  simp only [Sem.run_bind, eqGuard_sl, Result.andThen_ok]
  rcases negOf_cases hop with ⟨rfl, rfl⟩ | ⟨rfl, rfl⟩
  · simp [binOp, Op.equal, Op.maxDepth, Go.Lib.run_equalIn_slice_nil w 9999 t e _ _ _ _ _ ht]
  · simp [binOp, Op.equal, Op.maxDepth, Go.Lib.run_equalIn_slice_nil w 9999 t e _ _ _ _ _ ht]

theorem eqGuard_ifn (op : BinOp) (t : TypeId) (x : Operand) (u : Value) (hu : u = .nilIface ∨ ∃ d z, u = .iface d z) : (eqGuard op t x (.const .nilIface) u .nilIface).run X.P w = .ok () w := by
  rcases hu with rfl | ⟨d, z, rfl⟩
  · cases op <;> cases x <;> simp [eqGuard]
  · cases op <;> simp [eqGuard]
theorem run_eqn_n (w : World) (d : Nat) {t : TypeId} {ms : Array (String × TypeId)} (ht : X.P.underlying t = some (.interface ms)) : (Op.equalIn (d + 1) t .nilIface .nilIface).run X.P w = .ok true w := by
  simp [Op.equalIn, run_underlying ht]
theorem run_eqn_i (w : World) (d : Nat) {t : TypeId} {ms : Array (String × TypeId)} (ht : X.P.underlying t = some (.interface ms)) (k : TypeId) (z : Value) : (Op.equalIn (d + 1) t (.iface k z) .nilIface).run X.P w = .ok false w := by
  simp [Op.equalIn, run_underlying ht]
theorem op_ifn (hs : StR X N g w fr H a) {o : Oper} {op : BinOp} {t yt : TypeId} {ms : Array (String × TypeId)} {x : Operand} {ax : AX} {n b : Bool} (ho : o.op = .binOp op t x (.const .nilIface) yt) (hop : negOf op = some n) (ht : X.P.underlying t = some (.interface ms))
    (h1 : cx x = some ax) (e1 : (ax.eval X.G fr = .nilI ∧ b = !n) ∨ (∃ d z, ax.eval X.G fr = .ifc d z) ∧ b = n) :
    OpOk X g w H ((execOp a.eval o).run X.P w) (.bool b) H := by
  have r1 := cx_rel hs h1
  have hy : a.eval (.const .nilIface) = .nilIface := rfl
  rcases e1 with ⟨e1, rfl⟩ | ⟨⟨d, z, e1⟩, rfl⟩
  · rw [e1] at r1
    simp only [Rel] at r1
    refine ok_value hs (u := .bool (!n)) (by simp only [execOp, ho]; try rfl) ?_ (by simp [Rel])
    rw [r1, hy]
    simp only [Sem.run_bind, eqGuard_ifn op t x _ (.inl rfl), Result.andThen_ok]
    rcases negOf_cases hop with ⟨rfl, rfl⟩ | ⟨rfl, rfl⟩
    · simp [binOp, Op.equal, Op.maxDepth, run_eqn_n w 9999 ht]
    · simp [binOp, Op.equal, Op.maxDepth, run_eqn_n w 9999 ht]
  · rw [e1] at r1
    simp only [Rel] at r1
    obtain ⟨u, r1, _⟩ := r1
    refine ok_value hs (u := .bool b) (by simp only [execOp, ho]; try rfl) ?_ (by simp [Rel])
    rw [r1, hy]
    simp only [Sem.run_bind, eqGuard_ifn op t x _ (.inr ⟨_, _, rfl⟩), Result.andThen_ok]
    rcases negOf_cases hop with ⟨rfl, rfl⟩ | ⟨rfl, rfl⟩
    · simp [binOp, Op.equal, Op.maxDepth, run_eqn_i w 9999 ht]
    · simp [binOp, Op.equal, Op.maxDepth, run_eqn_i w 9999 ht]

theorem op_mm (hs : StR X N g w fr H a) {o : Oper} {mx : Bool} {x y : Operand} {ts : Array TypeId} {ax ay : AX} {k k' : IntKind} {p q : Int} (ho : o.op = .call { callee := .builtin (bif mx then .max else .min), args := #[x, y], argTypes := ts })
    (h1 : cx x = some ax) (h2 : cx y = some ay) (e1 : ax.eval X.G fr = .int k p) (e2 : ay.eval X.G fr = .int k' q) :
    OpOk X g w H ((execOp a.eval o).run X.P w) (.int k (bif mx then (if p < q then q else p) else (if q < p then q else p))) H := by
  have r1 := cx_rel hs h1
  have r2 := cx_rel hs h2
  rw [e1, rel_int] at r1
  rw [e2, rel_int] at r2
  obtain ⟨cs, h⟩ := eval_call2 (X := X) (w := w) (a := a) ho
  refine ⟨.int k (bif mx then (if p < q then q else p) else (if q < p then q else p)), w, g, .inl ?_, Good.refl hs, by simp only [Rel]⟩
  rw [h, r1, r2]
  cases mx <;> simp [builtin, Builtin.min_, Builtin.max_, Builtin.min2, Builtin.max2]

/-! ### arrays -/

theorem eqCell_run {k : Nat} {d : TypeDesc} {dd : Nat} {e : TypeId} {x y : AV} {u v : Value} {b : Bool} (hd : X.P.underlying e = some d) (hk : kindD d = some k) (hx : Rel x g w u) (hy : Rel y g w v) (h : eqCellK k x y = some b) :
    (Op.equalIn (dd + 1) e u v).run X.P w = .ok b w := by
  unfold eqCellK at h
  split at h
  · rename_i ka p kb q
    have hd' : ∃ k', d = .int k' := by
      cases d <;> simp [kindD] at hk
      exact ⟨_, rfl⟩
    obtain ⟨k', rfl⟩ := hd'
    split at h
    · rename_i hkk
      subst hkk
      simp only [Option.some.injEq] at h
      simp only [Rel] at hx hy
      rw [hx, hy, ← h]
      exact run_equalIn_int w dd e ka k' p q hd
    · cases h
  · have hd' : d = .bool := by cases d <;> simp [kindD] at hk; rfl
    subst hd'
    simp only [Option.some.injEq] at h
    simp only [Rel] at hx hy
    rw [hx, hy, ← h]
    exact run_equalIn_bool' w dd e _ _ hd
  · have hd' : d = .string := by cases d <;> simp [kindD] at hk; rfl
    subst hd'
    simp only [Option.some.injEq] at h
    simp only [Rel] at hx hy
    obtain ⟨s1, hx1, hx2⟩ := hx
    obtain ⟨s2, hy1, hy2⟩ := hy
    rw [hx1, hy1, ← h, ← hx2, ← hy2]
    rw [run_equalIn_string w dd e _ _ hd, ByteArray.toList_eq, ByteArray.toList_eq]
  · cases h

theorem eqItems_run {k : Nat} {d : TypeDesc} {dd : Nat} {e : TypeId} {us vs : Array Value} (hd : X.P.underlying e = some d) (hk : kindD d = some k) (hda : isAggD d = false) :
    ∀ (m j : Nat) (xs ys : List AV) (b : Bool), RelL xs g w (us.toList.drop j) → RelL ys g w (vs.toList.drop j) → eqCells (List.replicate m k) xs ys = some b →
      (Op.eqItems (dd + 1) e 1 us vs (List.range' j m)).run X.P w = .ok b w
  | 0, j, xs, ys, b, _, _, h => by
    cases xs <;> cases ys <;> simp [eqCells] at h
    subst h
    simp [Op.eqItems]
  | m + 1, j, xs, ys, b, hx, hy, h => by
    rw [List.replicate_succ] at h
    cases xs with
    | nil => simp [eqCells] at h
    | cons x xs =>
      cases ys with
      | nil => simp [eqCells] at h
      | cons y ys =>
        simp only [eqCells] at h
        split at h
        · rename_i p q h1 h2
          simp only [Option.some.injEq] at h
          simp only [RelL] at hx hy
          obtain ⟨u, ru, hu, hu1, hu2⟩ := hx
          obtain ⟨v, rv, hv, hv1, hv2⟩ := hy
          have gu : us[j * 1]? = some u := by
            rw [Nat.mul_one, ← Array.getElem?_toList]
            have := congrArg (·[0]?) hu
            simpa using this
          have gv : vs[j * 1]? = some v := by
            rw [Nat.mul_one, ← Array.getElem?_toList]
            have := congrArg (·[0]?) hv
            simpa using this
          have du : us.toList.drop (j + 1) = ru := by
            have := congrArg (List.drop 1) hu
            simpa [List.drop_drop] using this
          have dv : vs.toList.drop (j + 1) = rv := by
            have := congrArg (List.drop 1) hv
            simpa [List.drop_drop] using this
          rw [List.range'_succ]
          simp only [Op.eqItems, Sem.run_bind, run_part_one (X := X) (w := w) hd hda gu, run_part_one (X := X) (w := w) hd hda gv, Result.andThen_ok, eqCell_run hd hk hu1 hv1 h1]
          cases p
          · rw [← h]; simp
          · have := eqItems_run (dd := dd) hd hk hda m (j + 1) xs ys q (by rw [du]; exact hu2) (by rw [dv]; exact hv2) h2
            rw [← h]
            simpa using this
        · cases h

theorem op_aeq (hs : StR X N g w fr H a) {o : Oper} {op : BinOp} {t e yt : TypeId} {m : Nat} {ks : List Nat} {x y : Operand} {ax ay : AX} {n b : Bool} {xs ys : List AV} (ho : o.op = .binOp op t x y yt) (hop : negOf op = some n) (ht : X.P.underlying t = some (.array m e))
    (hks : eqKinds X.P t m e = some ks) (h1 : cx x = some ax) (h2 : cx y = some ay) (e1 : ax.eval X.G fr = .agg xs) (e2 : ay.eval X.G fr = .agg ys) (hb : eqCells ks xs ys = some b) :
    OpOk X g w H ((execOp a.eval o).run X.P w) (.bool (bif n then !b else b)) H := by
  have r1 := cx_rel hs h1
  have r2 := cx_rel hs h2
  rw [e1] at r1
  rw [e2] at r2
  simp only [Rel] at r1 r2
  obtain ⟨us, hx, hus⟩ := r1
  obtain ⟨vs, hy, hvs⟩ := r2
  unfold eqKinds at hks
  split at hks
  · rename_i d i hd hi
    split at hks
    · rename_i k hk
      split at hks
      · rename_i hc
        cases hks
        have hda : isAggD d = false := by cases d <;> simp [kindD] at hk <;> rfl
        have hrun := eqItems_run (X := X) (g := g) (w := w) (dd := 9998) (us := us.toArray) (vs := vs.toArray) hd hk hda m 0 xs ys b (by simpa using hus) (by simpa using hvs) hb
        rw [← List.range_eq_range'] at hrun
        have hco : X.P.cellsOf e = 1 := by
          simp only [Program.cellsOf, hi]
          exact hc.1
        have heq : (Op.equalIn 10000 t (.agg us.toArray) (.agg vs.toArray)).run X.P w = .ok b w := by
          rw [run_equalIn_array w 9999 us.toArray vs.toArray ht hi, hco]
          exact hrun
        refine ok_value hs (u := .bool (bif n then !b else b)) (by simp only [execOp, ho]; try rfl) ?_ (by simp [Rel])
        rw [hx, hy]
        simp only [Sem.run_bind, run_eqGuard_agg w op t x y _ _ hc.2, Result.andThen_ok]
        rcases negOf_cases hop with ⟨rfl, rfl⟩ | ⟨rfl, rfl⟩
        · rw [run_eql_struct, heq]; rfl
        · rw [run_neq_struct, heq]; rfl
      · cases hks
    · cases hks
  · cases hks
end
end Go.Avm

/-
  The operations' soundness: copy.
-/
namespace Go.Avm
open Go

section
variable {X : Cx} {N : Nat} {g : Gh} {w : World} {fr : Fr} {H : Heap} {a : Act}

theorem RelL.takeN {g : Gh} {w : World} : ∀ {xs : List AV} {vs : List Value} (n : Nat), RelL xs g w vs → RelL (xs.take n) g w (vs.take n)
  | [], vs, n, h => by simp only [RelL] at h; subst h; simp [RelL]
  | x :: xs, vs, 0, h => by simp [RelL]
  | x :: xs, vs, n + 1, h => by
    simp only [RelL] at h
    obtain ⟨v, r, rfl, h1, h2⟩ := h
    simp only [List.take_succ_cons, RelL]
    exact ⟨v, _, rfl, h1, RelL.takeN n h2⟩

theorem RelL.dropN {g : Gh} {w : World} : ∀ {xs : List AV} {vs : List Value} (n : Nat), RelL xs g w vs → RelL (xs.drop n) g w (vs.drop n)
  | [], vs, n, h => by simp only [RelL] at h; subst h; simp [RelL]
  | x :: xs, vs, 0, h => by simpa using h
  | x :: xs, vs, n + 1, h => by
    simp only [RelL] at h
    obtain ⟨v, r, rfl, h1, h2⟩ := h
    simpa using RelL.dropN n h2

/-- What may be copied, as it lies in the memory. -/
theorem cpySrc_spec (hs : StR X N g w fr H a) {y : AV} {es : List AV} {v : Value} (hv : cpySrc H y = some es) (hr : Rel y g w v) (k : Nat) (hk : k ≤ es.length) (hsc : (es.take k).all scalarB = true) :
    ∃ ad cap, v = .slice ad es.length cap ∧ (k = 0 ∨ ∃ a0 us, ad = some a0 ∧ RelL (es.take k) g w us ∧ ∀ j u, us[j]? = some u → w.cell? (a0.add j) = some u) := by
  cases y with
  | sl p xs =>
    simp only [cpySrc, Option.some.injEq] at hv
    subst hv
    simp only [Rel] at hr
    obtain ⟨ad, cap, vs, sz, rfl, hle, hvs, hl, _⟩ := hr
    refine ⟨ad, cap, rfl, ?_⟩
    by_cases hk0 : k = 0
    · exact .inl hk0
    · refine .inr ?_
      have hr2 := RelL.of_flat (hvs.takeN k)
      rcases hl with rfl | ⟨b, o, rfl, hc⟩
      · have := hvs.length
        simp at this
        omega
      · refine ⟨⟨b, o, none⟩, vs.take k, rfl, hr2, fun j u hu => ?_⟩
        have hj : j < k ∧ vs[j]? = some u := by
          rw [List.getElem?_take] at hu
          split at hu
          · rename_i h; exact ⟨h, hu⟩
          · cases hu
        obtain ⟨x, hx, hrx⟩ := hr2.get j hu
        have hsx : scalarB x = true := List.all_eq_true.1 hsc x (List.mem_of_getElem? hx)
        have hcx := (scalar_cells hrx hsx).1
        obtain ⟨hsz, hcc⟩ := hc j u hj.2
        have h1 : sz = 1 := by rw [← hsz, hcx]; rfl
        subst h1
        have := (hcc 0 u (by rw [hcx]; rfl)).2
        rw [addr_add]
        simpa using this
  | rsl id off n cap s =>
    simp only [cpySrc] at hv
    split at hv
    · rename_i cs hH
      split at hv
      · rename_i hc
        obtain ⟨rfl, hoff⟩ := hc
        cases hv
        simp only [Rel] at hr
        obtain ⟨ad, b, rfl, hb, hcap, had⟩ := hr
        have hlen : ((cs.drop off).take n).length = n := by rw [List.length_take, List.length_drop]; omega
        rw [hlen] at hk ⊢
        refine ⟨ad, cap, rfl, ?_⟩
        by_cases hk0 : k = 0
        · exact .inl hk0
        · refine .inr ?_
          have had : ad = some ⟨b, off, none⟩ := by
            rcases had with h | h
            · omega
            · exact h
          obtain ⟨vs, e, fz, hheap, hvs⟩ := hs.hr.box hH hb
          refine ⟨⟨b, off, none⟩, (((vs.toList.drop off).take n).take k), had, ((hvs.dropN off).takeN n).takeN k, fun j u hu => ?_⟩
          have hj : vs[off + j]? = some u := by
            rw [List.getElem?_take] at hu
            split at hu
            · rw [List.getElem?_take] at hu
              split at hu
              · rw [List.getElem?_drop] at hu; simpa using hu
              · cases hu
            · cases hu
          rw [addr_add]
          exact cell_of_heap hheap hj
      · cases hv
    · cases hv
  | _ => simp [cpySrc] at hv

theorem op_cpy (hs : StR X N g w fr H a) {o : Oper} {t u e : TypeId} {x y : Operand} {ax ay : AX} {id off n cap : Nat} {es cs : List AV} (ho : o.op = .call { callee := .builtin .copy, args := #[x, y], argTypes := #[t, u] })
    (ht : X.P.underlying t = some (.slice e)) (hsz : (X.P.info? e).map (·.size) = some 1) (h1 : cx x = some ax) (h2 : cx y = some ay)
    (e1 : ax.eval X.G fr = .rsl id off n cap 1) (hes : cpySrc H (ay.eval X.G fr) = some es) (hH : H[id]? = some (.box cs)) (hoff : off + n ≤ cs.length) (hsc : (es.take n).all scalarB = true) :
    OpOk X g w H ((execOp a.eval o).run X.P w) (.int .i64 (min n es.length : Nat)) (H.set id (.box (setCells cs off (es.take n)))) := by
  have r1 := cx_rel hs h1
  rw [e1] at r1
  simp only [Rel] at r1
  obtain ⟨ad, b, hp, hb, hcap, hpos⟩ := r1
  have htk : es.take (min n es.length) = es.take n := by
    rcases Nat.le_total n es.length with h | h
    · rw [Nat.min_eq_left h]
    · rw [Nat.min_eq_right h, List.take_of_length_le (Nat.le_refl _), List.take_of_length_le h]
  obtain ⟨ad2, cap2, hq, hsrc⟩ := cpySrc_spec hs hes (cx_rel hs h2) (min n es.length) (Nat.min_le_right _ _) (by rw [htk]; exact hsc)
  obtain ⟨vs, e3, fz, hheap, hvs⟩ := hs.hr.box hH hb
  have hvlen : vs.size = cs.length := by simpa using hvs.length
  obtain ⟨cc, hcall⟩ := eval_call2 (X := X) (w := w) (a := a) ho
  have hlt : id < H.length := by
    rcases Nat.lt_or_ge id H.length with h' | h'
    · exact h'
    · simp [List.getElem?_eq_none h'] at hH
  by_cases hk : min n es.length = 0
  · have hrun := run_copy_none (P := X.P) w t u o.type e ad ad2 n cap es.length cap2 ht hsz (by show min es.length n = 0; omega)
    have h0 : es.take n = [] := by rw [← htk, hk]; rfl
    have hset : H.set id (.box (setCells cs off (es.take n))) = H := by
      rw [h0]
      simp only [setCells]
      apply List.ext_getElem?
      intro j
      by_cases hj : id = j
      · subst hj; rw [List.getElem?_set_self hlt, hH]
      · rw [List.getElem?_set_ne hj]
    rw [hset, hk]
    refine ⟨.int .i64 0, w, g, .inl ?_, Good.refl hs, by simp [Rel]⟩
    rw [hcall, hp, hq]
    have hg : (goInt 0) = Value.int .i64 0 := rfl
    rw [hg] at hrun
    simp [builtin, hrun]
  · obtain ⟨a0, us, rfl, hus, hcell⟩ := hsrc.resolve_left hk
    rw [htk] at hus
    have had : ad = some ⟨b, off, none⟩ := by
      rcases hpos with h | h
      · omega
      · exact h
    subst had
    have hulen : us.length = min n es.length := by rw [hus.length, List.length_take]
    have hown : ∀ j, j < us.length → g.owns b (off + j) := fun j _ => .inl ⟨id, hb⟩
    have hm : Mono g w g (w.setCells b off us) := mono_write hs.wf hown (fun _ _ h => h) (fun _ _ h => h) (fun i n h => ⟨n, h, .inl ⟨rfl, rfl⟩⟩)
    have hl := run_loadCells_list (P := X.P) w a0 us hcell
    have hst := run_storeCells_cells (P := X.P) b off us 0 w (fun j hj => by rw [Nat.add_zero, cell_of_heap hheap (o := off + j) (v := vs[off + j]'(by omega)) (by rw [Array.getElem?_eq_getElem])]; rfl)
      (fun j hj => by rw [Nat.add_zero]; exact hs.wf.bx_frozen hb hheap (by omega)) (oneCells hus hsc)
    refine ⟨.int .i64 (min n es.length : Nat), w.setCells b off us, g, .inl ?_, good_write hs.wf hheap hown hm rfl (fun b' o' h => ⟨.inl h, (hs.wf.S b' o' h).2⟩) (fun i b' lo hi h => ⟨lo, h, Nat.le_refl _⟩) ⟨fun k z hz => ?_, fun k hk => hs.hr.far k (by simpa using hk)⟩, by simp [Rel]⟩
    · rw [hcall, hp, hq]
      simp only [builtin]
      cases hi : X.P.info? e with
      | none => rw [hi] at hsz; cases hsz
      | some i =>
        have hi1 : i.size = 1 := by rw [hi] at hsz; simpa using hsz
        have hmin : Nat.min es.length n = us.length := by rw [hulen]; exact Nat.min_comm _ _
        simp [Builtin.copy_, run_underlying ht, Builtin.lenOf, Builtin.firstCells, sizeOf, typeInfo, hi, hi1, hmin, hl, hst, ← hulen]
        rfl
    · rw [List.getElem?_set] at hz
      split at hz
      · rename_i hk
        subst hk
        first | rw [if_pos hlt] at hz | skip
        cases hz
        exact ⟨b, _, e3, fz, hb, setCells_same b us off w vs e3 fz hheap, RelL.setCells off (RelL.mono _ hm hvs) (RelL.mono _ hm hus)⟩
      · rename_i hk
        exact (hs.hr.blk k z hz).mono hm (fun b' hb' => setCells_other b us off w b' fun h => hk (hs.wf.inj id k b hb (h ▸ hb'))) (fun n h => h) (fun b' lo hi h => ⟨h, setCells_other b us off w b' fun e => hs.wf.apart id k b lo hi hb (e ▸ h)⟩)
theorem bytes_scalar : ∀ {es : List AV} {l : List UInt8}, es.mapM byteOf? = some l → es.all scalarB = true
  | [], _, _ => rfl
  | x :: es, l, h => by
    simp only [List.mapM_cons, Option.bind_eq_bind, Option.bind_eq_some_iff, Option.pure_def, Option.some.injEq] at h
    obtain ⟨b, hb, r, hr, _⟩ := h
    rw [List.all_cons, bytes_scalar hr, Bool.and_true]
    cases x <;> first | rfl | simp [byteOf?] at hb
theorem op_b2sc (hs : StR X N g w fr H a) {o : Oper} {s d e : TypeId} {x : Operand} {ax : AX} {es : List AV} {l : List UInt8} (ho : o.op = .convert s d x) (hu : X.P.underlying s = some (.slice e))
    (he : X.P.underlying e = some (.int .u8)) (hd : X.P.underlying d = some .string) (h1 : cx x = some ax) (e1 : cpySrc H (ax.eval X.G fr) = some es) (hl : es.mapM byteOf? = some l) :
    OpOk X g w H ((execOp a.eval o).run X.P w) (.str l) H := by
  obtain ⟨ad, cap, r1, hsrc⟩ := cpySrc_spec hs e1 (cx_rel hs h1) es.length (Nat.le_refl _) (by rw [List.take_length]; exact bytes_scalar hl)
  have hconv : ∀ a n c, (convert s d (.slice a n c)).run X.P w = (Conv.bytesToString (.slice a n c)).run X.P w := fun a n c => by
    simp [convert, run_underlying hu, run_underlying hd, run_underlying he]
  rcases hsrc with h0 | ⟨a0, us, rfl, hus, hcell⟩
  · have : es = [] := List.length_eq_zero_iff.1 h0
    subst this
    have : l = [] := by simpa using hl.symm
    subst this
    refine ok_value hs (u := .string ⟨#[]⟩) (by simp only [execOp, ho]; try rfl) ?_ (by rw [rel_str]; exact ⟨_, rfl, rfl⟩)
    rw [r1, hconv]
    cases ad with
    | none => simp [Conv.bytesToString]; rfl
    | some ad => rw [run_bytesToString w ad ([] : List AV).length cap [] (by simp [loadCells, loadCellsFrom])]; rfl
  · rw [List.take_length] at hus
    obtain ⟨ns, rfl, rfl⟩ := byteOf_rel hl hus
    have hlen : ns.length = es.length := by simpa using hus.length
    refine ok_value hs (u := .string ⟨(ns.map fun n => UInt8.ofNat n.toNat).toArray⟩) (by simp only [execOp, ho]; try rfl) ?_ (by rw [rel_str]; exact ⟨_, rfl, by simp⟩)
    rw [r1, hconv]
    have hld := run_loadCells_list (P := X.P) w a0 (ns.map (Value.int .u8)) hcell
    rw [List.length_map, hlen] at hld
    rw [run_bytesToString w _ es.length cap ns hld, foldl_push]
    simp
end
end Go.Avm

/-
  The operations' soundness: structs held against each other.
-/
namespace Go.Avm
open Go

section
variable {X : Cx} {N : Nat} {g : Gh} {w : World} {fr : Fr} {H : Heap} {a : Act}

theorem eqCells_app : ∀ {k1 k2 : List Nat} {xs ys : List AV} {b : Bool}, eqCells (k1 ++ k2) xs ys = some b →
    ∃ b1 b2, eqCells k1 (xs.take k1.length) (ys.take k1.length) = some b1 ∧ eqCells k2 (xs.drop k1.length) (ys.drop k1.length) = some b2 ∧ b = (b1 && b2)
  | [], k2, xs, ys, b, h => ⟨true, b, by simp [eqCells], by simpa using h, by simp⟩
  | k :: k1, k2, xs, ys, b, h => by
    cases xs with
    | nil => simp [eqCells] at h
    | cons x xs =>
      cases ys with
      | nil => simp [eqCells] at h
      | cons y ys =>
        simp only [List.cons_append, eqCells] at h
        split at h
        · rename_i p q h1 h2
          obtain ⟨b1, b2, h3, h4, rfl⟩ := eqCells_app h2
          simp only [Option.some.injEq] at h
          refine ⟨p && b1, b2, ?_, by simpa using h4, by rw [← h, Bool.and_assoc]⟩
          simp only [List.length_cons, List.take_succ_cons, eqCells, h1, h3]
        · cases h

theorem eqField_run {dd : Nat} {f : Field} {ks : List Nat} {us vs : Array Value} {xs ys : List AV} {b : Bool} (hk : fieldKinds X.P f.type = some ks)
    (hx : RelL xs g w (us.toList.drop f.offset)) (hy : RelL ys g w (vs.toList.drop f.offset)) (h : eqCells ks (xs.take ks.length) (ys.take ks.length) = some b) :
    (do let p ← part f.type us f.offset; let q ← part f.type vs f.offset; Op.equalIn (dd + 2) f.type p q : Sem Bool).run X.P w = .ok b w := by
  unfold fieldKinds at hk
  split at hk
  · rename_i d hd
    split at hk
    · rename_i k hkd
      cases hk
      have hda : isAggD d = false := by cases d <;> simp [kindD] at hkd <;> rfl
      cases xs with
      | nil => simp [eqCells] at h
      | cons x xs =>
        cases ys with
        | nil => simp [eqCells] at h
        | cons y ys =>
          simp only [RelL] at hx hy
          obtain ⟨u, ru, hu, hu1, _⟩ := hx
          obtain ⟨v, rv, hv, hv1, _⟩ := hy
          have gu : us[f.offset]? = some u := by
            rw [← Array.getElem?_toList]
            have := congrArg (·[0]?) hu
            simpa using this
          have gv : vs[f.offset]? = some v := by
            rw [← Array.getElem?_toList]
            have := congrArg (·[0]?) hv
            simpa using this
          simp only [List.length_singleton, List.take_succ_cons, List.take_zero, eqCells] at h
          split at h
          · rename_i p q h1 h2
            simp only [Option.some.injEq] at h h2
            subst h2
            have hb : b = p := by rw [← h, Bool.and_true]
            subst hb
            simp only [Sem.run_bind, run_part_one (X := X) (w := w) hd hda gu, run_part_one (X := X) (w := w) hd hda gv, Result.andThen_ok]
            exact eqCell_run hd hkd hu1 hv1 h1
          · cases h
    · split at hk
      · rename_i n e _
        split at hk
        · rename_i d' i it hd' hi hit
          split at hk
          · rename_i k hkd
            split at hk
            · rename_i hc
              cases hk
              have hda : isAggD d' = false := by cases d' <;> simp [kindD] at hkd <;> rfl
              have hco : X.P.cellsOf e = 1 := by
                simp only [Program.cellsOf, hi]
                exact hc.1
              rw [List.length_replicate] at h
              simp only [Sem.run_bind, run_part_agg (X := X) (w := w) hd rfl hit, Result.andThen_ok]
              rw [run_equalIn_array w (dd + 1) _ _ hd hi, hco, hc.2, List.range_eq_range']
              exact eqItems_run (X := X) (g := g) (w := w) (dd := dd) hd' hkd hda n 0 _ _ b (by simpa using hx.takeN n) (by simpa using hy.takeN n) h
            · cases hk
          · cases hk
        · cases hk
      · cases hk
  · cases hk

theorem eqFields_run {dd : Nat} {us vs : Array Value} : ∀ (fs : List Field) (off : Nat) (ks : List Nat) (xs ys : List AV) (b : Bool), fieldsKinds X.P off fs = some ks →
    RelL xs g w (us.toList.drop off) → RelL ys g w (vs.toList.drop off) → eqCells ks xs ys = some b → (Op.eqFields (dd + 2) us vs fs).run X.P w = .ok b w
  | [], off, ks, xs, ys, b, hk, _, _, h => by
    simp only [fieldsKinds, Option.some.injEq] at hk
    subst hk
    cases xs <;> cases ys <;> simp [eqCells] at h
    subst h
    simp [Op.eqFields]
  | f :: fs, off, ks, xs, ys, b, hk, hx, hy, h => by
    simp only [fieldsKinds] at hk
    split at hk
    · rename_i hc
      obtain ⟨hn, rfl⟩ := hc
      split at hk
      · rename_i k1 hk1
        simp only [Option.map_eq_some_iff] at hk
        obtain ⟨k2, hk2, rfl⟩ := hk
        obtain ⟨b1, b2, h1, h2, rfl⟩ := eqCells_app h
        have hf := eqField_run (X := X) (dd := dd) hk1 hx hy h1
        have ih := eqFields_run (dd := dd) fs (f.offset + k1.length) k2 (xs.drop k1.length) (ys.drop k1.length) b2 hk2 (by rw [← List.drop_drop]; exact hx.dropN _) (by rw [← List.drop_drop]; exact hy.dropN _) h2
        simp only [Op.eqFields, if_pos hn]
        simp only [Sem.run_bind] at hf ⊢
        generalize (part f.type us f.offset).run X.P w = r1 at hf ⊢
        cases r1 with
        | halt x w1 => simp [Result.andThen] at hf
        | ok p w1 =>
          simp only [Result.andThen_ok] at hf ⊢
          generalize (part f.type vs f.offset).run X.P w1 = r2 at hf ⊢
          cases r2 with
          | halt x w2 => simp [Result.andThen] at hf
          | ok q w2 =>
            simp only [Result.andThen_ok] at hf ⊢
            rw [hf]
            cases b1
            · simp
            · simp only [Result.andThen_ok, Bool.not_true, Bool.false_eq_true, if_false, Bool.true_and]
              exact ih
      · cases hk
    · cases hk

theorem op_seq (hs : StR X N g w fr H a) {o : Oper} {op : BinOp} {t yt : TypeId} {fs : Array Field} {ks : List Nat} {x y : Operand} {ax ay : AX} {n b : Bool} {xs ys : List AV} (ho : o.op = .binOp op t x y yt) (hop : negOf op = some n) (ht : X.P.underlying t = some (.struct fs))
    (hks : structKinds X.P t fs.toList = some ks) (h1 : cx x = some ax) (h2 : cx y = some ay) (e1 : ax.eval X.G fr = .agg xs) (e2 : ay.eval X.G fr = .agg ys) (hb : eqCells ks xs ys = some b) :
    OpOk X g w H ((execOp a.eval o).run X.P w) (.bool (bif n then !b else b)) H := by
  have r1 := cx_rel hs h1
  have r2 := cx_rel hs h2
  rw [e1] at r1
  rw [e2] at r2
  simp only [Rel] at r1 r2
  obtain ⟨us, hx, hus⟩ := r1
  obtain ⟨vs, hy, hvs⟩ := r2
  unfold structKinds at hks
  split at hks
  · rename_i hc
    have hfo : X.P.fieldsOf t = fs := by simp only [Program.fieldsOf, ht]
    have hrun := eqFields_run (X := X) (g := g) (w := w) (dd := 9997) (us := us.toArray) (vs := vs.toArray) fs.toList 0 ks xs ys b hks (by simpa using hus) (by simpa using hvs) hb
    have heq : (Op.equalIn 10000 t (.agg us.toArray) (.agg vs.toArray)).run X.P w = .ok b w := by
      rw [run_equalIn_struct w 9999 t us.toArray vs.toArray (by rw [hfo]; exact ht) hc.1, hfo]
      exact hrun
    refine ok_value hs (u := .bool (bif n then !b else b)) (by simp only [execOp, ho]; try rfl) ?_ (by simp [Rel])
    rw [hx, hy]
    simp only [Sem.run_bind, run_eqGuard_agg w op t x y _ _ hc.2, Result.andThen_ok]
    rcases negOf_cases hop with ⟨rfl, rfl⟩ | ⟨rfl, rfl⟩
    · rw [run_eql_struct, heq]; rfl
    · rw [run_neq_struct, heq]; rfl
  · cases hks
end
end Go.Avm

/- Ranges over strings. -/
namespace Go.Avm
open Go
theorem get!_getD (s : ByteArray) (k : Nat) : s.get! k = s.data.toList.getD k 0 := by
  obtain ⟨d⟩ := s
  simp only [ByteArray.get!, List.getD_eq_getElem?_getD, Array.getElem!_eq_getD, Array.getD_eq_getD_getElem?, Array.getElem?_toList]
  rfl
theorem run_getObj_sit {P : Program} {w : World} {l p : Nat} {s : ByteArray} (h : w.heap[l]? = some (.stringIter s p)) : (getObj l).run P w = .ok (.stringIter s p) w := by simp [getObj, Sem.run, h]
theorem run_setObj_sit {P : Program} {w : World} {l p : Nat} {s : ByteArray} (o : Obj) (h : w.heap[l]? = some (.stringIter s p)) : (setObj l o).run P w = .ok () (w.putObj l o) := by
  simp [setObj, Sem.run, h, World.putObj]
theorem dec_eq (s : ByteArray) (p : Nat) : Utf8.decode s p = dec (s.data.toList.drop p) := by
  have e : ∀ k, s.get! (p + k) = (s.data.toList.drop p).getD k 0 := fun k => by
    rw [get!_getD, List.getD_eq_getElem?_getD, List.getD_eq_getElem?_getD, List.getElem?_drop]
  have hl : ∀ k, decide (p + k < s.size) = decide (k < (s.data.toList.drop p).length) := fun k => by
    have : s.data.toList.length = s.size := by rw [Array.length_toList]; rfl
    rw [List.length_drop, this, decide_eq_decide]
    omega
  simp only [Utf8.decode, dec, e, hl, Utf8.runeError]
section
variable {X : Cx} {N : Nat} {g : Gh} {w : World} {fr : Fr} {H : Heap} {a : Act}
/-- A block that is none of cells is made; it is ours. -/
theorem good_obj (hs : StR X N g w fr H a) {o : Obj} (ho : ∀ vs e fz, o ≠ .cells vs e fz) {y : Blk} (hy : ∀ g' w', g'.bx H.length = some w.heap.size → w'.heap[w.heap.size]? = some o → BlkOk g' w' H.length y) :
    ∃ g', Good X g w H g' (w.alloc o) (H ++ [y]) ∧ g'.bx H.length = some w.heap.size := by
  have hwf := hs.wf
  have hold : ∀ b : Nat, b < w.heap.size → (w.alloc o).heap[b]? = w.heap[b]? := fun b hb => heap_alloc_old hb
  have hnew : (w.alloc o).heap[w.heap.size]? = some o := heap_alloc_new
  have hsize : (w.alloc o).heap.size = w.heap.size + 1 := by show (w.heap.push o).size = _; simp
  have hcell : ∀ b p, b < w.heap.size → (w.alloc o).cell? ⟨b, p, none⟩ = w.cell? ⟨b, p, none⟩ := fun b p hb => by simp only [World.cell?, hold b hb]
  let g' : Gh := { g with bx := fun i => if i = H.length then some w.heap.size else g.bx i }
  obtain ⟨f1, f2, f3⟩ := hs.hr.far H.length (Nat.le_refl _)
  have hbx : ∀ i b, g'.bx i = some b → (i = H.length ∧ b = w.heap.size) ∨ (i ≠ H.length ∧ g.bx i = some b) := fun i b h => by
    simp only [g'] at h
    split at h
    · rename_i e; cases h; exact .inl ⟨e, rfl⟩
    · rename_i e; exact .inr ⟨e, h⟩
  have hup : ∀ i b, g.bx i = some b → g'.bx i = some b := fun i b h => by
    simp only [g']
    rw [if_neg]
    · exact h
    · intro e; subst e; rw [f1] at h; cases h
  have hm : Mono g w g' (w.alloc o) := ⟨fun b p h => ⟨h, hcell b p (hwf.lt_S h)⟩, hup, fun i n h => ⟨n, h, .inl ⟨rfl, rfl⟩⟩⟩
  have hown : ∀ b p, b < w.heap.size → g'.owns b p → g.owns b p := fun b p hb ho => by
    rcases ho with ⟨i, hi⟩ | ⟨i, lo, hi, hi', hl⟩
    · rcases hbx i b hi with ⟨_, e⟩ | ⟨_, e⟩
      · omega
      · exact .inl ⟨i, e⟩
    · exact .inr ⟨i, lo, hi, hi', hl⟩
  refine ⟨g', ⟨⟨fun b p h => ?_, fun i j b hi hj => ?_, hwf.tinj, fun i j b lo hi h1 h2 => ?_, fun i b h => ?_, fun i b lo hi h => ?_, fun x cs hx => Rel.mono _ hm (hwf.laid x cs hx), ex_shape hwf.ex fun b vs e fz h => ⟨vs, fz, (hold b (Array.getElem?_eq_some_iff.1 h).1).trans h, rfl⟩⟩,
    ⟨fun i x hx => ?_, fun i hi => ?_⟩, hm, ⟨by omega, fun _ _ h => h, fun _ _ h => .inl h, fun b p hb _ => hcell b p hb, fun b hb _ => hold b hb, fun b vs e fz h => ⟨vs, fz, (hold b (Array.getElem?_eq_some_iff.1 h).1).trans h, rfl, .inl rfl⟩, fun b p ho => ?_, rfl, rfl⟩⟩, by simp [g']⟩
  · obtain ⟨⟨vs, e, fz, h1, h2⟩, h3⟩ := hwf.S b p h
    have hlt := (Array.getElem?_eq_some_iff.1 h1).1
    exact ⟨⟨vs, e, fz, (hold b hlt).trans h1, h2⟩, fun ho => h3 (hown b p hlt ho)⟩
  · rcases hbx i b hi with ⟨e1, e2⟩ | ⟨e1, e2⟩ <;> rcases hbx j b hj with ⟨e3, e4⟩ | ⟨e3, e4⟩
    · omega
    · have := hwf.lt_bx e4; omega
    · have := hwf.lt_bx e2; omega
    · exact hwf.inj i j b e2 e4
  · rcases hbx i b h1 with ⟨_, e⟩ | ⟨_, e⟩
    · subst e; have := hwf.lt_tk h2; omega
    · exact hwf.apart i j b lo hi e h2
  · rcases hbx i b h with ⟨_, e⟩ | ⟨_, e⟩
    · subst e
      refine ⟨by omega, fun vs e' lo hi h2 => ?_⟩
      rw [hnew] at h2
      exact absurd (Option.some.inj h2) (ho _ _ _)
    · obtain ⟨h1, h2⟩ := hwf.bx i b e
      exact ⟨by omega, fun vs e' lo hi h3 => h2 vs e' lo hi ((hold b h1).symm.trans h3)⟩
  · obtain ⟨vs, e, fl, fh, h1, h2, h3⟩ := hwf.tk i b lo hi h
    exact ⟨vs, e, fl, fh, (hold b (hwf.lt_tk h)).trans h1, h2, h3⟩
  · rw [List.getElem?_append] at hx
    split at hx
    · exact (hs.hr.blk i x hx).mono hm (fun b hb => hold b (hwf.lt_bx hb)) (fun _ h => h) (fun b lo hi h => ⟨h, hold b (hwf.lt_tk h)⟩)
    · rename_i hi
      have hi' : i = H.length := by
        rcases Nat.lt_or_ge (i - H.length) 1 with h' | h'
        · omega
        · rw [List.getElem?_eq_none (by simpa using h')] at hx; cases hx
      subst hi'
      simp at hx
      subst hx
      exact hy g' _ (by simp [g']) hnew
  · rw [List.length_append, List.length_singleton] at hi
    obtain ⟨k1, k2, k3⟩ := hs.hr.far i (by omega)
    exact ⟨by simp only [g']; rw [if_neg (by omega)]; exact k1, k2, k3⟩
  · by_cases hb : b < w.heap.size
    · exact .inr (hown b p hb ho)
    · exact .inl (by omega)
theorem op_rng (hs : StR X N g w fr H a) {o : Oper} {t : TypeId} {x : Operand} {ax : AX} {l : List UInt8} (ho : o.op = .range t x) (ht : X.P.underlying t = some .string) (h1 : cx x = some ax) (e1 : ax.eval X.G fr = .str l) :
    OpOk X g w H ((execOp a.eval o).run X.P w) (.ptr H.length 0) (H ++ [.sit l 0]) := by
  have r1 := cx_rel hs h1
  rw [e1] at r1
  simp only [Rel] at r1
  obtain ⟨s, hp, hl⟩ := r1
  obtain ⟨g', hg, hb⟩ := good_obj hs (o := .stringIter s 0) (fun _ _ _ h => by cases h) (y := .sit l 0) fun g' w' h1 h2 => ⟨_, s, h1, h2, hl⟩
  refine OpOk.of_good (u := .pointer (some ⟨w.heap.size, 0, none⟩)) (by simp only [execOp, ho]; try rfl) ?_ hg (by simp only [Rel]; exact ⟨_, rfl, hb⟩)
  rw [hp]
  simp [Instr.range, run_underlying ht, run_newObj_alloc]
/-- The object of one of our blocks, which is none of cells, is written. -/
theorem put_obj {g : Gh} {w : World} {H : Heap} (hwf : Wf X.G g w) (hhr : HR g w H) {i l : Nat} {o o' : Obj} (ho : ∀ vs e fz, o ≠ .cells vs e fz) (ho' : ∀ vs e fz, o' ≠ .cells vs e fz) {y : Blk} (hb : g.bx i = some l) (hi : i < H.length) (hL : w.heap[l]? = some o)
    (hy : ∀ w', w'.heap[l]? = some o' → BlkOk g w' i y) : Good X g w H g (w.putObj l o') (H.set i y) := by
  have hlt : l < w.heap.size := (Array.getElem?_eq_some_iff.1 hL).1
  have hne : ∀ b, b ≠ l → (w.putObj l o').heap[b]? = w.heap[b]? := fun b h => World.putObj_heap_other h
  have hS : ∀ b o, g.S b o → b ≠ l := fun b p h e => by
    subst e
    obtain ⟨⟨vs, e', fz, h1, _⟩, _⟩ := hwf.S b p h
    rw [hL] at h1
    exact ho _ _ _ (Option.some.inj h1)
  have hcell : ∀ b p, b ≠ l → (w.putObj l o').cell? ⟨b, p, none⟩ = w.cell? ⟨b, p, none⟩ := fun b p h => by simp only [World.cell?, hne b h]
  have hm : Mono g w g (w.putObj l o') := ⟨fun b p h => ⟨h, hcell b p (hS b p h)⟩, fun _ _ h => h, fun i n h => ⟨n, h, .inl ⟨rfl, rfl⟩⟩⟩
  have hown : ∀ p, g.owns l p := fun p => .inl ⟨i, hb⟩
  have hsame : (w.putObj l o').heap[l]? = some o' := World.putObj_heap_same hlt
  refine ⟨⟨fun b p h => ?_, hwf.inj, hwf.tinj, hwf.apart, fun j b h => ?_, fun j b lo hi h => ?_, fun x cs hx => Rel.mono _ hm (hwf.laid x cs hx), ex_shape hwf.ex fun b vs e fz h => ⟨vs, fz, (hne b (fun e' => by subst e'; rw [hL] at h; exact ho _ _ _ (Option.some.inj h))).trans h, rfl⟩⟩, ⟨fun j x hx => ?_, fun j hj => hhr.far j (by simpa using hj)⟩, hm,
    ⟨by rw [World.putObj_size]; exact Nat.le_refl _, fun _ _ h => h, fun _ _ h => .inl h, fun b p hb' hp => hcell b p fun e => hp (e ▸ hown p), fun b hb' hp => hne b fun e => hp 0 (e ▸ hown 0), fun b vs e fz hv => ?_, fun _ _ h => .inr h, rfl, rfl⟩⟩
  · obtain ⟨⟨vs, e, fz, h1, h2⟩, h3⟩ := hwf.S b p h
    exact ⟨⟨vs, e, fz, (hne b (hS b p h)).trans h1, h2⟩, h3⟩
  · obtain ⟨h1, h2⟩ := hwf.bx j b h
    refine ⟨by rw [World.putObj_size]; exact h1, fun vs e lo hi h3 => ?_⟩
    by_cases hbl : b = l
    · subst hbl; rw [hsame] at h3; exact absurd (Option.some.inj h3) (ho' _ _ _)
    · exact h2 vs e lo hi ((hne b hbl).symm.trans h3)
  · obtain ⟨vs, e, fl, fh, h1, h2, h3⟩ := hwf.tk j b lo hi h
    have hbl : b ≠ l := fun e => hwf.apart i j b lo hi (e ▸ hb) h
    exact ⟨vs, e, fl, fh, (hne b hbl).trans h1, h2, h3⟩
  · rw [List.getElem?_set] at hx
    split at hx
    · rename_i hij
      subst hij
      cases hx
      exact hy _ hsame
    · rename_i hij
      refine (hhr.blk j x hx).mono hm (fun b hb2 => hne b fun e => hij ?_) (fun _ h => h) (fun b lo hi h => ⟨h, hne b fun e => ?_⟩)
      · subst e; exact hwf.inj i j b hb hb2
      · subst e; exact hwf.apart i j b lo hi hb h
  · have hbl : b ≠ l := fun e' => by subst e'; rw [hL] at hv; exact ho _ _ _ (Option.some.inj hv)
    exact ⟨vs, fz, (hne b hbl).trans hv, rfl, .inl rfl⟩
theorem op_nxt (hs : StR X N g w fr H a) {o : Oper} {x : Operand} {ax : AX} {id p : Nat} {l : List UInt8} (ho : o.op = .next x true) (h1 : cx x = some ax) (e1 : ax.eval X.G fr = .ptr id 0) (hH : H[id]? = some (.sit l p)) :
    OpOk X g w H ((execOp a.eval o).run X.P w) (nxtV l p) (H.set id (.sit l (nxtP l p))) := by
  have r1 := cx_rel hs h1
  rw [e1] at r1
  simp only [Rel] at r1
  obtain ⟨b, hp, hb⟩ := r1
  obtain ⟨b', s, hb', hh, hl⟩ := hs.hr.blk id _ hH
  rw [hb] at hb'
  cases hb'
  have hid : id < H.length := by
    rcases Nat.lt_or_ge id H.length with h | h
    · exact h
    · rw [List.getElem?_eq_none h] at hH; cases hH
  have hsz : s.size = l.length := by rw [← hl, Array.length_toList]; rfl
  by_cases hlt : p < l.length
  · have hd : Utf8.decode s p = dec (l.drop p) := by rw [dec_eq, hl]
    have hg := put_obj (X := X) (o := .stringIter s p) (o' := .stringIter s (p + (dec (l.drop p)).2)) (y := .sit l (p + (dec (l.drop p)).2)) hs.wf hs.hr (fun _ _ _ h => by cases h) (fun _ _ _ h => by cases h) hb hid hh (fun w' h => ⟨b, s, hb, h, hl⟩)
    rw [nxtV, nxtP, if_pos hlt, if_pos hlt]
    refine OpOk.of_good (u := .tuple #[.bool true, .int .i64 p, .int .i32 ((dec (l.drop p)).1 : Nat)]) (by simp only [execOp, ho]; try rfl) ?_ hg ?_
    · rw [hp]
      have hlt' : p < s.size := by omega
      simp only [Instr.next, Sem.run_bind, run_getObj_sit hh, Result.andThen_ok, if_pos hlt', hd, run_setObj_sit _ hh, Sem.run_pure]
      rfl
    · simp only [Rel]
      refine ⟨[_, _, _], rfl, ?_⟩
      simp only [RelL, Rel]
      exact ⟨_, _, rfl, rfl, _, _, rfl, rfl, _, _, rfl, rfl, rfl⟩
  · rw [nxtV, nxtP, if_neg hlt, if_neg hlt]
    have hset : H.set id (.sit l p) = H := by
      refine List.ext_getElem? fun j => ?_
      rw [List.getElem?_set]
      split
      · rename_i e
        subst e
        exact hH.symm
      · rfl
    rw [hset]
    refine ok_value hs (u := .tuple #[.bool false]) (by simp only [execOp, ho]; try rfl) ?_ ?_
    · rw [hp]
      have hlt' : ¬ p < s.size := by omega
      simp only [Instr.next, Sem.run_bind, run_getObj_sit hh, Result.andThen_ok, if_neg hlt', Sem.run_pure]
    · simp only [Rel]
      refine ⟨[_], rfl, ?_⟩
      simp only [RelL, Rel]
      exact ⟨_, _, rfl, rfl, rfl⟩
end
end Go.Avm

/- Maps from strings, as sets. -/
namespace Go.Avm
open Go
theorem ba_ext {a b : ByteArray} (h : a.data.toList = b.data.toList) : a = b := by
  cases a; cases b; congr; exact Array.toList_inj.1 h
theorem keys_entry {es : Array MapEntry} {ks : List (List UInt8)} (h : KeysAre es ks) : ∀ e ∈ es.toList, ∃ s : ByteArray, e.key = .string s ∧ e.val = .bool true ∧ s.data.toList ∈ ks := by
  obtain ⟨ss, h1, h2⟩ := h
  intro e he
  have : (e.key, e.val) ∈ es.toList.map (fun e => (e.key, e.val)) := List.mem_map_of_mem he
  rw [h2] at this
  obtain ⟨s, hs, e2⟩ := List.mem_map.1 this
  simp only [Prod.mk.injEq] at e2
  exact ⟨s, e2.1.symm, e2.2.symm, by rw [← h1]; exact List.mem_map_of_mem hs⟩
theorem keys_has {es : Array MapEntry} {ks : List (List UInt8)} (h : KeysAre es ks) {s : ByteArray} (hs : s.data.toList ∈ ks) : ∃ e ∈ es.toList, e.key = .string s := by
  obtain ⟨ss, h1, h2⟩ := h
  rw [← h1] at hs
  obtain ⟨s', hs', e⟩ := List.mem_map.1 hs
  have e := ba_ext e
  subst e
  have : (Value.string s', Value.bool true) ∈ ss.map (fun s => (Value.string s, Value.bool true)) := List.mem_map_of_mem hs'
  rw [← h2] at this
  obtain ⟨e, he, e2⟩ := List.mem_map.1 this
  simp only [Prod.mk.injEq] at e2
  exact ⟨e, he, e2.1⟩
theorem keys_find {es : Array MapEntry} {ks : List (List UInt8)} (h : KeysAre es ks) (s : ByteArray) :
    (ks.contains s.data.toList = false ∧ Instr.findNow .string (.string s) es.toList 0 = some none) ∨ (ks.contains s.data.toList = true ∧ ∃ i, Instr.findNow .string (.string s) es.toList 0 = some (some (i, .bool true))) := by
  rcases MapKept.findNow_spec (d := .string) (k := .string s) trivial es.toList 0 (fun x hx => by obtain ⟨s', e, _⟩ := keys_entry h x hx; rw [e]; trivial) with ⟨h1, h2⟩ | ⟨j, e, h1, h2, h3⟩
  · refine .inl ⟨?_, h1⟩
    cases hc : ks.contains s.data.toList with
    | false => rfl
    | true =>
      obtain ⟨e, he, e2⟩ := keys_has h (List.contains_iff_mem.1 hc)
      exact absurd e2 (h2 e he)
  · obtain ⟨s', e1, e2, e3⟩ := keys_entry h e (List.mem_of_getElem? h2)
    rw [h3] at e1
    cases e1
    rw [e2] at h1
    exact .inr ⟨List.contains_iff_mem.2 e3, _, h1⟩
section
variable {X : Cx} {N : Nat} {g : Gh} {w : World} {fr : Fr} {H : Heap} {a : Act}
theorem op_mkM (hs : StR X N g w fr H a) {o : Oper} {t : TypeId} (ho : o.op = .makeMap t none) : OpOk X g w H ((execOp a.eval o).run X.P w) (.mp H.length) (H ++ [.mpb []]) := by
  obtain ⟨g', hg, hb⟩ := good_obj hs (o := .map #[] 0) (fun _ _ _ h => by cases h) (y := .mpb []) fun g' w' h1 h2 => ⟨_, #[], 0, h1, h2, [], rfl, rfl⟩
  refine OpOk.of_good (u := .map (some w.heap.size)) (by simp only [execOp, ho]; try rfl) ?_ hg (by simp only [Rel]; exact ⟨_, rfl, hb⟩)
  rfl
theorem op_mget (hs : StR X N g w fr H a) {o : Oper} {t kt et : TypeId} {x k : Operand} {ax ak : AX} {d : TypeInfo} {id : Nat} {s : List UInt8} {ks : List (List UInt8)} (ho : o.op = .lookup t x k false) (ht : X.P.underlying t = some (.map kt et)) (hk : X.P.underlying kt = some .string)
    (hd : X.P.info? et = some d) (hz : d.zero = some (.bool false)) (h1 : cx x = some ax) (h2 : cx k = some ak) (e1 : ax.eval X.G fr = .mp id) (e2 : ak.eval X.G fr = .str s) (hH : H[id]? = some (.mpb ks)) :
    OpOk X g w H ((execOp a.eval o).run X.P w) (.bool (ks.contains s)) H := by
  have r1 := cx_rel hs h1
  have r2 := cx_rel hs h2
  rw [e1] at r1
  rw [e2] at r2
  simp only [Rel] at r1 r2
  obtain ⟨b, hp, hb⟩ := r1
  obtain ⟨bs, hq, rfl⟩ := r2
  obtain ⟨b', es, clock, hb', hh, hl⟩ := hs.hr.blk id _ hH
  rw [hb] at hb'
  cases hb'
  have hc : (Instr.checkKey es.isEmpty 10000 kt (.string bs)).run X.P w = .ok () w := MapKept.run_checkKey (k := .string bs) hk trivial es.isEmpty 9999
  refine ok_value hs (u := .bool (ks.contains bs.data.toList)) (by simp only [execOp, ho]; try rfl) ?_ (by simp only [Rel])
  rw [hp, hq]
  rcases keys_find hl bs with ⟨c1, c2⟩ | ⟨c1, i, c2⟩
  · rw [c1]
    simp [Instr.lookup, run_underlying ht, MapKept.run_getObj_map hh, hc, MapKept.run_findKey hk c2, zeroValue, typeInfo, hd, hz, Result.andThen]
  · rw [c1]
    simp [Instr.lookup, run_underlying ht, MapKept.run_getObj_map hh, hc, MapKept.run_findKey hk c2, Result.andThen]
theorem op_mset (hs : StR X N g w fr H a) {o : Oper} {t kt et : TypeId} {x k : Operand} {ax ak : AX} {id : Nat} {s : List UInt8} {ks : List (List UInt8)} (ho : o.op = .mapUpdate t x k (.const (.bool true))) (ht : X.P.underlying t = some (.map kt et)) (hk : X.P.underlying kt = some .string)
    (h1 : cx x = some ax) (h2 : cx k = some ak) (e1 : ax.eval X.G fr = .mp id) (e2 : ak.eval X.G fr = .str s) (hH : H[id]? = some (.mpb ks)) (hn : ks.contains s = false) :
    OpOk X g w H ((execOp a.eval o).run X.P w) .undef (H.set id (.mpb (ks ++ [s]))) := by
  have r1 := cx_rel hs h1
  have r2 := cx_rel hs h2
  rw [e1] at r1
  rw [e2] at r2
  simp only [Rel] at r1 r2
  obtain ⟨b, hp, hb⟩ := r1
  obtain ⟨bs, hq, rfl⟩ := r2
  obtain ⟨b', es, clock, hb', hh, hl⟩ := hs.hr.blk id _ hH
  rw [hb] at hb'
  cases hb'
  have hid : id < H.length := by
    rcases Nat.lt_or_ge id H.length with h | h
    · exact h
    · rw [List.getElem?_eq_none h] at hH; cases hH
  have hc : (Instr.checkKey false 10000 kt (.string bs)).run X.P w = .ok () w := MapKept.run_checkKey (k := .string bs) hk trivial false 9999
  rcases keys_find hl bs with ⟨c1, c2⟩ | ⟨c1, _⟩
  · have hks : KeysAre (es.push { key := .string bs, val := .bool true, born := clock }) (ks ++ [bs.data.toList]) := by
      obtain ⟨ss, k1, k2⟩ := hl
      exact ⟨ss ++ [bs], by simp [k1], by simp [k2]⟩
    have hg := put_obj (X := X) (o := .map es clock) (o' := .map (es.push { key := .string bs, val := .bool true, born := clock }) (clock + 1)) (y := .mpb (ks ++ [bs.data.toList])) hs.wf hs.hr (fun _ _ _ h => by cases h) (fun _ _ _ h => by cases h) hb hid hh (fun w' h => ⟨b, _, _, hb, h, hks⟩)
    refine ⟨Go.undef, _, g, .inr ⟨?_, rfl⟩, hg, by simp [Rel]⟩
    have hkv : a.eval (.const (.bool true)) = .bool true := rfl
    simp only [execOp, ho, hp, hq, hkv]
    simp [Instr.mapUpdate, run_underlying ht, MapKept.run_getObj_map hh, hc, MapKept.run_findKey hk c2, MapKept.run_setObj_map _ hh, World.putObj, Result.andThen]
  · rw [c1] at hn; cases hn
end
end Go.Avm
