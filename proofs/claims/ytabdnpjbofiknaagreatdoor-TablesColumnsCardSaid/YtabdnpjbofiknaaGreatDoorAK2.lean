/- at, Find, Rows. -/
import Derived.Test.YtabdnpjbofiknaaGreatDoorAK1
import Derived.Test.YtabdnpjbofiknaaGreatDoorA8
import Derived.Test.YtabdnpjbofiknaaGreatDoorM1
import Derived.Deep.QuietTactic
import Derived.BigQuiet
import Derived.WalkKit
import Derived.Lib.SliceRun
import Derived.Deep.Upon
set_option linter.all false
/- at, Find, Rows. -/
namespace Go.Avm
open Go Go.Tb
set_option maxRecDepth 10000
theorem ev_of_k {X : Cx} {f : Nat} {args : List AV} {r : AV} (h : EvK X f args [] r) : Ev X f args r := h.evF
theorem col_eq (t : Tab) (i : Nat) (hi : i < t.c.length) (d : Lat.Arr) : t.c.getD i d = t.col i := by
  unfold Tab.col
  rw [List.getD_eq_getElem?_getD, List.getD_eq_getElem?_getD, List.getElem?_eq_getElem hi]; rfl
theorem nm_eq (t : Tab) (i : Nat) (hi : i < t.n.length) (d : List UInt8) : t.n.getD i d = t.nm i := by
  unfold Tab.nm
  rw [List.getD_eq_getElem?_getD, List.getD_eq_getElem?_getD, List.getElem?_eq_getElem hi]; rfl
section
variable {X : Cx} (hX : X.P = Go.Proofs.Tryz.prog) (hs : Std X)
include hX hs
theorem ev_IndexL (l : List Int) (v : Int) (hl : l.length < 1000000) : Ev X F_slices_Index_int64_int64 [lst (AV.int .i64) .ro l, .int .i64 v] (.int .i64 (Lat.oi (fndL l v))) := by
  refine ev_of_wpc hs (A_slices_Index_int64_int64_ok hX) 0 ?_
  simp only [A_slices_Index_int64_int64, go_sem, Nat.reduceMod, Nat.reduceBNe, Nat.reduceBEq, Nat.reduceEqDiff, Nat.reduceAdd, Int.reduceAdd, Nat.reduceMul, Nat.reduceSub, Int.reduceToNat, Int.reduceLE, Int.reduceLT, Int.reduceEq, Int.reduceNe, reduceCtorEq, Nat.reduceLT, Nat.reduceLeDiff]
  refine w_loop' hs.hm (ι := Nat) (fun i => i ≤ l.length ∧ ∀ j, j < i → (l.getD j 0 == v) = false) (fun i => [(8, .int .i64 i), (7, .int .i64 l.length), (1, .int .i64 v), (0, lst (AV.int .i64) .ro l)]) (fun _ => []) (fun i => l.length - i) 0 ?_ fun i hi => ?_
  · simp only [go_sem, Nat.reduceMod, Nat.reduceBNe, Nat.reduceBEq, Nat.reduceEqDiff, Nat.reduceAdd, Int.reduceAdd, Nat.reduceMul, Nat.reduceSub, Int.reduceToNat, Int.reduceLE, Int.reduceLT, Int.reduceEq, Int.reduceNe, reduceCtorEq, Nat.reduceLT, Nat.reduceLeDiff]
    exact ⟨Nat.zero_le _, no_lt0⟩
  · obtain ⟨i1, i2⟩ := hi
    simp only [A_slices_Index_int64_int64L0, go_sem, Nat.reduceMod, Nat.reduceBNe, Nat.reduceBEq, Nat.reduceEqDiff, Nat.reduceAdd, Int.reduceAdd, Nat.reduceMul, Nat.reduceSub, Int.reduceToNat, Int.reduceLE, Int.reduceLT, Int.reduceEq, Int.reduceNe, reduceCtorEq, Nat.reduceLT, Nat.reduceLeDiff]
    refine ⟨fun c => ⟨⟨by omega, c⟩, fun e => ?_, fun e => nxt1 (by omega) i2 ?_ (by omega)⟩, fun c => ?_⟩
    · have e' : (l.getD i 0 == v) = true := by rw [beq_iff_eq]; exact e.symm
      rw [fndL, Lat.ff_some (p := fun a => l.getD a 0 == v) (show i < l.length by omega) e' i2]
      rfl
    · rw [beq_eq_false_iff_ne]; exact fun h => e h.symm
    · rw [fndL, Lat.ff_none (p := fun a => l.getD a 0 == v) (n := l.length) fun j hj => i2 j (by omega)]
      rfl
theorem ev_at (t : Tab) (s : List UInt8) (hl : ∀ a ∈ t.c, a.c.length < 1000000) : Ev X F_tables_at [tabP t, .str s] (.tuple [.int .i64 (atI t s).1, .int .i64 (atI t s).2]) := by
  refine ev_of_wpc hs (A_tables_at_ok hX) 0 ?_
  simp only [A_tables_at, tabP, go_sem, Nat.reduceMod, Nat.reduceBNe, Nat.reduceBEq, Nat.reduceEqDiff, Nat.reduceAdd, Int.reduceAdd, Nat.reduceMul, Nat.reduceSub, Int.reduceToNat, Int.reduceLE, Int.reduceLT, Int.reduceEq, Int.reduceNe, reduceCtorEq, Nat.reduceLT, Nat.reduceLeDiff]
  refine call_ev (ev_Check hX hs t hl) ?_
  by_cases h : (chk t).2 = 0
  · have hg := chk_good.1 h
    have h16 := hg.len
    simp only [go_sem, Nat.reduceMod, Nat.reduceBNe, Nat.reduceBEq, Nat.reduceEqDiff, Nat.reduceAdd, Int.reduceAdd, Nat.reduceMul, Nat.reduceSub, Int.reduceToNat, Int.reduceLE, Int.reduceLT, Int.reduceEq, Int.reduceNe, reduceCtorEq, Nat.reduceLT, Nat.reduceLeDiff, h]
    refine call_ev (ev_Index hX hs t.n s (by omega)) ?_
    have e0 : atI t s = match Lat.findO t.n s with | some i => (((i : Nat) : Int), 0) | none => (0, 4) := by
      unfold atI; rw [if_neg (by omega)]
      rfl
    rw [e0]
    cases hf : Lat.findO t.n s with
    | none => simp only [go_sem, Nat.reduceMod, Nat.reduceBNe, Nat.reduceBEq, Nat.reduceEqDiff, Nat.reduceAdd, Int.reduceAdd, Nat.reduceMul, Nat.reduceSub, Int.reduceToNat, Int.reduceLE, Int.reduceLT, Int.reduceEq, Int.reduceNe, reduceCtorEq, Nat.reduceLT, Nat.reduceLeDiff, Lat.oi]
    | some i =>
      have h1 : (0 : Int) ≤ (i : Int) := Int.natCast_nonneg i
      simp only [go_sem, Nat.reduceMod, Nat.reduceBNe, Nat.reduceBEq, Nat.reduceEqDiff, Nat.reduceAdd, Int.reduceAdd, Nat.reduceMul, Nat.reduceSub, Int.reduceToNat, Int.reduceLE, Int.reduceLT, Int.reduceEq, Int.reduceNe, reduceCtorEq, Nat.reduceLT, Nat.reduceLeDiff, Lat.oi, ge_iff_le, h1]
  · simp only [go_sem, Nat.reduceMod, Nat.reduceBNe, Nat.reduceBEq, Nat.reduceEqDiff, Nat.reduceAdd, Int.reduceAdd, Nat.reduceMul, Nat.reduceSub, Int.reduceToNat, Int.reduceLE, Int.reduceLT, Int.reduceEq, Int.reduceNe, reduceCtorEq, Nat.reduceLT, Nat.reduceLeDiff, h]
    rw [atI_bad h]
theorem ev_Find (t : Tab) (s : List UInt8) (v : Int) (hl : ∀ a ∈ t.c, a.c.length < 1000000) : Ev X F_tables_Find [tabV t, .str s, .int .i64 v] (.tuple [.int .i64 (findR t s v).1, .int .i64 (findR t s v).2]) := by
  refine ev_of_wpc hs (A_tables_Find_ok hX) 0 ?_
  simp only [A_tables_Find, tabV, go_sem, Nat.reduceMod, Nat.reduceBNe, Nat.reduceBEq, Nat.reduceEqDiff, Nat.reduceAdd, Int.reduceAdd, Nat.reduceMul, Nat.reduceSub, Int.reduceToNat, Int.reduceLE, Int.reduceLT, Int.reduceEq, Int.reduceNe, reduceCtorEq, Nat.reduceLT, Nat.reduceLeDiff]
  refine call_lend (ev_at hX hs t s hl) rfl ?_
  by_cases h : (atI t s).2 = 0
  · obtain ⟨i, e, hi, hg, _⟩ := atI_0 h
    have hic : i < t.c.length := by rw [hg.eq]; exact hi
    have hic' : (i : Int) < t.c.length := by omega
    simp only [go_sem, Nat.reduceMod, Nat.reduceBNe, Nat.reduceBEq, Nat.reduceEqDiff, Nat.reduceAdd, Int.reduceAdd, Nat.reduceMul, Nat.reduceSub, Int.reduceToNat, Int.reduceLE, Int.reduceLT, Int.reduceEq, Int.reduceNe, reduceCtorEq, Nat.reduceLT, Nat.reduceLeDiff, e, hic', arr_cells]
    rw [col_eq t i hic]
    refine ⟨by omega, call_ev (ev_IndexL hX hs (t.col i).c v (hl _ (col_mem hic))) ?_⟩
    have e0 : findR t s v = match fndL (t.col i).c v with | some k => (((k : Nat) : Int), 0) | none => (0, 4) := by
      unfold findR; rw [if_neg (by omega), e]
      rfl
    rw [e0]
    cases hf : fndL (t.col i).c v with
    | none => simp only [go_sem, Nat.reduceMod, Nat.reduceBNe, Nat.reduceBEq, Nat.reduceEqDiff, Nat.reduceAdd, Int.reduceAdd, Nat.reduceMul, Nat.reduceSub, Int.reduceToNat, Int.reduceLE, Int.reduceLT, Int.reduceEq, Int.reduceNe, reduceCtorEq, Nat.reduceLT, Nat.reduceLeDiff, Lat.oi]
    | some k =>
      have h1 : ¬ (k : Int) < 0 := by omega
      simp only [go_sem, Nat.reduceMod, Nat.reduceBNe, Nat.reduceBEq, Nat.reduceEqDiff, Nat.reduceAdd, Int.reduceAdd, Nat.reduceMul, Nat.reduceSub, Int.reduceToNat, Int.reduceLE, Int.reduceLT, Int.reduceEq, Int.reduceNe, reduceCtorEq, Nat.reduceLT, Nat.reduceLeDiff, Lat.oi, h1]
  · simp only [go_sem, Nat.reduceMod, Nat.reduceBNe, Nat.reduceBEq, Nat.reduceEqDiff, Nat.reduceAdd, Int.reduceAdd, Nat.reduceMul, Nat.reduceSub, Int.reduceToNat, Int.reduceLE, Int.reduceLT, Int.reduceEq, Int.reduceNe, reduceCtorEq, Nat.reduceLT, Nat.reduceLeDiff, h]
    have e0 : findR t s v = (0, (atI t s).2) := if_pos h
    rw [e0]
end
end Go.Avm

/- Clone of rows. -/
namespace Go.Avm
open Go Go.Proofs Go.Shelf Go.RowKit Go.Lib
/-- Nothing is appended. -/
theorem wpList_append_none {P : Program} (w : World) {ops : Array Oper} {rest : List Oper} {o : Oper} {a : Act} {Q : Exit → Act → World → Prop} (hgd : o.guard = none) (s x : Operand) (t tx : TypeId)
    (ho : o.op = .call { callee := .builtin .append, args := #[s, x], argTypes := #[t, tx] }) {e : TypeId} (i : TypeInfo) (ht : P.underlying t = some (.slice e)) (hi : P.info? e = some i)
    {base : Option Addr} {n c : Nat} (hv : a.eval s = .slice base n c) (hle : n ≤ c) (xv : Value) (hx : a.eval x = xv) (hs : Src P i.size tx xv 0 [] w)
    (hK : wpList P ops Q rest (a.put o.dst (.slice base n c)) w) : wpList P ops Q (o :: rest) a w := by
  refine wpList_plain hgd fun K hK' => ?_
  have hrun := run_append_nothing (P := P) w t tx o.type e i ht hi base n c hle xv hs
  unfold Oper.wp
  simp [execOp, ho, resolve, invoke, builtin, hv, hx, hrun, Result.andThen]
  exact hK' _ _ hK
set_option maxHeartbeats 2000000 in
theorem z_cloneL0 (a : Option Addr) (c : Nat) (w : World) : Calls Tryz.prog 68 #[.slice a 0 c] w fun e w' => (∃ a', e = .returned (.slice a' 0 0)) ∧ Below w.heap.size w w' := by
  have ht : Tryz.prog.underlying 42 = some (.slice 2) := Tryz.underlying42
  obtain ⟨i, hi⟩ : ∃ i, Tryz.prog.info? 2 = some i := Option.isSome_iff_exists.1 (by kernel_rfl)
  have q : ∀ (w : World) (a : Option Addr) (n c n' c' : Nat), (binOp .eql 42 (.slice a n c) (.slice none n' c')).run Tryz.prog w = .ok (.bool a.isNone) w := fun w a n c n' c' => Lib.run_eql_slice_nil w _ _ a n c n' c' ht
  cases a with
  | none =>
    go_enter Tryz.func68, Tryz.ntmps68
    go_wp2
    go_ret
    exact ⟨⟨_, rfl⟩, Below.refl _ _⟩
  | some a =>
    go_enter Tryz.func68, Tryz.ntmps68
    go_wp2_with (at_builtin; refine wpList_append_none _ rfl _ _ 42 42 rfl i ht hi rfl (Nat.zero_le _) _ rfl (Src.ofSlice _ ht a 0 c [] (by simp) (by simp) (by simp)) ?_)
    go_ret
    exact ⟨⟨_, rfl⟩, (Below.refl _ w).alloc (Nat.le_refl _) _⟩
set_option maxHeartbeats 2000000 in
theorem z_cloneS0 (a : Option Addr) (c : Nat) (w : World) : Calls Tryz.prog 69 #[.slice a 0 c] w fun e w' => (∃ a', e = .returned (.slice a' 0 0)) ∧ Below w.heap.size w w' := by
  have ht : Tryz.prog.underlying 22 = some (.slice 9) := Tryz.underlying22
  obtain ⟨i, hi⟩ : ∃ i, Tryz.prog.info? 9 = some i := Option.isSome_iff_exists.1 (by kernel_rfl)
  have q : ∀ (w : World) (a : Option Addr) (n c n' c' : Nat), (binOp .eql 22 (.slice a n c) (.slice none n' c')).run Tryz.prog w = .ok (.bool a.isNone) w := fun w a n c n' c' => Lib.run_eql_slice_nil w _ _ a n c n' c' ht
  cases a with
  | none =>
    go_enter Tryz.func69, Tryz.ntmps69
    go_wp2
    go_ret
    exact ⟨⟨_, rfl⟩, Below.refl _ _⟩
  | some a =>
    go_enter Tryz.func69, Tryz.ntmps69
    go_wp2_with (at_builtin; refine wpList_append_none _ rfl _ _ 22 22 rfl i ht hi rfl (Nat.zero_le _) _ rfl (Src.ofSlice _ ht a 0 c [] (by simp) (by simp) (by simp)) ?_)
    go_ret
    exact ⟨⟨_, rfl⟩, (Below.refl _ w).alloc (Nat.le_refl _) _⟩
section
variable {X : Cx} (hX : X.P = Go.Proofs.Tryz.prog) (hs : Std X)
include hX
theorem clone_0 {f : Nat} (hb : HasBody X f) (h : ∀ a c w, Calls Tryz.prog f #[.slice a 0 c] w fun e w' => (∃ a', e = .returned (.slice a' 0 0)) ∧ Below w.heap.size w w') : Ev X f [.sl .ro []] (.sl .ro []) :=
  ev_below hb fun g w vs hwf hvs => by
    simp only [RelL, Rel] at hvs
    obtain ⟨v1, r1, rfl, ⟨a, cap, us, sz, rfl, _, _, _, _⟩, rfl⟩ := hvs
    rw [hX]
    refine (h a cap w).mono ?_
    rintro e w' ⟨⟨a', rfl⟩, hb⟩
    exact ⟨_, rfl, fun g => by simp only [Rel, RelL]; exact ⟨a', 0, [], 1, rfl, Nat.le_refl _, rfl, .inl rfl, trivial⟩, hb⟩
include hs
theorem ev_CloneL (l : List Int) (hl : l.length < 1000000) : Ev X F_slices_Clone_int64_int64 [lst (AV.int .i64) .ro l] (lst (AV.int .i64) .ro l) := by
  by_cases h0 : l = []
  · subst h0
    exact clone_0 hX ⟨Go.Proofs.Tryz.f68, by rw [hX]; exact Go.Proofs.Tryz.func68, by decide, by kernel_rfl⟩ z_cloneL0
  refine ev_of_wpc hs (A_slices_Clone_int64_int64_ok hX) 1 ?_
  simp only [A_slices_Clone_int64_int64, go_sem, Nat.reduceMod, Nat.reduceBNe, Nat.reduceBEq, Nat.reduceEqDiff, Nat.reduceAdd, Int.reduceAdd, Nat.reduceMul, Nat.reduceSub, Int.reduceToNat, Int.reduceLE, Int.reduceLT, Int.reduceEq, Int.reduceNe, reduceCtorEq, Nat.reduceLT, Nat.reduceLeDiff]
  refine ⟨by cases l with | nil => exact absurd rfl h0 | cons _ _ => rfl, by omega, by omega⟩
theorem ev_CloneS (l : List (List UInt8)) (hl : l.length < 1000000) : Ev X F_slices_Clone_string_string [lst AV.str .ro l] (lst AV.str .ro l) := by
  by_cases h0 : l = []
  · subst h0
    exact clone_0 hX ⟨Go.Proofs.Tryz.f69, by rw [hX]; exact Go.Proofs.Tryz.func69, by decide, by kernel_rfl⟩ z_cloneS0
  refine ev_of_wpc hs (A_slices_Clone_string_string_ok hX) 1 ?_
  simp only [A_slices_Clone_string_string, go_sem, Nat.reduceMod, Nat.reduceBNe, Nat.reduceBEq, Nat.reduceEqDiff, Nat.reduceAdd, Int.reduceAdd, Nat.reduceMul, Nat.reduceSub, Int.reduceToNat, Int.reduceLE, Int.reduceLT, Int.reduceEq, Int.reduceNe, reduceCtorEq, Nat.reduceLT, Nat.reduceLeDiff]
  refine ⟨by cases l with | nil => exact absurd rfl h0 | cons _ _ => rfl, by omega, by omega⟩
end
end Go.Avm

/- clone, taken, each. -/
namespace Go.Avm
open Go Go.Tb
set_option maxRecDepth 10000
theorem ax1_arr {H : Heap} {by' : Nat} (i : Nat) (l : List Lat.Arr) (a : Lat.Arr) : appX H 5 by' (lst arrV (.tok i 5) l) (some [arrV a]) = app1 H by' i l.length (lst arrV (.tok i 5) (l ++ [a])) := ax_tok (f := arrV) (m := [a]) i
theorem dry_arr (a : Lat.Arr) : dry (arrV a) = arrV a := id rfl
theorem tv_eq (t : Tab) : tabV t = .agg [lst AV.str .ro t.n, lst arrV .ro t.c] := rfl
section
variable {α : Type} (H : List α) (a b c d x y : α) (K r : List α)
theorem p0g : (H ++ a :: K)[H.length]? = some a := by simp
theorem p1g : (H ++ a :: b :: K)[H.length + 1]? = some b := by
  rw [List.getElem?_append_right (by omega), show H.length + 1 - H.length = 1 by omega]; rfl
theorem p2g : (H ++ a :: b :: c :: K)[H.length + 2]? = some c := by
  rw [List.getElem?_append_right (by omega), show H.length + 2 - H.length = 2 by omega]; rfl
theorem p3g : (H ++ a :: b :: c :: d :: K)[H.length + 3]? = some d := by
  rw [List.getElem?_append_right (by omega), show H.length + 3 - H.length = 3 by omega]; rfl
theorem p0s : (H ++ a :: K).set H.length x = H ++ x :: K := by
  rw [List.set_append_right _ _ (by omega), Nat.sub_self]; rfl
theorem p1s : (H ++ a :: b :: K).set (H.length + 1) x = H ++ a :: x :: K := by
  rw [List.set_append_right _ _ (by omega), show H.length + 1 - H.length = 1 by omega]; rfl
theorem p2s : (H ++ a :: b :: c :: K).set (H.length + 2) x = H ++ a :: b :: x :: K := by
  rw [List.set_append_right _ _ (by omega), show H.length + 2 - H.length = 2 by omega]; rfl
theorem p3s : (H ++ a :: b :: c :: d :: K).set (H.length + 3) x = H ++ a :: b :: c :: x :: K := by
  rw [List.set_append_right _ _ (by omega), show H.length + 3 - H.length = 3 by omega]; rfl
theorem p1l : (H ++ [a]).length = H.length + 1 := by simp
theorem p2l : (H ++ [a, b]).length = H.length + 2 := by simp
theorem p3l : (H ++ [a, b, c]).length = H.length + 3 := by simp
theorem q3l : (H ++ a :: b :: c :: K).length = H.length + 3 + K.length := by simp; omega
theorem q3g : (H ++ a :: b :: c :: (K ++ x :: r))[H.length + 3 + K.length]? = some x := by
  rw [List.getElem?_append_right (by omega), show H.length + 3 + K.length - H.length = K.length + 3 by omega]
  simp
theorem q3s : (H ++ a :: b :: c :: (K ++ x :: r)).set (H.length + 3 + K.length) y = H ++ a :: b :: c :: (K ++ y :: r) := by
  rw [List.set_append_right _ _ (by omega), show H.length + 3 + K.length - H.length = K.length + 3 by omega]
  simp
end
theorem app_get {H : Heap} {i : Nat} {b : Blk} (h : H[i]? = some b) (K : Heap) : (H ++ K)[i]? = some b := by
  rw [List.getElem?_append_left (List.getElem?_eq_some_iff.1 h).1]; exact h
section
variable {X : Cx} (hX : X.P = Go.Proofs.Tryz.prog) (hs : Std X)
include hX hs
theorem k_taken1 (a : Lat.Arr) (rows : List Int) (H : Heap) (j : Nat) (hj : H[j]? = some (.box [lst (AV.int .i64) .ro rows])) (hr : ∀ k ∈ rows, 0 ≤ k ∧ k < a.c.length) (hl : rows.length < 1000000) (hp : H.length % 2 = 0) :
    EvK X F_tables_taken_1 [arrV a, .ptr j 0] H (arrV (takenC rows a)) := by
  obtain ⟨k, r, l0, l1, c⟩ := a
  dsimp only at hr
  refine evK_of_wpc hs (A_tables_taken_1_ok hX) ?_
  have hjK := app_get hj
  simp only [A_tables_taken_1, arrV, go_sem, Nat.reduceMod, Nat.reduceBNe, Nat.reduceBEq, Nat.reduceEqDiff, Nat.reduceAdd, Int.reduceAdd, Nat.reduceMul, Nat.reduceSub, Int.reduceToNat, Int.reduceLE, Int.reduceLT, Int.reduceEq, Int.reduceNe, reduceCtorEq, Nat.reduceLT, Nat.reduceLeDiff, List.append_assoc, p0g, p1g, p2g, p0s, p1s, p2s, p1l, p2l, p3l, hjK]
  refine w_loop hs.hm (ι := Nat) (fun i => i ≤ rows.length) (fun i => [(15, .int .i64 i), (14, .int .i64 rows.length), (13, lst (AV.int .i64) .ro rows), (1, .ptr j 0), (2, .ptr H.length 0), (3, .ptr (H.length + 1) 0), (4, .ptr (H.length + 2) 0)]) (fun i => H ++ [.box [.int .i64 k, .int .i64 r, .int .i64 l0, .int .i64 l1, lst (AV.int .i64) .ro c], .box [.int .i64 0, .int .i64 0, .int .i64 0, .int .i64 0, .sl .ex []], .box [.int .i64 k, .int .i64 1, .int .i64 rows.length, .int .i64 0, lst (AV.int .i64) (.tok (H.length + 3) 1) ((rows.take i).map fun x => c.getD x.toNat 0)], .tok i]) (fun i => rows.length - i) 0 ⟨Nat.zero_le _, _, _, wk_tokb (H.length + 2) 4 1 (p2g H _ _ _ []) rfl, ?_⟩ fun i hi => ?_
  · simp only [go_sem, Nat.reduceMod, Nat.reduceBNe, Nat.reduceBEq, Nat.reduceEqDiff, Nat.reduceAdd, Int.reduceAdd, Nat.reduceMul, Nat.reduceSub, Int.reduceToNat, Int.reduceLE, Int.reduceLT, Int.reduceEq, Int.reduceNe, reduceCtorEq, Nat.reduceLT, Nat.reduceLeDiff, Inv, List.take_zero, List.append_assoc, p2s, p3l]
    rfl
  by_cases hi' : i < rows.length
  · have h1 : (i : Int) < rows.length := by omega
    have hw : IntKind.i64.wrap ((i : Int) + 1) = ((i + 1 : Nat) : Int) := by rw [wi64 (by omega)]; omega
    have hm := hr (rows.getD i 0) (by rw [List.getD_eq_getElem?_getD, List.getElem?_eq_getElem hi']; exact List.getElem_mem _)
    have hlt : (rows.take i).length = i := by rw [List.length_take]; omega
    have e : (rows.take i).map (fun x => c.getD x.toNat 0) ++ [c.getD (rows.getD i default).toNat default] = (rows.take (i + 1)).map fun x => c.getD x.toNat 0 := by
      rw [List.take_succ_eq_append_getElem hi', List.map_append, List.getD_eq_getElem?_getD (l := rows), List.getElem?_eq_getElem hi']
      rfl
    have hpar : ((H.length + 3) % 2 != 0) = true := by rw [bne_iff_ne]; omega
    simp only [A_tables_taken_1L0, go_sem, Nat.reduceMod, Nat.reduceBNe, Nat.reduceBEq, Nat.reduceEqDiff, Nat.reduceAdd, Int.reduceAdd, Nat.reduceMul, Nat.reduceSub, Int.reduceToNat, Int.reduceLE, Int.reduceLT, Int.reduceEq, Int.reduceNe, reduceCtorEq, Nat.reduceLT, Nat.reduceLeDiff, h1, hw, List.append_assoc, p0g, p1g, p2g, p3g, p0s, p1s, p2s, p3s, app1, List.length_map, hlt, hpar, e]
    exact ⟨by omega, hm, by omega, i + 1, by omega, hi', rfl, rfl⟩
  · have h1 : ¬ (i : Int) < rows.length := by omega
    simp only [A_tables_taken_1L0, go_sem, Nat.reduceMod, Nat.reduceBNe, Nat.reduceBEq, Nat.reduceEqDiff, Nat.reduceAdd, Int.reduceAdd, Nat.reduceMul, Nat.reduceSub, Int.reduceToNat, Int.reduceLE, Int.reduceLT, Int.reduceEq, Int.reduceNe, reduceCtorEq, Nat.reduceLT, Nat.reduceLeDiff, h1, List.append_assoc, p0g, p1g, p2g, p3g, p0s, p1s, p2s, p3s]
    rw [List.take_of_length_le (by omega)]
    exact ⟨⟨_, rfl⟩, rfl⟩
theorem k_takenA (a : Lat.Arr) (rows : List Int) (H : Heap) (j : Nat) (hj : H[j]? = some (.box [lst (AV.int .i64) .ro rows])) (hr : ∀ k ∈ rows, 0 ≤ k ∧ k < a.c.length) (hl : rows.length < 1000000) :
    EvK X F_tables_taken_1 [arrV a, .ptr j 0] H (arrV (takenC rows a)) := by
  rcases Nat.mod_two_eq_zero_or_one H.length with h | h
  · exact k_taken1 hX hs a rows H j hj hr hl h
  · exact evK_dead rfl (k_taken1 hX hs a rows (H ++ [.dead]) j (app_get hj _) hr hl (by rw [p1l]; omega))
theorem ev_cloneA (a : Lat.Arr) (hl : a.c.length < 1000000) : Ev X F_tables_clone [arrV a] (arrV a) := by
  obtain ⟨k, r, l0, l1, c⟩ := a
  refine ev_of_k (evK_of_wpc hs (A_tables_clone_ok hX) ?_)
  simp only [A_tables_clone, arrV, go_sem, Nat.reduceMod, Nat.reduceBNe, Nat.reduceBEq, Nat.reduceEqDiff, Nat.reduceAdd, Int.reduceAdd, Nat.reduceMul, Nat.reduceSub, Int.reduceToNat, Int.reduceLE, Int.reduceLT, Int.reduceEq, Int.reduceNe, reduceCtorEq, Nat.reduceLT, Nat.reduceLeDiff]
  refine call_ev (ev_CloneL hX hs c hl) ?_
  simp only [go_sem, Nat.reduceMod, Nat.reduceBNe, Nat.reduceBEq, Nat.reduceEqDiff, Nat.reduceAdd, Int.reduceAdd, Nat.reduceMul, Nat.reduceSub, Int.reduceToNat, Int.reduceLE, Int.reduceLT, Int.reduceEq, Int.reduceNe, reduceCtorEq, Nat.reduceLT, Nat.reduceLeDiff]
  exact ⟨⟨_, rfl⟩, rfl⟩
theorem k_each1 (t : Tab) (f : Nat) (cs : List AV) (g : Lat.Arr → Lat.Arr) (H : Heap) (i : Nat) (hi : H[i]? = some (.box [lst AV.str .ro t.n, lst arrV .ro t.c])) (hf : ∀ a ∈ t.c, ∀ K : Heap, EvK X f (arrV a :: cs) (H ++ K) (arrV (g a)))
    (hl : t.c.length < 1000000) (hn : t.n.length < 1000000) (hp : H.length % 2 = 1) : EvK X F_tables_each [.ptr i 0, .clo f [] cs] H (tabV ⟨t.n, t.c.map g⟩) := by
  refine evK_of_wpc hs (A_tables_each_ok hX) ?_
  have hiK := app_get hi
  simp only [A_tables_each, go_sem, Nat.reduceMod, Nat.reduceBNe, Nat.reduceBEq, Nat.reduceEqDiff, Nat.reduceAdd, Int.reduceAdd, Nat.reduceMul, Nat.reduceSub, Int.reduceToNat, Int.reduceLE, Int.reduceLT, Int.reduceEq, Int.reduceNe, reduceCtorEq, Nat.reduceLT, Nat.reduceLeDiff, List.append_assoc, p0g, p1g, p2g, p0s, p1s, p2s, p1l, p2l, p3l, hi, hiK]
  refine call_ev (ev_CloneS hX hs t.n hn) ?_
  simp only [go_sem, Nat.reduceMod, Nat.reduceBNe, Nat.reduceBEq, Nat.reduceEqDiff, Nat.reduceAdd, Int.reduceAdd, Nat.reduceMul, Nat.reduceSub, Int.reduceToNat, Int.reduceLE, Int.reduceLT, Int.reduceEq, Int.reduceNe, reduceCtorEq, Nat.reduceLT, Nat.reduceLeDiff, List.append_assoc, p0g, p1g, p2g, p0s, p1s, p2s, p1l, p2l, p3l, hi, hiK]
  refine w_loop hs.hm (ι := Nat × Heap) (fun x => x.1 ≤ t.c.length) (fun x => [(19, .int .i64 x.1), (18, .int .i64 t.c.length), (17, lst arrV .ro t.c), (1, .clo f [] cs), (4, .ptr H.length 0), (5, .ptr (H.length + 1) 0)]) (fun x => H ++ .box [.sl .ex [], .sl .ex []] :: .box [lst AV.str .ro t.n, lst arrV (.tok (H.length + 2) 5) ((t.c.take x.1).map g)] :: .tok x.1 :: x.2) (fun x => t.c.length - x.1) (0, []) ⟨Nat.zero_le _, _, _, wk_tokb (H.length + 1) 1 5 (p1g H _ _ []) rfl, ?_⟩ fun x hx => ?_
  · simp only [go_sem, Nat.reduceMod, Nat.reduceBNe, Nat.reduceBEq, Nat.reduceEqDiff, Nat.reduceAdd, Int.reduceAdd, Nat.reduceMul, Nat.reduceSub, Int.reduceToNat, Int.reduceLE, Int.reduceLT, Int.reduceEq, Int.reduceNe, reduceCtorEq, Nat.reduceLT, Nat.reduceLeDiff, Inv, List.take_zero, List.append_assoc, p1s, p2l]
    rfl
  obtain ⟨k, G⟩ := x
  dsimp only at hx ⊢
  by_cases hk : k < t.c.length
  · have h1 : (k : Int) < t.c.length := by omega
    have hw : IntKind.i64.wrap ((k : Int) + 1) = ((k + 1 : Nat) : Int) := by rw [wi64 (by omega)]; omega
    have hlt : (t.c.take k).length = k := by rw [List.length_take]; omega
    have e : (t.c.take k).map g ++ [g (t.col k)] = (t.c.take (k + 1)).map g := by
      rw [List.take_succ_eq_append_getElem hk, List.map_append]
      unfold Tab.col
      rw [List.getD_eq_getElem?_getD, List.getElem?_eq_getElem hk]
      rfl
    have hpar : ((H.length + 2) % 2 != 0) = true := by rw [bne_iff_ne]; omega
    simp only [A_tables_eachL0, go_sem, Nat.reduceMod, Nat.reduceBNe, Nat.reduceBEq, Nat.reduceEqDiff, Nat.reduceAdd, Int.reduceAdd, Nat.reduceMul, Nat.reduceSub, Int.reduceToNat, Int.reduceLE, Int.reduceLT, Int.reduceEq, Int.reduceNe, reduceCtorEq, Nat.reduceLT, Nat.reduceLeDiff, h1, hw, List.append_assoc, p0g, p1g, p2g, p0s, p1s, p2s, q3l, q3g, q3s]
    rw [col_eq t k hk]
    simp only [arr_cells, go_sem, Nat.reduceMod, Nat.reduceBNe, Nat.reduceBEq, Nat.reduceEqDiff, Nat.reduceAdd, Int.reduceAdd, Nat.reduceMul, Nat.reduceSub, Int.reduceToNat, Int.reduceLE, Int.reduceLT, Int.reduceEq, Int.reduceNe, reduceCtorEq, Nat.reduceLT, Nat.reduceLeDiff, List.append_assoc, p0g, p1g, p2g, p0s, p1s, p2s, q3l, q3g, q3s]
    refine ⟨by omega, callq_evm _ (hf (t.col k) (col_mem hk) _) ?_⟩
    simp only [go_sem, Nat.reduceMod, Nat.reduceBNe, Nat.reduceBEq, Nat.reduceEqDiff, Nat.reduceAdd, Int.reduceAdd, Nat.reduceMul, Nat.reduceSub, Int.reduceToNat, Int.reduceLE, Int.reduceLT, Int.reduceEq, Int.reduceNe, reduceCtorEq, Nat.reduceLT, Nat.reduceLeDiff, List.append_assoc, p0g, p1g, p2g, p0s, p1s, p2s, q3l, q3g, q3s, dry_arr, ax1_arr, app1, List.length_map, hlt, hpar, e]
    exact ⟨⟨rfl, rfl⟩, by omega, (k + 1, _), by dsimp only; omega, hk, by rw [hw], rfl⟩
  · have h1 : ¬ (k : Int) < t.c.length := by omega
    simp only [A_tables_eachL0, go_sem, Nat.reduceMod, Nat.reduceBNe, Nat.reduceBEq, Nat.reduceEqDiff, Nat.reduceAdd, Int.reduceAdd, Nat.reduceMul, Nat.reduceSub, Int.reduceToNat, Int.reduceLE, Int.reduceLT, Int.reduceEq, Int.reduceNe, reduceCtorEq, Nat.reduceLT, Nat.reduceLeDiff, h1, List.append_assoc, p0g, p1g, p2g, p0s, p1s, p2s]
    rw [List.take_of_length_le (by omega)]
    exact ⟨⟨_, rfl⟩, rfl⟩
theorem k_each (t : Tab) (f : Nat) (cs : List AV) (g : Lat.Arr → Lat.Arr) (H : Heap) (i : Nat) (hi : H[i]? = some (.box [lst AV.str .ro t.n, lst arrV .ro t.c])) (hf : ∀ a ∈ t.c, ∀ K : Heap, EvK X f (arrV a :: cs) (H ++ K) (arrV (g a)))
    (hl : t.c.length < 1000000) (hn : t.n.length < 1000000) : EvK X F_tables_each [.ptr i 0, .clo f [] cs] H (tabV ⟨t.n, t.c.map g⟩) := by
  rcases Nat.mod_two_eq_zero_or_one H.length with h | h
  · exact evK_dead rfl (k_each1 hX hs t f cs g (H ++ [.dead]) i (app_get hi _) (fun a ha K => by rw [List.append_assoc]; exact hf a ha _) hl hn (by rw [p1l]; omega))
  · exact k_each1 hX hs t f cs g H i hi hf hl hn h
theorem k_taken (t : Tab) (rows : List Int) (H : Heap) (i : Nat) (hi : H[i]? = some (.box [lst AV.str .ro t.n, lst arrV .ro t.c])) (hr : ∀ a ∈ t.c, ∀ k ∈ rows, 0 ≤ k ∧ k < a.c.length) (hl : t.c.length < 1000000) (hn : t.n.length < 1000000) (hrl : rows.length < 1000000) :
    EvK X F_tables_taken [.ptr i 0, lst (AV.int .i64) .ro rows] H (tabV (takenT t rows)) := by
  refine evK_of_wpc hs (A_tables_taken_ok hX) ?_
  have hiK := app_get hi
  simp only [A_tables_taken, go_sem, Nat.reduceMod, Nat.reduceBNe, Nat.reduceBEq, Nat.reduceEqDiff, Nat.reduceAdd, Int.reduceAdd, Nat.reduceMul, Nat.reduceSub, Int.reduceToNat, Int.reduceLE, Int.reduceLT, Int.reduceEq, Int.reduceNe, reduceCtorEq, Nat.reduceLT, Nat.reduceLeDiff, List.append_assoc, p0g, p1g, p0s, p1s, p1l, p2l, hi, hiK]
  refine call_k (k_each hX hs t F_tables_taken_1 [.ptr H.length 0] (takenC rows) _ i (hiK _) (fun a ha K => ?_) hl hn) ?_
  · refine k_takenA hX hs a rows _ H.length ?_ (hr a ha) hrl
    simp
  · simp only [go_sem, Nat.reduceMod, Nat.reduceBNe, Nat.reduceBEq, Nat.reduceEqDiff, Nat.reduceAdd, Int.reduceAdd, Nat.reduceMul, Nat.reduceSub, Int.reduceToNat, Int.reduceLE, Int.reduceLT, Int.reduceEq, Int.reduceNe, reduceCtorEq, Nat.reduceLT, Nat.reduceLeDiff, tv_eq, List.append_assoc, p0g, p1g, p0s, p1s, p1l, p2l]
    exact ⟨⟨_, rfl⟩, rfl⟩
end
end Go.Avm

/- Take, Order, Sort, Column. -/
namespace Go.Avm
open Go Go.Tb
set_option maxRecDepth 10000
section
variable {X : Cx} (hX : X.P = Go.Proofs.Tryz.prog) (hs : Std X)
include hX hs
theorem ev_Order (t : Tab) (s : List UInt8) (hl : ∀ a ∈ t.c, a.c.length < 1000000) : Ev X F_tables_Order [tabV t, .str s] (.tuple [lst (AV.int .i64) .ro (orderR t s).1, .int .i64 (orderR t s).2]) := by
  refine ev_of_k (evK_of_wpc hs (A_tables_Order_ok hX) ?_)
  simp only [A_tables_Order, tabV, go_sem, Nat.reduceMod, Nat.reduceBNe, Nat.reduceBEq, Nat.reduceEqDiff, Nat.reduceAdd, Int.reduceAdd, Nat.reduceMul, Nat.reduceSub, Int.reduceToNat, Int.reduceLE, Int.reduceLT, Int.reduceEq, Int.reduceNe, reduceCtorEq, Nat.reduceLT, Nat.reduceLeDiff]
  refine call_lend (ev_at hX hs t s hl) rfl ?_
  by_cases h : (atI t s).2 = 0
  · obtain ⟨i, e, hi, hg, _⟩ := atI_0 h
    have hic : i < t.c.length := by rw [hg.eq]; exact hi
    have hic' : (i : Int) < t.c.length := by omega
    have e0 : orderR t s = (ordL (t.col i).c, 0) := by unfold orderR; rw [if_neg (by omega), e]; rfl
    have hm := (hg.at hi).2.2.1
    simp only [go_sem, Nat.reduceMod, Nat.reduceBNe, Nat.reduceBEq, Nat.reduceEqDiff, Nat.reduceAdd, Int.reduceAdd, Nat.reduceMul, Nat.reduceSub, Int.reduceToNat, Int.reduceLE, Int.reduceLT, Int.reduceEq, Int.reduceNe, reduceCtorEq, Nat.reduceLT, Nat.reduceLeDiff, e]
    refine callq_lend (ev_many hX hs t) rfl ?_
    simp only [go_sem, Nat.reduceMod, Nat.reduceBNe, Nat.reduceBEq, Nat.reduceEqDiff, Nat.reduceAdd, Int.reduceAdd, Nat.reduceMul, Nat.reduceSub, Int.reduceToNat, Int.reduceLE, Int.reduceLT, Int.reduceEq, Int.reduceNe, reduceCtorEq, Nat.reduceLT, Nat.reduceLeDiff, hic', arr_cells]
    rw [col_eq t i hic, ← hm, e0]
    refine ⟨by omega, callq_ev (ev_ranked hX hs (t.col i).c (hl _ (col_mem hic))) ?_⟩
    simp only [go_sem, Nat.reduceMod, Nat.reduceBNe, Nat.reduceBEq, Nat.reduceEqDiff, Nat.reduceAdd, Int.reduceAdd, Nat.reduceMul, Nat.reduceSub, Int.reduceToNat, Int.reduceLE, Int.reduceLT, Int.reduceEq, Int.reduceNe, reduceCtorEq, Nat.reduceLT, Nat.reduceLeDiff]
    exact ⟨⟨_, rfl⟩, rfl⟩
  · have e0 : orderR t s = ([], (atI t s).2) := if_pos h
    simp only [go_sem, Nat.reduceMod, Nat.reduceBNe, Nat.reduceBEq, Nat.reduceEqDiff, Nat.reduceAdd, Int.reduceAdd, Nat.reduceMul, Nat.reduceSub, Int.reduceToNat, Int.reduceLE, Int.reduceLT, Int.reduceEq, Int.reduceNe, reduceCtorEq, Nat.reduceLT, Nat.reduceLeDiff, h]
    rw [e0]
    exact ⟨⟨_, rfl⟩, rfl⟩
theorem ev_Sort (t : Tab) (s : List UInt8) (hl : ∀ a ∈ t.c, a.c.length < 1000000) : Ev X F_tables_Sort [tabV t, .str s] (.tuple [tabV (sortR t s).1, .int .i64 (sortR t s).2]) := by
  refine ev_of_k (evK_of_wpc hs (A_tables_Sort_ok hX) ?_)
  simp only [A_tables_Sort, tabV, go_sem, Nat.reduceMod, Nat.reduceBNe, Nat.reduceBEq, Nat.reduceEqDiff, Nat.reduceAdd, Int.reduceAdd, Nat.reduceMul, Nat.reduceSub, Int.reduceToNat, Int.reduceLE, Int.reduceLT, Int.reduceEq, Int.reduceNe, reduceCtorEq, Nat.reduceLT, Nat.reduceLeDiff]
  refine call_ev (ev_Order hX hs t s hl) ?_
  by_cases h : (atI t s).2 = 0
  · obtain ⟨i, e, hi, hg, _⟩ := atI_0 h
    have hic : i < t.c.length := by rw [hg.eq]; exact hi
    have e0 : orderR t s = (ordL (t.col i).c, 0) := by unfold orderR; rw [if_neg (by omega), e]; rfl
    have e1 : sortR t s = (takenT t (ordL (t.col i).c), 0) := by unfold sortR; rw [e0, if_neg (by simp)]
    have h16 := hg.len
    have heq := hg.eq
    have hm := (hg.at hi).2.2.1
    rw [e0, e1]
    simp only [go_sem, Nat.reduceMod, Nat.reduceBNe, Nat.reduceBEq, Nat.reduceEqDiff, Nat.reduceAdd, Int.reduceAdd, Nat.reduceMul, Nat.reduceSub, Int.reduceToNat, Int.reduceLE, Int.reduceLT, Int.reduceEq, Int.reduceNe, reduceCtorEq, Nat.reduceLT, Nat.reduceLeDiff]
    refine call_k (k_taken hX hs t (ordL (t.col i).c) _ 0 rfl (fun a ha k hk => ?_) (by omega) (by omega) ?_) ?_
    · have h1 := ordL_rng hk
      have h2 := good_mem hg ha
      omega
    · rw [ordL_len]; exact hl _ (col_mem hic)
    · simp only [go_sem, Nat.reduceMod, Nat.reduceBNe, Nat.reduceBEq, Nat.reduceEqDiff, Nat.reduceAdd, Int.reduceAdd, Nat.reduceMul, Nat.reduceSub, Int.reduceToNat, Int.reduceLE, Int.reduceLT, Int.reduceEq, Int.reduceNe, reduceCtorEq, Nat.reduceLT, Nat.reduceLeDiff, tv_eq]
      exact ⟨⟨_, rfl⟩, rfl⟩
  · have e0 : orderR t s = ([], (atI t s).2) := if_pos h
    have e1 : sortR t s = (zeroT, (atI t s).2) := by unfold sortR; rw [e0, if_pos (by exact h)]
    rw [e0, e1]
    simp only [go_sem, Nat.reduceMod, Nat.reduceBNe, Nat.reduceBEq, Nat.reduceEqDiff, Nat.reduceAdd, Int.reduceAdd, Nat.reduceMul, Nat.reduceSub, Int.reduceToNat, Int.reduceLE, Int.reduceLT, Int.reduceEq, Int.reduceNe, reduceCtorEq, Nat.reduceLT, Nat.reduceLeDiff, h]
    exact ⟨⟨_, rfl⟩, rfl⟩
end
end Go.Avm

/- Equal tables; what is far; the example. -/
namespace Go.Avm
open Go Go.Tb
set_option maxRecDepth 10000
section
variable {X : Cx} (hX : X.P = Go.Proofs.Tryz.prog) (hs : Std X)
include hX hs
theorem ev_vector (k : Int) (l : List Int) : Ev X F_law13_vector [.int .i64 k, lst (AV.int .i64) .ro l] (arrV (vecA k l)) := by
  refine ev_of_k (evK_of_wpc hs (A_law13_vector_ok hX) ?_)
  simp only [A_law13_vector, go_sem, Nat.reduceMod, Nat.reduceBNe, Nat.reduceBEq, Nat.reduceEqDiff, Nat.reduceAdd, Int.reduceAdd, Nat.reduceMul, Nat.reduceSub, Int.reduceToNat, Int.reduceLE, Int.reduceLT, Int.reduceEq, Int.reduceNe, reduceCtorEq, Nat.reduceLT, Nat.reduceLeDiff]
  exact ⟨⟨_, rfl⟩, rfl⟩
theorem ev_example : Ev X F_law13_example [] (tabV exT) := by
  refine ev_of_k (evK_of_wpc hs (A_law13_example_ok hX) ?_)
  simp only [A_law13_example, go_sem, Nat.reduceMod, Nat.reduceBNe, Nat.reduceBEq, Nat.reduceEqDiff, Nat.reduceAdd, Int.reduceAdd, Nat.reduceMul, Nat.reduceSub, Int.reduceToNat, Int.reduceLE, Int.reduceLT, Int.reduceEq, Int.reduceNe, reduceCtorEq, Nat.reduceLT, Nat.reduceLeDiff]
  refine call_ev (ev_vector hX hs 1 [3, 1, 3]) ?_
  simp only [go_sem, Nat.reduceMod, Nat.reduceBNe, Nat.reduceBEq, Nat.reduceEqDiff, Nat.reduceAdd, Int.reduceAdd, Nat.reduceMul, Nat.reduceSub, Int.reduceToNat, Int.reduceLE, Int.reduceLT, Int.reduceEq, Int.reduceNe, reduceCtorEq, Nat.reduceLT, Nat.reduceLeDiff]
  refine call_ev (ev_vector hX hs 2 [99, 97, 98]) ?_
  simp only [go_sem, Nat.reduceMod, Nat.reduceBNe, Nat.reduceBEq, Nat.reduceEqDiff, Nat.reduceAdd, Int.reduceAdd, Nat.reduceMul, Nat.reduceSub, Int.reduceToNat, Int.reduceLE, Int.reduceLT, Int.reduceEq, Int.reduceNe, reduceCtorEq, Nat.reduceLT, Nat.reduceLeDiff]
  exact ⟨⟨⟨rfl, rfl⟩, rfl, rfl⟩, ⟨_, rfl⟩, rfl⟩
theorem ev_same4 (l m : List Int) (hl : l.length < 1000000) : Ev X F_ref04_Same [lst (AV.int .i64) .ro l, lst (AV.int .i64) .ro m] (.bool (l == m)) := by
  refine ev_of_wpc hs (A_ref04_Same_ok hX) 0 ?_
  simp only [A_ref04_Same, go_sem, Nat.reduceMod, Nat.reduceBNe, Nat.reduceBEq, Nat.reduceEqDiff, Nat.reduceAdd, Int.reduceAdd, Nat.reduceMul, Nat.reduceSub, Int.reduceToNat, Int.reduceLE, Int.reduceLT, Int.reduceEq, Int.reduceNe, reduceCtorEq, Nat.reduceLT, Nat.reduceLeDiff]
  refine ⟨fun h => ?_, fun h => ?_⟩
  · have : (l == m) = false := by rw [beq_eq_false_iff_ne]; rintro rfl; exact h rfl
    rw [this]
  have hlm : l.length = m.length := by omega
  refine w_loop' hs.hm (ι := Nat) (fun i => i ≤ l.length ∧ ∀ j, j < i → l.getD j 0 = m.getD j 0) (fun i => [(5, .int .i64 i), (0, lst (AV.int .i64) .ro l), (1, lst (AV.int .i64) .ro m)]) (fun _ => []) (fun i => l.length - i) 0 ?_ fun i hi => ?_
  · simp only [go_sem, Nat.reduceMod, Nat.reduceBNe, Nat.reduceBEq, Nat.reduceEqDiff, Nat.reduceAdd, Int.reduceAdd, Nat.reduceMul, Nat.reduceSub, Int.reduceToNat, Int.reduceLE, Int.reduceLT, Int.reduceEq, Int.reduceNe, reduceCtorEq, Nat.reduceLT, Nat.reduceLeDiff]
    exact ⟨Nat.zero_le _, fun j hj => absurd hj (Nat.not_lt_zero _)⟩
  obtain ⟨x1, x2⟩ := hi
  by_cases hi : i < l.length
  · have h1 : (i : Int) < l.length := by omega
    have h2 : (i : Int) < m.length := by omega
    have hw : IntKind.i64.wrap ((i : Int) + 1) = ((i + 1 : Nat) : Int) := by rw [wi64 (by omega)]; omega
    simp only [A_ref04_SameL0, go_sem, Nat.reduceMod, Nat.reduceBNe, Nat.reduceBEq, Nat.reduceEqDiff, Nat.reduceAdd, Int.reduceAdd, Nat.reduceMul, Nat.reduceSub, Int.reduceToNat, Int.reduceLE, Int.reduceLT, Int.reduceEq, Int.reduceNe, reduceCtorEq, Nat.reduceLT, Nat.reduceLeDiff, h1, h2, hw]
    refine ⟨by omega, by omega, fun h => ?_, fun h => ⟨i + 1, by omega, ⟨hi, fun j hj => ?_⟩, rfl⟩⟩
    · have : (l == m) = false := by rw [beq_eq_false_iff_ne]; rintro rfl; exact h rfl
      rw [this]
    · rcases (by omega : j = i ∨ j < i) with rfl | hj
      · exact h
      · exact x2 j hj
  · have h1 : ¬ (i : Int) < l.length := by omega
    simp only [A_ref04_SameL0, go_sem, Nat.reduceMod, Nat.reduceBNe, Nat.reduceBEq, Nat.reduceEqDiff, Nat.reduceAdd, Int.reduceAdd, Nat.reduceMul, Nat.reduceSub, Int.reduceToNat, Int.reduceLE, Int.reduceLT, Int.reduceEq, Int.reduceNe, reduceCtorEq, Nat.reduceLT, Nat.reduceLeDiff, h1]
    have : (l == m) = true := by rw [beq_iff_eq]; exact ext_getD 0 hlm fun j hj => x2 j (by omega)
    rw [this]
theorem ev_Like (a b : Lat.Arr) : Ev X F_ref06_Like [arrV a, arrV b] (.bool (likeA a b)) := by
  obtain ⟨k, r, l0, l1, c⟩ := a
  obtain ⟨k', r', l0', l1', c'⟩ := b
  refine ev_of_wpc hs (A_ref06_Like_ok hX) 0 ?_
  simp only [A_ref06_Like, arrV, go_sem, Nat.reduceMod, Nat.reduceBNe, Nat.reduceBEq, Nat.reduceEqDiff, Nat.reduceAdd, Int.reduceAdd, Nat.reduceMul, Nat.reduceSub, Int.reduceToNat, Int.reduceLE, Int.reduceLT, Int.reduceEq, Int.reduceNe, reduceCtorEq, Nat.reduceLT, Nat.reduceLeDiff, likeA]
  grind
theorem ev_same6 (a b : Lat.Arr) (hl : a.c.length < 1000000) : Ev X F_ref06_Same [arrV a, arrV b] (.bool (sameA a b)) := by
  obtain ⟨k, r, l0, l1, l⟩ := a
  obtain ⟨k', r', l0', l1', m⟩ := b
  refine ev_of_wpc hs (A_ref06_Same_ok hX) 0 ?_
  simp only [A_ref06_Same, arrV, go_sem, Nat.reduceMod, Nat.reduceBNe, Nat.reduceBEq, Nat.reduceEqDiff, Nat.reduceAdd, Int.reduceAdd, Nat.reduceMul, Nat.reduceSub, Int.reduceToNat, Int.reduceLE, Int.reduceLT, Int.reduceEq, Int.reduceNe, reduceCtorEq, Nat.reduceLT, Nat.reduceLeDiff]
  refine call_ev (ev_Like hX hs ⟨k, r, l0, l1, l⟩ ⟨k', r', l0', l1', m⟩) ?_
  dsimp only at hl
  cases hk : likeA ⟨k, r, l0, l1, l⟩ ⟨k', r', l0', l1', m⟩ with
  | false =>
    simp only [go_sem, Nat.reduceMod, Nat.reduceBNe, Nat.reduceBEq, Nat.reduceEqDiff, Nat.reduceAdd, Int.reduceAdd, Nat.reduceMul, Nat.reduceSub, Int.reduceToNat, Int.reduceLE, Int.reduceLT, Int.reduceEq, Int.reduceNe, reduceCtorEq, Nat.reduceLT, Nat.reduceLeDiff]
    simp only [sameA, hk, Bool.false_and]
  | true =>
    have e0 : sameA ⟨k, r, l0, l1, l⟩ ⟨k', r', l0', l1', m⟩ = (l == m) := by simp only [sameA, hk, Bool.true_and]
    rw [e0]
    simp only [go_sem, Nat.reduceMod, Nat.reduceBNe, Nat.reduceBEq, Nat.reduceEqDiff, Nat.reduceAdd, Int.reduceAdd, Nat.reduceMul, Nat.reduceSub, Int.reduceToNat, Int.reduceLE, Int.reduceLT, Int.reduceEq, Int.reduceNe, reduceCtorEq, Nat.reduceLT, Nat.reduceLeDiff]
    refine ⟨fun h => ?_, fun h => ?_⟩
    · have : (l == m) = false := by rw [beq_eq_false_iff_ne]; rintro rfl; exact h rfl
      rw [this]
    have hlm : l.length = m.length := by omega
    refine w_loop' hs.hm (ι := Nat) (fun i => i ≤ l.length ∧ ∀ j, j < i → l.getD j 0 = m.getD j 0) (fun i => [(5, .int .i64 i), (2, .ptr 0 0), (3, .ptr 1 0)]) (fun _ => [.box [.int .i64 k, .int .i64 r, .int .i64 l0, .int .i64 l1, lst (AV.int .i64) .ro l], .box [.int .i64 k', .int .i64 r', .int .i64 l0', .int .i64 l1', lst (AV.int .i64) .ro m]]) (fun i => l.length - i) 0 ?_ fun i hi => ?_
    · simp only [go_sem, Nat.reduceMod, Nat.reduceBNe, Nat.reduceBEq, Nat.reduceEqDiff, Nat.reduceAdd, Int.reduceAdd, Nat.reduceMul, Nat.reduceSub, Int.reduceToNat, Int.reduceLE, Int.reduceLT, Int.reduceEq, Int.reduceNe, reduceCtorEq, Nat.reduceLT, Nat.reduceLeDiff]
      exact ⟨Nat.zero_le _, fun j hj => absurd hj (Nat.not_lt_zero _)⟩
    obtain ⟨x1, x2⟩ := hi
    by_cases hi : i < l.length
    · have h1 : (i : Int) < l.length := by omega
      have h2 : (i : Int) < m.length := by omega
      have hw : IntKind.i64.wrap ((i : Int) + 1) = ((i + 1 : Nat) : Int) := by rw [wi64 (by omega)]; omega
      simp only [A_ref06_SameL0, go_sem, Nat.reduceMod, Nat.reduceBNe, Nat.reduceBEq, Nat.reduceEqDiff, Nat.reduceAdd, Int.reduceAdd, Nat.reduceMul, Nat.reduceSub, Int.reduceToNat, Int.reduceLE, Int.reduceLT, Int.reduceEq, Int.reduceNe, reduceCtorEq, Nat.reduceLT, Nat.reduceLeDiff, h1, h2, hw]
      refine ⟨by omega, by omega, fun h => ?_, fun h => ⟨i + 1, by omega, ⟨hi, fun j hj => ?_⟩, rfl⟩⟩
      · have : (l == m) = false := by rw [beq_eq_false_iff_ne]; rintro rfl; exact h rfl
        rw [this]
      · rcases (by omega : j = i ∨ j < i) with rfl | hj
        · exact h
        · exact x2 j hj
    · have h1 : ¬ (i : Int) < l.length := by omega
      simp only [A_ref06_SameL0, go_sem, Nat.reduceMod, Nat.reduceBNe, Nat.reduceBEq, Nat.reduceEqDiff, Nat.reduceAdd, Int.reduceAdd, Nat.reduceMul, Nat.reduceSub, Int.reduceToNat, Int.reduceLE, Int.reduceLT, Int.reduceEq, Int.reduceNe, reduceCtorEq, Nat.reduceLT, Nat.reduceLeDiff, h1]
      have : (l == m) = true := by rw [beq_iff_eq]; exact ext_getD 0 hlm fun j hj => x2 j (by omega)
      rw [this]
theorem ev_same13 (a b : Tab) (hl : ∀ x ∈ a.c, x.c.length < 1000000) (hn : a.n.length < 1000000) (hc : a.c.length < 1000000) : Ev X F_ref13_Same [tabV a, tabV b] (.bool (sameT a b)) := by
  refine ev_of_wpc hs (A_ref13_Same_ok hX) 0 ?_
  simp only [A_ref13_Same, tabV, go_sem, Nat.reduceMod, Nat.reduceBNe, Nat.reduceBEq, Nat.reduceEqDiff, Nat.reduceAdd, Int.reduceAdd, Nat.reduceMul, Nat.reduceSub, Int.reduceToNat, Int.reduceLE, Int.reduceLT, Int.reduceEq, Int.reduceNe, reduceCtorEq, Nat.reduceLT, Nat.reduceLeDiff]
  by_cases hnl : ¬ a.n.length = b.n.length
  · have h1 : ¬ (a.n.length : Int) = b.n.length := by omega
    have h2 : sameT a b = false := sameT_ne fun e => hnl (by rw [e])
    simp only [go_sem, Nat.reduceMod, Nat.reduceBNe, Nat.reduceBEq, Nat.reduceEqDiff, Nat.reduceAdd, Int.reduceAdd, Nat.reduceMul, Nat.reduceSub, Int.reduceToNat, Int.reduceLE, Int.reduceLT, Int.reduceEq, Int.reduceNe, reduceCtorEq, Nat.reduceLT, Nat.reduceLeDiff, h1, h2]
  have hnl : a.n.length = b.n.length := by omega
  have h1 : (a.n.length : Int) = b.n.length := by omega
  simp only [go_sem, Nat.reduceMod, Nat.reduceBNe, Nat.reduceBEq, Nat.reduceEqDiff, Nat.reduceAdd, Int.reduceAdd, Nat.reduceMul, Nat.reduceSub, Int.reduceToNat, Int.reduceLE, Int.reduceLT, Int.reduceEq, Int.reduceNe, reduceCtorEq, Nat.reduceLT, Nat.reduceLeDiff, h1]
  refine ⟨fun h => ?_, fun h => ?_⟩
  · have h2 : sameT a b = false := sameT_ne fun e => h (by rw [e])
    rw [h2]
  have hcl : a.c.length = b.c.length := by omega
  refine w_loop' hs.hm (ι := Nat) (fun i => i ≤ a.n.length ∧ ∀ j, j < i → a.n.getD j [] = b.n.getD j []) (fun i => [(5, .int .i64 i), (2, .ptr 0 0), (3, .ptr 1 0)]) (fun _ => [.box [lst AV.str .ro a.n, lst arrV .ro a.c], .box [lst AV.str .ro b.n, lst arrV .ro b.c]]) (fun i => a.n.length - i) 0 ?_ fun i hi => ?_
  · simp only [go_sem, Nat.reduceMod, Nat.reduceBNe, Nat.reduceBEq, Nat.reduceEqDiff, Nat.reduceAdd, Int.reduceAdd, Nat.reduceMul, Nat.reduceSub, Int.reduceToNat, Int.reduceLE, Int.reduceLT, Int.reduceEq, Int.reduceNe, reduceCtorEq, Nat.reduceLT, Nat.reduceLeDiff]
    exact ⟨Nat.zero_le _, fun j hj => absurd hj (Nat.not_lt_zero _)⟩
  obtain ⟨x1, x2⟩ := hi
  by_cases hi : i < a.n.length
  · have h3 : (i : Int) < a.n.length := by omega
    have h4 : (i : Int) < b.n.length := by omega
    have hw : IntKind.i64.wrap ((i : Int) + 1) = ((i + 1 : Nat) : Int) := by rw [wi64 (by omega)]; omega
    simp only [A_ref13_SameL0, go_sem, Nat.reduceMod, Nat.reduceBNe, Nat.reduceBEq, Nat.reduceEqDiff, Nat.reduceAdd, Int.reduceAdd, Nat.reduceMul, Nat.reduceSub, Int.reduceToNat, Int.reduceLE, Int.reduceLT, Int.reduceEq, Int.reduceNe, reduceCtorEq, Nat.reduceLT, Nat.reduceLeDiff, h3, h4, hw]
    refine ⟨by omega, by omega, fun h => ?_, fun h => ⟨i + 1, by omega, ⟨hi, fun j hj => ?_⟩, rfl⟩⟩
    · have h2 : sameT a b = false := sameT_ne fun e => h (by rw [e])
      rw [h2]
    · rcases (by omega : j = i ∨ j < i) with rfl | hj
      · exact h
      · exact x2 j hj
  have h3 : ¬ (i : Int) < a.n.length := by omega
  simp only [A_ref13_SameL0, go_sem, Nat.reduceMod, Nat.reduceBNe, Nat.reduceBEq, Nat.reduceEqDiff, Nat.reduceAdd, Int.reduceAdd, Nat.reduceMul, Nat.reduceSub, Int.reduceToNat, Int.reduceLE, Int.reduceLT, Int.reduceEq, Int.reduceNe, reduceCtorEq, Nat.reduceLT, Nat.reduceLeDiff, h3]
  have en : a.n = b.n := ext_getD [] hnl fun j hj => x2 j (by omega)
  clear x1 x2 hi h3
  refine w_loop' hs.hm (ι := Nat × Heap) (fun x => x.1 ≤ a.c.length ∧ ∀ j, j < x.1 → sameA (a.col j) (b.col j) = true) (fun x => [(6, .int .i64 x.1), (2, .ptr 0 0), (3, .ptr 1 0)]) (fun x => .box [lst AV.str .ro a.n, lst arrV .ro a.c] :: .box [lst AV.str .ro b.n, lst arrV .ro b.c] :: x.2) (fun x => a.c.length - x.1) (0, []) ?_ fun x hx => ?_
  · simp only [go_sem, Nat.reduceMod, Nat.reduceBNe, Nat.reduceBEq, Nat.reduceEqDiff, Nat.reduceAdd, Int.reduceAdd, Nat.reduceMul, Nat.reduceSub, Int.reduceToNat, Int.reduceLE, Int.reduceLT, Int.reduceEq, Int.reduceNe, reduceCtorEq, Nat.reduceLT, Nat.reduceLeDiff]
    exact ⟨Nat.zero_le _, fun j hj => absurd hj (Nat.not_lt_zero _)⟩
  obtain ⟨k, G⟩ := x
  obtain ⟨x1, x2⟩ := hx
  dsimp only at x1 x2 ⊢
  by_cases hk : k < a.c.length
  · have h3 : (k : Int) < a.c.length := by omega
    have h4 : (k : Int) < b.c.length := by omega
    have hw : IntKind.i64.wrap ((k : Int) + 1) = ((k + 1 : Nat) : Int) := by rw [wi64 (by omega)]; omega
    simp only [A_ref13_SameL1, go_sem, Nat.reduceMod, Nat.reduceBNe, Nat.reduceBEq, Nat.reduceEqDiff, Nat.reduceAdd, Int.reduceAdd, Nat.reduceMul, Nat.reduceSub, Int.reduceToNat, Int.reduceLE, Int.reduceLT, Int.reduceEq, Int.reduceNe, reduceCtorEq, Nat.reduceLT, Nat.reduceLeDiff, h3, h4, hw]
    rw [col_eq a k hk, col_eq b k (by omega)]
    simp only [arr_cells, go_sem, Nat.reduceMod, Nat.reduceBNe, Nat.reduceBEq, Nat.reduceEqDiff, Nat.reduceAdd, Int.reduceAdd, Nat.reduceMul, Nat.reduceSub, Int.reduceToNat, Int.reduceLE, Int.reduceLT, Int.reduceEq, Int.reduceNe, reduceCtorEq, Nat.reduceLT, Nat.reduceLeDiff]
    refine ⟨by omega, by omega, callq_ev (ev_same6 hX hs (a.col k) (b.col k) (hl _ (col_mem hk))) ?_⟩
    cases hq : sameA (a.col k) (b.col k) with
    | false =>
      simp only [go_sem, Nat.reduceMod, Nat.reduceBNe, Nat.reduceBEq, Nat.reduceEqDiff, Nat.reduceAdd, Int.reduceAdd, Nat.reduceMul, Nat.reduceSub, Int.reduceToNat, Int.reduceLE, Int.reduceLT, Int.reduceEq, Int.reduceNe, reduceCtorEq, Nat.reduceLT, Nat.reduceLeDiff]
      have h2 : sameT a b = false := sameT_ne fun e => by rw [e, sameA_refl] at hq; cases hq
      rw [h2]
    | true =>
      simp only [go_sem, Nat.reduceMod, Nat.reduceBNe, Nat.reduceBEq, Nat.reduceEqDiff, Nat.reduceAdd, Int.reduceAdd, Nat.reduceMul, Nat.reduceSub, Int.reduceToNat, Int.reduceLE, Int.reduceLT, Int.reduceEq, Int.reduceNe, reduceCtorEq, Nat.reduceLT, Nat.reduceLeDiff]
      exact ⟨(k + 1, _), by dsimp only; omega, ⟨hk, fun j hj => by
        dsimp only at hj
        rcases (by omega : j = k ∨ j < k) with rfl | hj
        · exact hq
        · exact x2 j hj⟩, by rw [hw], rfl⟩
  · have h3 : ¬ (k : Int) < a.c.length := by omega
    simp only [A_ref13_SameL1, go_sem, Nat.reduceMod, Nat.reduceBNe, Nat.reduceBEq, Nat.reduceEqDiff, Nat.reduceAdd, Int.reduceAdd, Nat.reduceMul, Nat.reduceSub, Int.reduceToNat, Int.reduceLE, Int.reduceLT, Int.reduceEq, Int.reduceNe, reduceCtorEq, Nat.reduceLT, Nat.reduceLeDiff, h3]
    have h2 : sameT a b = true := sameT_iff.2 (by
      obtain ⟨n, c⟩ := a
      obtain ⟨n', c'⟩ := b
      exact Tab.mk.injEq .. ▸ ⟨en, ext_getD default hcl fun j hj => sameA_iff.1 (x2 j (by dsimp only at hk hj ⊢; omega))⟩)
    rw [h2]
theorem ev_Far (t : Tab) (hl : ∀ x ∈ t.c, x.c.length ≤ 140737488355328) : Ev X F_law13_Far [tabV t] (.bool (farT t)) := by
  refine ev_of_wpc hs (A_law13_Far_ok hX) 0 ?_
  simp only [A_law13_Far, tabV, go_sem, Nat.reduceMod, Nat.reduceBNe, Nat.reduceBEq, Nat.reduceEqDiff, Nat.reduceAdd, Int.reduceAdd, Nat.reduceMul, Nat.reduceSub, Int.reduceToNat, Int.reduceLE, Int.reduceLT, Int.reduceEq, Int.reduceNe, reduceCtorEq, Nat.reduceLT, Nat.reduceLeDiff]
  have bound : ∀ i, i ≤ t.c.length → cellsN t i ≤ i * 140737488355328 := fun i => by
    induction i with
    | zero => intro _; simp [cellsN]
    | succ i ih =>
      intro h
      have := ih (by omega)
      have h2 := hl _ (col_mem (show i < t.c.length by omega))
      rw [cellsN_succ (by omega)]
      omega
  refine w_loop' hs.hm (ι := Nat) (fun i => i ≤ t.c.length ∧ i ≤ 30) (fun i => [(4, .int .i64 i), (3, .int .i64 (cellsN t i)), (1, .ptr 0 0)]) (fun _ => [.box [lst AV.str .ro t.n, lst arrV .ro t.c]]) (fun i => t.c.length - i) 0 ?_ fun i hi => ?_
  · simp only [go_sem, Nat.reduceMod, Nat.reduceBNe, Nat.reduceBEq, Nat.reduceEqDiff, Nat.reduceAdd, Int.reduceAdd, Nat.reduceMul, Nat.reduceSub, Int.reduceToNat, Int.reduceLE, Int.reduceLT, Int.reduceEq, Int.reduceNe, reduceCtorEq, Nat.reduceLT, Nat.reduceLeDiff]
    exact ⟨Nat.zero_le _, rfl⟩
  obtain ⟨x1, x2⟩ := hi
  by_cases hi : i < t.c.length ∧ i < 30
  · have h1 : (i : Int) < t.c.length := by omega
    have h2 : (i : Int) < 30 := by omega
    have hb := bound (i + 1) (by omega)
    have hcs := cellsN_succ hi.1
    have hw : IntKind.i64.wrap ((i : Int) + 1) = ((i + 1 : Nat) : Int) := by rw [wi64 (by omega)]; omega
    have hw2 : IntKind.i64.wrap ((cellsN t i : Int) + ((t.col i).c.length : Int)) = ((cellsN t (i + 1) : Nat) : Int) := by rw [wi64 (by omega)]; omega
    simp only [A_law13_FarL0, go_sem, Nat.reduceMod, Nat.reduceBNe, Nat.reduceBEq, Nat.reduceEqDiff, Nat.reduceAdd, Int.reduceAdd, Nat.reduceMul, Nat.reduceSub, Int.reduceToNat, Int.reduceLE, Int.reduceLT, Int.reduceEq, Int.reduceNe, reduceCtorEq, Nat.reduceLT, Nat.reduceLeDiff, h1, h2, hw, arr_cells]
    rw [col_eq t i hi.1, hw2]
    exact ⟨by omega, i + 1, by omega, ⟨by omega, by omega⟩, rfl, rfl⟩
  have ei : i = min t.c.length 30 := by omega
  have key : ∀ P : Prop, (P ↔ True) → P := fun P h => h.2 trivial
  by_cases h1 : (i : Int) < t.c.length
  all_goals
    simp only [A_law13_FarL0, go_sem, Nat.reduceMod, Nat.reduceBNe, Nat.reduceBEq, Nat.reduceEqDiff, Nat.reduceAdd, Int.reduceAdd, Nat.reduceMul, Nat.reduceSub, Int.reduceToNat, Int.reduceLE, Int.reduceLT, Int.reduceEq, Int.reduceNe, reduceCtorEq, Nat.reduceLT, Nat.reduceLeDiff, h1]
  all_goals
    try (have h2 : ¬ (i : Int) < 30 := by omega
         simp only [go_sem, Nat.reduceMod, Nat.reduceBNe, Nat.reduceBEq, Nat.reduceEqDiff, Nat.reduceAdd, Int.reduceAdd, Nat.reduceMul, Nat.reduceSub, Int.reduceToNat, Int.reduceLE, Int.reduceLT, Int.reduceEq, Int.reduceNe, reduceCtorEq, Nat.reduceLT, Nat.reduceLeDiff, h2])
  all_goals
    refine w_loop' hs.hm (ι := Nat) (fun j => (j ≤ t.n.length ∧ j ≤ 30) ∧ ∀ k, k < j → longN t k = false) (fun j => [(5, .int .i64 j), (3, .int .i64 (cellsN t i)), (1, .ptr 0 0)]) (fun _ => [.box [lst AV.str .ro t.n, lst arrV .ro t.c]]) (fun j => t.n.length - j) 0 ?_ fun j hj => ?_
    · simp only [go_sem, Nat.reduceMod, Nat.reduceBNe, Nat.reduceBEq, Nat.reduceEqDiff, Nat.reduceAdd, Int.reduceAdd, Nat.reduceMul, Nat.reduceSub, Int.reduceToNat, Int.reduceLE, Int.reduceLT, Int.reduceEq, Int.reduceNe, reduceCtorEq, Nat.reduceLT, Nat.reduceLeDiff]
      exact ⟨Nat.zero_le _, fun j hj => absurd hj (Nat.not_lt_zero _)⟩
    obtain ⟨⟨y1, y2⟩, y3⟩ := hj
    by_cases hj : j < t.n.length ∧ j < 30
    · have h3 : (j : Int) < t.n.length := by omega
      have h4 : (j : Int) < 30 := by omega
      have hw : IntKind.i64.wrap ((j : Int) + 1) = ((j + 1 : Nat) : Int) := by rw [wi64 (by omega)]; omega
      simp only [A_law13_FarL1, go_sem, Nat.reduceMod, Nat.reduceBNe, Nat.reduceBEq, Nat.reduceEqDiff, Nat.reduceAdd, Int.reduceAdd, Nat.reduceMul, Nat.reduceSub, Int.reduceToNat, Int.reduceLE, Int.reduceLT, Int.reduceEq, Int.reduceNe, reduceCtorEq, Nat.reduceLT, Nat.reduceLeDiff, h3, h4, hw]
      rw [nm_eq t j hj.1]
      refine ⟨by omega, fun h => ?_, fun h => ⟨j + 1, by omega, ⟨⟨by omega, by omega⟩, fun k hk => ?_⟩, rfl⟩⟩
      · have : farT t = true := by
          unfold farT
          rw [Lat.ff_some (p := longN t) (show j < min t.n.length 30 by omega) (by simp only [longN, decide_eq_true_eq]; omega) y3]
          rfl
        rw [this]
      · rcases (by omega : k = j ∨ k < j) with rfl | hk
        · simp only [longN, decide_eq_false_iff_not]; omega
        · exact y3 k hk
    have ej : j = min t.n.length 30 := by omega
    have hf : farT t = (decide (1000 < cellsN t i) || decide (20 < t.n.length) || decide (20 < t.c.length)) := by
      unfold farT
      rw [Lat.ff_none (p := longN t) (n := min t.n.length 30) fun k hk => y3 k (by omega), ← ei]
      rfl
    rw [hf]
    by_cases h3 : (j : Int) < t.n.length
    all_goals
      simp only [A_law13_FarL1, go_sem, Nat.reduceMod, Nat.reduceBNe, Nat.reduceBEq, Nat.reduceEqDiff, Nat.reduceAdd, Int.reduceAdd, Nat.reduceMul, Nat.reduceSub, Int.reduceToNat, Int.reduceLE, Int.reduceLT, Int.reduceEq, Int.reduceNe, reduceCtorEq, Nat.reduceLT, Nat.reduceLeDiff, h3]
    all_goals
      try (have h4 : ¬ (j : Int) < 30 := by omega
           simp only [go_sem, Nat.reduceMod, Nat.reduceBNe, Nat.reduceBEq, Nat.reduceEqDiff, Nat.reduceAdd, Int.reduceAdd, Nat.reduceMul, Nat.reduceSub, Int.reduceToNat, Int.reduceLE, Int.reduceLT, Int.reduceEq, Int.reduceNe, reduceCtorEq, Nat.reduceLT, Nat.reduceLeDiff, h4])
    all_goals grind
end
end Go.Avm
