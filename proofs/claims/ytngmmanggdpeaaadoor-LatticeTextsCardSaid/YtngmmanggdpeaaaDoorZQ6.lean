/- Clone, row, Dual. -/
import Derived.Test.YtngmmanggdpeaaaDoorZQ4
import Derived.Test.YtngmmanggdpeaaaDoorZG2
import Derived.Test.YtngmmanggdpeaaaDoorZB
import Derived.Shelf.Strings.Search1
import Derived.Shelf.Strings.Search2
import Derived.Shelf.Strings.Search3
import Derived.Shelf.Strings.Count
set_option linter.unusedSectionVars false
set_option linter.unusedSimpArgs false
set_option linter.unusedVariables false

/- Clone, row, Dual. -/
namespace Go.Avm
open Go
theorem ev_dry {X : Cx} {f : Nat} {args : List AV} {r : AV} (h : Ev X f args r) : Ev X f args (dry r) :=
  ev_weak h fun g w v hr => Rel.mono (g := g.flat) (w := w) (g' := g) (w' := w) _ ⟨fun _ _ h => ⟨h, rfl⟩, (fun _ _ e => nomatch e), (fun _ _ e => nomatch e)⟩ (dry_rel _ hr)
/-- the program's row: what is returned beside false -/
def rowW (s : List UInt8) (n : Nat) : Nat := if s.length ≤ n ∧ s.all Lat.dgB = true then Lat.rowV s s.length else 0
theorem rowW_ok {s : List UInt8} {n : Nat} (h : Lat.rowOk s n = true) : rowW s n = Lat.rowV s n := by
  simp only [Lat.rowOk, Bool.and_eq_true, decide_eq_true_eq] at h
  rw [rowW, if_pos ⟨by omega, h.2⟩, h.1]
set_option maxRecDepth 10000
section
variable {X : Cx} (hX : X.P = Go.Proofs.Tryd.prog) (hs : Std X)
include hX hs
theorem ev_Clone (l : List (List UInt8)) (h0 : l ≠ []) (hl : l.length < 1000000) : Ev X F_slices_Clone_string_string [lst AV.str .ro l] (lst AV.str .ro l) := by
  refine ev_of_wpc hs (A_slices_Clone_string_string_ok hX) 1 ?_
  simp only [A_slices_Clone_string_string, go_sem, Nat.reduceMod, Nat.reduceBNe, Nat.reduceBEq, Nat.reduceEqDiff, Nat.reduceAdd, Int.reduceAdd, Nat.reduceMul, Nat.reduceSub, Int.reduceToNat, Int.reduceLE, Int.reduceLT, Int.reduceEq, Int.reduceNe, reduceCtorEq, Nat.reduceLT, Nat.reduceLeDiff]
  refine ⟨by cases l with | nil => exact absurd rfl h0 | cons _ _ => rfl, by omega, by omega⟩
theorem ev_row (s : List UInt8) (n : Nat) (h8 : n ≤ 8) (hl : s.length < 1000000) : Ev X F_lattice_row [.str s, .int .i64 n] (.tuple [.int .u8 (rowW s n : Nat), .bool (Lat.rowOk s n)]) := by
  refine ev_of_wpc hs (A_lattice_row_ok hX) 1 ?_
  simp only [A_lattice_row, go_sem, Nat.reduceMod, Nat.reduceBNe, Nat.reduceBEq, Nat.reduceEqDiff, Nat.reduceAdd, Int.reduceAdd, Nat.reduceMul, Nat.reduceSub, Int.reduceToNat, Int.reduceLE, Int.reduceLT, Int.reduceEq, Int.reduceNe, reduceCtorEq, Nat.reduceLT, Nat.reduceLeDiff]
  refine ⟨by omega, ?_⟩
  refine w_loop' hs.hm (ι := Nat) (fun i => i ≤ s.length ∧ (s.take i).all Lat.dgB = true ∧ i ≤ n) (fun i => [(12, .int .i64 i), (11, .int .i64 s.length), (10, lst u8 .ro s), (6, .int .u8 (Lat.rowV s i)), (0, .str s), (1, .int .i64 n)]) (fun _ => []) (fun i => s.length - i) 0 ?_ fun i hi => ?_
  · simp only [go_sem, Nat.reduceMod, Nat.reduceBNe, Nat.reduceBEq, Nat.reduceEqDiff, Nat.reduceAdd, Int.reduceAdd, Nat.reduceMul, Nat.reduceSub, Int.reduceToNat, Int.reduceLE, Int.reduceLT, Int.reduceEq, Int.reduceNe, reduceCtorEq, Nat.reduceLT, Nat.reduceLeDiff, List.length_map]
    exact ⟨⟨Nat.zero_le _, Nat.zero_le _⟩, rfl, rfl⟩
  · obtain ⟨i1, i2, i3⟩ := hi
    have key : i < s.length → (s.getD i 0).toNat = 48 ∨ (s.getD i 0).toNat = 49 → (s.take (i + 1)).all Lat.dgB = true := fun hi h => Lat.all_take i2 hi (by simp only [Lat.dgB]; rcases h with h | h <;> simp only [h] <;> rfl)
    have hno : i < s.length → ¬ ((s.getD i 0).toNat : Int) = 48 → ¬ ((s.getD i 0).toNat : Int) = 49 → s.all Lat.dgB = false := fun hi h1 h2 => Lat.all_no (i := i) hi (by simp only [Lat.dgB, show ¬ (s.getD i 0).toNat = 48 by omega, show ¬ (s.getD i 0).toNat = 49 by omega, decide_false, Bool.or_self])
    have n1 : i < s.length → i < n → ((s.getD i 0).toNat : Int) = 49 → ∃ j, s.length - j < s.length - i ∧ (j ≤ s.length ∧ (s.take j).all Lat.dgB = true ∧ j ≤ n) ∧ AV.int .i64 (IntKind.i64.wrap (i + 1)) = AV.int .i64 j ∧ AV.int .u8 (bits .or .u8 (Lat.rowV s i) (IntKind.u8.wrap (IntKind.u8.wrap (((s.getD i 0).toNat : Int) - 48) * 2 ^ min i 8))) = AV.int .u8 (Lat.rowV s j) := fun hi hn h => by
      refine ⟨i + 1, by omega, ⟨by omega, key hi (by omega), by omega⟩, by rw [wi64 (by omega)]; rfl, ?_⟩
      rw [h, show IntKind.u8.wrap (49 - 48) = 1 from by decide, shl8 (by omega), bu_or (Lat.rowV_lt8 s (by omega)) (nat8 (n := 8) (by omega) _ (by rw [Nat.one_shiftLeft]; exact Nat.pow_lt_pow_right (by omega) (by omega)))]
      simp only [Lat.rowV, show (s.getD i 0).toNat = 49 by omega, decide_true, if_true]
    have n0 : i < s.length → i < n → ((s.getD i 0).toNat : Int) = 48 → ∃ j, s.length - j < s.length - i ∧ (j ≤ s.length ∧ (s.take j).all Lat.dgB = true ∧ j ≤ n) ∧ AV.int .i64 (IntKind.i64.wrap (i + 1)) = AV.int .i64 j ∧ AV.int .u8 (bits .or .u8 (Lat.rowV s i) (IntKind.u8.wrap (IntKind.u8.wrap (((s.getD i 0).toNat : Int) - 48) * 2 ^ min i 8))) = AV.int .u8 (Lat.rowV s j) := fun hi hn h => by
      refine ⟨i + 1, by omega, ⟨by omega, key hi (by omega), by omega⟩, by rw [wi64 (by omega)]; rfl, ?_⟩
      rw [h, show IntKind.u8.wrap (48 - 48) = 0 from by decide, Int.zero_mul, show IntKind.u8.wrap 0 = ((0 : Nat) : Int) from by decide, bu_or (Lat.rowV_lt8 s (by omega)) (by decide)]
      simp only [Lat.rowV, show ¬ (s.getD i 0).toNat = 49 by omega, decide_false, Bool.false_eq_true, if_false]
    simp only [A_lattice_rowL0, go_sem, Nat.reduceMod, Nat.reduceBNe, Nat.reduceBEq, Nat.reduceEqDiff, Nat.reduceAdd, Int.reduceAdd, Nat.reduceMul, Nat.reduceSub, Int.reduceToNat, Int.reduceLE, Int.reduceLT, Int.reduceEq, Int.reduceNe, reduceCtorEq, Nat.reduceLT, Nat.reduceLeDiff]
    refine ⟨fun c => ⟨⟨by omega, c⟩, fun cn => ?_, fun cn => ⟨fun x => ⟨fun y => ?_, fun y => ⟨by omega, n1 (by omega) (by omega) y⟩⟩, fun x => ⟨by omega, n0 (by omega) (by omega) x⟩⟩⟩, fun c => ?_⟩
    · have e1 : ¬ s.length ≤ n := by omega
      have e2 : ¬ s.length = n := by omega
      simp [rowW, Lat.rowOk, e1, e2]
    · have e1 := hno (by omega) x y
      simp [rowW, Lat.rowOk, e1]
    · obtain rfl : i = s.length := by omega
      rw [List.take_length] at i2
      have e : decide ((s.length : Int) = n) = decide (s.length = n) := by simp only [Int.ofNat_inj]
      simp only [rowW, Lat.rowOk, i2, i3, and_self, if_true, Bool.and_true, e]
end
end Go.Avm

/- Make. -/
namespace Go.Avm
open Go
theorem ev_of_wpcd {X : Cx} (hs : Std X) {f : FuncId} {hint : Nat → Bool} {af : AFun} (hc : compileFun X.P f hint = some af) {args : List AV} {r : AV} (k : Nat)
    (h : wpc X af.n af.code (kq X af.n (RetIs af.res fun r' H' => dry (fin H' k r') = r) []) (FL.get (args.zipIdx.map fun p => (p.2, p.1))) []) : Ev X f args r := by
  have h0 := (evM_of_wpc hs hc h).evF
  exact ⟨h0.1, fun g w vs h1 h2 h3 => (h0.2 g w vs h1 h2 h3).mono fun e w' ⟨v, r', g', H', k1, k2, k3, k4, k5, k6⟩ => by
    subst k6
    exact ⟨v, _, finG g' w', [], k1, finG_flat ▸ dry_rel _ (fin_rel k4 k r' k2), finG_wf k3, hr_nil (fun _ => rfl) (fun _ => rfl) (fun _ => rfl), k5.trans finG_ext, rfl, rfl⟩⟩
theorem lt1 {P : Nat → Prop} {i : Nat} (h : ∀ j, j < i → P j) (hi : P i) : ∀ j, j < i + 1 → P j := fun j hj => by
  by_cases e : j = i
  · rw [e]; exact hi
  · exact h j (by omega)
/-- the numbers of rows -/
def upsOf (rows : List (List UInt8)) (n : Nat) : List UInt8 := rows.map fun s => UInt8.ofNat (Lat.rowV s n)
/-- Make: the place and the error -/
def mkE (ns rows : List (List UInt8)) : Int × Int :=
  if (ns.length < 1 ∨ 8 < ns.length) ∨ rows.length ≠ ns.length then (-1, 3)
  else match Lat.ff rows.length fun i => !Lat.rowOk (rows.getD i []) ns.length with
    | some i => ((i : Int), 6)
    | none => Lat.checkS ns (upsOf rows ns.length)
theorem mkE_0 {ns rows : List (List UInt8)} (h : (ns.length < 1 ∨ 8 < ns.length) ∨ rows.length ≠ ns.length) : mkE ns rows = (-1, 3) := if_pos h
theorem mkE_b {ns rows : List (List UInt8)} {i : Nat} (h : ¬ ((ns.length < 1 ∨ 8 < ns.length) ∨ rows.length ≠ ns.length)) (hi : i < rows.length) (hb : Lat.rowOk (rows.getD i []) ns.length = false) (hj : ∀ j, j < i → Lat.rowOk (rows.getD j []) ns.length = true) : mkE ns rows = ((i : Int), 6) := by
  rw [mkE, if_neg h, Lat.ff_some hi (by simp only [hb, Bool.not_false]) fun j hj' => by simp only [hj j hj', Bool.not_true]]
theorem mkE_k {ns rows : List (List UInt8)} (h : ¬ ((ns.length < 1 ∨ 8 < ns.length) ∨ rows.length ≠ ns.length)) (hj : ∀ j, j < rows.length → Lat.rowOk (rows.getD j []) ns.length = true) : mkE ns rows = Lat.checkS ns (upsOf rows ns.length) := by
  rw [mkE, if_neg h, Lat.ff_none fun j hj' => by simp only [hj j hj', Bool.not_true]]
theorem upsOf_take {rows : List (List UInt8)} {n i : Nat} (hi : i < rows.length) : (upsOf rows n).take i ++ [UInt8.ofNat (Lat.rowV (rows.getD i []) n)] = (upsOf rows n).take (i + 1) := by
  have hl : i < (upsOf rows n).length := by simpa [upsOf] using hi
  rw [List.take_add_one, List.getElem?_eq_getElem hl]
  simp [upsOf, List.getD, hi]
theorem chk0 {ns : List (List UInt8)} {up : List UInt8} (h : (Lat.checkS ns up).2 = 0) : Lat.checkS ns up = (0, 0) := (Lat.checkS_val h).2.check (Lat.checkS_val h).1
def mkV (ns rows : List (List UInt8)) : AV := .tuple [latV (if (mkE ns rows).2 = 0 then ns else []) (if (mkE ns rows).2 = 0 then upsOf rows ns.length else []), .int .i64 (mkE ns rows).1, .int .i64 (mkE ns rows).2]
theorem mkV_no {ns rows : List (List UInt8)} {a b : Int} (h : mkE ns rows = (a, b)) (hb : b ≠ 0) : AV.tuple [.agg [.sl .ro [], .sl .ro []], .int .i64 a, .int .i64 b] = mkV ns rows := by
  simp only [mkV, h, if_neg hb]
  rfl
set_option maxRecDepth 10000
section
variable {X : Cx} (hX : X.P = Go.Proofs.Tryd.prog) (hs : Std X)
include hX hs
theorem ev_Make (ns rows : List (List UInt8)) (hr : ∀ i, i < rows.length → (rows.getD i []).length < 1000000) : Ev X F_lattice_Make [lst AV.str .ro ns, lst AV.str .ro rows] (mkV ns rows) := by
  refine ev_of_wpcd hs (A_lattice_Make_ok hX) 1 ?_
  simp only [A_lattice_Make, go_sem, Nat.reduceMod, Nat.reduceBNe, Nat.reduceBEq, Nat.reduceEqDiff, Nat.reduceAdd, Int.reduceAdd, Nat.reduceMul, Nat.reduceSub, Int.reduceToNat, Int.reduceLE, Int.reduceLT, Int.reduceEq, Int.reduceNe, reduceCtorEq, Nat.reduceLT, Nat.reduceLeDiff]
  have e0 : ((ns.length < 1 ∨ 8 < ns.length) ∨ rows.length ≠ ns.length) → AV.tuple [.agg [.sl .ro [], .sl .ro []], .int .i64 (-1), .int .i64 3] = mkV ns rows := fun h => mkV_no (mkE_0 h) (by decide)
  refine ⟨fun h => e0 (by omega), fun h1 => ⟨fun h => e0 (by omega), fun h2 => ⟨fun h => e0 (by omega), fun h3 => ?_⟩⟩⟩
  have h8 : ns.length ≤ 8 := by omega
  have h0 : 0 < ns.length := by omega
  have hrl : rows.length = ns.length := by omega
  have hok : ¬ ((ns.length < 1 ∨ 8 < ns.length) ∨ rows.length ≠ ns.length) := by omega
  refine call_ev (ev_Clone hX hs ns (by intro e; rw [e] at h0; exact absurd h0 (by decide)) (by omega)) ?_
  simp only [go_sem, Nat.reduceMod, Nat.reduceBNe, Nat.reduceBEq, Nat.reduceEqDiff, Nat.reduceAdd, Int.reduceAdd, Nat.reduceMul, Nat.reduceSub, Int.reduceToNat, Int.reduceLE, Int.reduceLT, Int.reduceEq, Int.reduceNe, reduceCtorEq, Nat.reduceLT, Nat.reduceLeDiff]
  refine w_loop hs.hm (ι := Nat) (fun i => i ≤ rows.length ∧ ∀ j, j < i → Lat.rowOk (rows.getD j []) ns.length = true) (fun i => [(34, .int .i64 i), (33, .int .i64 rows.length), (32, lst AV.str .ro rows), (4, .ptr 0 0), (0, lst AV.str .ro ns)]) (fun i => [.box [lst AV.str .ro ns, lst u8 (.tok 1 1) ((upsOf rows ns.length).take i)], .tok i]) (fun i => rows.length - i) 0 ⟨⟨Nat.zero_le _, no_lt0⟩, _, _, wk_tokb 0 1 1 rfl rfl, ⟨by simp only [go_sem, Nat.reduceMod, Nat.reduceBNe, Nat.reduceBEq, Nat.reduceEqDiff, Nat.reduceAdd, Int.reduceAdd, Nat.reduceMul, Nat.reduceSub, Int.reduceToNat, Int.reduceLE, Int.reduceLT, Int.reduceEq, Int.reduceNe, reduceCtorEq, Nat.reduceLT, Nat.reduceLeDiff], rfl⟩⟩ fun i hi => ?_
  obtain ⟨i1, i2⟩ := hi
  simp only [A_lattice_MakeL0, go_sem, Nat.reduceMod, Nat.reduceBNe, Nat.reduceBEq, Nat.reduceEqDiff, Nat.reduceAdd, Int.reduceAdd, Nat.reduceMul, Nat.reduceSub, Int.reduceToNat, Int.reduceLE, Int.reduceLT, Int.reduceEq, Int.reduceNe, reduceCtorEq, Nat.reduceLT, Nat.reduceLeDiff]
  refine ⟨fun c => ⟨⟨by omega, c⟩, ?_⟩, fun c => ?_⟩
  · have hi : i < rows.length := by omega
    refine call_ev (ev_row hX hs (rows.getD i []) ns.length h8 (hr i hi)) ?_
    cases hb : Lat.rowOk (rows.getD i []) ns.length with
    | false =>
      simp only [go_sem, Nat.reduceMod, Nat.reduceBNe, Nat.reduceBEq, Nat.reduceEqDiff, Nat.reduceAdd, Int.reduceAdd, Nat.reduceMul, Nat.reduceSub, Int.reduceToNat, Int.reduceLE, Int.reduceLT, Int.reduceEq, Int.reduceNe, reduceCtorEq, Nat.reduceLT, Nat.reduceLeDiff]
      exact mkV_no (mkE_b hok hi hb i2) (by decide)
    | true =>
      rw [rowW_ok hb]
      have tl : ((upsOf rows ns.length).take i).length = i := by rw [List.length_take]; simp [upsOf]; omega
      have hu : ((Lat.rowV (rows.getD i []) ns.length : Nat) : Int) = (((UInt8.ofNat (Lat.rowV (rows.getD i []) ns.length)).toNat : Nat) : Int) := by rw [UInt8.toNat_ofNat', Nat.mod_eq_of_lt (Lat.rowV_lt8 _ h8)]
      simp only [hu, tl, go_sem, Nat.reduceMod, Nat.reduceBNe, Nat.reduceBEq, Nat.reduceEqDiff, Nat.reduceAdd, Int.reduceAdd, Nat.reduceMul, Nat.reduceSub, Int.reduceToNat, Int.reduceLE, Int.reduceLT, Int.reduceEq, Int.reduceNe, reduceCtorEq, Nat.reduceLT, Nat.reduceLeDiff, upsOf_take hi]
      exact ⟨by omega, i + 1, by omega, ⟨by omega, lt1 i2 hb⟩, by rw [wi64 (by omega)]; rfl, rfl⟩
  · obtain rfl : i = rows.length := by omega
    have ht : (upsOf rows ns.length).take rows.length = upsOf rows ns.length := List.take_of_length_le (by simp [upsOf])
    rw [ht]
    refine call_ev (ev_Check hX hs ns (upsOf rows ns.length)) ?_
    have hk := mkE_k hok i2
    by_cases h : (Lat.checkS ns (upsOf rows ns.length)).2 = 0
    · rw [chk0 h] at hk ⊢
      simp only [go_sem, Nat.reduceMod, Nat.reduceBNe, Nat.reduceBEq, Nat.reduceEqDiff, Nat.reduceAdd, Int.reduceAdd, Nat.reduceMul, Nat.reduceSub, Int.reduceToNat, Int.reduceLE, Int.reduceLT, Int.reduceEq, Int.reduceNe, reduceCtorEq, Nat.reduceLT, Nat.reduceLeDiff]
      rw [mkV, hk]
      rfl
    · simp only [h, go_sem, Nat.reduceMod, Nat.reduceBNe, Nat.reduceBEq, Nat.reduceEqDiff, Nat.reduceAdd, Int.reduceAdd, Nat.reduceMul, Nat.reduceSub, Int.reduceToNat, Int.reduceLE, Int.reduceLT, Int.reduceEq, Int.reduceNe, reduceCtorEq, Nat.reduceLT, Nat.reduceLeDiff]
      exact mkV_no (by rw [hk]) h
theorem ev_rMake (ns rows : List (List UInt8)) : Ev X F_ref03_Make [lst AV.str .ro ns, lst AV.str .ro rows] (mkV ns rows) := by
  refine ev_of_wpcd hs (A_ref03_Make_ok hX) 1 ?_
  simp only [A_ref03_Make, go_sem, Nat.reduceMod, Nat.reduceBNe, Nat.reduceBEq, Nat.reduceEqDiff, Nat.reduceAdd, Int.reduceAdd, Nat.reduceMul, Nat.reduceSub, Int.reduceToNat, Int.reduceLE, Int.reduceLT, Int.reduceEq, Int.reduceNe, reduceCtorEq, Nat.reduceLT, Nat.reduceLeDiff]
  have e0 : ((ns.length < 1 ∨ 8 < ns.length) ∨ rows.length ≠ ns.length) → AV.tuple [.agg [.sl .ro [], .sl .ro []], .int .i64 (-1), .int .i64 3] = mkV ns rows := fun h => mkV_no (mkE_0 h) (by decide)
  refine ⟨fun h => e0 (by omega), fun h1 => ⟨fun h => e0 (by omega), fun h2 => ⟨fun h => e0 (by omega), fun h3 => ?_⟩⟩⟩
  have h8 : ns.length ≤ 8 := by omega
  have h0 : 0 < ns.length := by omega
  have hrl : rows.length = ns.length := by omega
  have hok : ¬ ((ns.length < 1 ∨ 8 < ns.length) ∨ rows.length ≠ ns.length) := by omega
  refine ⟨by omega, ?_⟩
  refine w_loop hs.hm (ι := Nat) (fun i => i ≤ rows.length ∧ ∀ j, j < i → Lat.rowOk (rows.getD j []) ns.length = true) (fun i => [(8, .int .i64 i), (7, .ptr 2 0), (4, .ptr 0 0), (1, lst AV.str .ro rows), (0, lst AV.str .ro ns)]) (fun i => [.box [.sl .ex [], .sl .ex []], .tok ns.length, .box [lst AV.str (.tok 1 1) ns, lst u8 (.tok 3 1) ((upsOf rows ns.length).take i)], .tok i]) (fun i => rows.length - i) 0 ⟨⟨Nat.zero_le _, no_lt0⟩, _, _, wk_tokb 2 1 1 rfl rfl, ⟨by simp only [go_sem, Nat.reduceMod, Nat.reduceBNe, Nat.reduceBEq, Nat.reduceEqDiff, Nat.reduceAdd, Int.reduceAdd, Nat.reduceMul, Nat.reduceSub, Int.reduceToNat, Int.reduceLE, Int.reduceLT, Int.reduceEq, Int.reduceNe, reduceCtorEq, Nat.reduceLT, Nat.reduceLeDiff], rfl⟩⟩ fun i hi => ?_
  obtain ⟨i1, i2⟩ := hi
  simp only [A_ref03_MakeL0, go_sem, Nat.reduceMod, Nat.reduceBNe, Nat.reduceBEq, Nat.reduceEqDiff, Nat.reduceAdd, Int.reduceAdd, Nat.reduceMul, Nat.reduceSub, Int.reduceToNat, Int.reduceLE, Int.reduceLT, Int.reduceEq, Int.reduceNe, reduceCtorEq, Nat.reduceLT, Nat.reduceLeDiff]
  refine ⟨fun c => ⟨⟨by omega, c⟩, ?_⟩, fun c => ?_⟩
  · have hi : i < rows.length := by omega
    refine call_ev (ev_rrow hX hs (rows.getD i []) ns.length h8) ?_
    cases hb : Lat.rowOk (rows.getD i []) ns.length with
    | false =>
      simp only [go_sem, Nat.reduceMod, Nat.reduceBNe, Nat.reduceBEq, Nat.reduceEqDiff, Nat.reduceAdd, Int.reduceAdd, Nat.reduceMul, Nat.reduceSub, Int.reduceToNat, Int.reduceLE, Int.reduceLT, Int.reduceEq, Int.reduceNe, reduceCtorEq, Nat.reduceLT, Nat.reduceLeDiff]
      exact mkV_no (mkE_b hok hi hb i2) (by decide)
    | true =>
      rw [if_pos rfl]
      have tl : ((upsOf rows ns.length).take i).length = i := by rw [List.length_take]; simp [upsOf]; omega
      have hu : ((Lat.rowV (rows.getD i []) ns.length : Nat) : Int) = (((UInt8.ofNat (Lat.rowV (rows.getD i []) ns.length)).toNat : Nat) : Int) := by rw [UInt8.toNat_ofNat', Nat.mod_eq_of_lt (Lat.rowV_lt8 _ h8)]
      simp only [hu, tl, go_sem, Nat.reduceMod, Nat.reduceBNe, Nat.reduceBEq, Nat.reduceEqDiff, Nat.reduceAdd, Int.reduceAdd, Nat.reduceMul, Nat.reduceSub, Int.reduceToNat, Int.reduceLE, Int.reduceLT, Int.reduceEq, Int.reduceNe, reduceCtorEq, Nat.reduceLT, Nat.reduceLeDiff, upsOf_take hi]
      exact ⟨by omega, i + 1, by omega, ⟨by omega, lt1 i2 hb⟩, by rw [wi64 (by omega)]; rfl, rfl⟩
  · obtain rfl : i = rows.length := by omega
    have ht : (upsOf rows ns.length).take rows.length = upsOf rows ns.length := List.take_of_length_le (by simp [upsOf])
    rw [ht]
    refine call_ev (ev_rCheck hX hs ns (upsOf rows ns.length)) ?_
    have hk := mkE_k hok i2
    by_cases h : (Lat.checkS ns (upsOf rows ns.length)).2 = 0
    · rw [chk0 h] at hk ⊢
      simp only [go_sem, Nat.reduceMod, Nat.reduceBNe, Nat.reduceBEq, Nat.reduceEqDiff, Nat.reduceAdd, Int.reduceAdd, Nat.reduceMul, Nat.reduceSub, Int.reduceToNat, Int.reduceLE, Int.reduceLT, Int.reduceEq, Int.reduceNe, reduceCtorEq, Nat.reduceLT, Nat.reduceLeDiff]
      rw [mkV, hk]
      rfl
    · simp only [h, go_sem, Nat.reduceMod, Nat.reduceBNe, Nat.reduceBEq, Nat.reduceEqDiff, Nat.reduceAdd, Int.reduceAdd, Nat.reduceMul, Nat.reduceSub, Int.reduceToNat, Int.reduceLE, Int.reduceLT, Int.reduceEq, Int.reduceNe, reduceCtorEq, Nat.reduceLT, Nat.reduceLeDiff]
      exact mkV_no (by rw [hk]) h
end
end Go.Avm

/- Counting and searching a byte, at this seat's numbers. -/
namespace Go.Avm
open Go Go.Proofs Go.Shelf
def sRen : Ren where
  f := fun x => match x with | 138 => 65 | 195 => 74 | 218 => 75 | 143 => 76 | 219 => 84 | 217 => 93 | 225 => 94 | 224 => 95 | 267 => 96 | 266 => 101 | 314 => 102 | n => n
  t := fun x => match x with | 9 => 9 | 3 => 3 | 4 => 4 | 5 => 5 | 0 => 0 | 46 => 77 | 146 => 119 | 51 => 118 | n => n
  g := fun x => match x with | 1 => 0 | n => n
theorem sLays219 : Lays.n219 Go.Proofs.Tryd.prog sRen := by
  constructor <;> first | kernel_rfl | (intro w; kernel_rfl)
theorem sLays138 : Lays.n138 Go.Proofs.Tryd.prog sRen := by
  constructor <;> first | kernel_rfl | (intro w; kernel_rfl)
theorem one_str {s : ByteArray} {c : UInt8} (h : s.data.toList = [c]) : s = ⟨#[c]⟩ := by
  cases s with
  | mk d =>
    congr
    exact Array.toList_inj.1 h
section
variable {X : Cx} (hX : X.P = Go.Proofs.Tryd.prog)
include hX
theorem ev_CountB (s : List UInt8) (c : UInt8) : Ev X F_strings_Count [.str s, .str [c]] (.int .i64 (s.count c : Nat)) := by
  refine ⟨⟨Go.Proofs.Tryd.f65, by rw [hX]; exact Go.Proofs.Tryd.func65, by decide, by kernel_rfl⟩, fun g w vs hwf hhr hvs => ?_⟩
  simp only [RelL, Rel] at hvs
  obtain ⟨v1, r1, rfl, ⟨s1, rfl, h1⟩, v2, r2, rfl, ⟨s2, rfl, h2⟩, rfl⟩ := hvs
  have e2 := one_str h2
  subst e2
  rw [hX]
  refine (Any.strings_Count_one sLays138 s1 c w).mono ?_
  rintro e w' ⟨rfl, rfl⟩
  exact ⟨_, _, g, [], rfl, by simp only [Rel, Lib.countByte, h1], hwf, hhr, Ext.refl _ _, rfl, rfl⟩
theorem ev_IndexB (s : List UInt8) (c : UInt8) : Ev X F_stringslite_Index [.str s, .str [c]] (.int .i64 (Lib.indexByte s c)) := by
  refine ⟨⟨Go.Proofs.Tryd.f84, by rw [hX]; exact Go.Proofs.Tryd.func84, by decide, by kernel_rfl⟩, fun g w vs hwf hhr hvs => ?_⟩
  simp only [RelL, Rel] at hvs
  obtain ⟨v1, r1, rfl, ⟨s1, rfl, h1⟩, v2, r2, rfl, ⟨s2, rfl, h2⟩, rfl⟩ := hvs
  have e2 := one_str h2
  subst e2
  rw [hX]
  refine (Any.stringslite_Index_one sLays219 s1 c w).mono ?_
  rintro e w' ⟨rfl, rfl⟩
  exact ⟨_, _, g, [], rfl, by simp only [Rel, h1], hwf, hhr, Ext.refl _ _, rfl, rfl⟩
end
end Go.Avm
