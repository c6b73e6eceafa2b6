/- Clone, row, Dual. -/
import Derived.Test.YtngmmanggdpeaaaDoorXQ4
set_option linter.unusedSectionVars false
set_option linter.unusedSimpArgs false
set_option linter.unusedVariables false

/- Clone, row, Dual. -/
namespace Go.Avm
open Go
theorem ev_dry {X : Cx} {f : Nat} {args : List AV} {r : AV} (h : Ev X f args r) : Ev X f args (dry r) :=
  ev_weak h fun g w v hr => Rel.mono (g := g.flat) (w := w) (g' := g) (w' := w) _ ⟨fun _ _ h => ⟨h, rfl⟩, (fun _ _ e => nomatch e), (fun _ _ e => nomatch e)⟩ (dry_rel _ hr)
/-- the program's row: what is returned beside false -/
def rowW (s : List UInt8) (n : Nat) : Nat := if s.length ≤ n ∧ s.all Lat.dgB = true then Lat.rowV s s.length else 0
theorem rowW_ok {s : List UInt8} {n : Nat} (h : Lat.rowOk s n = true) : rowW s n = Lat.rowV s n := by
  simp only [Lat.rowOk, Bool.and_eq_true, decide_eq_true_eq] at h
  rw [rowW, if_pos ⟨by omega, h.2⟩, h.1]
set_option maxRecDepth 10000
section
variable {X : Cx} (hX : X.P = Go.Proofs.Tryd.prog) (hs : Std X)
include hX hs
theorem ev_Clone (l : List (List UInt8)) (h0 : l ≠ []) (hl : l.length < 1000000) : Ev X F_slices_Clone_string_string [lst AV.str .ro l] (lst AV.str .ro l) := by
  refine ev_of_wpc hs (A_slices_Clone_string_string_ok hX) 1 ?_
  simp only [A_slices_Clone_string_string, go_sem, Nat.reduceMod, Nat.reduceBNe, Nat.reduceBEq, Nat.reduceEqDiff, Nat.reduceAdd, Int.reduceAdd, Nat.reduceMul, Nat.reduceSub, Int.reduceToNat, Int.reduceLE, Int.reduceLT, Int.reduceEq, Int.reduceNe, reduceCtorEq, Nat.reduceLT, Nat.reduceLeDiff]
  refine ⟨by cases l with | nil => exact absurd rfl h0 | cons _ _ => rfl, by omega, by omega⟩
theorem ev_row (s : List UInt8) (n : Nat) (h8 : n ≤ 8) (hl : s.length < 1000000) : Ev X F_lattice_row [.str s, .int .i64 n] (.tuple [.int .u8 (rowW s n : Nat), .bool (Lat.rowOk s n)]) := by
  refine ev_of_wpc hs (A_lattice_row_ok hX) 1 ?_
  simp only [A_lattice_row, go_sem, Nat.reduceMod, Nat.reduceBNe, Nat.reduceBEq, Nat.reduceEqDiff, Nat.reduceAdd, Int.reduceAdd, Nat.reduceMul, Nat.reduceSub, Int.reduceToNat, Int.reduceLE, Int.reduceLT, Int.reduceEq, Int.reduceNe, reduceCtorEq, Nat.reduceLT, Nat.reduceLeDiff]
  refine ⟨by omega, ?_⟩
  refine w_loop' hs.hm (ι := Nat) (fun i => i ≤ s.length ∧ (s.take i).all Lat.dgB = true ∧ i ≤ n) (fun i => [(12, .int .i64 i), (11, .int .i64 s.length), (10, lst u8 .ro s), (6, .int .u8 (Lat.rowV s i)), (0, .str s), (1, .int .i64 n)]) (fun _ => []) (fun i => s.length - i) 0 ?_ fun i hi => ?_
  · simp only [go_sem, Nat.reduceMod, Nat.reduceBNe, Nat.reduceBEq, Nat.reduceEqDiff, Nat.reduceAdd, Int.reduceAdd, Nat.reduceMul, Nat.reduceSub, Int.reduceToNat, Int.reduceLE, Int.reduceLT, Int.reduceEq, Int.reduceNe, reduceCtorEq, Nat.reduceLT, Nat.reduceLeDiff, List.length_map]
    exact ⟨⟨Nat.zero_le _, Nat.zero_le _⟩, rfl, rfl⟩
  · obtain ⟨i1, i2, i3⟩ := hi
    have key : i < s.length → (s.getD i 0).toNat = 48 ∨ (s.getD i 0).toNat = 49 → (s.take (i + 1)).all Lat.dgB = true := fun hi h => Lat.all_take i2 hi (by simp only [Lat.dgB]; rcases h with h | h <;> simp only [h] <;> rfl)
    have hno : i < s.length → ¬ ((s.getD i 0).toNat : Int) = 48 → ¬ ((s.getD i 0).toNat : Int) = 49 → s.all Lat.dgB = false := fun hi h1 h2 => Lat.all_no (i := i) hi (by simp only [Lat.dgB, show ¬ (s.getD i 0).toNat = 48 by omega, show ¬ (s.getD i 0).toNat = 49 by omega, decide_false, Bool.or_self])
    have n1 : i < s.length → i < n → ((s.getD i 0).toNat : Int) = 49 → ∃ j, s.length - j < s.length - i ∧ (j ≤ s.length ∧ (s.take j).all Lat.dgB = true ∧ j ≤ n) ∧ AV.int .i64 (IntKind.i64.wrap (i + 1)) = AV.int .i64 j ∧ AV.int .u8 (bits .or .u8 (Lat.rowV s i) (IntKind.u8.wrap (IntKind.u8.wrap (((s.getD i 0).toNat : Int) - 48) * 2 ^ min i 8))) = AV.int .u8 (Lat.rowV s j) := fun hi hn h => by
      refine ⟨i + 1, by omega, ⟨by omega, key hi (by omega), by omega⟩, by rw [wi64 (by omega)]; rfl, ?_⟩
      rw [h, show IntKind.u8.wrap (49 - 48) = 1 from by decide, shl8 (by omega), bu_or (Lat.rowV_lt8 s (by omega)) (nat8 (n := 8) (by omega) _ (by rw [Nat.one_shiftLeft]; exact Nat.pow_lt_pow_right (by omega) (by omega)))]
      simp only [Lat.rowV, show (s.getD i 0).toNat = 49 by omega, decide_true, if_true]
    have n0 : i < s.length → i < n → ((s.getD i 0).toNat : Int) = 48 → ∃ j, s.length - j < s.length - i ∧ (j ≤ s.length ∧ (s.take j).all Lat.dgB = true ∧ j ≤ n) ∧ AV.int .i64 (IntKind.i64.wrap (i + 1)) = AV.int .i64 j ∧ AV.int .u8 (bits .or .u8 (Lat.rowV s i) (IntKind.u8.wrap (IntKind.u8.wrap (((s.getD i 0).toNat : Int) - 48) * 2 ^ min i 8))) = AV.int .u8 (Lat.rowV s j) := fun hi hn h => by
      refine ⟨i + 1, by omega, ⟨by omega, key hi (by omega), by omega⟩, by rw [wi64 (by omega)]; rfl, ?_⟩
      rw [h, show IntKind.u8.wrap (48 - 48) = 0 from by decide, Int.zero_mul, show IntKind.u8.wrap 0 = ((0 : Nat) : Int) from by decide, bu_or (Lat.rowV_lt8 s (by omega)) (by decide)]
      simp only [Lat.rowV, show ¬ (s.getD i 0).toNat = 49 by omega, decide_false, Bool.false_eq_true, if_false]
    simp only [A_lattice_rowL0, go_sem, Nat.reduceMod, Nat.reduceBNe, Nat.reduceBEq, Nat.reduceEqDiff, Nat.reduceAdd, Int.reduceAdd, Nat.reduceMul, Nat.reduceSub, Int.reduceToNat, Int.reduceLE, Int.reduceLT, Int.reduceEq, Int.reduceNe, reduceCtorEq, Nat.reduceLT, Nat.reduceLeDiff]
    refine ⟨fun c => ⟨⟨by omega, c⟩, fun cn => ?_, fun cn => ⟨fun x => ⟨fun y => ?_, fun y => ⟨by omega, n1 (by omega) (by omega) y⟩⟩, fun x => ⟨by omega, n0 (by omega) (by omega) x⟩⟩⟩, fun c => ?_⟩
    · have e1 : ¬ s.length ≤ n := by omega
      have e2 : ¬ s.length = n := by omega
      simp [rowW, Lat.rowOk, e1, e2]
    · have e1 := hno (by omega) x y
      simp [rowW, Lat.rowOk, e1]
    · obtain rfl : i = s.length := by omega
      rw [List.take_length] at i2
      have e : decide ((s.length : Int) = n) = decide (s.length = n) := by simp only [Int.ofNat_inj]
      simp only [rowW, Lat.rowOk, i2, i3, and_self, if_true, Bool.and_true, e]
end
end Go.Avm

/- Make. -/
namespace Go.Avm
open Go
theorem ev_of_wpcd {X : Cx} (hs : Std X) {f : FuncId} {hint : Nat → Bool} {af : AFun} (hc : compileFun X.P f hint = some af) {args : List AV} {r : AV} (k : Nat)
    (h : wpc X af.n af.code (kq X af.n (RetIs af.res fun r' H' => dry (fin H' k r') = r) []) (FL.get (args.zipIdx.map fun p => (p.2, p.1))) []) : Ev X f args r := by
  have h0 := (evM_of_wpc hs hc h).evF
  exact ⟨h0.1, fun g w vs h1 h2 h3 => (h0.2 g w vs h1 h2 h3).mono fun e w' ⟨v, r', g', H', k1, k2, k3, k4, k5, k6⟩ => by
    subst k6
    exact ⟨v, _, finG g' w', [], k1, finG_flat ▸ dry_rel _ (fin_rel k4 k r' k2), finG_wf k3, hr_nil (fun _ => rfl) (fun _ => rfl) (fun _ => rfl), k5.trans finG_ext, rfl, rfl⟩⟩
theorem lt1 {P : Nat → Prop} {i : Nat} (h : ∀ j, j < i → P j) (hi : P i) : ∀ j, j < i + 1 → P j := fun j hj => by
  by_cases e : j = i
  · rw [e]; exact hi
  · exact h j (by omega)
/-- the numbers of rows -/
def upsOf (rows : List (List UInt8)) (n : Nat) : List UInt8 := rows.map fun s => UInt8.ofNat (Lat.rowV s n)
/-- Make: the place and the error -/
def mkE (ns rows : List (List UInt8)) : Int × Int :=
  if (ns.length < 1 ∨ 8 < ns.length) ∨ rows.length ≠ ns.length then (-1, 3)
  else match Lat.ff rows.length fun i => !Lat.rowOk (rows.getD i []) ns.length with
    | some i => ((i : Int), 6)
    | none => Lat.checkS ns (upsOf rows ns.length)
theorem mkE_0 {ns rows : List (List UInt8)} (h : (ns.length < 1 ∨ 8 < ns.length) ∨ rows.length ≠ ns.length) : mkE ns rows = (-1, 3) := if_pos h
theorem mkE_b {ns rows : List (List UInt8)} {i : Nat} (h : ¬ ((ns.length < 1 ∨ 8 < ns.length) ∨ rows.length ≠ ns.length)) (hi : i < rows.length) (hb : Lat.rowOk (rows.getD i []) ns.length = false) (hj : ∀ j, j < i → Lat.rowOk (rows.getD j []) ns.length = true) : mkE ns rows = ((i : Int), 6) := by
  rw [mkE, if_neg h, Lat.ff_some hi (by simp only [hb, Bool.not_false]) fun j hj' => by simp only [hj j hj', Bool.not_true]]
theorem mkE_k {ns rows : List (List UInt8)} (h : ¬ ((ns.length < 1 ∨ 8 < ns.length) ∨ rows.length ≠ ns.length)) (hj : ∀ j, j < rows.length → Lat.rowOk (rows.getD j []) ns.length = true) : mkE ns rows = Lat.checkS ns (upsOf rows ns.length) := by
  rw [mkE, if_neg h, Lat.ff_none fun j hj' => by simp only [hj j hj', Bool.not_true]]
theorem upsOf_take {rows : List (List UInt8)} {n i : Nat} (hi : i < rows.length) : (upsOf rows n).take i ++ [UInt8.ofNat (Lat.rowV (rows.getD i []) n)] = (upsOf rows n).take (i + 1) := by
  have hl : i < (upsOf rows n).length := by simpa [upsOf] using hi
  rw [List.take_add_one, List.getElem?_eq_getElem hl]
  simp [upsOf, List.getD, hi]
theorem chk0 {ns : List (List UInt8)} {up : List UInt8} (h : (Lat.checkS ns up).2 = 0) : Lat.checkS ns up = (0, 0) := (Lat.checkS_val h).2.check (Lat.checkS_val h).1
def mkV (ns rows : List (List UInt8)) : AV := .tuple [latV (if (mkE ns rows).2 = 0 then ns else []) (if (mkE ns rows).2 = 0 then upsOf rows ns.length else []), .int .i64 (mkE ns rows).1, .int .i64 (mkE ns rows).2]
theorem mkV_no {ns rows : List (List UInt8)} {a b : Int} (h : mkE ns rows = (a, b)) (hb : b ≠ 0) : AV.tuple [.agg [.sl .ro [], .sl .ro []], .int .i64 a, .int .i64 b] = mkV ns rows := by
  simp only [mkV, h, if_neg hb]
  rfl
set_option maxRecDepth 10000
section
variable {X : Cx} (hX : X.P = Go.Proofs.Tryd.prog) (hs : Std X)
include hX hs
theorem ev_Make (ns rows : List (List UInt8)) (hr : ∀ i, i < rows.length → (rows.getD i []).length < 1000000) : Ev X F_lattice_Make [lst AV.str .ro ns, lst AV.str .ro rows] (mkV ns rows) := by
  refine ev_of_wpcd hs (A_lattice_Make_ok hX) 1 ?_
  simp only [A_lattice_Make, go_sem, Nat.reduceMod, Nat.reduceBNe, Nat.reduceBEq, Nat.reduceEqDiff, Nat.reduceAdd, Int.reduceAdd, Nat.reduceMul, Nat.reduceSub, Int.reduceToNat, Int.reduceLE, Int.reduceLT, Int.reduceEq, Int.reduceNe, reduceCtorEq, Nat.reduceLT, Nat.reduceLeDiff]
  have e0 : ((ns.length < 1 ∨ 8 < ns.length) ∨ rows.length ≠ ns.length) → AV.tuple [.agg [.sl .ro [], .sl .ro []], .int .i64 (-1), .int .i64 3] = mkV ns rows := fun h => mkV_no (mkE_0 h) (by decide)
  refine ⟨fun h => e0 (by omega), fun h1 => ⟨fun h => e0 (by omega), fun h2 => ⟨fun h => e0 (by omega), fun h3 => ?_⟩⟩⟩
  have h8 : ns.length ≤ 8 := by omega
  have h0 : 0 < ns.length := by omega
  have hrl : rows.length = ns.length := by omega
  have hok : ¬ ((ns.length < 1 ∨ 8 < ns.length) ∨ rows.length ≠ ns.length) := by omega
  refine call_ev (ev_Clone hX hs ns (by intro e; rw [e] at h0; exact absurd h0 (by decide)) (by omega)) ?_
  simp only [go_sem, Nat.reduceMod, Nat.reduceBNe, Nat.reduceBEq, Nat.reduceEqDiff, Nat.reduceAdd, Int.reduceAdd, Nat.reduceMul, Nat.reduceSub, Int.reduceToNat, Int.reduceLE, Int.reduceLT, Int.reduceEq, Int.reduceNe, reduceCtorEq, Nat.reduceLT, Nat.reduceLeDiff]
  refine w_loop hs.hm (ι := Nat) (fun i => i ≤ rows.length ∧ ∀ j, j < i → Lat.rowOk (rows.getD j []) ns.length = true) (fun i => [(34, .int .i64 i), (33, .int .i64 rows.length), (32, lst AV.str .ro rows), (4, .ptr 0 0), (0, lst AV.str .ro ns)]) (fun i => [.box [lst AV.str .ro ns, lst u8 (.tok 1 1) ((upsOf rows ns.length).take i)], .tok i]) (fun i => rows.length - i) 0 ⟨⟨Nat.zero_le _, no_lt0⟩, _, _, wk_tokb 0 1 1 rfl rfl, ⟨by simp only [go_sem, Nat.reduceMod, Nat.reduceBNe, Nat.reduceBEq, Nat.reduceEqDiff, Nat.reduceAdd, Int.reduceAdd, Nat.reduceMul, Nat.reduceSub, Int.reduceToNat, Int.reduceLE, Int.reduceLT, Int.reduceEq, Int.reduceNe, reduceCtorEq, Nat.reduceLT, Nat.reduceLeDiff], rfl⟩⟩ fun i hi => ?_
  obtain ⟨i1, i2⟩ := hi
  simp only [A_lattice_MakeL0, go_sem, Nat.reduceMod, Nat.reduceBNe, Nat.reduceBEq, Nat.reduceEqDiff, Nat.reduceAdd, Int.reduceAdd, Nat.reduceMul, Nat.reduceSub, Int.reduceToNat, Int.reduceLE, Int.reduceLT, Int.reduceEq, Int.reduceNe, reduceCtorEq, Nat.reduceLT, Nat.reduceLeDiff]
  refine ⟨fun c => ⟨⟨by omega, c⟩, ?_⟩, fun c => ?_⟩
  · have hi : i < rows.length := by omega
    refine call_ev (ev_row hX hs (rows.getD i []) ns.length h8 (hr i hi)) ?_
    cases hb : Lat.rowOk (rows.getD i []) ns.length with
    | false =>
      simp only [go_sem, Nat.reduceMod, Nat.reduceBNe, Nat.reduceBEq, Nat.reduceEqDiff, Nat.reduceAdd, Int.reduceAdd, Nat.reduceMul, Nat.reduceSub, Int.reduceToNat, Int.reduceLE, Int.reduceLT, Int.reduceEq, Int.reduceNe, reduceCtorEq, Nat.reduceLT, Nat.reduceLeDiff]
      exact mkV_no (mkE_b hok hi hb i2) (by decide)
    | true =>
      rw [rowW_ok hb]
      have tl : ((upsOf rows ns.length).take i).length = i := by rw [List.length_take]; simp [upsOf]; omega
      have hu : ((Lat.rowV (rows.getD i []) ns.length : Nat) : Int) = (((UInt8.ofNat (Lat.rowV (rows.getD i []) ns.length)).toNat : Nat) : Int) := by rw [UInt8.toNat_ofNat', Nat.mod_eq_of_lt (Lat.rowV_lt8 _ h8)]
      simp only [hu, tl, go_sem, Nat.reduceMod, Nat.reduceBNe, Nat.reduceBEq, Nat.reduceEqDiff, Nat.reduceAdd, Int.reduceAdd, Nat.reduceMul, Nat.reduceSub, Int.reduceToNat, Int.reduceLE, Int.reduceLT, Int.reduceEq, Int.reduceNe, reduceCtorEq, Nat.reduceLT, Nat.reduceLeDiff, upsOf_take hi]
      exact ⟨by omega, i + 1, by omega, ⟨by omega, lt1 i2 hb⟩, by rw [wi64 (by omega)]; rfl, rfl⟩
  · obtain rfl : i = rows.length := by omega
    have ht : (upsOf rows ns.length).take rows.length = upsOf rows ns.length := List.take_of_length_le (by simp [upsOf])
    rw [ht]
    refine call_ev (ev_Check hX hs ns (upsOf rows ns.length)) ?_
    have hk := mkE_k hok i2
    by_cases h : (Lat.checkS ns (upsOf rows ns.length)).2 = 0
    · rw [chk0 h] at hk ⊢
      simp only [go_sem, Nat.reduceMod, Nat.reduceBNe, Nat.reduceBEq, Nat.reduceEqDiff, Nat.reduceAdd, Int.reduceAdd, Nat.reduceMul, Nat.reduceSub, Int.reduceToNat, Int.reduceLE, Int.reduceLT, Int.reduceEq, Int.reduceNe, reduceCtorEq, Nat.reduceLT, Nat.reduceLeDiff]
      rw [mkV, hk]
      rfl
    · simp only [h, go_sem, Nat.reduceMod, Nat.reduceBNe, Nat.reduceBEq, Nat.reduceEqDiff, Nat.reduceAdd, Int.reduceAdd, Nat.reduceMul, Nat.reduceSub, Int.reduceToNat, Int.reduceLE, Int.reduceLT, Int.reduceEq, Int.reduceNe, reduceCtorEq, Nat.reduceLT, Nat.reduceLeDiff]
      exact mkV_no (by rw [hk]) h
theorem ev_rMake (ns rows : List (List UInt8)) : Ev X F_ref03_Make [lst AV.str .ro ns, lst AV.str .ro rows] (mkV ns rows) := by
  refine ev_of_wpcd hs (A_ref03_Make_ok hX) 1 ?_
  simp only [A_ref03_Make, go_sem, Nat.reduceMod, Nat.reduceBNe, Nat.reduceBEq, Nat.reduceEqDiff, Nat.reduceAdd, Int.reduceAdd, Nat.reduceMul, Nat.reduceSub, Int.reduceToNat, Int.reduceLE, Int.reduceLT, Int.reduceEq, Int.reduceNe, reduceCtorEq, Nat.reduceLT, Nat.reduceLeDiff]
  have e0 : ((ns.length < 1 ∨ 8 < ns.length) ∨ rows.length ≠ ns.length) → AV.tuple [.agg [.sl .ro [], .sl .ro []], .int .i64 (-1), .int .i64 3] = mkV ns rows := fun h => mkV_no (mkE_0 h) (by decide)
  refine ⟨fun h => e0 (by omega), fun h1 => ⟨fun h => e0 (by omega), fun h2 => ⟨fun h => e0 (by omega), fun h3 => ?_⟩⟩⟩
  have h8 : ns.length ≤ 8 := by omega
  have h0 : 0 < ns.length := by omega
  have hrl : rows.length = ns.length := by omega
  have hok : ¬ ((ns.length < 1 ∨ 8 < ns.length) ∨ rows.length ≠ ns.length) := by omega
  refine ⟨by omega, ?_⟩
  refine w_loop hs.hm (ι := Nat) (fun i => i ≤ rows.length ∧ ∀ j, j < i → Lat.rowOk (rows.getD j []) ns.length = true) (fun i => [(8, .int .i64 i), (7, .ptr 2 0), (4, .ptr 0 0), (1, lst AV.str .ro rows), (0, lst AV.str .ro ns)]) (fun i => [.box [.sl .ex [], .sl .ex []], .tok ns.length, .box [lst AV.str (.tok 1 1) ns, lst u8 (.tok 3 1) ((upsOf rows ns.length).take i)], .tok i]) (fun i => rows.length - i) 0 ⟨⟨Nat.zero_le _, no_lt0⟩, _, _, wk_tokb 2 1 1 rfl rfl, ⟨by simp only [go_sem, Nat.reduceMod, Nat.reduceBNe, Nat.reduceBEq, Nat.reduceEqDiff, Nat.reduceAdd, Int.reduceAdd, Nat.reduceMul, Nat.reduceSub, Int.reduceToNat, Int.reduceLE, Int.reduceLT, Int.reduceEq, Int.reduceNe, reduceCtorEq, Nat.reduceLT, Nat.reduceLeDiff], rfl⟩⟩ fun i hi => ?_
  obtain ⟨i1, i2⟩ := hi
  simp only [A_ref03_MakeL0, go_sem, Nat.reduceMod, Nat.reduceBNe, Nat.reduceBEq, Nat.reduceEqDiff, Nat.reduceAdd, Int.reduceAdd, Nat.reduceMul, Nat.reduceSub, Int.reduceToNat, Int.reduceLE, Int.reduceLT, Int.reduceEq, Int.reduceNe, reduceCtorEq, Nat.reduceLT, Nat.reduceLeDiff]
  refine ⟨fun c => ⟨⟨by omega, c⟩, ?_⟩, fun c => ?_⟩
  · have hi : i < rows.length := by omega
    refine call_ev (ev_rrow hX hs (rows.getD i []) ns.length h8) ?_
    cases hb : Lat.rowOk (rows.getD i []) ns.length with
    | false =>
      simp only [go_sem, Nat.reduceMod, Nat.reduceBNe, Nat.reduceBEq, Nat.reduceEqDiff, Nat.reduceAdd, Int.reduceAdd, Nat.reduceMul, Nat.reduceSub, Int.reduceToNat, Int.reduceLE, Int.reduceLT, Int.reduceEq, Int.reduceNe, reduceCtorEq, Nat.reduceLT, Nat.reduceLeDiff]
      exact mkV_no (mkE_b hok hi hb i2) (by decide)
    | true =>
      rw [if_pos rfl]
      have tl : ((upsOf rows ns.length).take i).length = i := by rw [List.length_take]; simp [upsOf]; omega
      have hu : ((Lat.rowV (rows.getD i []) ns.length : Nat) : Int) = (((UInt8.ofNat (Lat.rowV (rows.getD i []) ns.length)).toNat : Nat) : Int) := by rw [UInt8.toNat_ofNat', Nat.mod_eq_of_lt (Lat.rowV_lt8 _ h8)]
      simp only [hu, tl, go_sem, Nat.reduceMod, Nat.reduceBNe, Nat.reduceBEq, Nat.reduceEqDiff, Nat.reduceAdd, Int.reduceAdd, Nat.reduceMul, Nat.reduceSub, Int.reduceToNat, Int.reduceLE, Int.reduceLT, Int.reduceEq, Int.reduceNe, reduceCtorEq, Nat.reduceLT, Nat.reduceLeDiff, upsOf_take hi]
      exact ⟨by omega, i + 1, by omega, ⟨by omega, lt1 i2 hb⟩, by rw [wi64 (by omega)]; rfl, rfl⟩
  · obtain rfl : i = rows.length := by omega
    have ht : (upsOf rows ns.length).take rows.length = upsOf rows ns.length := List.take_of_length_le (by simp [upsOf])
    rw [ht]
    refine call_ev (ev_rCheck hX hs ns (upsOf rows ns.length)) ?_
    have hk := mkE_k hok i2
    by_cases h : (Lat.checkS ns (upsOf rows ns.length)).2 = 0
    · rw [chk0 h] at hk ⊢
      simp only [go_sem, Nat.reduceMod, Nat.reduceBNe, Nat.reduceBEq, Nat.reduceEqDiff, Nat.reduceAdd, Int.reduceAdd, Nat.reduceMul, Nat.reduceSub, Int.reduceToNat, Int.reduceLE, Int.reduceLT, Int.reduceEq, Int.reduceNe, reduceCtorEq, Nat.reduceLT, Nat.reduceLeDiff]
      rw [mkV, hk]
      rfl
    · simp only [h, go_sem, Nat.reduceMod, Nat.reduceBNe, Nat.reduceBEq, Nat.reduceEqDiff, Nat.reduceAdd, Int.reduceAdd, Nat.reduceMul, Nat.reduceSub, Int.reduceToNat, Int.reduceLE, Int.reduceLT, Int.reduceEq, Int.reduceNe, reduceCtorEq, Nat.reduceLT, Nat.reduceLeDiff]
      exact mkV_no (by rw [hk]) h
end
end Go.Avm

/- Dual, pairs, Covers of the reference. -/
namespace Go.Avm
open Go
def dualV (ns : List (List UInt8)) (up : List UInt8) : AV := .tuple [latV (if (Lat.checkS ns up).2 = 0 then ns else []) (if (Lat.checkS ns up).2 = 0 then Lat.dual up ns.length else []), .int .i64 (Lat.checkS ns up).2]
theorem dual_take {up : List UInt8} {n a : Nat} (h8 : n ≤ 8) (ha : a < n) : Lat.dn up a n = ((Lat.dual up n).getD a 0).toNat ∧ (Lat.dual up n).take a ++ [(Lat.dual up n).getD a 0] = (Lat.dual up n).take (a + 1) ∧ ((Lat.dual up n).take a).length = a := by
  have dlen : (Lat.dual up n).length = n := Lat.dual_len up n
  refine ⟨by rw [← Lat.dual_msk up h8 ha, Lat.msk], ?_, by rw [List.length_take, dlen]; omega⟩
  rw [List.take_add_one, List.getElem?_eq_getElem (by omega), List.getD_eq_getElem?_getD, List.getElem?_eq_getElem (by omega)]
  rfl
set_option maxRecDepth 10000
section
variable {X : Cx} (hX : X.P = Go.Proofs.Tryd.prog) (hs : Std X)
include hX hs
theorem ev_Dual (ns : List (List UInt8)) (up : List UInt8) : Ev X F_lattice_Dual [latV ns up] (dualV ns up) := by
  refine ev_of_wpcd hs (A_lattice_Dual_ok hX) 2 ?_
  simp only [A_lattice_Dual, latV, go_sem, Nat.reduceMod, Nat.reduceBNe, Nat.reduceBEq, Nat.reduceEqDiff, Nat.reduceAdd, Int.reduceAdd, Nat.reduceMul, Nat.reduceSub, Int.reduceToNat, Int.reduceLE, Int.reduceLT, Int.reduceEq, Int.reduceNe, reduceCtorEq, Nat.reduceLT, Nat.reduceLeDiff]
  refine call_asked hX hs (ls := []) rfl rfl (by decide) ?_
  rw [askL_0]
  by_cases h : (Lat.checkS ns up).2 = 0
  · have hv := chk_val h
    have h8 := hv.le8
    have n0 := hv.pos
    simp only [h, go_sem, Nat.reduceMod, Nat.reduceBNe, Nat.reduceBEq, Nat.reduceEqDiff, Nat.reduceAdd, Int.reduceAdd, Nat.reduceMul, Nat.reduceSub, Int.reduceToNat, Int.reduceLE, Int.reduceLT, Int.reduceEq, Int.reduceNe, reduceCtorEq, Nat.reduceLT, Nat.reduceLeDiff]
    refine call_ev (ev_Clone hX hs ns (by intro e; rw [e] at n0; exact absurd n0 (by decide)) (by omega)) ?_
    simp only [go_sem, Nat.reduceMod, Nat.reduceBNe, Nat.reduceBEq, Nat.reduceEqDiff, Nat.reduceAdd, Int.reduceAdd, Nat.reduceMul, Nat.reduceSub, Int.reduceToNat, Int.reduceLE, Int.reduceLT, Int.reduceEq, Int.reduceNe, reduceCtorEq, Nat.reduceLT, Nat.reduceLeDiff]
    refine call_of hX hs rfl hv.len hv.le8 ?_
    simp only [ordV, go_sem, Nat.reduceMod, Nat.reduceBNe, Nat.reduceBEq, Nat.reduceEqDiff, Nat.reduceAdd, Int.reduceAdd, Nat.reduceMul, Nat.reduceSub, Int.reduceToNat, Int.reduceLE, Int.reduceLT, Int.reduceEq, Int.reduceNe, reduceCtorEq, Nat.reduceLT, Nat.reduceLeDiff]
    refine w_loop hs.hm (ι := Nat) (fun a => a ≤ ns.length) (fun a => [(21, .int .i64 a), (20, .int .i64 ns.length), (6, .ptr 3 0), (5, .ptr 2 0), (2, .ptr 1 0), (1, .ptr 0 0)]) (fun a => [.box [lst AV.str .ro ns, lst u8 .ro up], .box [.sl .ex [], .sl .ex []], .box [lst AV.str .ro ns, lst u8 (.tok 4 1) ((Lat.dual up ns.length).take a)], .box (tb 17 (ordC ns.length (Lat.msk up) (fun b => if b < ns.length then Lat.dn up b ns.length else 0))), .tok a]) (fun a => ns.length - a) 0 ⟨Nat.zero_le _, _, _, wk_tokb 2 1 1 rfl rfl, ⟨by simp only [go_sem, Nat.reduceMod, Nat.reduceBNe, Nat.reduceBEq, Nat.reduceEqDiff, Nat.reduceAdd, Int.reduceAdd, Nat.reduceMul, Nat.reduceSub, Int.reduceToNat, Int.reduceLE, Int.reduceLT, Int.reduceEq, Int.reduceNe, reduceCtorEq, Nat.reduceLT, Nat.reduceLeDiff], rfl⟩⟩ fun a ha => ?_
    by_cases hc : a < ns.length
    · obtain ⟨hd, ht, tl⟩ := dual_take (up := up) h8 hc
      simp only [A_lattice_DualL0, go_sem, Nat.reduceMod, Nat.reduceBNe, Nat.reduceBEq, Nat.reduceEqDiff, Nat.reduceAdd, Int.reduceAdd, Nat.reduceMul, Nat.reduceSub, Int.reduceToNat, Int.reduceLE, Int.reduceLT, Int.reduceEq, Int.reduceNe, reduceCtorEq, Nat.reduceLT, Nat.reduceLeDiff, Nat.mul_one, tb_getD _ _ (show 9 + a < 17 by omega), ordC_d, hc, hd, tl, ht]
      exact ⟨fun cc => ⟨by omega, by omega, by omega, a + 1, by omega, by omega, by rw [wi64 (by omega)]; rfl, rfl⟩, fun cc => by omega⟩
    · obtain rfl : a = ns.length := by omega
      have ht : (Lat.dual up ns.length).take ns.length = Lat.dual up ns.length := List.take_of_length_le (by rw [Lat.dual_len]; exact Nat.le_refl _)
      have hn : ¬ (ns.length : Int) < ns.length := by omega
      simp only [A_lattice_DualL0, go_sem, Nat.reduceMod, Nat.reduceBNe, Nat.reduceBEq, Nat.reduceEqDiff, Nat.reduceAdd, Int.reduceAdd, Nat.reduceMul, Nat.reduceSub, Int.reduceToNat, Int.reduceLE, Int.reduceLT, Int.reduceEq, Int.reduceNe, reduceCtorEq, Nat.reduceLT, Nat.reduceLeDiff, hn, ht, dualV, h, latV]
      rfl
  · simp only [h, go_sem, Nat.reduceMod, Nat.reduceBNe, Nat.reduceBEq, Nat.reduceEqDiff, Nat.reduceAdd, Int.reduceAdd, Nat.reduceMul, Nat.reduceSub, Int.reduceToNat, Int.reduceLE, Int.reduceLT, Int.reduceEq, Int.reduceNe, reduceCtorEq, Nat.reduceLT, Nat.reduceLeDiff, dualV, latV]
    rfl
theorem ev_rDual (ns : List (List UInt8)) (up : List UInt8) : Ev X F_ref03_Dual [latV ns up] (dualV ns up) := by
  refine ev_of_wpcd hs (A_ref03_Dual_ok hX) 2 ?_
  simp only [A_ref03_Dual, latV, go_sem, Nat.reduceMod, Nat.reduceBNe, Nat.reduceBEq, Nat.reduceEqDiff, Nat.reduceAdd, Int.reduceAdd, Nat.reduceMul, Nat.reduceSub, Int.reduceToNat, Int.reduceLE, Int.reduceLT, Int.reduceEq, Int.reduceNe, reduceCtorEq, Nat.reduceLT, Nat.reduceLeDiff]
  refine call_ev (ev_rCheck hX hs ns up) ?_
  by_cases h : (Lat.checkS ns up).2 = 0
  · have hv := chk_val h
    have h8 := hv.le8
    have n0 := hv.pos
    simp only [h, go_sem, Nat.reduceMod, Nat.reduceBNe, Nat.reduceBEq, Nat.reduceEqDiff, Nat.reduceAdd, Int.reduceAdd, Nat.reduceMul, Nat.reduceSub, Int.reduceToNat, Int.reduceLE, Int.reduceLT, Int.reduceEq, Int.reduceNe, reduceCtorEq, Nat.reduceLT, Nat.reduceLeDiff]
    refine ⟨by omega, ?_⟩
    refine w_loop hs.hm (ι := Nat) (fun a => a ≤ ns.length) (fun a => [(7, .int .i64 a), (6, .ptr 3 0), (2, .ptr 1 0), (1, .ptr 0 0)]) (fun a => [.box [lst AV.str .ro ns, lst u8 .ro up], .box [.sl .ex [], .sl .ex []], .tok ns.length, .box [lst AV.str (.tok 2 1) ns, lst u8 (.tok 4 1) ((Lat.dual up ns.length).take a)], .tok a]) (fun a => ns.length - a) 0 ⟨Nat.zero_le _, _, _, wk_tokb 3 1 1 rfl rfl, ⟨by simp only [go_sem, Nat.reduceMod, Nat.reduceBNe, Nat.reduceBEq, Nat.reduceEqDiff, Nat.reduceAdd, Int.reduceAdd, Nat.reduceMul, Nat.reduceSub, Int.reduceToNat, Int.reduceLE, Int.reduceLT, Int.reduceEq, Int.reduceNe, reduceCtorEq, Nat.reduceLT, Nat.reduceLeDiff], rfl⟩⟩ fun a ha => ?_
    by_cases hc : a < ns.length
    · obtain ⟨hd, ht, tl⟩ := dual_take (up := up) h8 hc
      simp only [A_ref03_DualL0, go_sem, Nat.reduceMod, Nat.reduceBNe, Nat.reduceBEq, Nat.reduceEqDiff, Nat.reduceAdd, Int.reduceAdd, Nat.reduceMul, Nat.reduceSub, Int.reduceToNat, Int.reduceLE, Int.reduceLT, Int.reduceEq, Int.reduceNe, reduceCtorEq, Nat.reduceLT, Nat.reduceLeDiff]
      refine ⟨fun cc => ?_, fun cc => by omega⟩
      refine w_loop' hs.hm (ι := Nat) (fun b => b ≤ ns.length) (fun b => [(10, .int .i64 b), (9, .int .u8 ((2 ^ b % 256 : Nat) : Int)), (8, .int .u8 (Lat.dn up a b : Nat)), (7, .int .i64 a), (6, .ptr 3 0), (2, .ptr 1 0), (1, .ptr 0 0)]) (fun _ => [.box [lst AV.str .ro ns, lst u8 .ro up], .box [.sl .ex [], .sl .ex []], .tok ns.length, .box [lst AV.str (.tok 2 1) ns, lst u8 (.tok 4 1) ((Lat.dual up ns.length).take a)], .tok a]) (fun b => ns.length - b) 0 ?_ fun b hb => ?_
      · simp only [Lat.dn, go_sem, Nat.reduceMod, Nat.reduceBNe, Nat.reduceBEq, Nat.reduceEqDiff, Nat.reduceAdd, Int.reduceAdd, Nat.reduceMul, Nat.reduceSub, Int.reduceToNat, Int.reduceLE, Int.reduceLT, Int.reduceEq, Int.reduceNe, reduceCtorEq, Nat.reduceLT, Nat.reduceLeDiff]
        exact ⟨Nat.zero_le _, rfl⟩
      · by_cases hbn : b < ns.length
        · have sh : IntKind.u8.wrap (((2 ^ b % 256 : Nat) : Int) * 2 ^ min 1 8) = ((2 ^ (b + 1) % 256 : Nat) : Int) := by
            have : b = 0 ∨ b = 1 ∨ b = 2 ∨ b = 3 ∨ b = 4 ∨ b = 5 ∨ b = 6 ∨ b = 7 := by omega
            rcases this with rfl | rfl | rfl | rfl | rfl | rfl | rfl | rfl <;> decide
          have sm : 2 ^ b % 256 = 1 <<< b := by
            rw [Nat.one_shiftLeft, Nat.mod_eq_of_lt]
            exact Nat.lt_of_lt_of_le (Nat.pow_lt_pow_right (by omega) (show b < 8 by omega)) (by decide)
          simp only [A_ref03_DualL1, go_sem, Nat.reduceMod, Nat.reduceBNe, Nat.reduceBEq, Nat.reduceEqDiff, Nat.reduceAdd, Int.reduceAdd, Nat.reduceMul, Nat.reduceSub, Int.reduceToNat, Int.reduceLE, Int.reduceLT, Int.reduceEq, Int.reduceNe, reduceCtorEq, Nat.reduceLT, Nat.reduceLeDiff]
          refine ⟨fun cb => ?_, fun cb => by omega⟩
          refine call_ev (ev_Below hX hs ns up b a) ?_
          rw [below_nat up b a (by have := hv.len; omega)]
          cases hl : Lat.le up b a with
          | true =>
            simp only [go_sem, Nat.reduceMod, Nat.reduceBNe, Nat.reduceBEq, Nat.reduceEqDiff, Nat.reduceAdd, Int.reduceAdd, Nat.reduceMul, Nat.reduceSub, Int.reduceToNat, Int.reduceLE, Int.reduceLT, Int.reduceEq, Int.reduceNe, reduceCtorEq, Nat.reduceLT, Nat.reduceLeDiff]
            refine ⟨b + 1, by omega, by omega, by rw [wi64 (by omega)]; rfl, by rw [sh], ?_⟩
            rw [bu_or (Lat.dn_lt8 up a (by omega)) (Nat.mod_lt _ (by decide)), sm]
            simp only [Lat.dn, hl, if_true]
          | false =>
            simp only [go_sem, Nat.reduceMod, Nat.reduceBNe, Nat.reduceBEq, Nat.reduceEqDiff, Nat.reduceAdd, Int.reduceAdd, Nat.reduceMul, Nat.reduceSub, Int.reduceToNat, Int.reduceLE, Int.reduceLT, Int.reduceEq, Int.reduceNe, reduceCtorEq, Nat.reduceLT, Nat.reduceLeDiff]
            refine ⟨b + 1, by omega, by omega, by rw [wi64 (by omega)]; rfl, by rw [sh], ?_⟩
            simp only [Lat.dn, hl, Bool.false_eq_true, if_false, Nat.or_zero]
        · obtain rfl : b = ns.length := by omega
          have hn : ¬ (ns.length : Int) < ns.length := by omega
          simp only [A_ref03_DualL1, go_sem, Nat.reduceMod, Nat.reduceBNe, Nat.reduceBEq, Nat.reduceEqDiff, Nat.reduceAdd, Int.reduceAdd, Nat.reduceMul, Nat.reduceSub, Int.reduceToNat, Int.reduceLE, Int.reduceLT, Int.reduceEq, Int.reduceNe, reduceCtorEq, Nat.reduceLT, Nat.reduceLeDiff, hn, hd, tl, ht]
          exact ⟨by omega, a + 1, by omega, by omega, by rw [wi64 (by omega)]; rfl, rfl⟩
    · obtain rfl : a = ns.length := by omega
      have ht : (Lat.dual up ns.length).take ns.length = Lat.dual up ns.length := List.take_of_length_le (by rw [Lat.dual_len]; exact Nat.le_refl _)
      have hn : ¬ (ns.length : Int) < ns.length := by omega
      simp only [A_ref03_DualL0, go_sem, Nat.reduceMod, Nat.reduceBNe, Nat.reduceBEq, Nat.reduceEqDiff, Nat.reduceAdd, Int.reduceAdd, Nat.reduceMul, Nat.reduceSub, Int.reduceToNat, Int.reduceLE, Int.reduceLT, Int.reduceEq, Int.reduceNe, reduceCtorEq, Nat.reduceLT, Nat.reduceLeDiff, hn, ht, dualV, h, latV]
      rfl
  · simp only [h, go_sem, Nat.reduceMod, Nat.reduceBNe, Nat.reduceBEq, Nat.reduceEqDiff, Nat.reduceAdd, Int.reduceAdd, Nat.reduceMul, Nat.reduceSub, Int.reduceToNat, Int.reduceLE, Int.reduceLT, Int.reduceEq, Int.reduceNe, reduceCtorEq, Nat.reduceLT, Nat.reduceLeDiff, dualV, latV]
    rfl
theorem ev_pairs (l : List (Nat × Nat)) (hl : l.length < 1000000) : Ev X F_law03_pairs [lst prV .ro l, lst prV .ro l] (.bool true) := by
  refine ev_of_wpc hs (A_law03_pairs_ok hX) 1 ?_
  simp only [A_law03_pairs, go_sem, Nat.reduceMod, Nat.reduceBNe, Nat.reduceBEq, Nat.reduceEqDiff, Nat.reduceAdd, Int.reduceAdd, Nat.reduceMul, Nat.reduceSub, Int.reduceToNat, Int.reduceLE, Int.reduceLT, Int.reduceEq, Int.reduceNe, reduceCtorEq, Nat.reduceLT, Nat.reduceLeDiff]
  refine w_loop' hs.hm (ι := Nat) (fun i => i ≤ l.length) (fun i => [(5, .int .i64 i), (1, lst prV .ro l), (0, lst prV .ro l)]) (fun _ => []) (fun i => l.length - i) 0 ?_ fun i hi => ?_
  · simp only [go_sem, Nat.reduceMod, Nat.reduceBNe, Nat.reduceBEq, Nat.reduceEqDiff, Nat.reduceAdd, Int.reduceAdd, Nat.reduceMul, Nat.reduceSub, Int.reduceToNat, Int.reduceLE, Int.reduceLT, Int.reduceEq, Int.reduceNe, reduceCtorEq, Nat.reduceLT, Nat.reduceLeDiff]
    exact Nat.zero_le _
  · simp only [A_law03_pairsL0, go_sem, Nat.reduceMod, Nat.reduceBNe, Nat.reduceBEq, Nat.reduceEqDiff, Nat.reduceAdd, Int.reduceAdd, Nat.reduceMul, Nat.reduceSub, Int.reduceToNat, Int.reduceLE, Int.reduceLT, Int.reduceEq, Int.reduceNe, reduceCtorEq, Nat.reduceLT, Nat.reduceLeDiff]
    exact fun c => ⟨⟨by omega, c⟩, ⟨by omega, c⟩, i + 1, by omega, by omega, by rw [wi64 (by omega)]; rfl⟩
theorem ev_rCovers (ns : List (List UInt8)) (up : List UInt8) : Ev X F_ref03_Covers [latV ns up] (.tuple [lst prV .ro (covS ns up), .int .i64 (Lat.checkS ns up).2]) := by
  refine ev_of_wpcd hs (A_ref03_Covers_ok hX) 2 ?_
  simp only [A_ref03_Covers, latV, go_sem, Nat.reduceMod, Nat.reduceBNe, Nat.reduceBEq, Nat.reduceEqDiff, Nat.reduceAdd, Int.reduceAdd, Nat.reduceMul, Nat.reduceSub, Int.reduceToNat, Int.reduceLE, Int.reduceLT, Int.reduceEq, Int.reduceNe, reduceCtorEq, Nat.reduceLT, Nat.reduceLeDiff]
  refine call_ev (ev_rCheck hX hs ns up) ?_
  by_cases h : (Lat.checkS ns up).2 = 0
  · have hv := chk_val h
    have h8 := hv.le8
    have n0 := hv.pos
    simp only [h, go_sem, Nat.reduceMod, Nat.reduceBNe, Nat.reduceBEq, Nat.reduceEqDiff, Nat.reduceAdd, Int.reduceAdd, Nat.reduceMul, Nat.reduceSub, Int.reduceToNat, Int.reduceLE, Int.reduceLT, Int.reduceEq, Int.reduceNe, reduceCtorEq, Nat.reduceLT, Nat.reduceLeDiff]
    refine w_loop hs.hm (ι := Nat) (fun a => a ≤ ns.length) (fun a => [(8, .int .i64 a), (7, lst prV (.tok 1 2) (Lat.covs up ns.length a)), (6, .int .i64 ns.length), (1, .ptr 0 0)]) (fun a => [.box [lst AV.str .ro ns, lst u8 .ro up], .tok (Lat.covs up ns.length a).length]) (fun a => ns.length - a) 0 ⟨Nat.zero_le _, _, _, wk_tok 7 2 rfl, ⟨by simp only [go_sem, Nat.reduceMod, Nat.reduceBNe, Nat.reduceBEq, Nat.reduceEqDiff, Nat.reduceAdd, Int.reduceAdd, Nat.reduceMul, Nat.reduceSub, Int.reduceToNat, Int.reduceLE, Int.reduceLT, Int.reduceEq, Int.reduceNe, reduceCtorEq, Nat.reduceLT, Nat.reduceLeDiff]; rfl, rfl⟩⟩ fun a ha => ?_
    by_cases hc : a < ns.length
    · simp only [A_ref03_CoversL0, go_sem, Nat.reduceMod, Nat.reduceBNe, Nat.reduceBEq, Nat.reduceEqDiff, Nat.reduceAdd, Int.reduceAdd, Nat.reduceMul, Nat.reduceSub, Int.reduceToNat, Int.reduceLE, Int.reduceLT, Int.reduceEq, Int.reduceNe, reduceCtorEq, Nat.reduceLT, Nat.reduceLeDiff]
      refine ⟨fun cc => ?_, fun cc => by omega⟩
      refine w_loop' hs.hm (ι := Nat) (fun b => b ≤ ns.length) (fun b => [(9, .int .i64 b), (8, .int .i64 a), (7, lst prV (.tok 1 2) (Lat.covs up ns.length a ++ Lat.covRow up ns.length a b)), (6, .int .i64 ns.length), (1, .ptr 0 0)]) (fun b => [.box [lst AV.str .ro ns, lst u8 .ro up], .tok (Lat.covs up ns.length a ++ Lat.covRow up ns.length a b).length]) (fun b => ns.length - b) 0 ?_ fun b hb => ?_
      · simp only [Lat.covRow, go_sem, Nat.reduceMod, Nat.reduceBNe, Nat.reduceBEq, Nat.reduceEqDiff, Nat.reduceAdd, Int.reduceAdd, Nat.reduceMul, Nat.reduceSub, Int.reduceToNat, Int.reduceLE, Int.reduceLT, Int.reduceEq, Int.reduceNe, reduceCtorEq, Nat.reduceLT, Nat.reduceLeDiff]
        exact Nat.zero_le _
      · by_cases hbn : b < ns.length
        · have hlen : (Lat.covs up ns.length a ++ Lat.covRow up ns.length a b).length ≤ 72 := by
            rw [List.length_append]
            have := Lat.covs_len up ns.length a
            have := Lat.covRow_len up ns.length a b
            have : a * ns.length ≤ 8 * 8 := Nat.mul_le_mul (by omega) h8
            omega
          have e1 : Lat.cov up ns.length a b = true → Lat.covs up ns.length a ++ Lat.covRow up ns.length a b ++ [(a, b)] = Lat.covs up ns.length a ++ Lat.covRow up ns.length a (b + 1) := fun h => by
            simp only [Lat.covRow, h, if_true, List.append_assoc]
          have e0 : Lat.cov up ns.length a b = false → Lat.covs up ns.length a ++ Lat.covRow up ns.length a b = Lat.covs up ns.length a ++ Lat.covRow up ns.length a (b + 1) := fun h => by
            simp only [Lat.covRow, h, Bool.false_eq_true, if_false, List.append_nil]
          have nx : Lat.cov up ns.length a b = false → ∃ j, ns.length - j < ns.length - b ∧ j ≤ ns.length ∧ (AV.int IntKind.i64 (IntKind.i64.wrap (b + 1)) = AV.int IntKind.i64 j ∧ lst prV (.tok 1 2) (Lat.covs up ns.length a ++ Lat.covRow up ns.length a b) = lst prV (.tok 1 2) (Lat.covs up ns.length a ++ Lat.covRow up ns.length a j)) ∧ [Blk.box [lst AV.str .ro ns, lst u8 .ro up], Blk.tok (Lat.covs up ns.length a ++ Lat.covRow up ns.length a b).length] = [Blk.box [lst AV.str .ro ns, lst u8 .ro up], Blk.tok (Lat.covs up ns.length a ++ Lat.covRow up ns.length a j).length] := fun h =>
            ⟨b + 1, by omega, by omega, ⟨by rw [wi64 (by omega)]; rfl, by rw [e0 h]⟩, by rw [e0 h]⟩
          simp only [A_ref03_CoversL1, go_sem, Nat.reduceMod, Nat.reduceBNe, Nat.reduceBEq, Nat.reduceEqDiff, Nat.reduceAdd, Int.reduceAdd, Nat.reduceMul, Nat.reduceSub, Int.reduceToNat, Int.reduceLE, Int.reduceLT, Int.reduceEq, Int.reduceNe, reduceCtorEq, Nat.reduceLT, Nat.reduceLeDiff]
          refine ⟨fun cb => ⟨fun heq => ?_, fun hne => ?_⟩, fun cb => by omega⟩
          · have : Lat.cov up ns.length a b = false := by simp only [Lat.cov, show (a != b) = false by simp; omega, Bool.false_and]
            exact nx this
          · refine call_ev (ev_Below hX hs ns up a b) ?_
            rw [below_nat up a b (by have := hv.len; omega)]
            cases hl : Lat.le up a b with
            | false =>
              simp only [go_sem, Nat.reduceMod, Nat.reduceBNe, Nat.reduceBEq, Nat.reduceEqDiff, Nat.reduceAdd, Int.reduceAdd, Nat.reduceMul, Nat.reduceSub, Int.reduceToNat, Int.reduceLE, Int.reduceLT, Int.reduceEq, Int.reduceNe, reduceCtorEq, Nat.reduceLT, Nat.reduceLeDiff]
              exact nx (by simp only [Lat.cov, hl, Bool.and_false, Bool.false_and])
            | true =>
              simp only [go_sem, Nat.reduceMod, Nat.reduceBNe, Nat.reduceBEq, Nat.reduceEqDiff, Nat.reduceAdd, Int.reduceAdd, Nat.reduceMul, Nat.reduceSub, Int.reduceToNat, Int.reduceLE, Int.reduceLT, Int.reduceEq, Int.reduceNe, reduceCtorEq, Nat.reduceLT, Nat.reduceLeDiff]
              have hab : (a != b) = true := by simp; omega
              have hcv : Lat.cov up ns.length a b = (List.range ns.length).all fun c => !(c != a && c != b && Lat.le up a c && Lat.le up c b) := by
                simp only [Lat.cov, hab, hl, Bool.true_and]
              refine w_loop' hs.hm (ι := Nat) (fun c => c ≤ ns.length) (fun c => [(11, .int .i64 c), (10, .bool ((List.range c).all fun c => !(c != a && c != b && Lat.le up a c && Lat.le up c b))), (9, .int .i64 b), (8, .int .i64 a), (7, lst prV (.tok 1 2) (Lat.covs up ns.length a ++ Lat.covRow up ns.length a b)), (6, .int .i64 ns.length), (1, .ptr 0 0)]) (fun _ => [.box [lst AV.str .ro ns, lst u8 .ro up], .tok (Lat.covs up ns.length a ++ Lat.covRow up ns.length a b).length]) (fun c => ns.length - c) 0 ?_ fun c hcb => ?_
              · simp only [go_sem, Nat.reduceMod, Nat.reduceBNe, Nat.reduceBEq, Nat.reduceEqDiff, Nat.reduceAdd, Int.reduceAdd, Nat.reduceMul, Nat.reduceSub, Int.reduceToNat, Int.reduceLE, Int.reduceLT, Int.reduceEq, Int.reduceNe, reduceCtorEq, Nat.reduceLT, Nat.reduceLeDiff]
                exact ⟨Nat.zero_le _, rfl⟩
              · by_cases hcn : c < ns.length
                · have hu : c < up.length := by have := hv.len; omega
                  have hau : a < up.length := by have := hv.len; omega
                  have stp : ∀ t : Bool, (!(c != a && c != b && Lat.le up a c && Lat.le up c b)) = t → ((List.range (c + 1)).all fun c => !(c != a && c != b && Lat.le up a c && Lat.le up c b)) = (((List.range c).all fun c => !(c != a && c != b && Lat.le up a c && Lat.le up c b)) && t) := fun t e => by
                    rw [List.range_succ, List.all_append]
                    simp only [List.all_cons, List.all_nil, Bool.and_true, e]
                  have nt : ∀ t : Bool, (!(c != a && c != b && Lat.le up a c && Lat.le up c b)) = t → ∃ j, ns.length - j < ns.length - c ∧ j ≤ ns.length ∧ AV.int IntKind.i64 (IntKind.i64.wrap (c + 1)) = AV.int IntKind.i64 j ∧ AV.bool (((List.range c).all fun c => !(c != a && c != b && Lat.le up a c && Lat.le up c b)) && t) = AV.bool ((List.range j).all fun c => !(c != a && c != b && Lat.le up a c && Lat.le up c b)) := fun t e =>
                    ⟨c + 1, by omega, by omega, by rw [wi64 (by omega)]; rfl, by rw [stp t e]⟩
                  have nt1 := fun e => nt true e
                  have nt0 := fun e => nt false e
                  simp only [Bool.and_true, Bool.and_false] at nt1 nt0
                  simp only [A_ref03_CoversL2, go_sem, Nat.reduceMod, Nat.reduceBNe, Nat.reduceBEq, Nat.reduceEqDiff, Nat.reduceAdd, Int.reduceAdd, Nat.reduceMul, Nat.reduceSub, Int.reduceToNat, Int.reduceLE, Int.reduceLT, Int.reduceEq, Int.reduceNe, reduceCtorEq, Nat.reduceLT, Nat.reduceLeDiff]
                  refine ⟨fun cc => ⟨fun ca => ⟨fun cb2 => ?_, fun cb2 => nt1 (by simp [show c = b by omega])⟩, fun ca => nt1 (by simp [show c = a by omega])⟩, fun cc => by omega⟩
                  refine call_ev (ev_Below hX hs ns up a c) ?_
                  rw [below_nat up a c hau]
                  cases hl1 : Lat.le up a c with
                  | false =>
                    simp only [go_sem, Nat.reduceMod, Nat.reduceBNe, Nat.reduceBEq, Nat.reduceEqDiff, Nat.reduceAdd, Int.reduceAdd, Nat.reduceMul, Nat.reduceSub, Int.reduceToNat, Int.reduceLE, Int.reduceLT, Int.reduceEq, Int.reduceNe, reduceCtorEq, Nat.reduceLT, Nat.reduceLeDiff]
                    exact nt1 (by simp [hl1])
                  | true =>
                    simp only [go_sem, Nat.reduceMod, Nat.reduceBNe, Nat.reduceBEq, Nat.reduceEqDiff, Nat.reduceAdd, Int.reduceAdd, Nat.reduceMul, Nat.reduceSub, Int.reduceToNat, Int.reduceLE, Int.reduceLT, Int.reduceEq, Int.reduceNe, reduceCtorEq, Nat.reduceLT, Nat.reduceLeDiff]
                    refine call_ev (ev_Below hX hs ns up c b) ?_
                    rw [below_nat up c b hu]
                    cases hl2 : Lat.le up c b with
                    | false =>
                      simp only [go_sem, Nat.reduceMod, Nat.reduceBNe, Nat.reduceBEq, Nat.reduceEqDiff, Nat.reduceAdd, Int.reduceAdd, Nat.reduceMul, Nat.reduceSub, Int.reduceToNat, Int.reduceLE, Int.reduceLT, Int.reduceEq, Int.reduceNe, reduceCtorEq, Nat.reduceLT, Nat.reduceLeDiff]
                      exact nt1 (by simp [hl2])
                    | true =>
                      simp only [go_sem, Nat.reduceMod, Nat.reduceBNe, Nat.reduceBEq, Nat.reduceEqDiff, Nat.reduceAdd, Int.reduceAdd, Nat.reduceMul, Nat.reduceSub, Int.reduceToNat, Int.reduceLE, Int.reduceLT, Int.reduceEq, Int.reduceNe, reduceCtorEq, Nat.reduceLT, Nat.reduceLeDiff]
                      exact nt0 (by simp [hl1, hl2]; omega)
                · obtain rfl : c = ns.length := by omega
                  have hn : ¬ (ns.length : Int) < ns.length := by omega
                  cases hcc : Lat.cov up ns.length a b with
                  | true =>
                    rw [hcv] at hcc
                    simp only [A_ref03_CoversL2, go_sem, Nat.reduceMod, Nat.reduceBNe, Nat.reduceBEq, Nat.reduceEqDiff, Nat.reduceAdd, Int.reduceAdd, Nat.reduceMul, Nat.reduceSub, Int.reduceToNat, Int.reduceLE, Int.reduceLT, Int.reduceEq, Int.reduceNe, reduceCtorEq, Nat.reduceLT, Nat.reduceLeDiff, hn, hcc]
                    rw [← hcv] at hcc
                    refine ⟨by omega, b + 1, by omega, by omega, ⟨by rw [wi64 (by omega)]; rfl, by rw [e1 hcc]⟩, ?_⟩
                    rw [← e1 hcc]
                    simp only [List.length_append, List.length_cons, List.length_nil]
                  | false =>
                    have := nx hcc
                    rw [hcv] at hcc
                    simp only [A_ref03_CoversL2, go_sem, Nat.reduceMod, Nat.reduceBNe, Nat.reduceBEq, Nat.reduceEqDiff, Nat.reduceAdd, Int.reduceAdd, Nat.reduceMul, Nat.reduceSub, Int.reduceToNat, Int.reduceLE, Int.reduceLT, Int.reduceEq, Int.reduceNe, reduceCtorEq, Nat.reduceLT, Nat.reduceLeDiff, hn, hcc]
                    exact this
        · obtain rfl : b = ns.length := by omega
          have hn : ¬ (ns.length : Int) < ns.length := by omega
          simp only [A_ref03_CoversL1, go_sem, Nat.reduceMod, Nat.reduceBNe, Nat.reduceBEq, Nat.reduceEqDiff, Nat.reduceAdd, Int.reduceAdd, Nat.reduceMul, Nat.reduceSub, Int.reduceToNat, Int.reduceLE, Int.reduceLT, Int.reduceEq, Int.reduceNe, reduceCtorEq, Nat.reduceLT, Nat.reduceLeDiff, hn]
          exact ⟨a + 1, by omega, by omega, ⟨by rw [wi64 (by omega)]; rfl, rfl⟩, rfl⟩
    · obtain rfl : a = ns.length := by omega
      have hn : ¬ (ns.length : Int) < ns.length := by omega
      simp only [A_ref03_CoversL0, go_sem, Nat.reduceMod, Nat.reduceBNe, Nat.reduceBEq, Nat.reduceEqDiff, Nat.reduceAdd, Int.reduceAdd, Nat.reduceMul, Nat.reduceSub, Int.reduceToNat, Int.reduceLE, Int.reduceLT, Int.reduceEq, Int.reduceNe, reduceCtorEq, Nat.reduceLT, Nat.reduceLeDiff, hn, covS, h]
      rfl
  · simp only [h, go_sem, Nat.reduceMod, Nat.reduceBNe, Nat.reduceBEq, Nat.reduceEqDiff, Nat.reduceAdd, Int.reduceAdd, Nat.reduceMul, Nat.reduceSub, Int.reduceToNat, Int.reduceLE, Int.reduceLT, Int.reduceEq, Int.reduceNe, reduceCtorEq, Nat.reduceLT, Nat.reduceLeDiff, covS]
    rfl
end
end Go.Avm

/- Leq, Join and Meet of labels that are. -/
namespace Go.Avm
open Go
set_option maxRecDepth 10000
section
variable {X : Cx} (hX : X.P = Go.Proofs.Tryd.prog) (hs : Std X)
include hX hs
theorem bN {ns : List (List UInt8)} {up : List UInt8} (h : (Lat.checkS ns up).2 = 0) {a b : Nat} (ha : a < ns.length) (hb : b < ns.length) : Ev X F_law03_below [latV ns up, .int .i64 a, .int .i64 b] (.bool (Lat.le up a b)) := by
  have hv := chk_val h
  have h0 := askS_n h ha hb
  have h1 : leqS ns up a b = Lat.le up a b := by rw [leqS, h0, below_nat up a b (by rw [hv.len]; exact ha)]; simp
  refine ev_of_wpc hs (A_law03_below_ok hX) 1 ?_
  simp only [A_law03_below, latV, go_sem, Nat.reduceMod, Nat.reduceBNe, Nat.reduceBEq, Nat.reduceEqDiff, Nat.reduceAdd, Int.reduceAdd, Nat.reduceMul, Nat.reduceSub, Int.reduceToNat, Int.reduceLE, Int.reduceLT, Int.reduceEq, Int.reduceNe, reduceCtorEq, Nat.reduceLT, Nat.reduceLeDiff]
  refine call_ev (ev_Leq hX hs ns up a b) ?_
  rw [h0, h1]
  cases hl : Lat.le up a b with
  | false => simp only [go_sem, Nat.reduceMod, Nat.reduceBNe, Nat.reduceBEq, Nat.reduceEqDiff, Nat.reduceAdd, Int.reduceAdd, Nat.reduceMul, Nat.reduceSub, Int.reduceToNat, Int.reduceLE, Int.reduceLT, Int.reduceEq, Int.reduceNe, reduceCtorEq, Nat.reduceLT, Nat.reduceLeDiff]
  | true => simp only [go_sem, Nat.reduceMod, Nat.reduceBNe, Nat.reduceBEq, Nat.reduceEqDiff, Nat.reduceAdd, Int.reduceAdd, Nat.reduceMul, Nat.reduceSub, Int.reduceToNat, Int.reduceLE, Int.reduceLT, Int.reduceEq, Int.reduceNe, reduceCtorEq, Nat.reduceLT, Nat.reduceLeDiff]
theorem jN {ns : List (List UInt8)} {up : List UInt8} (h : (Lat.checkS ns up).2 = 0) {a b : Nat} (ha : a < ns.length) (hb : b < ns.length) : Ev X F_lattice_Join [latV ns up, .int .i64 a, .int .i64 b] (.tuple [.int .i64 (Lat.jn (Lat.msk up) ns.length a b : Nat), .int .i64 0]) := by
  have := ev_Join hX hs ns up a b
  rw [joinS, askS_n h ha hb, if_pos rfl] at this
  exact this
theorem mN {ns : List (List UInt8)} {up : List UInt8} (h : (Lat.checkS ns up).2 = 0) {a b : Nat} (ha : a < ns.length) (hb : b < ns.length) : Ev X F_lattice_Meet [latV ns up, .int .i64 a, .int .i64 b] (.tuple [.int .i64 (Lat.jn (fun c => Lat.dn up c ns.length) ns.length a b : Nat), .int .i64 0]) := by
  have := ev_Meet hX hs ns up a b
  rw [meetS, askS_n h ha hb, if_pos rfl] at this
  exact this
end
end Go.Avm
