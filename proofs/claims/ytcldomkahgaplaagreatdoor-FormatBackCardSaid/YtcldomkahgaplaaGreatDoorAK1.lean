/- Shapes and arrays. -/
import Derived.Test.YtcldomkahgaplaaGreatDoorAV2
import Derived.Test.YtcldomkahgaplaaGreatDoorM1
set_option linter.all false
namespace Go.Avm
open Go
section
variable {X : Cx} (hX : X.P = Go.Proofs.Tryz.prog) (hs : Std X)
include hX hs
theorem ev_IndexFuncI (l : List Int) (f : Nat) (cs : List AV) (hd : dryL cs = cs) (p : Int → Bool) (hp : ∀ x ∈ l, Ev X f (.int .i64 x :: cs) (.bool (p x))) (hl : l.length < 1000000) : Ev X F_sx_IndexFunc_int_int [lst (AV.int .i64) .ro l, .clo f [] cs] (.int .i64 (Lat.oi (Lat.ff l.length fun i => p (l.getD i 0)))) := by
 refine ev_of_wpc hs (A_sx_IndexFunc_int_int_ok hX) 0 ?_
 simp only [A_sx_IndexFunc_int_int, go_sem, Nat.reduceEqDiff, Nat.reduceAdd, reduceCtorEq]
 refine w_loop' hs.hm (ι := Nat) (fun i => i ≤ l.length ∧ ∀ j, j < i → p (l.getD j 0) = false) (fun i => [(8, .int .i64 i), (7, .int .i64 l.length), (1, .clo f [] cs), (0, lst (AV.int .i64) .ro l)]) (fun _ => []) (fun i => l.length - i) 0 ?_ fun i hi => ?_
 ·simp only [go_sem, Nat.reduceEqDiff, reduceCtorEq]
  exact ⟨Nat.zero_le _, no_lt0⟩
 ·obtain ⟨i1, i2⟩ := hi
  simp only [A_sx_IndexFunc_int_intL0, go_sem, Nat.reduceEqDiff, reduceCtorEq]
  refine ⟨fun c => ⟨⟨by omega, c⟩, call_ev (r := .bool (p (l.getD i 0))) ?_ ?_⟩, fun c => ?_⟩
  ·simp only [dryL, dry, hd]
   refine hp _ ?_
   rw [List.getD_eq_getElem?_getD, List.getElem?_eq_getElem (show i < l.length by omega)]
   exact List.getElem_mem _
  ·cases e : p (l.getD i 0) with
   | true =>
    simp only [go_sem, Nat.reduceEqDiff, reduceCtorEq]
    rw [Lat.ff_some (p := fun a => p (l.getD a 0)) (show i < l.length by omega) e i2]
    rfl
   | false =>
    simp only [go_sem, Nat.reduceEqDiff, reduceCtorEq]
    exact nxt1 (by omega) i2 e (by omega)
  ·rw [Lat.ff_none (p := fun a => p (l.getD a 0)) (n := l.length) fun j hj => i2 j (by omega)]
   rfl
theorem ev_ContainsFuncI (l : List Int) (f : Nat) (cs : List AV) (hd : dryL cs = cs) (p : Int → Bool) (hp : ∀ x ∈ l, Ev X f (.int .i64 x :: cs) (.bool (p x))) (hl : l.length < 1000000) : Ev X F_sx_ContainsFunc_int_int [lst (AV.int .i64) .ro l, .clo f [] cs] (.bool (l.any p)) := by
 refine ev_of_wpc hs (A_sx_ContainsFunc_int_int_ok hX) 0 ?_
 simp only [A_sx_ContainsFunc_int_int, go_sem, Nat.reduceEqDiff, Nat.reduceAdd, reduceCtorEq]
 refine call_ev (r := .int .i64 (Lat.oi (Lat.ff l.length fun i => p (l.getD i 0)))) ?_ ?_
 ·simp only [dryL, dry, lst, hd]
  exact ev_IndexFuncI hX hs l f cs hd p hp hl
 ·simp only [go_sem, Nat.reduceEqDiff, reduceCtorEq]
  rw [show l.any p = (Lat.ff l.length fun i => p (l.getD i 0)).isSome from ?_]
  ·cases Lat.ff l.length fun i => p (l.getD i 0) with
   | none => rfl
   | some c => simp [Lat.oi]
  ·rw [Bool.eq_iff_iff, List.any_eq_true]
   constructor
   ·rintro ⟨x, hx, hpx⟩
    obtain ⟨i, hi, e⟩ := List.getElem_of_mem hx
    cases hq : Lat.ff l.length fun i => p (l.getD i 0) with
    | some c => rfl
    | none =>
     have := Lat.ff_eq_none.1 hq i hi
     rw [List.getD_eq_getElem?_getD, List.getElem?_eq_getElem hi, Option.getD_some, e, hpx] at this
     exact absurd this (by decide)
   ·intro h
    obtain ⟨a, ha⟩ := Option.isSome_iff_exists.1 h
    obtain ⟨h1, h2, _⟩ := Lat.ff_eq_some.1 ha
    exact ⟨_, List.getElem_mem h1, by rw [List.getD_eq_getElem?_getD, List.getElem?_eq_getElem h1] at h2; exact h2⟩
end
def arrV (a : Lat.Arr) : AV := .agg [.int .i64 a.k, .int .i64 a.r, .int .i64 a.l0, .int .i64 a.l1, lst (AV.int .i64) .ro a.c]
theorem shapeE_0 {r l0 l1 : Int} (h : Lat.shapeE r l0 l1 = 0) : (0 ≤ r ∧ r ≤ 2) ∧ (0 ≤ l0 ∧ l0 ≤ 400) ∧ (0 ≤ l1 ∧ l1 ≤ 400) := by
 unfold Lat.shapeE at h
 split at h
 ·omega
 ·split at h
  ·omega
  ·split at h
   ·omega
   ·split at h
    ·omega
    ·omega
section
variable {X : Cx} (hX : X.P = Go.Proofs.Tryz.prog) (hs : Std X)
include hX hs
theorem ev_sc1 (x : Int) : Ev X F_sh_Check_1 [.int .i64 x] (.bool (decide (x < 0))) := by
 refine ev_of_wpc hs (A_sh_Check_1_ok hX) 1 ?_
 simp only [A_sh_Check_1, go_sem, Nat.reduceEqDiff, reduceCtorEq]
theorem ev_sc2 (x : Int) : Ev X F_sh_Check_2 [.int .i64 x] (.bool (!decide (x = 0))) := by
 refine ev_of_wpc hs (A_sh_Check_2_ok hX) 1 ?_
 simp only [A_sh_Check_2, go_sem, Nat.reduceEqDiff, reduceCtorEq]
theorem ev_sc3 (x : Int) : Ev X F_sh_Check_3 [.int .i64 x] (.bool (decide (400 < x))) := by
 refine ev_of_wpc hs (A_sh_Check_3_ok hX) 1 ?_
 simp only [A_sh_Check_3, go_sem, Nat.reduceEqDiff, reduceCtorEq]
theorem ev_product (n : Nat) (hn : n ≤ 2) (l0 l1 : Int) (h0 : 0 ≤ l0 ∧ l0 ≤ 400) (h1 : 0 ≤ l1 ∧ l1 ≤ 400) : Ev X F_sh_product [.int .i64 n, .agg [.int .i64 l0, .int .i64 l1]] (.int .i64 (Lat.many n l0 l1)) := by
 refine ev_of_wpc hs (A_sh_product_ok hX) 1 ?_
 have hm : 0 ≤ l1 * l0 ∧ l1 * l0 ≤ 400 * 400 := ⟨Int.mul_nonneg h1.1 h0.1, Int.mul_le_mul h1.2 h0.2 h0.1 (by decide)⟩
 have : n = 0 ∨ n = 1 ∨ n = 2 := by omega
 rcases this with rfl | rfl | rfl
 ·simp only [A_sh_product, go_sem, Nat.reduceBEq, Nat.reduceEqDiff, Nat.reduceAdd, Int.reduceEq, reduceCtorEq]
  simp [Lat.many]
 ·simp only [A_sh_product, go_sem, Nat.reduceBEq, Nat.reduceEqDiff, Nat.reduceAdd, Nat.reduceMul, Int.reduceToNat, Int.reduceLE, Int.reduceLT, Int.reduceEq, reduceCtorEq, Nat.reduceLT]
  rw [wi64 (by omega)]
  simp [Lat.many]
 ·simp only [A_sh_product, go_sem, Nat.reduceEqDiff, Nat.reduceAdd, Nat.reduceMul, Int.reduceToNat, Int.reduceLE, Int.reduceLT, reduceCtorEq, Nat.reduceLT, Int.one_mul]
  rw [wi64 (n := l1) (by omega), wi64 (by omega)]
  simp [Lat.many, Int.mul_comm]
theorem ev_sCheck (r l0 l1 : Int) : Ev X F_sh_Check [.int .i64 r, .agg [.int .i64 l0, .int .i64 l1]] (.int .i64 (Lat.shapeE r l0 l1)) := by
 refine ev_of_wpc hs (A_sh_Check_ok hX) 1 ?_
 by_cases hr : r < 0 ∨ 2 < r
 ·simp only [A_sh_Check, go_sem, Nat.reduceEqDiff, Nat.reduceAdd, Nat.reduceMul, Nat.reduceSub, Int.reduceToNat, Int.reduceLE, reduceCtorEq]
  have e : Lat.shapeE r l0 l1 = 7 := if_pos hr
  rw [e]
  refine ⟨fun _ => rfl, fun h => ⟨fun _ => rfl, fun h2 => absurd hr (by omega)⟩⟩
 ·have : r = 0 ∨ r = 1 ∨ r = 2 := by omega
  rcases this with rfl | rfl | rfl
  ·simp only [A_sh_Check, go_sem, Nat.reduceEqDiff, Nat.reduceAdd, Nat.reduceMul, Nat.reduceSub, Int.reduceToNat, Int.reduceLE, Int.reduceLT, reduceCtorEq]
   refine call_lend (r := .bool (([] : List Int).any fun x => decide (x < 0))) (ev_ContainsFuncI hX hs [] F_sh_Check_1 [] rfl _ (fun x hx => ev_sc1 hX hs x) (by simp)) rfl ?_
   simp only [List.any_nil, go_sem, Nat.reduceEqDiff, reduceCtorEq]
   refine call_lend (r := .bool (([l0, l1] : List Int).any fun x => !decide (x = 0))) (ev_ContainsFuncI hX hs [l0, l1] F_sh_Check_2 [] rfl _ (fun x hx => ev_sc2 hX hs x) (by simp)) rfl ?_
   cases e : ([l0, l1] : List Int).any fun x => !decide (x = 0) with
   | true =>
    simp only [go_sem, Nat.reduceEqDiff, reduceCtorEq]
    simp only [List.any_cons, List.any_nil, Bool.or_false, Bool.or_eq_true, Bool.not_eq_true', decide_eq_false_iff_not] at e
    simp only [Lat.shapeE, Lat.many]
    grind
   | false =>
    simp only [go_sem, Nat.reduceEqDiff, reduceCtorEq]
    refine call_lend (r := .bool (([] : List Int).any fun x => decide (400 < x))) (ev_ContainsFuncI hX hs [] F_sh_Check_3 [] rfl _ (fun x hx => ev_sc3 hX hs x) (by simp)) rfl ?_
    simp only [List.any_nil, go_sem, Nat.reduceEqDiff, Nat.reduceAdd, reduceCtorEq]
    simp only [List.any_cons, List.any_nil, Bool.or_false, Bool.or_eq_false_iff, Bool.not_eq_false', decide_eq_true_eq] at e
    refine call_ev (ev_product hX hs 0 (by omega) l0 l1 (by omega) (by omega)) ?_
    simp only [go_sem, Nat.reduceEqDiff, Int.reduceLE, Int.reduceLT, reduceCtorEq, Lat.shapeE, Lat.many]
    grind
  ·simp only [A_sh_Check, go_sem, Nat.reduceEqDiff, Nat.reduceAdd, Nat.reduceMul, Nat.reduceSub, Int.reduceToNat, Int.reduceLE, Int.reduceLT, reduceCtorEq]
   refine call_lend (r := .bool (([l0] : List Int).any fun x => decide (x < 0))) (ev_ContainsFuncI hX hs [l0] F_sh_Check_1 [] rfl _ (fun x hx => ev_sc1 hX hs x) (by simp)) rfl ?_
   cases e : ([l0] : List Int).any fun x => decide (x < 0) with
   | true =>
    simp only [go_sem, Nat.reduceEqDiff, reduceCtorEq]
    simp only [List.any_cons, List.any_nil, Bool.or_false, decide_eq_true_eq] at e
    simp only [Lat.shapeE, Lat.many]
    grind
   | false =>
    simp only [go_sem, Nat.reduceEqDiff, reduceCtorEq]
    simp only [List.any_cons, List.any_nil, Bool.or_false, decide_eq_false_iff_not] at e
    refine call_lend (r := .bool (([l1] : List Int).any fun x => !decide (x = 0))) (ev_ContainsFuncI hX hs [l1] F_sh_Check_2 [] rfl _ (fun x hx => ev_sc2 hX hs x) (by simp)) rfl ?_
    cases e2 : ([l1] : List Int).any fun x => !decide (x = 0) with
    | true =>
     simp only [go_sem, Nat.reduceEqDiff, reduceCtorEq]
     simp only [List.any_cons, List.any_nil, Bool.or_false, Bool.not_eq_true', decide_eq_false_iff_not] at e2
     simp only [Lat.shapeE, Lat.many]
     grind
    | false =>
     simp only [go_sem, Nat.reduceEqDiff, reduceCtorEq]
     simp only [List.any_cons, List.any_nil, Bool.or_false, Bool.not_eq_false', decide_eq_true_eq] at e2
     refine call_lend (r := .bool (([l0] : List Int).any fun x => decide (400 < x))) (ev_ContainsFuncI hX hs [l0] F_sh_Check_3 [] rfl _ (fun x hx => ev_sc3 hX hs x) (by simp)) rfl ?_
     cases e3 : ([l0] : List Int).any fun x => decide (400 < x) with
     | true =>
      simp only [go_sem, Nat.reduceEqDiff, reduceCtorEq]
      simp only [List.any_cons, List.any_nil, Bool.or_false, decide_eq_true_eq] at e3
      simp only [Lat.shapeE, Lat.many]
      grind
     | false =>
      simp only [go_sem, Nat.reduceEqDiff, Nat.reduceAdd, reduceCtorEq]
      simp only [List.any_cons, List.any_nil, Bool.or_false, decide_eq_false_iff_not] at e3
      refine call_ev (ev_product hX hs 1 (by omega) l0 l1 (by omega) (by omega)) ?_
      simp only [go_sem, Nat.reduceEqDiff, Int.reduceLE, Int.reduceLT, reduceCtorEq, Lat.shapeE, Lat.many]
      grind
  ·simp only [A_sh_Check, go_sem, Nat.reduceEqDiff, Nat.reduceAdd, Nat.reduceMul, Nat.reduceSub, Int.reduceToNat, Int.reduceLE, Int.reduceLT, reduceCtorEq]
   refine call_lend (r := .bool (([l0, l1] : List Int).any fun x => decide (x < 0))) (ev_ContainsFuncI hX hs [l0, l1] F_sh_Check_1 [] rfl _ (fun x hx => ev_sc1 hX hs x) (by simp)) rfl ?_
   cases e : ([l0, l1] : List Int).any fun x => decide (x < 0) with
   | true =>
    simp only [go_sem, Nat.reduceEqDiff, reduceCtorEq]
    simp only [List.any_cons, List.any_nil, Bool.or_false, Bool.or_eq_true, decide_eq_true_eq] at e
    simp only [Lat.shapeE, Lat.many]
    grind
   | false =>
    simp only [go_sem, Nat.reduceEqDiff, reduceCtorEq]
    simp only [List.any_cons, List.any_nil, Bool.or_false, Bool.or_eq_false_iff, decide_eq_false_iff_not] at e
    refine call_lend (r := .bool (([] : List Int).any fun x => !decide (x = 0))) (ev_ContainsFuncI hX hs [] F_sh_Check_2 [] rfl _ (fun x hx => ev_sc2 hX hs x) (by simp)) rfl ?_
    simp only [List.any_nil, go_sem, Nat.reduceEqDiff, reduceCtorEq]
    refine call_lend (r := .bool (([l0, l1] : List Int).any fun x => decide (400 < x))) (ev_ContainsFuncI hX hs [l0, l1] F_sh_Check_3 [] rfl _ (fun x hx => ev_sc3 hX hs x) (by simp)) rfl ?_
    cases e3 : ([l0, l1] : List Int).any fun x => decide (400 < x) with
    | true =>
     simp only [go_sem, Nat.reduceEqDiff, reduceCtorEq]
     simp only [List.any_cons, List.any_nil, Bool.or_false, Bool.or_eq_true, decide_eq_true_eq] at e3
     simp only [Lat.shapeE, Lat.many]
     grind
    | false =>
     simp only [go_sem, Nat.reduceEqDiff, Nat.reduceAdd, reduceCtorEq]
     simp only [List.any_cons, List.any_nil, Bool.or_false, Bool.or_eq_false_iff, decide_eq_false_iff_not] at e3
     refine call_ev (ev_product hX hs 2 (by omega) l0 l1 (by omega) (by omega)) ?_
     simp only [go_sem, Nat.reduceEqDiff, Int.reduceLE, Int.reduceLT, reduceCtorEq, Lat.shapeE, Lat.many]
     grind
theorem ev_Cells (r l0 l1 : Int) : Ev X F_sh_Cells [.int .i64 r, .agg [.int .i64 l0, .int .i64 l1]] (.tuple [.int .i64 (if Lat.shapeE r l0 l1 = 0 then Lat.many r l0 l1 else 0), .int .i64 (Lat.shapeE r l0 l1)]) := by
 refine ev_of_wpc hs (A_sh_Cells_ok hX) 1 ?_
 simp only [A_sh_Cells, go_sem, Nat.reduceEqDiff, Nat.reduceAdd, reduceCtorEq]
 refine call_ev (ev_sCheck hX hs r l0 l1) ?_
 by_cases h : Lat.shapeE r l0 l1 = 0
 ·simp only [h, go_sem, Nat.reduceEqDiff, Nat.reduceAdd, reduceCtorEq]
  obtain ⟨h1, h2, h3⟩ := shapeE_0 h
  obtain ⟨n, rfl⟩ : ∃ n : Nat, r = n := ⟨r.toNat, by omega⟩
  refine call_ev (ev_product hX hs n (by omega) l0 l1 h2 h3) ?_
  simp only [go_sem, Nat.reduceEqDiff, reduceCtorEq]
 ·simp only [h, go_sem, Nat.reduceEqDiff, reduceCtorEq]
theorem ev_IndexFuncL (l : List Int) (f : Nat) (cs : List AV) (hd : dryL cs = cs) (p : Int → Bool) (hp : ∀ x ∈ l, Ev X f (.int .i64 x :: cs) (.bool (p x))) (hl : l.length < 1000000) : Ev X F_sx_IndexFunc_int64_int64 [lst (AV.int .i64) .ro l, .clo f [] cs] (.int .i64 (Lat.oi (Lat.ff l.length fun i => p (l.getD i 0)))) := by
 refine ev_of_wpc hs (A_sx_IndexFunc_int64_int64_ok hX) 0 ?_
 simp only [A_sx_IndexFunc_int64_int64, go_sem, Nat.reduceEqDiff, Nat.reduceAdd, reduceCtorEq]
 refine w_loop' hs.hm (ι := Nat) (fun i => i ≤ l.length ∧ ∀ j, j < i → p (l.getD j 0) = false) (fun i => [(8, .int .i64 i), (7, .int .i64 l.length), (1, .clo f [] cs), (0, lst (AV.int .i64) .ro l)]) (fun _ => []) (fun i => l.length - i) 0 ?_ fun i hi => ?_
 ·simp only [go_sem, Nat.reduceEqDiff, reduceCtorEq]
  exact ⟨Nat.zero_le _, no_lt0⟩
 ·obtain ⟨i1, i2⟩ := hi
  simp only [A_sx_IndexFunc_int64_int64L0, go_sem, Nat.reduceEqDiff, reduceCtorEq]
  refine ⟨fun c => ⟨⟨by omega, c⟩, call_ev (r := .bool (p (l.getD i 0))) ?_ ?_⟩, fun c => ?_⟩
  ·simp only [dryL, dry, hd]
   refine hp _ ?_
   rw [List.getD_eq_getElem?_getD, List.getElem?_eq_getElem (show i < l.length by omega)]
   exact List.getElem_mem _
  ·cases e : p (l.getD i 0) with
   | true =>
    simp only [go_sem, Nat.reduceEqDiff, reduceCtorEq]
    rw [Lat.ff_some (p := fun a => p (l.getD a 0)) (show i < l.length by omega) e i2]
    rfl
   | false =>
    simp only [go_sem, Nat.reduceEqDiff, reduceCtorEq]
    exact nxt1 (by omega) i2 e (by omega)
  ·rw [Lat.ff_none (p := fun a => p (l.getD a 0)) (n := l.length) fun j hj => i2 j (by omega)]
   rfl
theorem ev_ContainsFuncL (l : List Int) (f : Nat) (cs : List AV) (hd : dryL cs = cs) (p : Int → Bool) (hp : ∀ x ∈ l, Ev X f (.int .i64 x :: cs) (.bool (p x))) (hl : l.length < 1000000) : Ev X F_sx_ContainsFunc_int64_int64 [lst (AV.int .i64) .ro l, .clo f [] cs] (.bool (l.any p)) := by
 refine ev_of_wpc hs (A_sx_ContainsFunc_int64_int64_ok hX) 0 ?_
 simp only [A_sx_ContainsFunc_int64_int64, go_sem, Nat.reduceEqDiff, Nat.reduceAdd, reduceCtorEq]
 refine call_ev (r := .int .i64 (Lat.oi (Lat.ff l.length fun i => p (l.getD i 0)))) ?_ ?_
 ·simp only [dryL, dry, lst, hd]
  exact ev_IndexFuncL hX hs l f cs hd p hp hl
 ·simp only [go_sem, Nat.reduceEqDiff, reduceCtorEq]
  rw [show l.any p = (Lat.ff l.length fun i => p (l.getD i 0)).isSome from ?_]
  ·cases Lat.ff l.length fun i => p (l.getD i 0) with
   | none => rfl
   | some c => simp [Lat.oi]
  ·rw [Bool.eq_iff_iff, List.any_eq_true]
   constructor
   ·rintro ⟨x, hx, hpx⟩
    obtain ⟨i, hi, e⟩ := List.getElem_of_mem hx
    cases hq : Lat.ff l.length fun i => p (l.getD i 0) with
    | some c => rfl
    | none =>
     have := Lat.ff_eq_none.1 hq i hi
     rw [List.getD_eq_getElem?_getD, List.getElem?_eq_getElem hi, Option.getD_some, e, hpx] at this
     exact absurd this (by decide)
   ·intro h
    obtain ⟨a, ha⟩ := Option.isSome_iff_exists.1 h
    obtain ⟨h1, h2, _⟩ := Lat.ff_eq_some.1 ha
    exact ⟨_, List.getElem_mem h1, by rw [List.getD_eq_getElem?_getD, List.getElem?_eq_getElem h1] at h2; exact h2⟩
theorem ev_ValidRune (x : Int) (hx : 0 ≤ x ∧ x ≤ 1114111) : Ev X F_u_ValidRune [.int .i32 x] (.bool (Lat.runeI x)) := by
 refine ev_of_wpc hs (A_u_ValidRune_ok hX) 1 ?_
 simp only [A_u_ValidRune, go_sem, Nat.reduceEqDiff, reduceCtorEq, Lat.runeI]
 have h1 : (0 ≤ x) = True := eq_true hx.1
 have h2 : (x ≤ 1114111) = True := eq_true hx.2
 simp only [h1, h2, go_sem]
 grind
theorem ev_right (k x : Int) : Ev X F_ar_right [.int .i64 k, .int .i64 x] (.bool (decide (k = 1) || Lat.runeI x)) := by
 refine ev_of_wpc hs (A_ar_right_ok hX) 1 ?_
 simp only [A_ar_right, go_sem, Nat.reduceEqDiff, Nat.reduceAdd, reduceCtorEq]
 refine ⟨fun h => ?_, fun h => ⟨fun h2 => ⟨fun h3 => ?_, fun h3 => ?_⟩, fun h2 => ?_⟩⟩
 ·simp [h]
 ·rw [wi32 (by omega)]
  refine call_ev (ev_ValidRune hX hs x ⟨h2, h3⟩) ?_
  simp only [go_sem, Nat.reduceEqDiff, reduceCtorEq, h]
 ·simp [h, Lat.runeI, h3]
 ·simp [h, Lat.runeI, h2]
theorem ev_aC1 (k r a b : Int) (c : AV) (x : Int) : Ev X F_ar_Check_1 [.int .i64 x, .vp [.int .i64 k, .int .i64 r, .int .i64 a, .int .i64 b, c]] (.bool (!(decide (k = 1) || Lat.runeI x))) := by
 refine ev_of_wpc hs (A_ar_Check_1_ok hX) 1 ?_
 simp only [A_ar_Check_1, go_sem, Nat.reduceEqDiff, Nat.reduceAdd, reduceCtorEq]
 refine call_ev (ev_right hX hs k x) ?_
 simp only [go_sem, Nat.reduceEqDiff, reduceCtorEq]
theorem ev_aCheck (a : Lat.Arr) (hl : a.c.length < 1000000) : Ev X F_ar_Check [arrV a] (.int .i64 (Lat.arrE a)) := by
 obtain ⟨k, r, l0, l1, c⟩ := a
 refine ev_of_wpc hs (A_ar_Check_ok hX) 1 ?_
 by_cases hk : k = 1 ∨ k = 2
 ·simp only [Lat.arrE, show ¬ (k ≠ 1 ∧ k ≠ 2) by omega, if_false]
  rcases hk with rfl | rfl <;> simp only [A_ar_Check, arrV, go_sem, Nat.reduceEqDiff, Nat.reduceAdd, Int.reduceEq, reduceCtorEq, Nat.reduceLT, Nat.reduceLeDiff]
  ·refine call_ev (ev_Cells hX hs r l0 l1) ?_
   by_cases h : Lat.shapeE r l0 l1 = 0
   ·simp only [h, go_sem, Nat.reduceEqDiff, Nat.reduceAdd, reduceCtorEq, Nat.reduceLT, ne_eq]
    refine ⟨fun e => ?_, fun e => ?_⟩
    ·rw [if_pos e]
    ·refine call_lend (r := .bool (c.any fun x => !(decide (((1 : Int)) = 1) || Lat.runeI x))) (ev_ContainsFuncL hX hs c F_ar_Check_1 [.vp [.int .i64 1, .int .i64 r, .int .i64 l0, .int .i64 l1, lst (AV.int .i64) .ro c]] rfl _ (fun x hx => ev_aC1 hX hs 1 r l0 l1 _ x) hl) rfl ?_
     rw [if_neg (fun z => z e)]
     simp only [decide_true, Bool.true_or, Bool.not_true, go_sem, Nat.reduceEqDiff, reduceCtorEq]
     have e2 : (c.any fun _ => false) = false := by simp
     simp only [e2, false_and, go_sem, reduceCtorEq]
   ·simp only [h, go_sem, Nat.reduceEqDiff, Nat.reduceAdd, reduceCtorEq, Nat.reduceLT, ne_eq]
  ·refine call_ev (ev_Cells hX hs r l0 l1) ?_
   by_cases h : Lat.shapeE r l0 l1 = 0
   ·simp only [h, go_sem, Nat.reduceEqDiff, Nat.reduceAdd, reduceCtorEq, Nat.reduceLT, ne_eq]
    refine ⟨fun e => ?_, fun e => ?_⟩
    ·rw [if_pos e]
    ·refine call_lend (r := .bool (c.any fun x => !(decide (((2 : Int)) = 1) || Lat.runeI x))) (ev_ContainsFuncL hX hs c F_ar_Check_1 [.vp [.int .i64 2, .int .i64 r, .int .i64 l0, .int .i64 l1, lst (AV.int .i64) .ro c]] rfl _ (fun x hx => ev_aC1 hX hs 2 r l0 l1 _ x) hl) rfl ?_
     rw [if_neg (fun z => z e)]
     simp only [show decide ((2 : Int) = 1) = false from rfl, Bool.false_or]
     cases e2 : c.any fun x => !Lat.runeI x <;> simp only [go_sem, Nat.reduceEqDiff, reduceCtorEq]
   ·simp only [h, go_sem, Nat.reduceEqDiff, Nat.reduceAdd, reduceCtorEq, Nat.reduceLT, ne_eq]
 ·have e : Lat.arrE ⟨k, r, l0, l1, c⟩ = 2 := if_pos (by simp only; omega)
  rw [e]
  have h1 : (k = 1) = False := eq_false (by omega)
  have h2 : (k = 2) = False := eq_false (by omega)
  simp only [A_ar_Check, arrV, go_sem, Nat.reduceEqDiff, Nat.reduceAdd, reduceCtorEq, Nat.reduceLT, h1, h2]
end
end Go.Avm
namespace Go.Avm
open Go Go.Tb
set_option maxRecDepth 10000
instance : Elt arrV 5 := ⟨fun _ => rfl, fun _ => rfl, fun _ => rfl, fun a => by obtain ⟨k, r, l0, l1, c⟩ := a; simp only [arrV, go_sem]⟩
def tabV (t : Tab) : AV := .agg [lst AV.str .ro t.n, lst arrV .ro t.c]
theorem arr_cells (a : Lat.Arr) : (arrV a).cells = [.int .i64 a.k, .int .i64 a.r, .int .i64 a.l0, .int .i64 a.l1, lst (AV.int .i64) .ro a.c] := id rfl
theorem chk_long {t : Tab} (h : 16 < t.n.length) : chk t = (-1, 3) := if_pos h
theorem chk_form {t : Tab} (h : t.n.length ≤ 16) (h2 : t.c.length ≠ t.n.length) : chk t = (-1, 6) := by unfold chk; rw [if_neg (by omega), if_pos h2]
theorem col_mem {t : Tab} {i : Nat} (h : i < t.c.length) : t.col i ∈ t.c := by
 unfold Tab.col
 rw [List.getD_eq_getElem?_getD, List.getElem?_eq_getElem h]
 exact List.getElem_mem h
theorem gx0 {α : Type} (G : List α) (x : α) (r : List α) : (G ++ x :: r)[G.length]? = some x := by simp
theorem gx1 {α : Type} (G : List α) (x y : α) (r : List α) : (G ++ x :: y :: r)[G.length + 1]? = some y := by
 rw [List.getElem?_append_right (by omega), show G.length + 1 - G.length = 1 by omega]; rfl
theorem gs0 {α : Type} (G : List α) (x z : α) (r : List α) : (G ++ x :: r).set G.length z = G ++ z :: r := by
 rw [List.set_append_right _ _ (Nat.le_refl _), Nat.sub_self]; rfl
theorem gs1 {α : Type} (G : List α) (x y z : α) (r : List α) : (G ++ x :: y :: r).set (G.length + 1) z = G ++ x :: z :: r := by
 rw [List.set_append_right _ _ (by omega), show G.length + 1 - G.length = 1 by omega]; rfl
theorem gl2 {α : Type} (G : List α) (x : α) : (G ++ [x]).length = G.length + 1 := by simp
theorem gl3 {α : Type} (G : List α) (x y : α) : (G ++ [x, y]).length = G.length + 2 := by simp
section
variable {X : Cx} (hX : X.P = Go.Proofs.Tryz.prog) (hs : Std X)
include hX hs
theorem ev_Check (t : Tab) (hl : ∀ a ∈ t.c, a.c.length < 1000000) : Ev X F_tb_Check [tabV t] (.tuple [.int .i64 (chk t).1, .int .i64 (chk t).2]) := by
 refine ev_of_wpc hs (A_tb_Check_ok hX) 0 ?_
 simp only [A_tb_Check, tabV, go_sem, Nat.reduceEqDiff, Nat.reduceAdd, reduceCtorEq, Nat.reduceLT]
 refine ⟨fun h => ?_, fun h => ⟨fun h2 => ?_, fun h2 => ?_⟩⟩
 ·rw [chk_long (by omega)]
 ·rw [chk_form (by omega) (by omega)]
 have hlen : t.n.length ≤ 16 := by omega
 have heq : t.c.length = t.n.length := by omega
 refine w_loop' hs.hm (ι := Nat × Heap) (fun x => x.1 ≤ t.n.length ∧ ∀ j, j < x.1 → colE t j = 0) (fun x => [(26, .int .i64 x.1), (25, .int .i64 t.n.length), (24, lst AV.str .ro t.n), (4, .mp 1), (1, .ptr 0 0)]) (fun x => .box [lst AV.str .ro t.n, lst arrV .ro t.c] :: .mpb (t.n.take x.1) :: x.2) (fun x => t.n.length - x.1) (0, []) ?_ fun x hx => ?_
 ·simp only [go_sem, Nat.reduceEqDiff, reduceCtorEq, List.take_zero]
  exact ⟨Nat.zero_le _, no_lt0⟩
 obtain ⟨i, G⟩ := x
 obtain ⟨i1, i2⟩ := hx
 dsimp only at i1 i2 ⊢
 by_cases hi : i < t.n.length
 ·have hi' : (i : Int) < t.n.length := by omega
  have hic : (i : Int) < t.c.length := by omega
  have hic0 : (0 : Int) < t.c.length := by omega
  simp only [A_tb_CheckL0, go_sem, Nat.reduceEqDiff, Nat.reduceAdd, Nat.reduceLT, hi', hic, arr_cells]
  refine ⟨by omega, by omega, ?_⟩
  have e0 : ∀ d, t.c.getD i d = t.col i := fun d => by unfold Tab.col; rw [List.getD_eq_getElem?_getD, List.getD_eq_getElem?_getD, List.getElem?_eq_getElem (by omega)]; rfl
  have e00 : ∀ d, t.c.getD 0 d = t.col 0 := fun d => by unfold Tab.col; rw [List.getD_eq_getElem?_getD, List.getD_eq_getElem?_getD, List.getElem?_eq_getElem (by omega)]; rfl
  have en : ∀ d, t.n.getD i d = t.nm i := fun d => by unfold Tab.nm; rw [List.getD_eq_getElem?_getD, List.getD_eq_getElem?_getD, List.getElem?_eq_getElem (by omega)]; rfl
  rw [e0, en]
  have hcE : colE t i ≠ 0 → ∀ k : Int, k = colE t i → AV.tuple [.int .i64 i, .int .i64 k] = AV.tuple [.int .i64 (chk t).1, .int .i64 (chk t).2] := fun h k hk => by rw [chk_col hlen heq hi i2 h, hk]
  refine call_ev (ev_aCheck hX hs (t.col i) (hl _ (col_mem (by omega)))) ?_
  simp only [go_sem, Nat.reduceEqDiff]
  refine call_ev (ev_Name hX hs (t.nm i)) ?_
  cases hN : Lat.isNm (t.nm i) with
  | false =>
   simp only [go_sem, Nat.reduceEqDiff]
   have e : colE t i = 6 := if_pos hN
   exact hcE (by rw [e]; decide) 6 e.symm
  | true =>
   have hN' : ¬ Lat.isNm (t.nm i) = false := by rw [hN]; decide
   simp only [go_sem, Nat.reduceEqDiff, Nat.reduceAdd, Int.reduceToNat, Int.reduceLE, Nat.reduceLT, Nat.reduceLeDiff]
   cases hC : (t.n.take i).contains (t.nm i) with
   | true =>
    simp only [go_sem, reduceCtorEq]
    have e : colE t i = 8 := by unfold colE; rw [if_neg hN', if_pos hC]
    exact hcE (by rw [e]; decide) 8 e.symm
   | false =>
    have hC' : ¬ (t.n.take i).contains (t.nm i) = true := by rw [hC]; decide
    simp only [go_sem, reduceCtorEq]
    by_cases hA : Lat.arrE (t.col i) = 0
    ·simp only [go_sem, hA]
     by_cases hr : (t.col i).r = 1
     ·simp only [go_sem, Nat.reduceEqDiff, Nat.reduceAdd, Nat.reduceLeDiff, hr, e00, arr_cells]
      by_cases h5 : (t.col i).l0 = (t.col 0).l0 ∧ (t.col i).l1 = (t.col 0).l1
      ·have hb : (((t.col i).l0 == (t.col 0).l0) && ((t.col i).l1 == (t.col 0).l1)) = true := by simp [h5.1, h5.2]
       have hw : IntKind.i64.wrap ((i : Int) + 1) = ((i + 1 : Nat) : Int) := by rw [wi64 (by omega)]; omega
       refine ⟨by omega, fun h => absurd (hb.symm.trans h) (by decide), fun _ => ?_⟩
       rw [if_neg hC']
       simp only [go_sem, Nat.reduceEqDiff, hw]
       have e : colE t i = 0 := by unfold colE; rw [if_neg hN', if_neg hC', if_neg (fun h => h hA), if_neg (fun h => h hr), if_neg (fun h => h h5)]
       have ht : t.n.take i ++ [t.nm i] = t.n.take (i + 1) := by
        rw [List.take_succ_eq_append_getElem hi]
        have : t.n[i] = t.nm i := by unfold Tab.nm; rw [List.getD_eq_getElem?_getD, List.getElem?_eq_getElem hi]; rfl
        rw [this]
       rw [ht]
       refine ⟨(i + 1, _), by dsimp only; omega, ⟨by dsimp only; omega, fun j hj => ?_⟩, rfl, rfl⟩
       dsimp only at hj
       by_cases ej : j = i
       ·rw [ej, e]
       ·exact i2 j (by omega)
      ·have hb : (((t.col i).l0 == (t.col 0).l0) && ((t.col i).l1 == (t.col 0).l1)) = false := by
        rw [Bool.eq_false_iff]; intro h; simp only [Bool.and_eq_true, beq_iff_eq] at h; exact h5 h
       refine ⟨by omega, fun h => ?_, fun h => absurd h (by simpa using h5)⟩
       have e : colE t i = 11 := by unfold colE; rw [if_neg hN', if_neg hC', if_neg (fun h => h hA), if_neg (fun h => h hr), if_pos h5]
       exact hcE (by rw [e]; decide) 11 e.symm
     ·simp only [go_sem, hr]
      have e : colE t i = 22 := by unfold colE; rw [if_neg hN', if_neg hC', if_neg (fun h => h hA), if_pos hr]
      exact hcE (by rw [e]; decide) 22 e.symm
    ·simp only [go_sem, hA]
     have e : colE t i = Lat.arrE (t.col i) := by unfold colE; rw [if_neg hN', if_neg hC', if_pos hA]
     exact hcE (by rw [e]; exact hA) _ e.symm
 ·have hi' : ¬ (i : Int) < t.n.length := by omega
  simp only [A_tb_CheckL0, go_sem, Nat.reduceEqDiff, hi']
  rw [chk_ok ⟨hlen, heq, fun j hj => i2 j (by omega)⟩]
end
end Go.Avm
namespace Go.Avm
open Go Go.Tb
set_option maxRecDepth 10000
theorem col_eq (t : Tab) (i : Nat) (hi : i < t.c.length) (d : Lat.Arr) : t.c.getD i d = t.col i := by
 unfold Tab.col
 rw [List.getD_eq_getElem?_getD, List.getD_eq_getElem?_getD, List.getElem?_eq_getElem hi]; rfl
theorem nm_eq (t : Tab) (i : Nat) (hi : i < t.n.length) (d : List UInt8) : t.n.getD i d = t.nm i := by
 unfold Tab.nm
 rw [List.getD_eq_getElem?_getD, List.getD_eq_getElem?_getD, List.getElem?_eq_getElem hi]; rfl
section
variable {X : Cx} (hX : X.P = Go.Proofs.Tryz.prog) (hs : Std X)
include hX hs
theorem ev_Like (a b : Lat.Arr) : Ev X F_ra_Like [arrV a, arrV b] (.bool (likeA a b)) := by
 obtain ⟨k, r, l0, l1, c⟩ := a
 obtain ⟨k', r', l0', l1', c'⟩ := b
 refine ev_of_wpc hs (A_ra_Like_ok hX) 0 ?_
 simp only [A_ra_Like, arrV, go_sem, Nat.reduceEqDiff, Nat.reduceAdd, reduceCtorEq, Nat.reduceLT, Nat.reduceLeDiff, likeA]
 grind
theorem ev_same6 (a b : Lat.Arr) (hl : a.c.length < 1000000) : Ev X F_ra_Same [arrV a, arrV b] (.bool (sameA a b)) := by
 obtain ⟨k, r, l0, l1, l⟩ := a
 obtain ⟨k', r', l0', l1', m⟩ := b
 refine ev_of_wpc hs (A_ra_Same_ok hX) 0 ?_
 simp only [A_ra_Same, arrV, go_sem, Nat.reduceEqDiff, Nat.reduceAdd, reduceCtorEq]
 refine call_ev (ev_Like hX hs ⟨k, r, l0, l1, l⟩ ⟨k', r', l0', l1', m⟩) ?_
 dsimp only at hl
 cases hk : likeA ⟨k, r, l0, l1, l⟩ ⟨k', r', l0', l1', m⟩ with
 | false =>
  simp only [go_sem, Nat.reduceEqDiff, reduceCtorEq]
  simp only [sameA, hk, Bool.false_and]
 | true =>
  have e0 : sameA ⟨k, r, l0, l1, l⟩ ⟨k', r', l0', l1', m⟩ = (l == m) := by simp only [sameA, hk, Bool.true_and]
  rw [e0]
  simp only [go_sem, Nat.reduceEqDiff, Nat.reduceAdd, reduceCtorEq, Nat.reduceLT]
  refine ⟨fun h => ?_, fun h => ?_⟩
  ·have : (l == m) = false := by rw [beq_eq_false_iff_ne]; rintro rfl; exact h rfl
   rw [this]
  have hlm : l.length = m.length := by omega
  refine w_loop' hs.hm (ι := Nat) (fun i => i ≤ l.length ∧ ∀ j, j < i → l.getD j 0 = m.getD j 0) (fun i => [(5, .int .i64 i), (2, .ptr 0 0), (3, .ptr 1 0)]) (fun _ => [.box [.int .i64 k, .int .i64 r, .int .i64 l0, .int .i64 l1, lst (AV.int .i64) .ro l], .box [.int .i64 k', .int .i64 r', .int .i64 l0', .int .i64 l1', lst (AV.int .i64) .ro m]]) (fun i => l.length - i) 0 ?_ fun i hi => ?_
  ·simp only [go_sem, Nat.reduceEqDiff, reduceCtorEq]
   exact ⟨Nat.zero_le _, fun j hj => absurd hj (Nat.not_lt_zero _)⟩
  obtain ⟨x1, x2⟩ := hi
  by_cases hi : i < l.length
  ·have h1 : (i : Int) < l.length := by omega
   have h2 : (i : Int) < m.length := by omega
   have hw : IntKind.i64.wrap ((i : Int) + 1) = ((i + 1 : Nat) : Int) := by rw [wi64 (by omega)]; omega
   simp only [A_ra_SameL0, go_sem, Nat.reduceEqDiff, Nat.reduceAdd, Nat.reduceLT, h1, h2, hw]
   refine ⟨by omega, by omega, fun h => ?_, fun h => ⟨i + 1, by omega, ⟨hi, fun j hj => ?_⟩, rfl⟩⟩
   ·have : (l == m) = false := by rw [beq_eq_false_iff_ne]; rintro rfl; exact h rfl
    rw [this]
   ·rcases (by omega : j = i ∨ j < i) with rfl | hj
    ·exact h
    ·exact x2 j hj
  ·have h1 : ¬ (i : Int) < l.length := by omega
   simp only [A_ra_SameL0, go_sem, Nat.reduceEqDiff, Nat.reduceAdd, Nat.reduceLT, h1]
   have : (l == m) = true := by rw [beq_iff_eq]; exact ext_getD 0 hlm fun j hj => x2 j (by omega)
   rw [this]
end
end Go.Avm
namespace Go.Avm
open Go
set_option maxRecDepth 10000
section
variable {X : Cx} (hX : X.P = Go.Proofs.Tryz.prog) (hs : Std X)
include hX hs
end
end Go.Avm
