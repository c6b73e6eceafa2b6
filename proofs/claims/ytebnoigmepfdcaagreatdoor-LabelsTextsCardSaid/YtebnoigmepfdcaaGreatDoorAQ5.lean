/- Labels: Check, both. -/
import Derived.Test.YtebnoigmepfdcaaGreatDoorAQ4
set_option linter.unusedSectionVars false
set_option linter.unusedSimpArgs false
set_option linter.unusedVariables false

/- Labels: Check, both. -/
namespace Go.Avm
open Go
/-- the first one -/
def fidx (p : Int → Bool) (l : List Int) : Option Nat := l.findIdx? p
theorem fidx_at {p : Int → Bool} {l : List Int} {i : Nat} (hi : i < l.length) (hp : p (l.getD i 0) = true) (hn : ∀ j, j < i → p (l.getD j 0) = false) : fidx p l = some i := by
  unfold fidx
  rw [List.findIdx?_eq_some_iff_getElem]
  refine ⟨hi, by simpa [List.getD, hi] using hp, fun j hj => ?_⟩
  have := hn j hj
  rw [List.getD_eq_getElem?_getD, List.getElem?_eq_getElem (by omega)] at this
  simpa using this
theorem fidx_no {p : Int → Bool} {l : List Int} (hn : ∀ j, j < l.length → p (l.getD j 0) = false) : fidx p l = none := by
  unfold fidx
  rw [List.findIdx?_eq_none_iff]
  intro x hx
  obtain ⟨j, hj, e⟩ := List.getElem_of_mem hx
  have := hn j hj
  rw [List.getD_eq_getElem?_getD, List.getElem?_eq_getElem hj] at this
  simpa [e] using this
/-- a number, or what stands for none -/
def oz (d : Int) : Option Nat → Int
  | some i => i
  | none => d
def oe (k : Int) : Option Nat → Int
  | some _ => k
  | none => 0
/-- what Check returns -/
def ckA (ns : List (List UInt8)) (up : List UInt8) (l : List Int) : Int :=
  if (Lat.checkS ns up).2 = 0 then (if 64 < l.length then -1 else oz 0 (fidx (badL ns.length) l)) else -1
def ckE (ns : List (List UInt8)) (up : List UInt8) (l : List Int) : Int :=
  if (Lat.checkS ns up).2 = 0 then (if 64 < l.length then 3 else oe 7 (fidx (badL ns.length) l)) else (Lat.checkS ns up).2
set_option maxRecDepth 10000
section
variable {X : Cx} (hX : X.P = Go.Proofs.Tryz.prog) (hs : Std X)
include hX hs
theorem ev_lCheck (ns : List (List UInt8)) (up : List UInt8) (l : List Int) (hl : l.length < 1000000) : Ev X F_labels_Check [latV ns up, lst (AV.int .i64) .ro l] (.tuple [.int .i64 (ckA ns up l), .int .i64 (ckE ns up l)]) := by
  refine ev_of_wpc hs (A_labels_Check_ok hX) 1 ?_
  simp only [A_labels_Check, latV, go_sem, Nat.reduceMod, Nat.reduceBNe, Nat.reduceBEq, Nat.reduceEqDiff, Nat.reduceAdd, Int.reduceAdd, Nat.reduceMul, Nat.reduceSub, Int.reduceToNat, Int.reduceLE, Int.reduceLT, Int.reduceEq, Int.reduceNe, reduceCtorEq, Nat.reduceLT, Nat.reduceLeDiff]
  refine call_ev (ev_Check hX hs ns up) ?_
  by_cases h : (Lat.checkS ns up).2 = 0
  · simp only [h, go_sem, Nat.reduceMod, Nat.reduceBNe, Nat.reduceBEq, Nat.reduceEqDiff, Nat.reduceAdd, Int.reduceAdd, Nat.reduceMul, Nat.reduceSub, Int.reduceToNat, Int.reduceLE, Int.reduceLT, Int.reduceEq, Int.reduceNe, reduceCtorEq, Nat.reduceLT, Nat.reduceLeDiff]
    refine ⟨fun h64 => ?_, fun h64 => ?_⟩
    · have : 64 < l.length := by omega
      simp only [ckA, ckE, h, this, if_true]
    · have h64' : ¬ 64 < l.length := by omega
      refine w_loop' hs.hm (ι := Nat) (fun i => i ≤ l.length ∧ ∀ j, j < i → badL ns.length (l.getD j 0) = false) (fun i => [(23, .int .i64 i), (22, .int .i64 l.length), (21, lst (AV.int .i64) .ro l), (2, .ptr 0 0)]) (fun _ => [.box [lst AV.str .ro ns, lst u8 .ro up]]) (fun i => l.length - i) 0 ?_ fun i hi => ?_
      · simp only [go_sem, Nat.reduceMod, Nat.reduceBNe, Nat.reduceBEq, Nat.reduceEqDiff, Nat.reduceAdd, Int.reduceAdd, Nat.reduceMul, Nat.reduceSub, Int.reduceToNat, Int.reduceLE, Int.reduceLT, Int.reduceEq, Int.reduceNe, reduceCtorEq, Nat.reduceLT, Nat.reduceLeDiff]
        exact ⟨Nat.zero_le _, no_lt0⟩
      · obtain ⟨i1, i2⟩ := hi
        simp only [A_labels_CheckL0, go_sem, Nat.reduceMod, Nat.reduceBNe, Nat.reduceBEq, Nat.reduceEqDiff, Nat.reduceAdd, Int.reduceAdd, Nat.reduceMul, Nat.reduceSub, Int.reduceToNat, Int.reduceLE, Int.reduceLT, Int.reduceEq, Int.reduceNe, reduceCtorEq, Nat.reduceLT, Nat.reduceLeDiff]
        have at7 : i < l.length → badL ns.length (l.getD i 0) = true → AV.tuple [AV.int .i64 i, AV.int .i64 7] = AV.tuple [AV.int .i64 (ckA ns up l), AV.int .i64 (ckE ns up l)] := fun hi hb => by
          simp only [ckA, ckE, h, h64', if_true, if_false, fidx_at hi hb i2, oz, oe]
        refine ⟨fun c => ⟨⟨by omega, c⟩, fun e => at7 (by omega) (by simp only [badL, show l.getD i 0 < 0 from e, decide_true, Bool.true_or]), fun e => ⟨fun e2 => at7 (by omega) (by simp only [badL, show (ns.length : Int) ≤ l.getD i 0 from e2, decide_true, Bool.or_true]), fun e2 => nxt1 (by omega) i2 ?_ (by omega)⟩⟩, fun c => ?_⟩
        · simp only [badL, show ¬ l.getD i 0 < 0 from e, show ¬ (ns.length : Int) ≤ l.getD i 0 from e2, decide_false, Bool.or_self]
        · simp only [ckA, ckE, h, h64', if_true, if_false, fidx_no (p := badL ns.length) (l := l) fun j hj => i2 j (by omega), oz, oe]
  · simp only [h, go_sem, Nat.reduceMod, Nat.reduceBNe, Nat.reduceBEq, Nat.reduceEqDiff, Nat.reduceAdd, Int.reduceAdd, Nat.reduceMul, Nat.reduceSub, Int.reduceToNat, Int.reduceLE, Int.reduceLT, Int.reduceEq, Int.reduceNe, reduceCtorEq, Nat.reduceLT, Nat.reduceLeDiff, ckA, ckE]
theorem ev_rlCheck (ns : List (List UInt8)) (up : List UInt8) (l : List Int) (hl : l.length < 1000000) : Ev X F_ref04_Check [latV ns up, lst (AV.int .i64) .ro l] (.tuple [.int .i64 (ckA ns up l), .int .i64 (ckE ns up l)]) := by
  refine ev_of_wpc hs (A_ref04_Check_ok hX) 1 ?_
  simp only [A_ref04_Check, latV, go_sem, Nat.reduceMod, Nat.reduceBNe, Nat.reduceBEq, Nat.reduceEqDiff, Nat.reduceAdd, Int.reduceAdd, Nat.reduceMul, Nat.reduceSub, Int.reduceToNat, Int.reduceLE, Int.reduceLT, Int.reduceEq, Int.reduceNe, reduceCtorEq, Nat.reduceLT, Nat.reduceLeDiff]
  refine call_ev (ev_rCheck hX hs ns up) ?_
  by_cases h : (Lat.checkS ns up).2 = 0
  · simp only [h, go_sem, Nat.reduceMod, Nat.reduceBNe, Nat.reduceBEq, Nat.reduceEqDiff, Nat.reduceAdd, Int.reduceAdd, Nat.reduceMul, Nat.reduceSub, Int.reduceToNat, Int.reduceLE, Int.reduceLT, Int.reduceEq, Int.reduceNe, reduceCtorEq, Nat.reduceLT, Nat.reduceLeDiff]
    refine ⟨fun h64 => ?_, fun h64 => ?_⟩
    · have : 64 < l.length := by omega
      simp only [ckA, ckE, h, this, if_true]
    · have h64' : ¬ 64 < l.length := by omega
      refine w_loop' hs.hm (ι := Nat) (fun i => i ≤ l.length ∧ ∀ j, j < i → badL ns.length (l.getD j 0) = false) (fun i => [(8, .int .i64 i), (1, lst (AV.int .i64) .ro l), (2, .ptr 0 0)]) (fun _ => [.box [lst AV.str .ro ns, lst u8 .ro up]]) (fun i => l.length - i) 0 ?_ fun i hi => ?_
      · simp only [go_sem, Nat.reduceMod, Nat.reduceBNe, Nat.reduceBEq, Nat.reduceEqDiff, Nat.reduceAdd, Int.reduceAdd, Nat.reduceMul, Nat.reduceSub, Int.reduceToNat, Int.reduceLE, Int.reduceLT, Int.reduceEq, Int.reduceNe, reduceCtorEq, Nat.reduceLT, Nat.reduceLeDiff]
        exact ⟨Nat.zero_le _, no_lt0⟩
      · obtain ⟨i1, i2⟩ := hi
        simp only [A_ref04_CheckL0, go_sem, Nat.reduceMod, Nat.reduceBNe, Nat.reduceBEq, Nat.reduceEqDiff, Nat.reduceAdd, Int.reduceAdd, Nat.reduceMul, Nat.reduceSub, Int.reduceToNat, Int.reduceLE, Int.reduceLT, Int.reduceEq, Int.reduceNe, reduceCtorEq, Nat.reduceLT, Nat.reduceLeDiff]
        have at7 : i < l.length → badL ns.length (l.getD i 0) = true → AV.tuple [AV.int .i64 i, AV.int .i64 7] = AV.tuple [AV.int .i64 (ckA ns up l), AV.int .i64 (ckE ns up l)] := fun hi hb => by
          simp only [ckA, ckE, h, h64', if_true, if_false, fidx_at hi hb i2, oz, oe]
        refine ⟨fun c => ⟨⟨by omega, c⟩, fun e => at7 (by omega) (by simp only [badL, show l.getD i 0 < 0 from e, decide_true, Bool.true_or]), fun e => ⟨⟨by omega, c⟩, fun e2 => at7 (by omega) (by simp only [badL, show (ns.length : Int) ≤ l.getD i 0 from e2, decide_true, Bool.or_true]), fun e2 => nxt1 (by omega) i2 ?_ (by omega)⟩⟩, fun c => ?_⟩
        · simp only [badL, show ¬ l.getD i 0 < 0 from e, show ¬ (ns.length : Int) ≤ l.getD i 0 from e2, decide_false, Bool.or_self]
        · simp only [ckA, ckE, h, h64', if_true, if_false, fidx_no (p := badL ns.length) (l := l) fun j hj => i2 j (by omega), oz, oe]
  · simp only [h, go_sem, Nat.reduceMod, Nat.reduceBNe, Nat.reduceBEq, Nat.reduceEqDiff, Nat.reduceAdd, Int.reduceAdd, Nat.reduceMul, Nat.reduceSub, Int.reduceToNat, Int.reduceLE, Int.reduceLT, Int.reduceEq, Int.reduceNe, reduceCtorEq, Nat.reduceLT, Nat.reduceLeDiff, ckA, ckE]
end
theorem fidx_none {p : Int → Bool} {l : List Int} (h : fidx p l = none) : ∀ x ∈ l, p x = false := fun x hx => by
  unfold fidx at h
  rw [List.findIdx?_eq_none_iff] at h
  exact h x hx
/-- A list that passes Check. -/
theorem ck_ok {ns : List (List UInt8)} {up : List UInt8} {l : List Int} (h : ckE ns up l = 0) : (Lat.checkS ns up).2 = 0 ∧ l.length ≤ 64 ∧ ∀ x ∈ l, 0 ≤ x ∧ x < ns.length := by
  unfold ckE at h
  by_cases h1 : (Lat.checkS ns up).2 = 0
  · rw [if_pos h1] at h
    by_cases h2 : 64 < l.length
    · rw [if_pos h2] at h
      omega
    · rw [if_neg h2] at h
      refine ⟨h1, by omega, fun x hx => ?_⟩
      cases h3 : fidx (badL ns.length) l with
      | some i => rw [h3] at h; simp [oe] at h
      | none =>
        have := fidx_none h3 x hx
        simp only [badL, Bool.or_eq_false_iff, decide_eq_false_iff_not] at this
        omega
  · rw [if_neg h1] at h
    exact absurd h h1
theorem nl_ex {n : Nat} {l : List Int} (h : ∀ x ∈ l, 0 ≤ x ∧ x < n) : ∃ k : List Nat, l = nl k ∧ ∀ x ∈ k, x < n := by
  refine ⟨l.map Int.toNat, ?_, fun x hx => ?_⟩
  · unfold nl
    rw [List.map_map]
    symm
    have : l.map ((fun a : Nat => (a : Int)) ∘ Int.toNat) = l.map id := List.map_congr_left fun x hx => by
      have := h x hx
      simp only [Function.comp_apply, id]
      omega
    rw [this, List.map_id]
  · obtain ⟨y, hy, rfl⟩ := List.mem_map.1 hx
    have := h y hy
    omega
theorem nl_len (k : List Nat) : (nl k).length = k.length := by simp [nl]
theorem nl_getD (k : List Nat) (i : Nat) : (nl k).getD i 0 = (k.getD i 0 : Nat) := by
  rw [List.getD_eq_getElem?_getD, List.getD_eq_getElem?_getD, nl, List.getElem?_map]
  cases k[i]? <;> rfl
end Go.Avm

/- Labels: joins, meets, flows. -/
namespace Go.Avm
open Go
def jnE (ns : List (List UInt8)) (up : List UInt8) (l : List Int) : Int := if ckE ns up l = 0 then l.foldl (joinS ns up) (botS ns up) else 0
def mtE (ns : List (List UInt8)) (up : List UInt8) (l : List Int) : Int := if ckE ns up l = 0 then l.foldl (meetS ns up) (topS ns up) else 0
/-- what does not flow -/
def nfl (up : List UInt8) (t0 : Int) (a : Int) : Bool := !below up a t0
def flA (ns : List (List UInt8)) (up : List UInt8) (l : List Int) (t0 : Int) : Int := if ckE ns up l = 0 then (if badL ns.length t0 then -1 else oz 0 (fidx (nfl up t0) l)) else ckA ns up l
def flE (ns : List (List UInt8)) (up : List UInt8) (l : List Int) (t0 : Int) : Int := if ckE ns up l = 0 then (if badL ns.length t0 then 7 else oe 25 (fidx (nfl up t0) l)) else ckE ns up l
theorem foldl_next {α : Type} (f : α → Int → α) (a : α) {l : List Int} {i : Nat} (hi : i < l.length) : (l.take (i + 1)).foldl f a = f ((l.take i).foldl f a) (l.getD i 0) := by
  rw [List.take_succ_eq_append_getElem hi, List.foldl_append, List.getD_eq_getElem?_getD, List.getElem?_eq_getElem hi]
  rfl
theorem fidx_any (p : Int → Bool) (l : List Int) : l.any p = (fidx p l).isSome := by
  cases h : fidx p l with
  | none => exact List.any_eq_false.2 fun x hx => by rw [fidx_none h x hx]; exact Bool.false_ne_true
  | some i =>
    unfold fidx at h
    rw [List.findIdx?_eq_some_iff_getElem] at h
    obtain ⟨hi, hp, _⟩ := h
    exact List.any_eq_true.2 ⟨l[i], List.getElem_mem _, hp⟩
set_option maxRecDepth 10000
section
variable {X : Cx} (hX : X.P = Go.Proofs.Tryz.prog) (hs : Std X)
include hX hs
theorem ev_ojoin (ns : List (List UInt8)) (up : List UInt8) (a b : Int) : Ev X F_labels_order_join [latP ns up, .int .i64 a, .int .i64 b] (.int .i64 (joinS ns up a b)) := by
  refine ev_of_wpc hs (A_labels_order_join_ok hX) 1 ?_
  simp only [A_labels_order_join, latP, go_sem, Nat.reduceMod, Nat.reduceBNe, Nat.reduceBEq, Nat.reduceEqDiff, Nat.reduceAdd, Int.reduceAdd, Nat.reduceMul, Nat.reduceSub, Int.reduceToNat, Int.reduceLE, Int.reduceLT, Int.reduceEq, Int.reduceNe, reduceCtorEq, Nat.reduceLT, Nat.reduceLeDiff]
  refine call_ev (ev_Join hX hs ns up a b) ?_
  simp only [go_sem, Nat.reduceMod, Nat.reduceBNe, Nat.reduceBEq, Nat.reduceEqDiff, Nat.reduceAdd, Int.reduceAdd, Nat.reduceMul, Nat.reduceSub, Int.reduceToNat, Int.reduceLE, Int.reduceLT, Int.reduceEq, Int.reduceNe, reduceCtorEq, Nat.reduceLT, Nat.reduceLeDiff]
theorem ev_omeet (ns : List (List UInt8)) (up : List UInt8) (a b : Int) : Ev X F_labels_order_meet [latP ns up, .int .i64 a, .int .i64 b] (.int .i64 (meetS ns up a b)) := by
  refine ev_of_wpc hs (A_labels_order_meet_ok hX) 1 ?_
  simp only [A_labels_order_meet, latP, go_sem, Nat.reduceMod, Nat.reduceBNe, Nat.reduceBEq, Nat.reduceEqDiff, Nat.reduceAdd, Int.reduceAdd, Nat.reduceMul, Nat.reduceSub, Int.reduceToNat, Int.reduceLE, Int.reduceLT, Int.reduceEq, Int.reduceNe, reduceCtorEq, Nat.reduceLT, Nat.reduceLeDiff]
  refine call_ev (ev_Meet hX hs ns up a b) ?_
  simp only [go_sem, Nat.reduceMod, Nat.reduceBNe, Nat.reduceBEq, Nat.reduceEqDiff, Nat.reduceAdd, Int.reduceAdd, Nat.reduceMul, Nat.reduceSub, Int.reduceToNat, Int.reduceLE, Int.reduceLT, Int.reduceEq, Int.reduceNe, reduceCtorEq, Nat.reduceLT, Nat.reduceLeDiff]
theorem ev_fold (F : Nat) (f : Int → Int → Int) (ns : List (List UInt8)) (up : List UInt8) (hF : ∀ a b, Ev X F [latP ns up, .int .i64 a, .int .i64 b] (.int .i64 (f a b))) (l : List Int) (hl : l.length < 1000000) (fr : Int) : Ev X F_labels_fold [lst (AV.int .i64) .ro l, .int .i64 fr, .clo F [latP ns up] []] (.int .i64 (l.foldl f fr)) := by
  refine ev_of_wpc hs (A_labels_fold_ok hX) 1 ?_
  simp only [A_labels_fold, latP, go_sem, Nat.reduceMod, Nat.reduceBNe, Nat.reduceBEq, Nat.reduceEqDiff, Nat.reduceAdd, Int.reduceAdd, Nat.reduceMul, Nat.reduceSub, Int.reduceToNat, Int.reduceLE, Int.reduceLT, Int.reduceEq, Int.reduceNe, reduceCtorEq, Nat.reduceLT, Nat.reduceLeDiff]
  refine w_loop' hs.hm (ι := Nat) (fun i => i ≤ l.length) (fun i => [(11, .int .i64 i), (10, .int .i64 l.length), (9, lst (AV.int .i64) .ro l), (1, .int .i64 ((l.take i).foldl f fr)), (2, .clo F [.vp [lst AV.str .ro ns, lst u8 .ro up]] [])]) (fun _ => []) (fun i => l.length - i) 0 ?_ fun i hi => ?_
  · simp only [go_sem, Nat.reduceMod, Nat.reduceBNe, Nat.reduceBEq, Nat.reduceEqDiff, Nat.reduceAdd, Int.reduceAdd, Nat.reduceMul, Nat.reduceSub, Int.reduceToNat, Int.reduceLE, Int.reduceLT, Int.reduceEq, Int.reduceNe, reduceCtorEq, Nat.reduceLT, Nat.reduceLeDiff]
    exact ⟨Nat.zero_le _, rfl⟩
  · simp only [A_labels_foldL0, go_sem, Nat.reduceMod, Nat.reduceBNe, Nat.reduceBEq, Nat.reduceEqDiff, Nat.reduceAdd, Int.reduceAdd, Nat.reduceMul, Nat.reduceSub, Int.reduceToNat, Int.reduceLE, Int.reduceLT, Int.reduceEq, Int.reduceNe, reduceCtorEq, Nat.reduceLT, Nat.reduceLeDiff]
    refine ⟨fun c => ⟨⟨by omega, c⟩, ?_⟩, fun c => ?_⟩
    · refine call_ev (hF _ _) ?_
      simp only [go_sem, Nat.reduceMod, Nat.reduceBNe, Nat.reduceBEq, Nat.reduceEqDiff, Nat.reduceAdd, Int.reduceAdd, Nat.reduceMul, Nat.reduceSub, Int.reduceToNat, Int.reduceLE, Int.reduceLT, Int.reduceEq, Int.reduceNe, reduceCtorEq, Nat.reduceLT, Nat.reduceLeDiff]
      have hi' : i < l.length := by omega
      refine ⟨i + 1, by omega, by omega, by rw [wi64 (by omega)]; rfl, ?_⟩
      rw [foldl_next f fr hi']
      rfl
    · obtain rfl : i = l.length := by omega
      rw [List.take_length]
theorem ev_lJoin (ns : List (List UInt8)) (up : List UInt8) (l : List Int) (hl : l.length < 1000000) : Ev X F_labels_Join [latV ns up, lst (AV.int .i64) .ro l] (.tuple [.int .i64 (jnE ns up l), .int .i64 (ckE ns up l)]) := by
  refine ev_of_wpc hs (A_labels_Join_ok hX) 1 ?_
  simp only [A_labels_Join, latV, go_sem, Nat.reduceMod, Nat.reduceBNe, Nat.reduceBEq, Nat.reduceEqDiff, Nat.reduceAdd, Int.reduceAdd, Nat.reduceMul, Nat.reduceSub, Int.reduceToNat, Int.reduceLE, Int.reduceLT, Int.reduceEq, Int.reduceNe, reduceCtorEq, Nat.reduceLT, Nat.reduceLeDiff]
  refine call_ev (ev_lCheck hX hs ns up l hl) ?_
  by_cases h : ckE ns up l = 0
  · simp only [h, go_sem, Nat.reduceMod, Nat.reduceBNe, Nat.reduceBEq, Nat.reduceEqDiff, Nat.reduceAdd, Int.reduceAdd, Nat.reduceMul, Nat.reduceSub, Int.reduceToNat, Int.reduceLE, Int.reduceLT, Int.reduceEq, Int.reduceNe, reduceCtorEq, Nat.reduceLT, Nat.reduceLeDiff]
    refine call_ev (ev_Bottom hX hs ns up) ?_
    simp only [go_sem, Nat.reduceMod, Nat.reduceBNe, Nat.reduceBEq, Nat.reduceEqDiff, Nat.reduceAdd, Int.reduceAdd, Nat.reduceMul, Nat.reduceSub, Int.reduceToNat, Int.reduceLE, Int.reduceLT, Int.reduceEq, Int.reduceNe, reduceCtorEq, Nat.reduceLT, Nat.reduceLeDiff]
    refine call_lend (ev_fold hX hs F_labels_order_join (joinS ns up) ns up (ev_ojoin hX hs ns up) l hl _) rfl ?_
    simp only [go_sem, Nat.reduceMod, Nat.reduceBNe, Nat.reduceBEq, Nat.reduceEqDiff, Nat.reduceAdd, Int.reduceAdd, Nat.reduceMul, Nat.reduceSub, Int.reduceToNat, Int.reduceLE, Int.reduceLT, Int.reduceEq, Int.reduceNe, reduceCtorEq, Nat.reduceLT, Nat.reduceLeDiff, jnE, h, (ck_ok h).1]
  · simp only [h, go_sem, Nat.reduceMod, Nat.reduceBNe, Nat.reduceBEq, Nat.reduceEqDiff, Nat.reduceAdd, Int.reduceAdd, Nat.reduceMul, Nat.reduceSub, Int.reduceToNat, Int.reduceLE, Int.reduceLT, Int.reduceEq, Int.reduceNe, reduceCtorEq, Nat.reduceLT, Nat.reduceLeDiff, jnE]
theorem ev_lMeet (ns : List (List UInt8)) (up : List UInt8) (l : List Int) (hl : l.length < 1000000) : Ev X F_labels_Meet [latV ns up, lst (AV.int .i64) .ro l] (.tuple [.int .i64 (mtE ns up l), .int .i64 (ckE ns up l)]) := by
  refine ev_of_wpc hs (A_labels_Meet_ok hX) 1 ?_
  simp only [A_labels_Meet, latV, go_sem, Nat.reduceMod, Nat.reduceBNe, Nat.reduceBEq, Nat.reduceEqDiff, Nat.reduceAdd, Int.reduceAdd, Nat.reduceMul, Nat.reduceSub, Int.reduceToNat, Int.reduceLE, Int.reduceLT, Int.reduceEq, Int.reduceNe, reduceCtorEq, Nat.reduceLT, Nat.reduceLeDiff]
  refine call_ev (ev_lCheck hX hs ns up l hl) ?_
  by_cases h : ckE ns up l = 0
  · simp only [h, go_sem, Nat.reduceMod, Nat.reduceBNe, Nat.reduceBEq, Nat.reduceEqDiff, Nat.reduceAdd, Int.reduceAdd, Nat.reduceMul, Nat.reduceSub, Int.reduceToNat, Int.reduceLE, Int.reduceLT, Int.reduceEq, Int.reduceNe, reduceCtorEq, Nat.reduceLT, Nat.reduceLeDiff]
    refine call_ev (ev_Top hX hs ns up) ?_
    simp only [go_sem, Nat.reduceMod, Nat.reduceBNe, Nat.reduceBEq, Nat.reduceEqDiff, Nat.reduceAdd, Int.reduceAdd, Nat.reduceMul, Nat.reduceSub, Int.reduceToNat, Int.reduceLE, Int.reduceLT, Int.reduceEq, Int.reduceNe, reduceCtorEq, Nat.reduceLT, Nat.reduceLeDiff]
    refine call_lend (ev_fold hX hs F_labels_order_meet (meetS ns up) ns up (ev_omeet hX hs ns up) l hl _) rfl ?_
    simp only [go_sem, Nat.reduceMod, Nat.reduceBNe, Nat.reduceBEq, Nat.reduceEqDiff, Nat.reduceAdd, Int.reduceAdd, Nat.reduceMul, Nat.reduceSub, Int.reduceToNat, Int.reduceLE, Int.reduceLT, Int.reduceEq, Int.reduceNe, reduceCtorEq, Nat.reduceLT, Nat.reduceLeDiff, mtE, h, (ck_ok h).1]
  · simp only [h, go_sem, Nat.reduceMod, Nat.reduceBNe, Nat.reduceBEq, Nat.reduceEqDiff, Nat.reduceAdd, Int.reduceAdd, Nat.reduceMul, Nat.reduceSub, Int.reduceToNat, Int.reduceLE, Int.reduceLT, Int.reduceEq, Int.reduceNe, reduceCtorEq, Nat.reduceLT, Nat.reduceLeDiff, mtE]
theorem ev_IndexFunc (F : Nat) (ns : List (List UInt8)) (up : List UInt8) (t0 : Int) (p : Int → Bool) (l : List Int) (hl : l.length < 1000000) (hF : ∀ x ∈ l, Ev X F [.int .i64 x, latP ns up, .vp [.int .i64 t0]] (.bool (p x))) :
    Ev X F_slices_IndexFunc_int_int [lst (AV.int .i64) .ro l, .clo F [] [latP ns up, .vp [.int .i64 t0]]] (.int .i64 (oz (-1) (fidx p l))) := by
  refine ev_of_wpc hs (A_slices_IndexFunc_int_int_ok hX) 1 ?_
  simp only [A_slices_IndexFunc_int_int, latP, go_sem, Nat.reduceMod, Nat.reduceBNe, Nat.reduceBEq, Nat.reduceEqDiff, Nat.reduceAdd, Int.reduceAdd, Nat.reduceMul, Nat.reduceSub, Int.reduceToNat, Int.reduceLE, Int.reduceLT, Int.reduceEq, Int.reduceNe, reduceCtorEq, Nat.reduceLT, Nat.reduceLeDiff]
  refine w_loop' hs.hm (ι := Nat) (fun i => i ≤ l.length ∧ ∀ j, j < i → p (l.getD j 0) = false) (fun i => [(8, .int .i64 i), (7, .int .i64 l.length), (0, lst (AV.int .i64) .ro l), (1, .clo F [] [.vp [lst AV.str .ro ns, lst u8 .ro up], .vp [.int .i64 t0]])]) (fun _ => []) (fun i => l.length - i) 0 ?_ fun i hi => ?_
  · simp only [go_sem, Nat.reduceMod, Nat.reduceBNe, Nat.reduceBEq, Nat.reduceEqDiff, Nat.reduceAdd, Int.reduceAdd, Nat.reduceMul, Nat.reduceSub, Int.reduceToNat, Int.reduceLE, Int.reduceLT, Int.reduceEq, Int.reduceNe, reduceCtorEq, Nat.reduceLT, Nat.reduceLeDiff]
    exact ⟨Nat.zero_le _, no_lt0⟩
  · obtain ⟨i1, i2⟩ := hi
    simp only [A_slices_IndexFunc_int_intL0, go_sem, Nat.reduceMod, Nat.reduceBNe, Nat.reduceBEq, Nat.reduceEqDiff, Nat.reduceAdd, Int.reduceAdd, Nat.reduceMul, Nat.reduceSub, Int.reduceToNat, Int.reduceLE, Int.reduceLT, Int.reduceEq, Int.reduceNe, reduceCtorEq, Nat.reduceLT, Nat.reduceLeDiff]
    refine ⟨fun c => ⟨⟨by omega, c⟩, ?_⟩, fun c => ?_⟩
    · have hi' : i < l.length := by omega
      refine call_ev (hF (l.getD i default) (by rw [List.getD_eq_getElem?_getD, List.getElem?_eq_getElem hi']; exact List.getElem_mem _)) ?_
      cases hp : p (l.getD i default) with
      | true =>
        simp only [go_sem, Nat.reduceMod, Nat.reduceBNe, Nat.reduceBEq, Nat.reduceEqDiff, Nat.reduceAdd, Int.reduceAdd, Nat.reduceMul, Nat.reduceSub, Int.reduceToNat, Int.reduceLE, Int.reduceLT, Int.reduceEq, Int.reduceNe, reduceCtorEq, Nat.reduceLT, Nat.reduceLeDiff]
        rw [fidx_at hi' hp i2]
        rfl
      | false =>
        simp only [go_sem, Nat.reduceMod, Nat.reduceBNe, Nat.reduceBEq, Nat.reduceEqDiff, Nat.reduceAdd, Int.reduceAdd, Nat.reduceMul, Nat.reduceSub, Int.reduceToNat, Int.reduceLE, Int.reduceLT, Int.reduceEq, Int.reduceNe, reduceCtorEq, Nat.reduceLT, Nat.reduceLeDiff]
        exact nxt1 hi' i2 hp (by omega)
    · rw [fidx_no (p := p) (l := l) fun j hj => i2 j (by omega)]
      rfl
theorem ev_ContainsFunc (F : Nat) (ns : List (List UInt8)) (up : List UInt8) (t0 : Int) (p : Int → Bool) (l : List Int) (hl : l.length < 1000000) (hF : ∀ x ∈ l, Ev X F [.int .i64 x, latP ns up, .vp [.int .i64 t0]] (.bool (p x))) :
    Ev X F_slices_ContainsFunc_int_int [lst (AV.int .i64) .ro l, .clo F [] [latP ns up, .vp [.int .i64 t0]]] (.bool (l.any p)) := by
  refine ev_of_wpc hs (A_slices_ContainsFunc_int_int_ok hX) 1 ?_
  simp only [A_slices_ContainsFunc_int_int, latP, go_sem, Nat.reduceMod, Nat.reduceBNe, Nat.reduceBEq, Nat.reduceEqDiff, Nat.reduceAdd, Int.reduceAdd, Nat.reduceMul, Nat.reduceSub, Int.reduceToNat, Int.reduceLE, Int.reduceLT, Int.reduceEq, Int.reduceNe, reduceCtorEq, Nat.reduceLT, Nat.reduceLeDiff]
  refine call_ev (ev_IndexFunc hX hs F ns up t0 p l hl hF) ?_
  simp only [go_sem, Nat.reduceMod, Nat.reduceBNe, Nat.reduceBEq, Nat.reduceEqDiff, Nat.reduceAdd, Int.reduceAdd, Nat.reduceMul, Nat.reduceSub, Int.reduceToNat, Int.reduceLE, Int.reduceLT, Int.reduceEq, Int.reduceNe, reduceCtorEq, Nat.reduceLT, Nat.reduceLeDiff]
  rw [fidx_any]
  cases fidx p l with
  | none => rfl
  | some i =>
    have : (0 : Int) ≤ oz (-1) (some i) := Int.natCast_nonneg i
    simp only [this, decide_true, Option.isSome_some]
theorem ev_Flows1 (ns : List (List UInt8)) (up : List UInt8) (hv : Lat.Val ns.length up) (a t0 : Int) (ha : 0 ≤ a ∧ a < ns.length) (ht : 0 ≤ t0 ∧ t0 < ns.length) : Ev X F_labels_Flows_1 [.int .i64 a, latP ns up, .vp [.int .i64 t0]] (.bool (nfl up t0 a)) := by
  refine ev_of_wpc hs (A_labels_Flows_1_ok hX) 1 ?_
  simp only [A_labels_Flows_1, latP, go_sem, Nat.reduceMod, Nat.reduceBNe, Nat.reduceBEq, Nat.reduceEqDiff, Nat.reduceAdd, Int.reduceAdd, Nat.reduceMul, Nat.reduceSub, Int.reduceToNat, Int.reduceLE, Int.reduceLT, Int.reduceEq, Int.reduceNe, reduceCtorEq, Nat.reduceLT, Nat.reduceLeDiff]
  have h8 := hv.le8
  have hup := hv.len
  obtain ⟨x, rfl⟩ : ∃ x : Nat, a = x := ⟨a.toNat, by omega⟩
  obtain ⟨y, rfl⟩ : ∃ y : Nat, t0 = y := ⟨t0.toNat, by omega⟩
  refine call_ev (ev_obelow hX hs ns up x y (by omega) (by omega)) ?_
  simp only [go_sem, Nat.reduceMod, Nat.reduceBNe, Nat.reduceBEq, Nat.reduceEqDiff, Nat.reduceAdd, Int.reduceAdd, Nat.reduceMul, Nat.reduceSub, Int.reduceToNat, Int.reduceLE, Int.reduceLT, Int.reduceEq, Int.reduceNe, reduceCtorEq, Nat.reduceLT, Nat.reduceLeDiff, nfl, below_nat up x y (by omega)]
theorem ev_lFlows (ns : List (List UInt8)) (up : List UInt8) (l : List Int) (hl : l.length < 1000000) (t0 : Int) : Ev X F_labels_Flows [latV ns up, lst (AV.int .i64) .ro l, .int .i64 t0] (.tuple [.int .i64 (flA ns up l t0), .int .i64 (flE ns up l t0)]) := by
  refine ev_of_wpc hs (A_labels_Flows_ok hX) 1 ?_
  simp only [A_labels_Flows, latV, go_sem, Nat.reduceMod, Nat.reduceBNe, Nat.reduceBEq, Nat.reduceEqDiff, Nat.reduceAdd, Int.reduceAdd, Nat.reduceMul, Nat.reduceSub, Int.reduceToNat, Int.reduceLE, Int.reduceLT, Int.reduceEq, Int.reduceNe, reduceCtorEq, Nat.reduceLT, Nat.reduceLeDiff]
  refine call_ev (ev_lCheck hX hs ns up l hl) ?_
  by_cases h : ckE ns up l = 0
  · obtain ⟨h1, h2, h3⟩ := ck_ok h
    have hv := chk_val h1
    simp only [h, go_sem, Nat.reduceMod, Nat.reduceBNe, Nat.reduceBEq, Nat.reduceEqDiff, Nat.reduceAdd, Int.reduceAdd, Nat.reduceMul, Nat.reduceSub, Int.reduceToNat, Int.reduceLE, Int.reduceLT, Int.reduceEq, Int.reduceNe, reduceCtorEq, Nat.reduceLT, Nat.reduceLeDiff]
    refine ⟨fun c => ?_, fun c => ⟨fun c2 => ?_, fun c2 => ?_⟩⟩
    · have : badL ns.length t0 = true := by simp only [badL, c, decide_true, Bool.true_or]
      simp only [flA, flE, h, this, if_true]
    · have : badL ns.length t0 = true := by simp only [badL, c2, decide_true, Bool.or_true]
      simp only [flA, flE, h, this, if_true]
    · have hb : badL ns.length t0 = false := by simp only [badL, c, c2, decide_false, Bool.or_self]
      refine call_lend (ev_IndexFunc hX hs F_labels_Flows_1 ns up t0 (nfl up t0) l hl fun x hx => ev_Flows1 hX hs ns up hv x t0 (h3 x hx) (by omega)) rfl ?_
      cases hf : fidx (nfl up t0) l with
      | none =>
        simp only [oz, flA, flE, h, hb, hf, oe, go_sem, Nat.reduceMod, Nat.reduceBNe, Nat.reduceBEq, Nat.reduceEqDiff, Nat.reduceAdd, Int.reduceAdd, Nat.reduceMul, Nat.reduceSub, Int.reduceToNat, Int.reduceLE, Int.reduceLT, Int.reduceEq, Int.reduceNe, reduceCtorEq, Nat.reduceLT, Nat.reduceLeDiff, Bool.false_eq_true, if_false]
      | some i =>
        simp only [oz, flA, flE, h, hb, hf, oe, go_sem, Nat.reduceMod, Nat.reduceBNe, Nat.reduceBEq, Nat.reduceEqDiff, Nat.reduceAdd, Int.reduceAdd, Nat.reduceMul, Nat.reduceSub, Int.reduceToNat, Int.reduceLE, Int.reduceLT, Int.reduceEq, Int.reduceNe, reduceCtorEq, Nat.reduceLT, Nat.reduceLeDiff, Bool.false_eq_true, if_false]
        exact fun c => absurd (Int.natCast_nonneg i) c
  · simp only [h, go_sem, Nat.reduceMod, Nat.reduceBNe, Nat.reduceBEq, Nat.reduceEqDiff, Nat.reduceAdd, Int.reduceAdd, Nat.reduceMul, Nat.reduceSub, Int.reduceToNat, Int.reduceLE, Int.reduceLT, Int.reduceEq, Int.reduceNe, reduceCtorEq, Nat.reduceLT, Nat.reduceLeDiff, flA, flE]
end
end Go.Avm

/- Labels: the references of joins, meets, flows. -/
namespace Go.Avm
open Go
/-- the sorted list, up t0 a level; of a level, up t0 a label -/
def sR (up : List UInt8) (n : Nat) (k : List Nat) (i j : Nat) : List Nat := (List.range j).filter fun a => decide (Lat.lv up n a = i + 1) && k.contains a
def sA (up : List UInt8) (n : Nat) (k : List Nat) (i : Nat) : List Nat := (List.range i).flatMap fun x => sR up n k x n
theorem sA_all (up : List UInt8) (n : Nat) (k : List Nat) : sA up n k n = Lat.srt up n k := rfl
theorem sA_0 (up : List UInt8) (n : Nat) (k : List Nat) : sA up n k 0 = [] := rfl
theorem sR_0 (up : List UInt8) (n : Nat) (k : List Nat) (i : Nat) : sR up n k i 0 = [] := rfl
theorem sA_s (up : List UInt8) (n : Nat) (k : List Nat) (i : Nat) : sA up n k (i + 1) = sA up n k i ++ sR up n k i n := by
  simp only [sA, List.range_succ, List.flatMap_append, List.flatMap_cons, List.flatMap_nil, List.append_nil]
theorem sR_1 {up : List UInt8} {n : Nat} {k : List Nat} {i j : Nat} (h : (decide (Lat.lv up n j = i + 1) && k.contains j) = true) : sR up n k i (j + 1) = sR up n k i j ++ [j] := by
  simp only [sR, List.range_succ, List.filter_append, List.filter_cons, h, if_true, List.filter_nil]
theorem sR_n {up : List UInt8} {n : Nat} {k : List Nat} {i j : Nat} (h : (decide (Lat.lv up n j = i + 1) && k.contains j) = false) : sR up n k i (j + 1) = sR up n k i j := by
  simp only [sR, List.range_succ, List.filter_append, List.filter_cons, h, Bool.false_eq_true, if_false, List.filter_nil, List.append_nil]
theorem sR_len (up : List UInt8) (n : Nat) (k : List Nat) (i j : Nat) : (sR up n k i j).length ≤ j := by
  unfold sR
  exact Nat.le_trans (List.length_filter_le _ _) (by simp)
theorem sA_len (up : List UInt8) (n : Nat) (k : List Nat) (i : Nat) : (sA up n k i).length ≤ i * n := by
  induction i with
  | zero => simp [sA]
  | succ i ih =>
    rw [sA_s, List.length_append, Nat.add_mul]
    have := sR_len up n k i n
    omega
theorem nl_contains (k : List Nat) (a : Nat) : (nl k).contains (a : Int) = k.contains a := by
  rw [Bool.eq_iff_iff, List.contains_iff_mem, List.contains_iff_mem, nl, List.mem_map]
  exact ⟨fun ⟨x, hx, e⟩ => by rw [Int.ofNat_inj] at e; exact e ▸ hx, fun h => ⟨a, h, rfl⟩⟩
theorem nl_app (a b : List Nat) : nl (a ++ b) = nl a ++ nl b := by simp [nl]
set_option maxRecDepth 10000
section
variable {X : Cx} (hX : X.P = Go.Proofs.Tryz.prog) (hs : Std X)
include hX hs
theorem ev_rJoinAll (ns : List (List UInt8)) (up : List UInt8) (l : List Int) (hl : l.length < 1000000) : Ev X F_ref04_JoinAll [latV ns up, lst (AV.int .i64) .ro l] (.int .i64 (l.foldl (joinS ns up) (botS ns up))) := by
  refine ev_of_wpc hs (A_ref04_JoinAll_ok hX) 1 ?_
  simp only [A_ref04_JoinAll, latV, go_sem, Nat.reduceMod, Nat.reduceBNe, Nat.reduceBEq, Nat.reduceEqDiff, Nat.reduceAdd, Int.reduceAdd, Nat.reduceMul, Nat.reduceSub, Int.reduceToNat, Int.reduceLE, Int.reduceLT, Int.reduceEq, Int.reduceNe, reduceCtorEq, Nat.reduceLT, Nat.reduceLeDiff]
  refine call_ev (ev_rBottom hX hs ns up) ?_
  simp only [go_sem, Nat.reduceMod, Nat.reduceBNe, Nat.reduceBEq, Nat.reduceEqDiff, Nat.reduceAdd, Int.reduceAdd, Nat.reduceMul, Nat.reduceSub, Int.reduceToNat, Int.reduceLE, Int.reduceLT, Int.reduceEq, Int.reduceNe, reduceCtorEq, Nat.reduceLT, Nat.reduceLeDiff]
  refine w_loop' hs.hm (ι := Nat) (fun i => i ≤ l.length) (fun i => [(7, .int .i64 i), (1, lst (AV.int .i64) .ro l), (2, .ptr 0 0), (5, .int .i64 ((l.take i).foldl (joinS ns up) (botS ns up)))]) (fun _ => [.box [lst AV.str .ro ns, lst u8 .ro up]]) (fun i => l.length - i) 0 ?_ fun i hi => ?_
  · simp only [go_sem, Nat.reduceMod, Nat.reduceBNe, Nat.reduceBEq, Nat.reduceEqDiff, Nat.reduceAdd, Int.reduceAdd, Nat.reduceMul, Nat.reduceSub, Int.reduceToNat, Int.reduceLE, Int.reduceLT, Int.reduceEq, Int.reduceNe, reduceCtorEq, Nat.reduceLT, Nat.reduceLeDiff]
    exact ⟨Nat.zero_le _, rfl⟩
  · simp only [A_ref04_JoinAllL0, go_sem, Nat.reduceMod, Nat.reduceBNe, Nat.reduceBEq, Nat.reduceEqDiff, Nat.reduceAdd, Int.reduceAdd, Nat.reduceMul, Nat.reduceSub, Int.reduceToNat, Int.reduceLE, Int.reduceLT, Int.reduceEq, Int.reduceNe, reduceCtorEq, Nat.reduceLT, Nat.reduceLeDiff]
    refine ⟨fun c => ⟨⟨by omega, c⟩, ?_⟩, fun c => ?_⟩
    · refine callq_ev (ev_rJoin hX hs ns up _ _) ?_
      simp only [go_sem, Nat.reduceMod, Nat.reduceBNe, Nat.reduceBEq, Nat.reduceEqDiff, Nat.reduceAdd, Int.reduceAdd, Nat.reduceMul, Nat.reduceSub, Int.reduceToNat, Int.reduceLE, Int.reduceLT, Int.reduceEq, Int.reduceNe, reduceCtorEq, Nat.reduceLT, Nat.reduceLeDiff]
      have hi' : i < l.length := by omega
      refine ⟨i + 1, by omega, by omega, by rw [wi64 (by omega)]; rfl, ?_⟩
      rw [foldl_next (joinS ns up) _ hi']
      rfl
    · obtain rfl : i = l.length := by omega
      rw [List.take_length]
theorem ev_rlJoin (ns : List (List UInt8)) (up : List UInt8) (l : List Int) (hl : l.length < 1000000) : Ev X F_ref04_Join [latV ns up, lst (AV.int .i64) .ro l] (.tuple [.int .i64 (jnE ns up l), .int .i64 (ckE ns up l)]) := by
  refine ev_of_wpc hs (A_ref04_Join_ok hX) 1 ?_
  simp only [A_ref04_Join, latV, go_sem, Nat.reduceMod, Nat.reduceBNe, Nat.reduceBEq, Nat.reduceEqDiff, Nat.reduceAdd, Int.reduceAdd, Nat.reduceMul, Nat.reduceSub, Int.reduceToNat, Int.reduceLE, Int.reduceLT, Int.reduceEq, Int.reduceNe, reduceCtorEq, Nat.reduceLT, Nat.reduceLeDiff]
  refine call_ev (ev_rlCheck hX hs ns up l hl) ?_
  by_cases h : ckE ns up l = 0
  · simp only [h, go_sem, Nat.reduceMod, Nat.reduceBNe, Nat.reduceBEq, Nat.reduceEqDiff, Nat.reduceAdd, Int.reduceAdd, Nat.reduceMul, Nat.reduceSub, Int.reduceToNat, Int.reduceLE, Int.reduceLT, Int.reduceEq, Int.reduceNe, reduceCtorEq, Nat.reduceLT, Nat.reduceLeDiff]
    refine call_ev (ev_rJoinAll hX hs ns up l hl) ?_
    simp only [go_sem, Nat.reduceMod, Nat.reduceBNe, Nat.reduceBEq, Nat.reduceEqDiff, Nat.reduceAdd, Int.reduceAdd, Nat.reduceMul, Nat.reduceSub, Int.reduceToNat, Int.reduceLE, Int.reduceLT, Int.reduceEq, Int.reduceNe, reduceCtorEq, Nat.reduceLT, Nat.reduceLeDiff, jnE, h]
  · simp only [h, go_sem, Nat.reduceMod, Nat.reduceBNe, Nat.reduceBEq, Nat.reduceEqDiff, Nat.reduceAdd, Int.reduceAdd, Nat.reduceMul, Nat.reduceSub, Int.reduceToNat, Int.reduceLE, Int.reduceLT, Int.reduceEq, Int.reduceNe, reduceCtorEq, Nat.reduceLT, Nat.reduceLeDiff, jnE]
theorem ev_rlMeet (ns : List (List UInt8)) (up : List UInt8) (l : List Int) (hl : l.length < 1000000) : Ev X F_ref04_Meet [latV ns up, lst (AV.int .i64) .ro l] (.tuple [.int .i64 (mtE ns up l), .int .i64 (ckE ns up l)]) := by
  refine ev_of_wpc hs (A_ref04_Meet_ok hX) 1 ?_
  simp only [A_ref04_Meet, latV, go_sem, Nat.reduceMod, Nat.reduceBNe, Nat.reduceBEq, Nat.reduceEqDiff, Nat.reduceAdd, Int.reduceAdd, Nat.reduceMul, Nat.reduceSub, Int.reduceToNat, Int.reduceLE, Int.reduceLT, Int.reduceEq, Int.reduceNe, reduceCtorEq, Nat.reduceLT, Nat.reduceLeDiff]
  refine call_ev (ev_rlCheck hX hs ns up l hl) ?_
  by_cases h : ckE ns up l = 0
  · simp only [h, go_sem, Nat.reduceMod, Nat.reduceBNe, Nat.reduceBEq, Nat.reduceEqDiff, Nat.reduceAdd, Int.reduceAdd, Nat.reduceMul, Nat.reduceSub, Int.reduceToNat, Int.reduceLE, Int.reduceLT, Int.reduceEq, Int.reduceNe, reduceCtorEq, Nat.reduceLT, Nat.reduceLeDiff]
    refine call_ev (ev_rTop hX hs ns up) ?_
    simp only [go_sem, Nat.reduceMod, Nat.reduceBNe, Nat.reduceBEq, Nat.reduceEqDiff, Nat.reduceAdd, Int.reduceAdd, Nat.reduceMul, Nat.reduceSub, Int.reduceToNat, Int.reduceLE, Int.reduceLT, Int.reduceEq, Int.reduceNe, reduceCtorEq, Nat.reduceLT, Nat.reduceLeDiff]
    refine w_loop' hs.hm (ι := Nat) (fun i => i ≤ l.length) (fun i => [(10, .int .i64 i), (1, lst (AV.int .i64) .ro l), (2, .ptr 0 0), (8, .int .i64 ((l.take i).foldl (meetS ns up) (topS ns up)))]) (fun _ => [.box [lst AV.str .ro ns, lst u8 .ro up]]) (fun i => l.length - i) 0 ?_ fun i hi => ?_
    · simp only [go_sem, Nat.reduceMod, Nat.reduceBNe, Nat.reduceBEq, Nat.reduceEqDiff, Nat.reduceAdd, Int.reduceAdd, Nat.reduceMul, Nat.reduceSub, Int.reduceToNat, Int.reduceLE, Int.reduceLT, Int.reduceEq, Int.reduceNe, reduceCtorEq, Nat.reduceLT, Nat.reduceLeDiff]
      exact ⟨Nat.zero_le _, rfl⟩
    · simp only [A_ref04_MeetL0, go_sem, Nat.reduceMod, Nat.reduceBNe, Nat.reduceBEq, Nat.reduceEqDiff, Nat.reduceAdd, Int.reduceAdd, Nat.reduceMul, Nat.reduceSub, Int.reduceToNat, Int.reduceLE, Int.reduceLT, Int.reduceEq, Int.reduceNe, reduceCtorEq, Nat.reduceLT, Nat.reduceLeDiff]
      refine ⟨fun c => ⟨⟨by omega, c⟩, ?_⟩, fun c => ?_⟩
      · refine callq_ev (ev_rMeet hX hs ns up _ _) ?_
        simp only [go_sem, Nat.reduceMod, Nat.reduceBNe, Nat.reduceBEq, Nat.reduceEqDiff, Nat.reduceAdd, Int.reduceAdd, Nat.reduceMul, Nat.reduceSub, Int.reduceToNat, Int.reduceLE, Int.reduceLT, Int.reduceEq, Int.reduceNe, reduceCtorEq, Nat.reduceLT, Nat.reduceLeDiff]
        have hi' : i < l.length := by omega
        refine ⟨i + 1, by omega, by omega, by rw [wi64 (by omega)]; rfl, ?_⟩
        rw [foldl_next (meetS ns up) _ hi']
        rfl
      · obtain rfl : i = l.length := by omega
        rw [List.take_length]
        simp only [mtE, h, if_true]
  · simp only [h, go_sem, Nat.reduceMod, Nat.reduceBNe, Nat.reduceBEq, Nat.reduceEqDiff, Nat.reduceAdd, Int.reduceAdd, Nat.reduceMul, Nat.reduceSub, Int.reduceToNat, Int.reduceLE, Int.reduceLT, Int.reduceEq, Int.reduceNe, reduceCtorEq, Nat.reduceLT, Nat.reduceLeDiff, mtE]
theorem ev_rlFlows (ns : List (List UInt8)) (up : List UInt8) (l : List Int) (hl : l.length < 1000000) (t0 : Int) : Ev X F_ref04_Flows [latV ns up, lst (AV.int .i64) .ro l, .int .i64 t0] (.tuple [.int .i64 (flA ns up l t0), .int .i64 (flE ns up l t0)]) := by
  refine ev_of_wpc hs (A_ref04_Flows_ok hX) 1 ?_
  simp only [A_ref04_Flows, latV, go_sem, Nat.reduceMod, Nat.reduceBNe, Nat.reduceBEq, Nat.reduceEqDiff, Nat.reduceAdd, Int.reduceAdd, Nat.reduceMul, Nat.reduceSub, Int.reduceToNat, Int.reduceLE, Int.reduceLT, Int.reduceEq, Int.reduceNe, reduceCtorEq, Nat.reduceLT, Nat.reduceLeDiff]
  refine call_ev (ev_rlCheck hX hs ns up l hl) ?_
  by_cases h : ckE ns up l = 0
  · simp only [h, go_sem, Nat.reduceMod, Nat.reduceBNe, Nat.reduceBEq, Nat.reduceEqDiff, Nat.reduceAdd, Int.reduceAdd, Nat.reduceMul, Nat.reduceSub, Int.reduceToNat, Int.reduceLE, Int.reduceLT, Int.reduceEq, Int.reduceNe, reduceCtorEq, Nat.reduceLT, Nat.reduceLeDiff]
    refine ⟨fun c => ?_, fun c => ⟨fun c2 => ?_, fun c2 => ?_⟩⟩
    · have : badL ns.length t0 = true := by simp only [badL, c, decide_true, Bool.true_or]
      simp only [flA, flE, h, this, if_true]
    · have : badL ns.length t0 = true := by simp only [badL, c2, decide_true, Bool.or_true]
      simp only [flA, flE, h, this, if_true]
    · have hb : badL ns.length t0 = false := by simp only [badL, c, c2, decide_false, Bool.or_self]
      refine w_loop' hs.hm (ι := Nat) (fun i => i ≤ l.length ∧ ∀ j, j < i → nfl up t0 (l.getD j 0) = false) (fun i => [(10, .int .i64 i), (1, lst (AV.int .i64) .ro l), (2, .int .i64 t0), (3, .ptr 0 0)]) (fun _ => [.box [lst AV.str .ro ns, lst u8 .ro up]]) (fun i => l.length - i) 0 ?_ fun i hi => ?_
      · simp only [go_sem, Nat.reduceMod, Nat.reduceBNe, Nat.reduceBEq, Nat.reduceEqDiff, Nat.reduceAdd, Int.reduceAdd, Nat.reduceMul, Nat.reduceSub, Int.reduceToNat, Int.reduceLE, Int.reduceLT, Int.reduceEq, Int.reduceNe, reduceCtorEq, Nat.reduceLT, Nat.reduceLeDiff]
        exact ⟨Nat.zero_le _, no_lt0⟩
      · obtain ⟨i1, i2⟩ := hi
        simp only [A_ref04_FlowsL0, go_sem, Nat.reduceMod, Nat.reduceBNe, Nat.reduceBEq, Nat.reduceEqDiff, Nat.reduceAdd, Int.reduceAdd, Nat.reduceMul, Nat.reduceSub, Int.reduceToNat, Int.reduceLE, Int.reduceLT, Int.reduceEq, Int.reduceNe, reduceCtorEq, Nat.reduceLT, Nat.reduceLeDiff]
        refine ⟨fun c => ⟨⟨by omega, c⟩, ?_⟩, fun c => ?_⟩
        · refine callq_ev (ev_Below hX hs ns up _ _) ?_
          have hi' : i < l.length := by omega
          cases hn : nfl up t0 (l.getD i 0) with
          | true =>
            have e : below up (l.getD i default) t0 = false := by simpa [nfl] using hn
            simp only [e, go_sem, Nat.reduceMod, Nat.reduceBNe, Nat.reduceBEq, Nat.reduceEqDiff, Nat.reduceAdd, Int.reduceAdd, Nat.reduceMul, Nat.reduceSub, Int.reduceToNat, Int.reduceLE, Int.reduceLT, Int.reduceEq, Int.reduceNe, reduceCtorEq, Nat.reduceLT, Nat.reduceLeDiff, flA, flE, h, hb, fidx_at hi' hn i2, oz, oe, Bool.false_eq_true, if_false]
          | false =>
            have e : below up (l.getD i default) t0 = true := by simpa [nfl] using hn
            simp only [e, go_sem, Nat.reduceMod, Nat.reduceBNe, Nat.reduceBEq, Nat.reduceEqDiff, Nat.reduceAdd, Int.reduceAdd, Nat.reduceMul, Nat.reduceSub, Int.reduceToNat, Int.reduceLE, Int.reduceLT, Int.reduceEq, Int.reduceNe, reduceCtorEq, Nat.reduceLT, Nat.reduceLeDiff]
            exact nxt1 hi' i2 hn (by omega)
        · simp only [flA, flE, h, hb, fidx_no (p := nfl up t0) (l := l) fun j hj => i2 j (by omega), oz, oe, Bool.false_eq_true, if_false, if_true]
  · simp only [h, go_sem, Nat.reduceMod, Nat.reduceBNe, Nat.reduceBEq, Nat.reduceEqDiff, Nat.reduceAdd, Int.reduceAdd, Nat.reduceMul, Nat.reduceSub, Int.reduceToNat, Int.reduceLE, Int.reduceLT, Int.reduceEq, Int.reduceNe, reduceCtorEq, Nat.reduceLT, Nat.reduceLeDiff, flA, flE]
theorem ev_rlevel (ns : List (List UInt8)) (up : List UInt8) (hv : Lat.Val ns.length up) (a : Nat) : Ev X F_ref04_level [latV ns up, .int .i64 a] (.int .i64 (Lat.lv up ns.length a : Nat)) := by
  refine ev_of_wpc hs (A_ref04_level_ok hX) 1 ?_
  have h8 := hv.le8
  have hup := hv.len
  simp only [A_ref04_level, latV, go_sem, Nat.reduceMod, Nat.reduceBNe, Nat.reduceBEq, Nat.reduceEqDiff, Nat.reduceAdd, Int.reduceAdd, Nat.reduceMul, Nat.reduceSub, Int.reduceToNat, Int.reduceLE, Int.reduceLT, Int.reduceEq, Int.reduceNe, reduceCtorEq, Nat.reduceLT, Nat.reduceLeDiff]
  refine w_loop' hs.hm (ι := Nat) (fun i => i ≤ ns.length) (fun i => [(6, .int .i64 i), (5, .int .i64 (Lat.cnt (fun y => Lat.le up y a) i : Nat)), (1, .int .i64 a), (2, .ptr 0 0)]) (fun _ => [.box [lst AV.str .ro ns, lst u8 .ro up]]) (fun i => ns.length - i) 0 ?_ fun i hi => ?_
  · simp only [go_sem, Nat.reduceMod, Nat.reduceBNe, Nat.reduceBEq, Nat.reduceEqDiff, Nat.reduceAdd, Int.reduceAdd, Nat.reduceMul, Nat.reduceSub, Int.reduceToNat, Int.reduceLE, Int.reduceLT, Int.reduceEq, Int.reduceNe, reduceCtorEq, Nat.reduceLT, Nat.reduceLeDiff]
    exact ⟨Nat.zero_le _, rfl⟩
  · simp only [A_ref04_levelL0, go_sem, Nat.reduceMod, Nat.reduceBNe, Nat.reduceBEq, Nat.reduceEqDiff, Nat.reduceAdd, Int.reduceAdd, Nat.reduceMul, Nat.reduceSub, Int.reduceToNat, Int.reduceLE, Int.reduceLT, Int.reduceEq, Int.reduceNe, reduceCtorEq, Nat.reduceLT, Nat.reduceLeDiff]
    have hc8 : Lat.cnt (fun y => Lat.le up y a) i ≤ i := Lat.cnt_le _ _
    refine ⟨fun c => ?_, fun c => ?_⟩
    · refine call_ev (ev_Below hX hs ns up _ _) ?_
      rw [below_nat up i a (by omega)]
      cases e : Lat.le up i a with
      | true =>
        simp only [go_sem, Nat.reduceMod, Nat.reduceBNe, Nat.reduceBEq, Nat.reduceEqDiff, Nat.reduceAdd, Int.reduceAdd, Nat.reduceMul, Nat.reduceSub, Int.reduceToNat, Int.reduceLE, Int.reduceLT, Int.reduceEq, Int.reduceNe, reduceCtorEq, Nat.reduceLT, Nat.reduceLeDiff]
        exact ⟨i + 1, by omega, by omega, by rw [wi64 (by omega)]; rfl, by rw [wi64 (by omega)]; simp only [Lat.cnt, e, if_true]; rfl⟩
      | false =>
        simp only [go_sem, Nat.reduceMod, Nat.reduceBNe, Nat.reduceBEq, Nat.reduceEqDiff, Nat.reduceAdd, Int.reduceAdd, Nat.reduceMul, Nat.reduceSub, Int.reduceToNat, Int.reduceLE, Int.reduceLT, Int.reduceEq, Int.reduceNe, reduceCtorEq, Nat.reduceLT, Nat.reduceLeDiff]
        exact ⟨i + 1, by omega, by omega, by rw [wi64 (by omega)]; rfl, by simp only [Lat.cnt, e]; rfl⟩
    · obtain rfl : i = ns.length := by omega
      rfl
theorem ev_rhas (l : List Int) (hl : l.length < 1000000) (a : Int) : Ev X F_ref04_has [lst (AV.int .i64) .ro l, .int .i64 a] (.bool (l.contains a)) := by
  refine ev_of_wpc hs (A_ref04_has_ok hX) 1 ?_
  simp only [A_ref04_has, go_sem, Nat.reduceMod, Nat.reduceBNe, Nat.reduceBEq, Nat.reduceEqDiff, Nat.reduceAdd, Int.reduceAdd, Nat.reduceMul, Nat.reduceSub, Int.reduceToNat, Int.reduceLE, Int.reduceLT, Int.reduceEq, Int.reduceNe, reduceCtorEq, Nat.reduceLT, Nat.reduceLeDiff]
  refine w_loop' hs.hm (ι := Nat) (fun i => i ≤ l.length ∧ ∀ j, j < i → (l.getD j 0 == a) = false) (fun i => [(5, .int .i64 i), (0, lst (AV.int .i64) .ro l), (1, .int .i64 a)]) (fun _ => []) (fun i => l.length - i) 0 ?_ fun i hi => ?_
  · simp only [go_sem, Nat.reduceMod, Nat.reduceBNe, Nat.reduceBEq, Nat.reduceEqDiff, Nat.reduceAdd, Int.reduceAdd, Nat.reduceMul, Nat.reduceSub, Int.reduceToNat, Int.reduceLE, Int.reduceLT, Int.reduceEq, Int.reduceNe, reduceCtorEq, Nat.reduceLT, Nat.reduceLeDiff]
    exact ⟨Nat.zero_le _, no_lt0⟩
  · obtain ⟨i1, i2⟩ := hi
    simp only [A_ref04_hasL0, go_sem, Nat.reduceMod, Nat.reduceBNe, Nat.reduceBEq, Nat.reduceEqDiff, Nat.reduceAdd, Int.reduceAdd, Nat.reduceMul, Nat.reduceSub, Int.reduceToNat, Int.reduceLE, Int.reduceLT, Int.reduceEq, Int.reduceNe, reduceCtorEq, Nat.reduceLT, Nat.reduceLeDiff]
    refine ⟨fun c => ⟨⟨by omega, c⟩, fun e => ?_, fun e => nxt1 (by omega) i2 (beq_eq_false_iff_ne.2 e) (by omega)⟩, fun c => ?_⟩
    · have : l.contains a = true := by
        rw [List.contains_iff_mem, ← e, List.getD_eq_getElem?_getD, List.getElem?_eq_getElem (by omega)]
        exact List.getElem_mem _
      rw [this]
    · have : l.contains a = false := by
        rw [← Bool.not_eq_true, List.contains_iff_mem]
        intro hm
        obtain ⟨j, hj, e⟩ := List.getElem_of_mem hm
        have := i2 j (by omega)
        rw [List.getD_eq_getElem?_getD, List.getElem?_eq_getElem hj] at this
        simp [e] at this
      rw [this]
theorem ev_rsorted (ns : List (List UInt8)) (up : List UInt8) (hv : Lat.Val ns.length up) (k : List Nat) (hk : k.length < 1000000) : Ev X F_ref04_sorted [latV ns up, lst (AV.int .i64) .ro (nl k)] (lst (AV.int .i64) .ro (nl (Lat.srt up ns.length k))) := by
  refine ev_of_wpc hs (A_ref04_sorted_ok hX) 1 ?_
  have h8 := hv.le8
  simp only [A_ref04_sorted, latV, go_sem, Nat.reduceMod, Nat.reduceBNe, Nat.reduceBEq, Nat.reduceEqDiff, Nat.reduceAdd, Int.reduceAdd, Nat.reduceMul, Nat.reduceSub, Int.reduceToNat, Int.reduceLE, Int.reduceLT, Int.reduceEq, Int.reduceNe, reduceCtorEq, Nat.reduceLT, Nat.reduceLeDiff]
  refine w_loop hs.hm (ι := Nat) (fun i => i ≤ ns.length) (fun i => [(6, .int .i64 (i + 1 : Nat)), (5, lst (AV.int .i64) (.tok 1 1) (nl (sA up ns.length k i))), (1, lst (AV.int .i64) .ro (nl k)), (2, .ptr 0 0)]) (fun i => [.box [lst AV.str .ro ns, lst u8 .ro up], .tok (nl (sA up ns.length k i)).length]) (fun i => ns.length - i) 0 ⟨Nat.zero_le _, _, _, wk_tok 5 1 rfl, ⟨by simp only [go_sem, Nat.reduceMod, Nat.reduceBNe, Nat.reduceBEq, Nat.reduceEqDiff, Nat.reduceAdd, Int.reduceAdd, Nat.reduceMul, Nat.reduceSub, Int.reduceToNat, Int.reduceLE, Int.reduceLT, Int.reduceEq, Int.reduceNe, reduceCtorEq, Nat.reduceLT, Nat.reduceLeDiff]; rfl, rfl⟩⟩ fun i hi => ?_
  simp only [A_ref04_sortedL0, go_sem, Nat.reduceMod, Nat.reduceBNe, Nat.reduceBEq, Nat.reduceEqDiff, Nat.reduceAdd, Int.reduceAdd, Nat.reduceMul, Nat.reduceSub, Int.reduceToNat, Int.reduceLE, Int.reduceLT, Int.reduceEq, Int.reduceNe, reduceCtorEq, Nat.reduceLT, Nat.reduceLeDiff]
  refine ⟨fun c => ?_, fun c => ?_⟩
  · refine w_loop' hs.hm (ι := Nat) (fun j => j ≤ ns.length) (fun j => [(7, .int .i64 j), (6, .int .i64 (i + 1 : Nat)), (5, lst (AV.int .i64) (.tok 1 1) (nl (sA up ns.length k i ++ sR up ns.length k i j))), (1, lst (AV.int .i64) .ro (nl k)), (2, .ptr 0 0)]) (fun j => [.box [lst AV.str .ro ns, lst u8 .ro up], .tok (nl (sA up ns.length k i ++ sR up ns.length k i j)).length]) (fun j => ns.length - j) 0 ?_ fun j hj => ?_
    · simp only [sR_0, List.append_nil, go_sem, Nat.reduceMod, Nat.reduceBNe, Nat.reduceBEq, Nat.reduceEqDiff, Nat.reduceAdd, Int.reduceAdd, Nat.reduceMul, Nat.reduceSub, Int.reduceToNat, Int.reduceLE, Int.reduceLT, Int.reduceEq, Int.reduceNe, reduceCtorEq, Nat.reduceLT, Nat.reduceLeDiff]
      exact Nat.zero_le _
    · simp only [A_ref04_sortedL1, go_sem, Nat.reduceMod, Nat.reduceBNe, Nat.reduceBEq, Nat.reduceEqDiff, Nat.reduceAdd, Int.reduceAdd, Nat.reduceMul, Nat.reduceSub, Int.reduceToNat, Int.reduceLE, Int.reduceLT, Int.reduceEq, Int.reduceNe, reduceCtorEq, Nat.reduceLT, Nat.reduceLeDiff]
      refine ⟨fun c2 => ?_, fun c2 => ?_⟩
      · refine call_ev (ev_rlevel hX hs ns up hv j) ?_
        have hj' : j < ns.length := by omega
        have hlen : (nl (sA up ns.length k i ++ sR up ns.length k i j)).length ≤ 72 := by
          rw [nl_len, List.length_append]
          have := sA_len up ns.length k i
          have := sR_len up ns.length k i j
          have : i * ns.length ≤ 8 * 8 := Nat.mul_le_mul (by omega) h8
          omega
        by_cases e : Lat.lv up ns.length j = i + 1
        · simp only [e, go_sem, Nat.reduceMod, Nat.reduceBNe, Nat.reduceBEq, Nat.reduceEqDiff, Nat.reduceAdd, Int.reduceAdd, Nat.reduceMul, Nat.reduceSub, Int.reduceToNat, Int.reduceLE, Int.reduceLT, Int.reduceEq, Int.reduceNe, reduceCtorEq, Nat.reduceLT, Nat.reduceLeDiff]
          refine call_ev (ev_rhas hX hs (nl k) (by rw [nl_len]; exact hk) j) ?_
          rw [nl_contains]
          cases e2 : k.contains j with
          | true =>
            have h1 : (decide (Lat.lv up ns.length j = i + 1) && k.contains j) = true := by rw [e, e2, decide_eq_true rfl, Bool.true_and]
            simp only [go_sem, Nat.reduceMod, Nat.reduceBNe, Nat.reduceBEq, Nat.reduceEqDiff, Nat.reduceAdd, Int.reduceAdd, Nat.reduceMul, Nat.reduceSub, Int.reduceToNat, Int.reduceLE, Int.reduceLT, Int.reduceEq, Int.reduceNe, reduceCtorEq, Nat.reduceLT, Nat.reduceLeDiff]
            have h2 : nl (sA up ns.length k i ++ sR up ns.length k i j) ++ [(j : Int)] = nl (sA up ns.length k i ++ sR up ns.length k i (j + 1)) := by
              rw [sR_1 h1, ← List.append_assoc, nl_app _ [j]]
              rfl
            refine ⟨⟨by omega, by omega⟩, j + 1, by omega, by omega, ⟨by rw [wi64 (by omega)]; rfl, by rw [h2]⟩, ?_⟩
            rw [← h2, List.length_append]
            rfl
          | false =>
            have h1 : (decide (Lat.lv up ns.length j = i + 1) && k.contains j) = false := by rw [e2, Bool.and_false]
            simp only [go_sem, Nat.reduceMod, Nat.reduceBNe, Nat.reduceBEq, Nat.reduceEqDiff, Nat.reduceAdd, Int.reduceAdd, Nat.reduceMul, Nat.reduceSub, Int.reduceToNat, Int.reduceLE, Int.reduceLT, Int.reduceEq, Int.reduceNe, reduceCtorEq, Nat.reduceLT, Nat.reduceLeDiff]
            exact ⟨j + 1, by omega, by omega, ⟨by rw [wi64 (by omega)]; rfl, by rw [sR_n h1]⟩, by rw [sR_n h1]⟩
        · have e' : ¬ ((Lat.lv up ns.length j : Nat) : Int) = ((i + 1 : Nat) : Int) := by omega
          have h1 : (decide (Lat.lv up ns.length j = i + 1) && k.contains j) = false := by rw [decide_eq_false e, Bool.false_and]
          simp only [e', go_sem, Nat.reduceMod, Nat.reduceBNe, Nat.reduceBEq, Nat.reduceEqDiff, Nat.reduceAdd, Int.reduceAdd, Nat.reduceMul, Nat.reduceSub, Int.reduceToNat, Int.reduceLE, Int.reduceLT, Int.reduceEq, Int.reduceNe, reduceCtorEq, Nat.reduceLT, Nat.reduceLeDiff]
          exact ⟨j + 1, by omega, by omega, ⟨by rw [wi64 (by omega)]; rfl, by rw [sR_n h1]⟩, by rw [sR_n h1]⟩
      · obtain rfl : j = ns.length := by omega
        exact ⟨i + 1, by omega, by omega, ⟨by rw [wi64 (by omega)]; rfl, by rw [sA_s]⟩, by rw [sA_s]⟩
  · obtain rfl : i = ns.length := by omega
    rw [sA_all]
end
end Go.Avm
