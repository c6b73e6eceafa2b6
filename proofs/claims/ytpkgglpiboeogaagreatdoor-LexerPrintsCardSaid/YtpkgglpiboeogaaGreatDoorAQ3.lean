/- ParseInt at base 16, escape. -/
import Derived.Test.YtpkgglpiboeogaaGreatDoorAQ2
import Derived.Test.YtpkgglpiboeogaaGreatDoorAQ1
import Derived.Test.YtpkgglpiboeogaaGreatDoorM3
set_option linter.unusedSectionVars false
set_option linter.unusedSimpArgs false
set_option linter.unusedVariables false

/- ParseInt at base 16, escape. -/
namespace Go.Avm
open Go Go.Rn Go.Lx
def hexCs : List UInt8 := [48, 49, 50, 51, 52, 53, 54, 55, 56, 57, 97, 98, 99, 100, 101, 102]
theorem hexCs_tab : ∀ n : Nat, n < 256 → Lat.inB hexCs n = ((decide (48 ≤ n) && decide (n ≤ 57)) || (decide (97 ≤ n) && decide (n ≤ 102))) := by decide +kernel
theorem hexCs_in (c : UInt8) : Lat.inB hexCs c.toNat = hxB c := by
  rw [hexCs_tab _ c.toNat_lt]
  simp only [hxB, Wo.hexv]
  split
  · rename_i h; simp [h]
  · rename_i h
    split
    · rename_i h2; simp [h2]
    · rename_i h2
      simp only [Option.isSome_none, Bool.or_eq_false_iff, Bool.and_eq_false_iff, decide_eq_false_iff_not]
      omega
theorem trim_hex (s : List UInt8) : decide (Lat.trimS hexCs s = []) = s.all hxB := by
  have : (fun c : UInt8 => Lat.inB hexCs c.toNat) = hxB := funext hexCs_in
  have h := Lat.trim_nil hexCs s
  rw [this] at h
  cases ha : s.all hxB with
  | true => simp [h.2 ha]
  | false => simp [h, ha]
def escV (w : List UInt8) : AV := match escp w with
  | some (r, n) => .tuple [.int .i32 r, .int .i64 (n : Nat), .bool true]
  | none => .tuple [.int .i32 0, .int .i64 0, .bool false]
set_option maxRecDepth 10000
section
variable {X : Cx} (hX : X.P = Go.Proofs.Tryz.prog) (hs : Std X)
include hX hs
theorem ev_ip16 (s : List UInt8) (hx : s.all hxB = true) (h0 : s ≠ []) (hl : s.length ≤ 6) : Ev X F_strconv_ParseInt_53 [.str s, .int .i64 16, .int .i64 32] (.tuple [.int .i64 (hxL 0 s : Nat), .nilI]) := by
  have hlen : 0 < s.length := by cases s with
    | nil => exact absurd rfl h0
    | cons => simp
  have hm : s.getD 0 0 ∈ s := by
    rw [List.getD_eq_getElem?_getD, List.getElem?_eq_getElem hlen]; exact List.getElem_mem hlen
  have hc := hx_cases (List.all_eq_true.1 hx _ hm)
  have hlt := hxL_lt s.length s (Nat.le_refl _)
  rw [List.take_length] at hlt
  have hp : 16 ^ s.length ≤ 16 ^ 6 := Nat.pow_le_pow_right (by decide) hl
  have e6 : 16 ^ 6 = 16777216 := by decide
  have n43 : ¬ ((s.getD 0 0).toNat : Int) = 43 := by omega
  have n45 : ¬ ((s.getD 0 0).toNat : Int) = 45 := by omega
  refine ev_of_wpc hs (A_strconv_ParseInt_53_ok hX) 0 ?_
  have hl1 : (0 : Int) < s.length := by omega
  simp only [A_strconv_ParseInt_53, go_sem, Nat.reduceMod, Nat.reduceBNe, Nat.reduceBEq, Nat.reduceEqDiff, Nat.reduceAdd, Int.reduceAdd, Nat.reduceMul, Nat.reduceSub, Int.reduceToNat, Int.reduceLE, Int.reduceLT, Int.reduceEq, Int.reduceNe, reduceCtorEq, Nat.reduceLT, Nat.reduceLeDiff, h0, n43, n45]
  refine ⟨by omega, ?_⟩
  refine call_ev (ev_ParseUint16 hX hs s hx h0 hl) ?_
  have k1 : IntKind.u64.wrap (IntKind.i64.wrap (32 - 1)) = 31 := by decide
  have k2 : IntKind.u64.wrap (1 * 2 ^ min 31 64) = 2147483648 := by decide
  have k2' : IntKind.u64.wrap (1 * 2 ^ min (Int.toNat 31) 64) = 2147483648 := by decide
  have g1 : ¬ (2147483648 : Int) ≤ (hxL 0 s : Nat) := by omega
  have w1 : IntKind.i64.wrap ((hxL 0 s : Nat) : Int) = (hxL 0 s : Nat) := wi64 (by omega)
  simp only [go_sem, Nat.reduceMod, Nat.reduceBNe, Nat.reduceBEq, Nat.reduceEqDiff, Nat.reduceAdd, Int.reduceAdd, Nat.reduceMul, Nat.reduceSub, Int.reduceToNat, Int.reduceLE, Int.reduceLT, Int.reduceEq, Int.reduceNe, reduceCtorEq, Nat.reduceLT, Nat.reduceLeDiff, k1, k2, k2', g1, w1]
theorem ev_ParseInt16 {te : Nat} (hR : X.G 4 = some [.ifc te .undef]) (s : List UInt8) (hx : s.all hxB = true) (hl : s.length ≤ 6) : Ev X F_strconv_ParseInt [.str s, .int .i64 16, .int .i64 32] (if s = [] then .tuple [.int .i64 0, .ifc (lRen.t 168) .undef] else .tuple [.int .i64 (hxL 0 s : Nat), .nilI]) := by
  refine ev_of_wpc hs (A_strconv_ParseInt_ok hX) 0 ?_
  simp only [A_strconv_ParseInt, go_sem, Nat.reduceMod, Nat.reduceBNe, Nat.reduceBEq, Nat.reduceEqDiff, Nat.reduceAdd, Int.reduceAdd, Nat.reduceMul, Nat.reduceSub, Int.reduceToNat, Int.reduceLE, Int.reduceLT, Int.reduceEq, Int.reduceNe, reduceCtorEq, Nat.reduceLT, Nat.reduceLeDiff]
  by_cases h0 : s = []
  · subst h0
    refine call_ev (ev_ipEmpty hX 16 32) ?_
    simp only [go_sem, Nat.reduceMod, Nat.reduceBNe, Nat.reduceBEq, Nat.reduceEqDiff, Nat.reduceAdd, Int.reduceAdd, Nat.reduceMul, Nat.reduceSub, Int.reduceToNat, Int.reduceLE, Int.reduceLT, Int.reduceEq, Int.reduceNe, reduceCtorEq, Nat.reduceLT, Nat.reduceLeDiff]
    refine call_ev (ev_toError hX hR [80, 97, 114, 115, 101, 73, 110, 116] [] 16 32 (by decide)) ?_
    simp only [go_sem, Nat.reduceMod, Nat.reduceBNe, Nat.reduceBEq, Nat.reduceEqDiff, Nat.reduceAdd, Int.reduceAdd, Nat.reduceMul, Nat.reduceSub, Int.reduceToNat, Int.reduceLE, Int.reduceLT, Int.reduceEq, Int.reduceNe, reduceCtorEq, Nat.reduceLT, Nat.reduceLeDiff]
    rfl
  · refine call_ev (ev_ip16 hX hs s hx h0 hl) ?_
    simp only [go_sem, Nat.reduceMod, Nat.reduceBNe, Nat.reduceBEq, Nat.reduceEqDiff, Nat.reduceAdd, Int.reduceAdd, Nat.reduceMul, Nat.reduceSub, Int.reduceToNat, Int.reduceLE, Int.reduceLT, Int.reduceEq, Int.reduceNe, reduceCtorEq, Nat.reduceLT, Nat.reduceLeDiff, if_neg h0]
theorem ev_escape {te : Nat} (hR : X.G 4 = some [.ifc te .undef]) (w : List UInt8) (hl : w.length < 1000000) : Ev X F_lexer_escape [.str w] (escV w) := by
  refine ev_of_wpc hs (A_lexer_escape_ok hX) 0 ?_
  simp only [A_lexer_escape, go_sem, Nat.reduceMod, Nat.reduceBNe, Nat.reduceBEq, Nat.reduceEqDiff, Nat.reduceAdd, Int.reduceAdd, Nat.reduceMul, Nat.reduceSub, Int.reduceToNat, Int.reduceLE, Int.reduceLT, Int.reduceEq, Int.reduceNe, reduceCtorEq, Nat.reduceLT, Nat.reduceLeDiff]
  refine call_ev (ev_HasPrefix hX hs w [34] hl (by decide)) ?_
  rw [hasP1]
  cases w with
  | nil =>
    simp only [go_sem, Nat.reduceMod, Nat.reduceBNe, Nat.reduceBEq, Nat.reduceEqDiff, Nat.reduceAdd, Int.reduceAdd, Nat.reduceMul, Nat.reduceSub, Int.reduceToNat, Int.reduceLE, Int.reduceLT, Int.reduceEq, Int.reduceNe, reduceCtorEq, Nat.reduceLT, Nat.reduceLeDiff]
    refine call_ev (ev_HasPrefix hX hs [] [92] (by decide) (by decide)) ?_
    rw [hasP1]
    simp only [go_sem, Nat.reduceMod, Nat.reduceBNe, Nat.reduceBEq, Nat.reduceEqDiff, Nat.reduceAdd, Int.reduceAdd, Nat.reduceMul, Nat.reduceSub, Int.reduceToNat, Int.reduceLE, Int.reduceLT, Int.reduceEq, Int.reduceNe, reduceCtorEq, Nat.reduceLT, Nat.reduceLeDiff]
    refine call_ev (ev_HasPrefix hX hs [] [110] (by decide) (by decide)) ?_
    rw [hasP1]
    simp only [go_sem, Nat.reduceMod, Nat.reduceBNe, Nat.reduceBEq, Nat.reduceEqDiff, Nat.reduceAdd, Int.reduceAdd, Nat.reduceMul, Nat.reduceSub, Int.reduceToNat, Int.reduceLE, Int.reduceLT, Int.reduceEq, Int.reduceNe, reduceCtorEq, Nat.reduceLT, Nat.reduceLeDiff]
    refine call_ev (ev_HasPrefix hX hs [] [117] (by decide) (by decide)) ?_
    rw [hasP1]
    simp only [go_sem, Nat.reduceMod, Nat.reduceBNe, Nat.reduceBEq, Nat.reduceEqDiff, Nat.reduceAdd, Int.reduceAdd, Nat.reduceMul, Nat.reduceSub, Int.reduceToNat, Int.reduceLE, Int.reduceLT, Int.reduceEq, Int.reduceNe, reduceCtorEq, Nat.reduceLT, Nat.reduceLeDiff, escV, escp]
  | cons c r =>
    have h1 : decide (0 < (c :: r).length) = true := by simp
    simp only [h1, List.getD_cons_zero, Bool.true_and]
    have hp : ∀ d : UInt8, Ev X F_strings_HasPrefix [.str (c :: r), .str [d]] (.bool (decide (c = d))) := fun d => by
      have := ev_HasPrefix hX hs (c :: r) [d] hl (by simp)
      rw [hasP1, h1, List.getD_cons_zero, Bool.true_and] at this
      exact this
    have hl' : r.length < 1000000 := by simp only [List.length_cons] at hl; omega
    by_cases c34 : c = 34
    · subst c34
      have e : escV (34 :: r) = .tuple [.int .i32 34, .int .i64 1, .bool true] := by
        unfold escV; rw [escp, if_pos (.inl rfl)]; rfl
      rw [e]
      simp only [go_sem, Nat.reduceMod, Nat.reduceBNe, Nat.reduceBEq, Nat.reduceEqDiff, Nat.reduceAdd, Int.reduceAdd, Nat.reduceMul, Nat.reduceSub, Int.reduceToNat, Int.reduceLE, Int.reduceLT, Int.reduceEq, Int.reduceNe, reduceCtorEq, Nat.reduceLT, Nat.reduceLeDiff]
      exact ⟨by omega, rfl⟩
    by_cases c92 : c = 92
    · subst c92
      have e : escV (92 :: r) = .tuple [.int .i32 92, .int .i64 1, .bool true] := by
        unfold escV; rw [escp, if_pos (.inr rfl)]; rfl
      rw [e]
      simp only [go_sem, Nat.reduceMod, Nat.reduceBNe, Nat.reduceBEq, Nat.reduceEqDiff, Nat.reduceAdd, Int.reduceAdd, Nat.reduceMul, Nat.reduceSub, Int.reduceToNat, Int.reduceLE, Int.reduceLT, Int.reduceEq, Int.reduceNe, reduceCtorEq, Nat.reduceLT, Nat.reduceLeDiff, c34]
      refine call_ev (hp 92) ?_
      simp only [go_sem, Nat.reduceMod, Nat.reduceBNe, Nat.reduceBEq, Nat.reduceEqDiff, Nat.reduceAdd, Int.reduceAdd, Nat.reduceMul, Nat.reduceSub, Int.reduceToNat, Int.reduceLE, Int.reduceLT, Int.reduceEq, Int.reduceNe, reduceCtorEq, Nat.reduceLT, Nat.reduceLeDiff]
      exact ⟨by omega, rfl⟩
    have n1 : ¬ (c = 34 ∨ c = 92) := fun e => e.elim c34 c92
    simp only [go_sem, Nat.reduceMod, Nat.reduceBNe, Nat.reduceBEq, Nat.reduceEqDiff, Nat.reduceAdd, Int.reduceAdd, Nat.reduceMul, Nat.reduceSub, Int.reduceToNat, Int.reduceLE, Int.reduceLT, Int.reduceEq, Int.reduceNe, reduceCtorEq, Nat.reduceLT, Nat.reduceLeDiff, c34]
    refine call_ev (hp 92) ?_
    simp only [go_sem, Nat.reduceMod, Nat.reduceBNe, Nat.reduceBEq, Nat.reduceEqDiff, Nat.reduceAdd, Int.reduceAdd, Nat.reduceMul, Nat.reduceSub, Int.reduceToNat, Int.reduceLE, Int.reduceLT, Int.reduceEq, Int.reduceNe, reduceCtorEq, Nat.reduceLT, Nat.reduceLeDiff, c92]
    refine call_ev (hp 110) ?_
    by_cases c110 : c = 110
    · subst c110
      have e : escV (110 :: r) = .tuple [.int .i32 10, .int .i64 1, .bool true] := by
        unfold escV; rw [escp, if_neg (by decide), if_pos rfl]; rfl
      rw [e]
      simp only [go_sem, Nat.reduceMod, Nat.reduceBNe, Nat.reduceBEq, Nat.reduceEqDiff, Nat.reduceAdd, Int.reduceAdd, Nat.reduceMul, Nat.reduceSub, Int.reduceToNat, Int.reduceLE, Int.reduceLT, Int.reduceEq, Int.reduceNe, reduceCtorEq, Nat.reduceLT, Nat.reduceLeDiff]
    simp only [go_sem, Nat.reduceMod, Nat.reduceBNe, Nat.reduceBEq, Nat.reduceEqDiff, Nat.reduceAdd, Int.reduceAdd, Nat.reduceMul, Nat.reduceSub, Int.reduceToNat, Int.reduceLE, Int.reduceLT, Int.reduceEq, Int.reduceNe, reduceCtorEq, Nat.reduceLT, Nat.reduceLeDiff, c110]
    refine call_ev (hp 117) ?_
    by_cases c117 : c = 117
    · subst c117
      simp only [go_sem, Nat.reduceMod, Nat.reduceBNe, Nat.reduceBEq, Nat.reduceEqDiff, Nat.reduceAdd, Int.reduceAdd, Nat.reduceMul, Nat.reduceSub, Int.reduceToNat, Int.reduceLE, Int.reduceLT, Int.reduceEq, Int.reduceNe, reduceCtorEq, Nat.reduceLT, Nat.reduceLeDiff]
      refine ⟨by omega, ?_⟩
      rw [List.take_length]
      refine call_ev (ev_Cut hX hs r 59 hl') ?_
      have e : escV (117 :: r) = if Lat.idx 59 r < r.length ∧ Lat.idx 59 r ≤ 6 ∧ (r.take (Lat.idx 59 r)).all hxB = true ∧ Lat.idx 59 r ≠ 0 ∧ valid (hxL 0 (r.take (Lat.idx 59 r))) = true then .tuple [.int .i32 (hxL 0 (r.take (Lat.idx 59 r)) : Nat), .int .i64 ((Lat.idx 59 r + 2 : Nat) : Int), .bool true] else .tuple [.int .i32 0, .int .i64 0, .bool false] := by
        unfold escV
        rw [escp, if_neg (by decide), if_neg (by decide), if_neg (by decide)]
        split
        · rename_i a b h
          split at h
          · rename_i hc
            simp only [Option.some.injEq, Prod.mk.injEq] at h
            obtain ⟨rfl, rfl⟩ := h
            rw [if_pos hc]
          · cases h
        · rename_i h
          split at h
          · cases h
          · rename_i hc
            rw [if_neg hc]
      rw [e]
      by_cases hk : Lat.idx 59 r < r.length
      · have hdl : (r.take (Lat.idx 59 r)).length = Lat.idx 59 r := by rw [List.length_take]; omega
        simp only [hk, if_true, decide_true, true_and]
        generalize hds : r.take (Lat.idx 59 r) = ds at *
        generalize Lat.idx 59 r = k at *
        by_cases h6 : k ≤ 6
        · have h6' : ¬ (6 : Int) < ds.length := by omega
          simp only [go_sem, Nat.reduceMod, Nat.reduceBNe, Nat.reduceBEq, Nat.reduceEqDiff, Nat.reduceAdd, Int.reduceAdd, Nat.reduceMul, Nat.reduceSub, Int.reduceToNat, Int.reduceLE, Int.reduceLT, Int.reduceEq, Int.reduceNe, reduceCtorEq, Nat.reduceLT, Nat.reduceLeDiff, h6', h6]
          refine call_ev (ev_Trim hX hs hexCs ds (by decide) (by decide) (by decide) (by omega)) ?_
          have ht := trim_hex ds
          cases hx : ds.all hxB with
          | false =>
            rw [hx, decide_eq_false_iff_not] at ht
            simp only [go_sem, Nat.reduceMod, Nat.reduceBNe, Nat.reduceBEq, Nat.reduceEqDiff, Nat.reduceAdd, Int.reduceAdd, Nat.reduceMul, Nat.reduceSub, Int.reduceToNat, Int.reduceLE, Int.reduceLT, Int.reduceEq, Int.reduceNe, reduceCtorEq, Nat.reduceLT, Nat.reduceLeDiff, ht]
            simp
          | true =>
            rw [hx, decide_eq_true_eq] at ht
            simp only [go_sem, Nat.reduceMod, Nat.reduceBNe, Nat.reduceBEq, Nat.reduceEqDiff, Nat.reduceAdd, Int.reduceAdd, Nat.reduceMul, Nat.reduceSub, Int.reduceToNat, Int.reduceLE, Int.reduceLT, Int.reduceEq, Int.reduceNe, reduceCtorEq, Nat.reduceLT, Nat.reduceLeDiff, ht]
            refine call_ev (ev_ParseInt16 hX hs hR ds hx (by omega)) ?_
            by_cases hd0 : ds = []
            · have hk0 : k = 0 := by rw [hd0] at hdl; simpa using hdl.symm
              simp only [hd0, hk0, if_true, go_sem, Nat.reduceMod, Nat.reduceBNe, Nat.reduceBEq, Nat.reduceEqDiff, Nat.reduceAdd, Int.reduceAdd, Nat.reduceMul, Nat.reduceSub, Int.reduceToNat, Int.reduceLE, Int.reduceLT, Int.reduceEq, Int.reduceNe, reduceCtorEq, Nat.reduceLT, Nat.reduceLeDiff]
              simp
            · have hk0 : k ≠ 0 := fun e => hd0 (List.length_eq_zero_iff.1 (by omega))
              have hlt := hxL_lt ds.length ds (Nat.le_refl _)
              rw [List.take_length] at hlt
              have hp2 : 16 ^ ds.length ≤ 16 ^ 6 := Nat.pow_le_pow_right (by decide) (by omega)
              have e6 : 16 ^ 6 = 16777216 := by decide
              have w32 : IntKind.i32.wrap ((hxL 0 ds : Nat) : Int) = (hxL 0 ds : Nat) := wi32 (by omega)
              simp only [if_neg hd0, go_sem, Nat.reduceMod, Nat.reduceBNe, Nat.reduceBEq, Nat.reduceEqDiff, Nat.reduceAdd, Int.reduceAdd, Nat.reduceMul, Nat.reduceSub, Int.reduceToNat, Int.reduceLE, Int.reduceLT, Int.reduceEq, Int.reduceNe, reduceCtorEq, Nat.reduceLT, Nat.reduceLeDiff, w32]
              refine call_ev (ev_valid hX hs _) ?_
              cases hv : valid (hxL 0 ds : Nat) with
              | true =>
                simp only [go_sem, Nat.reduceMod, Nat.reduceBNe, Nat.reduceBEq, Nat.reduceEqDiff, Nat.reduceAdd, Int.reduceAdd, Nat.reduceMul, Nat.reduceSub, Int.reduceToNat, Int.reduceLE, Int.reduceLT, Int.reduceEq, Int.reduceNe, reduceCtorEq, Nat.reduceLT, Nat.reduceLeDiff]
                rw [if_pos hk0, w32, wi64 (by omega), hdl]
                rfl
              | false =>
                simp only [go_sem, Nat.reduceMod, Nat.reduceBNe, Nat.reduceBEq, Nat.reduceEqDiff, Nat.reduceAdd, Int.reduceAdd, Nat.reduceMul, Nat.reduceSub, Int.reduceToNat, Int.reduceLE, Int.reduceLT, Int.reduceEq, Int.reduceNe, reduceCtorEq, Nat.reduceLT, Nat.reduceLeDiff]
                rw [if_neg (by simp)]
        · have h6' : (6 : Int) < ds.length := by omega
          simp only [go_sem, Nat.reduceMod, Nat.reduceBNe, Nat.reduceBEq, Nat.reduceEqDiff, Nat.reduceAdd, Int.reduceAdd, Nat.reduceMul, Nat.reduceSub, Int.reduceToNat, Int.reduceLE, Int.reduceLT, Int.reduceEq, Int.reduceNe, reduceCtorEq, Nat.reduceLT, Nat.reduceLeDiff, h6', h6]
          simp
      · simp only [hk, if_false, decide_false, false_and, go_sem, Nat.reduceMod, Nat.reduceBNe, Nat.reduceBEq, Nat.reduceEqDiff, Nat.reduceAdd, Int.reduceAdd, Nat.reduceMul, Nat.reduceSub, Int.reduceToNat, Int.reduceLE, Int.reduceLT, Int.reduceEq, Int.reduceNe, reduceCtorEq, Nat.reduceLT, Nat.reduceLeDiff]
    · have e : escV (c :: r) = .tuple [.int .i32 0, .int .i64 0, .bool false] := by
        unfold escV; rw [escp, if_neg n1, if_neg c110, if_pos c117]
      rw [e]
      simp only [go_sem, Nat.reduceMod, Nat.reduceBNe, Nat.reduceBEq, Nat.reduceEqDiff, Nat.reduceAdd, Int.reduceAdd, Nat.reduceMul, Nat.reduceSub, Int.reduceToNat, Int.reduceLE, Int.reduceLT, Int.reduceEq, Int.reduceNe, reduceCtorEq, Nat.reduceLT, Nat.reduceLeDiff, c117]
end
end Go.Avm

/- The reader: text. -/
namespace Go.Avm
open Go Go.Rn Go.Lx
set_option maxRecDepth 10000
theorem gx2 {α : Type} (G : List α) (x y z : α) (r : List α) : (G ++ x :: y :: z :: r)[G.length + 2]? = some z := by
  rw [List.getElem?_append_right (by omega), show G.length + 2 - G.length = 2 by omega]; rfl
theorem gx3 {α : Type} (G : List α) (x y z u : α) (r : List α) : (G ++ x :: y :: z :: u :: r)[G.length + 3]? = some u := by
  rw [List.getElem?_append_right (by omega), show G.length + 3 - G.length = 3 by omega]; rfl
theorem gs2 {α : Type} (G : List α) (x y z u : α) (r : List α) : (G ++ x :: y :: z :: r).set (G.length + 2) u = G ++ x :: y :: u :: r := by
  rw [List.set_append_right _ _ (by omega), show G.length + 2 - G.length = 2 by omega]; rfl
theorem gs3 {α : Type} (G : List α) (x y z u v : α) (r : List α) : (G ++ x :: y :: z :: u :: r).set (G.length + 3) v = G ++ x :: y :: z :: v :: r := by
  rw [List.set_append_right _ _ (by omega), show G.length + 3 - G.length = 3 by omega]; rfl
theorem gl4 {α : Type} (G : List α) (x y z : α) : (G ++ [x, y, z]).length = G.length + 3 := by simp

theorem w11 : IntKind.i64.wrap (1 - 1) = 0 := by decide
structure TS where
  q : Nat
  j : Nat
  c : List UInt8
def TI (u : List UInt8) (x : TS) : Prop := x.q ≤ u.length ∧ x.j ≤ 10 ∧ ((x.q = 0 ∧ x.j = 1 ∧ x.c = []) ∨ (1 ≤ x.q ∧ x.q + (x.j - 1) ≤ u.length ∧ x.c.length ≤ 4 * (x.q + (x.j - 1)) ∧ (∀ i, i < x.j - 1 → (u.getD (x.q + i) 0).toNat < 128) ∧ txtS 0 (u.drop 1) = (txtS 0 (u.drop (x.q + (x.j - 1)))).up x.c (x.q + (x.j - 1) - 1)))
def tz : Blk := .box [.int .i64 0, .int .i64 0, .int .i64 0, .int .i64 0, .str []]
def fz : Blk := .box [.int .i64 0, .int .i64 0]
theorem text_of {u : List UInt8} {c : List UInt8} {q : Nat} {r : TR} (h : txtS 0 (u.drop 1) = r.up c (q - 1)) (hq : 1 ≤ q) : textO u = (match (generalizing := false) r with
    | .ok c' k => Out.ok ⟨3, 0, c ++ c'⟩ (q + k)
    | .bad d => Out.bad (q + d) 6
    | .out => Out.bad 0 6) := by
  have e : textO u = (match (generalizing := false) r.up c (q - 1) with
    | .ok c k => Out.ok ⟨3, 0, c⟩ (k + 1)
    | .bad d => Out.bad (d + 1) 6
    | .out => Out.bad 0 6) := by rw [← h]; rfl
  rw [e]
  cases r with
  | ok c' k => simp only [TR.up]; congr 1; omega
  | bad d => simp only [TR.up]; congr 1; omega
  | out => rfl
theorem hasP3 (v : List UInt8) : hasP v [239, 191, 189] = decide (v.take 3 = [239, 191, 189]) := by
  unfold hasP
  by_cases h : v.take 3 = [239, 191, 189]
  · have := congrArg List.length h
    rw [List.length_take] at this
    simp only [List.length_cons, List.length_nil] at this ⊢
    simp [h]; omega
  · simp [h]
section
variable {X : Cx} (hX : X.P = Go.Proofs.Tryz.prog) (hs : Std X) (hN : X.G 2 = some [.int .i64 0, .int .i64 0]) {te : Nat} (hR : X.G 4 = some [.ifc te .undef])
include hX hs hN hR
set_option maxHeartbeats 4000000 in
theorem ev_text (s : List UInt8) (p : Nat) (G : Heap) (hl : s.length < 1000000) (hp : p < s.length) (h34 : s.getD p 0 = 34) :
    EvM X F_lexer_reader_text [.ptr 1 0] (RH s p G) (OutQ s p G (textO (s.drop p))) := by
  refine evM_of_wpc hs (A_lexer_reader_text_ok hX) ?_
  unfold RH
  simp only [A_lexer_reader_text, go_sem, Nat.reduceMod, Nat.reduceBNe, Nat.reduceBEq, Nat.reduceEqDiff, Nat.reduceAdd, Int.reduceAdd, Nat.reduceMul, Nat.reduceSub, Int.reduceToNat, Int.reduceLE, Int.reduceLT, Int.reduceEq, Int.reduceNe, reduceCtorEq, Nat.reduceLT, Nat.reduceLeDiff, rdr, List.append_assoc, gx0, gx1, gx2, gx3, gs0, gs1, gs2, gs3, gl2, gl3, gl4, List.take_length]
  refine ⟨⟨⟨by omega, by omega⟩, by omega⟩, ?_⟩
  have hul : (s.drop p).length = s.length - p := List.length_drop
  have hu0 : (s.drop p).getD 0 0 = 34 := by rw [← h34]; simp [List.getD_eq_getElem?_getD, List.getElem?_drop]
  have hsd : ∀ k, s.drop (p + k) = (s.drop p).drop k := fun k => (List.drop_drop ..).symm
  generalize hu : s.drop p = u at *
  refine w_loop' hs.hm (ι := TS) (TI u) (fun x => [(0, .ptr 1 0), (2, .ptr (G.length + 1 + 1) 0), (3, .ptr (G.length + 1 + 1 + 1) 0), (4, .int .i64 p), (5, .ptr (G.length + 2 + 1 + 1) 0), (6, .int .i64 x.j), (23, .ptr (G.length + 3 + 1 + 1) 0)]) (fun x => .dead :: .box [.str s, .int .i64 p] :: (G ++ [tz, fz, .bld 38 5 x.c, .sit u x.q])) (fun x => u.length - x.q) ⟨0, 1, []⟩ ?_ fun x hx => ?_
  · simp only [go_sem, Nat.reduceMod, Nat.reduceBNe, Nat.reduceBEq, Nat.reduceEqDiff, Nat.reduceAdd, Int.reduceAdd, Nat.reduceMul, Nat.reduceSub, Int.reduceToNat, Int.reduceLE, Int.reduceLT, Int.reduceEq, Int.reduceNe, reduceCtorEq, Nat.reduceLT, Nat.reduceLeDiff]
    exact ⟨⟨Nat.zero_le _, by decide, .inl ⟨rfl, rfl, rfl⟩⟩, rfl⟩
  obtain ⟨q, j, c⟩ := x
  obtain ⟨x1, x2, x3⟩ := hx
  dsimp only at x1 x2 x3 ⊢
  have hset : ∀ z c', (Blk.dead :: Blk.box [AV.str s, AV.int IntKind.i64 z] :: (G ++ [tz, fz, Blk.bld 38 5 c, Blk.sit u c'])) = (Blk.dead :: Blk.box [AV.str s, AV.int IntKind.i64 z] :: (G ++ [tz, fz, Blk.bld 38 5 c, Blk.sit u c'])) := fun _ _ => rfl
  have hg : ∀ (z : Int) (c' : Nat), (Blk.dead :: Blk.box [AV.str s, AV.int IntKind.i64 z] :: (G ++ [tz, fz, Blk.bld 38 5 c, Blk.sit u c']))[G.length + 2 + 1 + 1]? = some (.bld 38 5 c) := fun z c' => by
    simp only [List.getElem?_cons_succ, gx2]
  by_cases hq : q < u.length
  · obtain ⟨y, v, hv⟩ : ∃ y v, u.drop q = y :: v := by
      cases hd : u.drop q with
      | nil => have := congrArg List.length hd; rw [List.length_drop] at this; simp at this; omega
      | cons y v => exact ⟨y, v, rfl⟩
    have hyg : u.getD q 0 = y := by
      have := congrArg (fun l => List.getD l 0 0) hv
      simpa [List.getD_eq_getElem?_getD, List.getElem?_drop] using this
    have hvl : (y :: v).length = u.length - q := by rw [← hv, List.length_drop]
    rcases x3 with ⟨rfl, rfl, rfl⟩ | ⟨y1, y2, y3, y4, y5⟩
    · -- the quote at the beginning
      have hy : y = 34 := by rw [← hyg]; exact hu0
      subst hy
      have hd := dec_asc (x := 34) (by decide) v
      have d1 : (dec (34 :: v)).1 = 34 := by rw [hd]; rfl
      have d2 : (dec (34 :: v)).2 = 1 := by rw [hd]
      have w0 : IntKind.i64.wrap (1 - 1) = 0 := by decide
      simp only [A_lexer_reader_textL0, go_sem, Nat.reduceMod, Nat.reduceBNe, Nat.reduceBEq, Nat.reduceEqDiff, Nat.reduceAdd, Int.reduceAdd, Nat.reduceMul, Nat.reduceSub, Int.reduceToNat, Int.reduceLE, Int.reduceLT, Int.reduceEq, Int.reduceNe, reduceCtorEq, Nat.reduceLT, Nat.reduceLeDiff, gx0, gx1, gx2, gx3, gs0, gs1, gs2, gs3, hq, hv, d1, d2, w0, Int.cast_ofNat_Int]
      refine ⟨⟨1, 0, []⟩, by dsimp only; omega, ⟨by dsimp only; omega, by decide, .inr ⟨Nat.le_refl _, by dsimp only; omega, Nat.zero_le _, fun i hi => absurd hi (by simp), ?_⟩⟩, rfl, rfl⟩
      exact (up_0 _).symm
    have hq0 : ¬ (q : Int) = 0 := by omega
    by_cases hj : 2 ≤ j
    · -- a byte of an escape
      have hy : y.toNat < 128 := by
        have := y4 0 (by omega)
        rw [Nat.add_zero, hyg] at this
        exact this
      have hd := dec_asc hy v
      have d1 : (dec (y :: v)).1 = y.toNat := by rw [hd]
      have d2 : (dec (y :: v)).2 = 1 := by rw [hd]
      have a1 : (0 : Int) < (j : Int) := by omega
      have a2 : IntKind.i64.wrap ((j : Int) - 1) = ((j - 1 : Nat) : Int) := by rw [wi64 (by omega)]; omega
      have a3 : (0 : Int) < ((j - 1 : Nat) : Int) := by omega
      simp only [A_lexer_reader_textL0, go_sem, Nat.reduceMod, Nat.reduceBNe, Nat.reduceBEq, Nat.reduceEqDiff, Nat.reduceAdd, Int.reduceAdd, Nat.reduceMul, Nat.reduceSub, Int.reduceToNat, Int.reduceLE, Int.reduceLT, Int.reduceEq, Int.reduceNe, reduceCtorEq, Nat.reduceLT, Nat.reduceLeDiff, gx0, gx1, gx2, gx3, gs0, gs1, gs2, gs3, hq, hv, d1, d2, a1, a2, a3]
      refine ⟨⟨q + 1, j - 1, c⟩, by dsimp only; omega, ⟨by dsimp only; omega, by dsimp only; omega, .inr ⟨by dsimp only; omega, by dsimp only; omega, by dsimp only; omega, fun i hi => ?_, ?_⟩⟩, rfl, rfl⟩
      · dsimp only at hi ⊢
        have := y4 (i + 1) (by omega)
        rw [show q + 1 + i = q + (i + 1) by omega]
        exact this
      · dsimp only
        rw [show q + 1 + (j - 1 - 1) = q + (j - 1) by omega]
        exact y5
    -- a rune to be looked at
    have ej : q + (j - 1) = q := by omega
    rw [ej] at y2 y3 y5
    rw [hv] at y5
    clear y4 ej
    have wpq : IntKind.i64.wrap ((p : Int) + q) = ((p + q : Nat) : Int) := by rw [wi64 (by omega)]; omega
    have wpq1 : IntKind.i64.wrap (((p + q : Nat) : Int) + 1) = ((p + q + 1 : Nat) : Int) := by rw [wi64 (by omega)]; omega
    have dr1 : s.drop (p + q + 1) = v := by
      rw [Nat.add_assoc, hsd, ← List.drop_drop, hv]; rfl
    have dr0 : s.drop (p + q) = y :: v := by rw [hsd, hv]
    have j01 : (j = 0 ∨ j = 1) := by omega
    have next : ∀ (k : Nat) (bs : List UInt8) (j' n' : Nat), elem (y :: v) = some (bs, k) → y ≠ 34 → bs.length ≤ 4 * k → 1 ≤ n' → n' + (j' - 1) = k → j' ≤ 10 → (∀ i, i < j' - 1 → (u.getD (q + n' + i) 0).toNat < 128) →
        TI u ⟨q + n', j', c ++ bs⟩ := fun k bs j' n' he h34 hb h1 h2 h3 h4 => by
      have hes := elem_stab he
      have htx := txtS_step h34 he
      refine ⟨by dsimp only; omega, h3, .inr ⟨by dsimp only; omega, by dsimp only; omega, ?_, fun i hi => h4 i hi, ?_⟩⟩
      · dsimp only
        rw [List.length_append]; omega
      · dsimp only
        rw [y5, htx, up_up, show q + n' + (j' - 1) = q + k by omega, ← List.drop_drop, hv, show k + (q - 1) = q + k - 1 by omega]
    have bad : txtS 0 (y :: v) = .bad 0 → textO u = .bad q 6 := fun h => by
      rw [h] at y5
      exact (text_of y5 y1).trans rfl
    have nbad : y ≠ 34 → elem (y :: v) = none → textO u = .bad q 6 := fun h1 h2 => bad (by rw [txtS, if_neg h1, h2])
    cases hd : dcO (y :: v) with
    | none =>
      have hasc : ¬ y.toNat < 128 := fun h => by rw [dcO_asc h] at hd; cases hd
      have hde := dec_of (y :: v) (by simp)
      rw [hd] at hde
      have d1 : (dec (y :: v)).1 = 65533 := by rw [hde]; rfl
      have d2 : (dec (y :: v)).2 = 1 := by rw [hde]; rfl
      have n34 : y ≠ 34 := fun e => hasc (by rw [e]; decide)
      have n92 : y ≠ 92 := fun e => hasc (by rw [e]; decide)
      have ht := nbad n34 (elem_none n92 hd)
      rcases j01 with rfl | rfl
      all_goals
        simp only [A_lexer_reader_textL0, go_sem, Nat.reduceMod, Nat.reduceBNe, Nat.reduceBEq, Nat.reduceEqDiff, Nat.reduceAdd, Int.reduceAdd, Nat.reduceMul, Nat.reduceSub, Int.reduceToNat, Int.reduceLE, Int.reduceLT, Int.reduceEq, Int.reduceNe, reduceCtorEq, Nat.reduceLT, Nat.reduceLeDiff, gx0, gx1, gx2, gx3, gs0, gs1, gs2, gs3, hq, hv, d1, d2, hq0, wpq, wpq1, w11, Int.cast_ofNat_Int, List.take_length, dr0]
        refine ⟨⟨⟨by omega, by omega⟩, by omega⟩, ?_⟩
        refine call_ev (ev_HasPrefix hX hs (y :: v) [239, 191, 189] (by omega) (by decide)) ?_
        rw [hasP3, decide_eq_false (bad_pre hd)]
        simp only [go_sem, Nat.reduceMod, Nat.reduceBNe, Nat.reduceBEq, Nat.reduceEqDiff, Nat.reduceAdd, Int.reduceAdd, Nat.reduceMul, Nat.reduceSub, Int.reduceToNat, Int.reduceLE, Int.reduceLT, Int.reduceEq, Int.reduceNe, reduceCtorEq, Nat.reduceLT, Nat.reduceLeDiff, tz, fz, gx0, gx1, gx2, gx3, gs0, gs1, gs2, gs3]
        refine ⟨[_, _, _, _], _, rfl, ?_, fun t k e => ?_⟩
        · rw [ht]; rfl
        · rw [ht] at e; cases e
    | some rn =>
      obtain ⟨r, n⟩ := rn
      have hde := dec_of (y :: v) (by simp)
      rw [hd] at hde
      have hsm := dec_some hd
      have hvr := valid_rng hsm.1
      have hrn := dec_rng' hd
      have d1 : (((dec (y :: v)).1 : Nat) : Int) = r := by rw [hde]; simp only [pr]; omega
      have d2 : (dec (y :: v)).2 = n := by rw [hde]; rfl
      by_cases c34 : r = 34
      · have hy := (dcO_small hd (by omega)).1
        have hy34 : y = 34 := UInt8.toNat_inj.1 ((by omega : y.toNat = 34).trans rfl)
        have htx : txtS 0 (y :: v) = .ok [] 1 := by rw [txtS, if_pos hy34]
        rw [htx] at y5
        have ht : textO u = .ok ⟨3, 0, c⟩ (q + 1) := by
          have := text_of y5 y1
          simp only [List.append_nil] at this
          exact this
        rcases j01 with rfl | rfl
        all_goals
          simp only [A_lexer_reader_textL0, go_sem, Nat.reduceMod, Nat.reduceBNe, Nat.reduceBEq, Nat.reduceEqDiff, Nat.reduceAdd, Int.reduceAdd, Nat.reduceMul, Nat.reduceSub, Int.reduceToNat, Int.reduceLE, Int.reduceLT, Int.reduceEq, Int.reduceNe, reduceCtorEq, Nat.reduceLT, Nat.reduceLeDiff, gx0, gx1, gx2, gx3, gs0, gs1, gs2, gs3, hq, hv, d1, d2, hq0, wpq, wpq1, w11, Int.cast_ofNat_Int, List.take_length, dr0, c34]
          refine ⟨_, _, ev_bStringS hX (hg _ _), ?_⟩
          simp only [go_sem, Nat.reduceMod, Nat.reduceBNe, Nat.reduceBEq, Nat.reduceEqDiff, Nat.reduceAdd, Int.reduceAdd, Nat.reduceMul, Nat.reduceSub, Int.reduceToNat, Int.reduceLE, Int.reduceLT, Int.reduceEq, Int.reduceNe, reduceCtorEq, Nat.reduceLT, Nat.reduceLeDiff, tz, fz, gx0, gx1, gx2, gx3, gs0, gs1, gs2, gs3, hN]
          refine ⟨[_, _, _, _], _, rfl, ?_, fun t k e => ?_⟩
          · rw [ht]; rfl
          · rw [ht] at e; cases e; rfl
      have n34 : y ≠ 34 := fun e => c34 (by
        have := dcO_asc (x := y) (by rw [e]; decide) v
        rw [hd] at this
        simp only [Option.some.injEq, Prod.mk.injEq] at this
        rw [this.1, e]; rfl)
      by_cases c92 : r = 92
      · have hy := (dcO_small hd (by omega)).1
        have hy92 : y = 92 := UInt8.toNat_inj.1 ((by omega : y.toNat = 92).trans rfl)
        have hn1 : n = 1 := (dcO_small hd (by omega)).2
        cases he : escp v with
        | none =>
          have ht := nbad n34 (by rw [hy92, elem_bs, he]; rfl)
          rcases j01 with rfl | rfl
          all_goals
            simp only [A_lexer_reader_textL0, go_sem, Nat.reduceMod, Nat.reduceBNe, Nat.reduceBEq, Nat.reduceEqDiff, Nat.reduceAdd, Int.reduceAdd, Nat.reduceMul, Nat.reduceSub, Int.reduceToNat, Int.reduceLE, Int.reduceLT, Int.reduceEq, Int.reduceNe, reduceCtorEq, Nat.reduceLT, Nat.reduceLeDiff, gx0, gx1, gx2, gx3, gs0, gs1, gs2, gs3, hq, hv, d1, d2, hq0, wpq, wpq1, w11, Int.cast_ofNat_Int, List.take_length, dr0, dr1, c34, c92]
            refine ⟨⟨⟨⟨by omega, by omega⟩, by omega⟩, by omega⟩, ?_⟩
            refine call_ev (ev_escape hX hs hR v (by simp only [List.length_cons] at hvl; omega)) ?_
            unfold escV
            rw [he]
            simp only [go_sem, Nat.reduceMod, Nat.reduceBNe, Nat.reduceBEq, Nat.reduceEqDiff, Nat.reduceAdd, Int.reduceAdd, Nat.reduceMul, Nat.reduceSub, Int.reduceToNat, Int.reduceLE, Int.reduceLT, Int.reduceEq, Int.reduceNe, reduceCtorEq, Nat.reduceLT, Nat.reduceLeDiff, tz, fz, gx0, gx1, gx2, gx3, gs0, gs1, gs2, gs3]
            refine ⟨[_, _, _, _], _, rfl, ?_, fun t k e => ?_⟩
            · rw [ht]; rfl
            · rw [ht] at e; cases e
        | some x =>
          obtain ⟨r2, n2⟩ := x
          have hes := escp_stab he
          have hea := escp_asc he
          have hvr2 := valid_rng hes.2.2.1
          have hel : elem (y :: v) = some (enc r2, n2 + 1) := by rw [hy92, elem_bs, he]; rfl
          have hlp := enc_len_pos hes.2.2.1
          have wn : IntKind.i64.wrap ((n2 : Int) + 1) = ((n2 + 1 : Nat) : Int) := by rw [wi64 (by omega)]; omega
          have hTI := next (n2 + 1) (enc r2) (n2 + 1) 1 hel n34 (by omega) (Nat.le_refl _) (by omega) (by omega) fun i hi => by
            have := hea.2 i (by omega)
            have e : u.getD (q + 1 + i) 0 = v.getD i 0 := by
              have := congrArg (fun l => List.getD l (i + 1) 0) hv
              simp only [List.getD_cons_succ] at this
              rw [← this]
              simp only [List.getD_eq_getElem?_getD, List.getElem?_drop]
              rw [show q + 1 + i = q + (i + 1) by omega]
            rw [e]; exact this
          rcases j01 with rfl | rfl
          all_goals
            simp only [A_lexer_reader_textL0, go_sem, Nat.reduceMod, Nat.reduceBNe, Nat.reduceBEq, Nat.reduceEqDiff, Nat.reduceAdd, Int.reduceAdd, Nat.reduceMul, Nat.reduceSub, Int.reduceToNat, Int.reduceLE, Int.reduceLT, Int.reduceEq, Int.reduceNe, reduceCtorEq, Nat.reduceLT, Nat.reduceLeDiff, gx0, gx1, gx2, gx3, gs0, gs1, gs2, gs3, hq, hv, d1, d2, hq0, wpq, wpq1, w11, Int.cast_ofNat_Int, List.take_length, dr0, dr1, c34, c92]
            refine ⟨⟨⟨⟨by omega, by omega⟩, by omega⟩, by omega⟩, ?_⟩
            refine call_ev (ev_escape hX hs hR v (by simp only [List.length_cons] at hvl; omega)) ?_
            unfold escV
            rw [he]
            simp only [go_sem, Nat.reduceMod, Nat.reduceBNe, Nat.reduceBEq, Nat.reduceEqDiff, Nat.reduceAdd, Int.reduceAdd, Nat.reduceMul, Nat.reduceSub, Int.reduceToNat, Int.reduceLE, Int.reduceLT, Int.reduceEq, Int.reduceNe, reduceCtorEq, Nat.reduceLT, Nat.reduceLeDiff]
            refine call_evm (ev_bWR hX r2 hes.2.2.1 (hg _ _) (by omega)) ?_
            rintro r3 H3 ⟨rfl, rfl⟩
            simp only [go_sem, Nat.reduceMod, Nat.reduceBNe, Nat.reduceBEq, Nat.reduceEqDiff, Nat.reduceAdd, Int.reduceAdd, Nat.reduceMul, Nat.reduceSub, Int.reduceToNat, Int.reduceLE, Int.reduceLT, Int.reduceEq, Int.reduceNe, reduceCtorEq, Nat.reduceLT, Nat.reduceLeDiff, gs2, wn]
            exact ⟨⟨q + 1, n2 + 1, c ++ enc r2⟩, by dsimp only; omega, hTI, rfl, by rw [hn1]⟩
      have n92 : y ≠ 92 := fun e => c92 (by
        have := dcO_asc (x := y) (by rw [e]; decide) v
        rw [hd] at this
        simp only [Option.some.injEq, Prod.mk.injEq] at this
        rw [this.1, e]; rfl)
      by_cases c32 : r < 32
      · have ht := nbad n34 (elem_low n92 hd c32)
        rcases j01 with rfl | rfl
        all_goals
          simp only [A_lexer_reader_textL0, go_sem, Nat.reduceMod, Nat.reduceBNe, Nat.reduceBEq, Nat.reduceEqDiff, Nat.reduceAdd, Int.reduceAdd, Nat.reduceMul, Nat.reduceSub, Int.reduceToNat, Int.reduceLE, Int.reduceLT, Int.reduceEq, Int.reduceNe, reduceCtorEq, Nat.reduceLT, Nat.reduceLeDiff, gx0, gx1, gx2, gx3, gs0, gs1, gs2, gs3, hq, hv, d1, d2, hq0, wpq, wpq1, w11, Int.cast_ofNat_Int, List.take_length, dr0, c34, c92, c32, tz, fz]
          refine ⟨[_, _, _, _], _, rfl, ?_, fun t k e => ?_⟩
          · rw [ht]; rfl
          · rw [ht] at e; cases e
      have hel := elem_ok n92 hd c32
      have hlp := enc_len_pos hsm.1
      have hTI := next n (enc r) 0 n hel n34 (by omega) hrn.1 (by omega) (by omega) fun i hi => absurd hi (by omega)
      by_cases cff : r = 65533
      · have hpre : (y :: v).take 3 = [239, 191, 189] := by
          have h1 := hsm.2.2.1
          have h2 := hsm.2.2.2
          rw [cff, enc_fffd] at h1 h2
          rw [h2] at h1
          exact h1
        rcases j01 with rfl | rfl
        all_goals
          simp only [A_lexer_reader_textL0, go_sem, Nat.reduceMod, Nat.reduceBNe, Nat.reduceBEq, Nat.reduceEqDiff, Nat.reduceAdd, Int.reduceAdd, Nat.reduceMul, Nat.reduceSub, Int.reduceToNat, Int.reduceLE, Int.reduceLT, Int.reduceEq, Int.reduceNe, reduceCtorEq, Nat.reduceLT, Nat.reduceLeDiff, gx0, gx1, gx2, gx3, gs0, gs1, gs2, gs3, hq, hv, d1, d2, hq0, wpq, wpq1, w11, Int.cast_ofNat_Int, List.take_length, dr0, c34, c92, c32, cff]
          refine ⟨⟨⟨by omega, by omega⟩, by omega⟩, ?_⟩
          refine call_ev (ev_HasPrefix hX hs (y :: v) [239, 191, 189] (by omega) (by decide)) ?_
          rw [hasP3, decide_eq_true hpre]
          simp only [go_sem, Nat.reduceMod, Nat.reduceBNe, Nat.reduceBEq, Nat.reduceEqDiff, Nat.reduceAdd, Int.reduceAdd, Nat.reduceMul, Nat.reduceSub, Int.reduceToNat, Int.reduceLE, Int.reduceLT, Int.reduceEq, Int.reduceNe, reduceCtorEq, Nat.reduceLT, Nat.reduceLeDiff]
          rw [← cff]
          refine call_evm (ev_bWR hX r hsm.1 (hg _ _) (by omega)) ?_
          rintro r3 H3 ⟨rfl, rfl⟩
          simp only [go_sem, Nat.reduceMod, Nat.reduceBNe, Nat.reduceBEq, Nat.reduceEqDiff, Nat.reduceAdd, Int.reduceAdd, Nat.reduceMul, Nat.reduceSub, Int.reduceToNat, Int.reduceLE, Int.reduceLT, Int.reduceEq, Int.reduceNe, reduceCtorEq, Nat.reduceLT, Nat.reduceLeDiff, gs2]
          exact ⟨⟨q + n, 0, c ++ enc r⟩, by dsimp only; omega, hTI, rfl, rfl⟩
      · rcases j01 with rfl | rfl
        all_goals
          simp only [A_lexer_reader_textL0, go_sem, Nat.reduceMod, Nat.reduceBNe, Nat.reduceBEq, Nat.reduceEqDiff, Nat.reduceAdd, Int.reduceAdd, Nat.reduceMul, Nat.reduceSub, Int.reduceToNat, Int.reduceLE, Int.reduceLT, Int.reduceEq, Int.reduceNe, reduceCtorEq, Nat.reduceLT, Nat.reduceLeDiff, gx0, gx1, gx2, gx3, gs0, gs1, gs2, gs3, hq, hv, d1, d2, hq0, wpq, wpq1, w11, Int.cast_ofNat_Int, List.take_length, dr0, c34, c92, c32, cff]
          refine call_evm (ev_bWR hX r hsm.1 (hg _ _) (by omega)) ?_
          rintro r3 H3 ⟨rfl, rfl⟩
          simp only [go_sem, Nat.reduceMod, Nat.reduceBNe, Nat.reduceBEq, Nat.reduceEqDiff, Nat.reduceAdd, Int.reduceAdd, Nat.reduceMul, Nat.reduceSub, Int.reduceToNat, Int.reduceLE, Int.reduceLT, Int.reduceEq, Int.reduceNe, reduceCtorEq, Nat.reduceLT, Nat.reduceLeDiff, gs2]
          exact ⟨⟨q + n, 0, c ++ enc r⟩, by dsimp only; omega, hTI, rfl, rfl⟩
  · have hqe : q = u.length := by omega
    have ht : textO u = .bad 0 6 := by
      rcases x3 with ⟨rfl, rfl, rfl⟩ | ⟨y1, y2, y3, y4, y5⟩
      · omega
      · have e : u.drop (q + (j - 1)) = [] := List.drop_eq_nil_of_le (by omega)
        rw [e] at y5
        have : txtS 0 (u.drop 1) = .out := by rw [y5]; rfl
        unfold textO
        rw [this]
    simp only [A_lexer_reader_textL0, go_sem, Nat.reduceMod, Nat.reduceBNe, Nat.reduceBEq, Nat.reduceEqDiff, Nat.reduceAdd, Int.reduceAdd, Nat.reduceMul, Nat.reduceSub, Int.reduceToNat, Int.reduceLE, Int.reduceLT, Int.reduceEq, Int.reduceNe, reduceCtorEq, Nat.reduceLT, Nat.reduceLeDiff, gx0, gx1, gx2, gx3, gs0, gs1, gs2, gs3, hq, tz, fz]
    refine ⟨[_, _, _, _], _, rfl, ?_, fun t k e => ?_⟩
    · rw [ht]; rfl
    · rw [ht] at e; cases e
end
end Go.Avm
