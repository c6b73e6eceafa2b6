/- Print. -/
import Derived.Test.YtpkgglpiboeogaaGreatDoorAQ4
import Derived.Test.YtpkgglpiboeogaaGreatDoorM3
set_option linter.unusedSectionVars false
set_option linter.unusedSimpArgs false
set_option linter.unusedVariables false

/- Print. -/
namespace Go.Avm
open Go Go.Rn Go.Lx
set_option maxRecDepth 10000
/-- a token with places of any kind -/
abbrev TT := Tok × Int × Int
def itV (x : TT) : AV := tkV x.1 x.2.1 x.2.2
instance : Elt itV 5 := ⟨fun _ => rfl, fun _ => rfl, fun _ => rfl, fun _ => rfl⟩
def toks (l : List TT) : List Tok := l.map (·.1)
theorem toks_at (l : List TT) {i : Nat} (h : i < l.length) : (toks l).getD i ⟨0, 0, []⟩ = (l.getD i default).1 := by
  unfold toks
  rw [List.getD_eq_getElem?_getD, List.getD_eq_getElem?_getD, List.getElem?_map, List.getElem?_eq_getElem h]; rfl
theorem toks_len (l : List TT) : (toks l).length = l.length := by simp [toks]
def okTT (l : List TT) : Prop := l.length < 1000000 ∧ ∀ x ∈ l, I64 x.1.n ∧ x.1.s.length ≤ 9223372036854775807
theorem okTT_at {l : List TT} (h : okTT l) {i : Nat} (hi : i < l.length) : I64 (l.getD i default).1.n ∧ (l.getD i default).1.s.length ≤ 9223372036854775807 := by
  rw [List.getD_eq_getElem?_getD, List.getElem?_eq_getElem hi]
  exact h.2 _ (List.getElem_mem hi)
def printV (x : List UInt8 × Nat × Int) : AV := .tuple [.str x.1, .int .i64 (x.2.1 : Nat), .int .i64 x.2.2]
theorem hl1 {α : Type} (G : List α) (b : α) (K : List α) : (G ++ b :: K).length = G.length + 1 + K.length := by simp; omega
theorem hx1 {α : Type} (G : List α) (b x : α) (K r : List α) : (G ++ b :: (K ++ x :: r))[G.length + 1 + K.length]? = some x := by
  rw [List.getElem?_append_right (by omega), show G.length + 1 + K.length - G.length = K.length + 1 by omega, List.getElem?_cons_succ, gx0]
theorem hs1 {α : Type} (G : List α) (b x z : α) (K r : List α) : (G ++ b :: (K ++ x :: r)).set (G.length + 1 + K.length) z = G ++ b :: (K ++ z :: r) := by
  rw [List.set_append_right _ _ (by omega), show G.length + 1 + K.length - G.length = K.length + 1 by omega, List.set_cons_succ, gs0]
theorem chk_len {t : Tok} (h : chk t = 0) : t.s.length ≤ 2000 := by
  unfold chk at h
  split at h
  · cases h
  rename_i c1
  split at h
  · split at h
    · cases h
    split at h
    · cases h
    omega
  rename_i k1
  split at h
  · split at h
    · cases h
    split at h
    · cases h
    omega
  rename_i k3
  have : t.s = [] := Decidable.byContradiction fun e => c1 (.inr (.inr (.inr ⟨k1, k3, e⟩)))
  rw [this]; decide
structure PS where
  i : Nat
  G : Heap
structure PS2 where
  i : Nat
  b : Bool
  c : List UInt8
  K : Heap
section
variable {X : Cx} (hX : X.P = Go.Proofs.Tryz.prog) (hs : Std X) (hB : X.G 8 = some tabB) (hP : X.G 3 = some (Lib.pow10Tab.map (AV.int .u64))) (h0 : X.G 0 = some tab0) (h1 : X.G 1 = some tab1)
include hX hs hB hP h0 h1
set_option maxHeartbeats 4000000 in
theorem ev_Print (l : List TT) (hl : okTT l) : Ev X F_lexer_Print [lst itV .ro l] (printV (prS (toks l))) := by
  refine ev_of_wpcDd hs (A_lexer_Print_ok hX) 0 ?_
  have hl0 := hl.1
  simp only [A_lexer_Print, go_sem, Nat.reduceMod, Nat.reduceBNe, Nat.reduceBEq, Nat.reduceEqDiff, Nat.reduceAdd, Int.reduceAdd, Nat.reduceMul, Nat.reduceSub, Int.reduceToNat, Int.reduceLE, Int.reduceLT, Int.reduceEq, Int.reduceNe, reduceCtorEq, Nat.reduceLT, Nat.reduceLeDiff]
  refine w_loop' hs.hm (ι := PS) (fun x => x.i ≤ l.length ∧ ∀ j, j < x.i → chk ((toks l).getD j ⟨0, 0, []⟩) = 0) (fun x => [(14, .int .i64 x.i), (13, .int .i64 l.length), (12, lst itV .ro l), (0, lst itV .ro l)]) (fun x => x.G) (fun x => l.length - x.i) ⟨0, [.dead]⟩ ?_ fun x hx => ?_
  · simp only [go_sem, Nat.reduceMod, Nat.reduceBNe, Nat.reduceBEq, Nat.reduceEqDiff, Nat.reduceAdd, Int.reduceAdd, Nat.reduceMul, Nat.reduceSub, Int.reduceToNat, Int.reduceLE, Int.reduceLT, Int.reduceEq, Int.reduceNe, reduceCtorEq, Nat.reduceLT, Nat.reduceLeDiff]
    exact ⟨Nat.zero_le _, fun j hj => absurd hj (Nat.not_lt_zero _)⟩
  obtain ⟨i, G⟩ := x
  obtain ⟨x1, x2⟩ := hx
  dsimp only at x1 x2 ⊢
  by_cases hi : i < l.length
  · have hi' : (i : Int) < l.length := by omega
    obtain ⟨k1, k2⟩ := okTT_at hl hi
    have kt := toks_at l hi
    simp only [A_lexer_PrintL0, go_sem, Nat.reduceMod, Nat.reduceBNe, Nat.reduceBEq, Nat.reduceEqDiff, Nat.reduceAdd, Int.reduceAdd, Nat.reduceMul, Nat.reduceSub, Int.reduceToNat, Int.reduceLE, Int.reduceLT, Int.reduceEq, Int.reduceNe, reduceCtorEq, Nat.reduceLT, Nat.reduceLeDiff, hi']
    generalize l.getD i default = t at k1 k2 kt
    simp only [itV, tkV, go_sem, Nat.reduceMod, Nat.reduceBNe, Nat.reduceBEq, Nat.reduceEqDiff, Nat.reduceAdd, Int.reduceAdd, Nat.reduceMul, Nat.reduceSub, Int.reduceToNat, Int.reduceLE, Int.reduceLT, Int.reduceEq, Int.reduceNe, reduceCtorEq, Nat.reduceLT, Nat.reduceLeDiff, gx0, gs0]
    refine ⟨by omega, call_ev (ev_Check hX hs h0 h1 t.1 t.2.1 t.2.2 k2) ?_⟩
    by_cases hc : chk t.1 = 0
    · have hw : IntKind.i64.wrap ((i : Int) + 1) = ((i + 1 : Nat) : Int) := by rw [wi64 (by omega)]; omega
      simp only [go_sem, Nat.reduceMod, Nat.reduceBNe, Nat.reduceBEq, Nat.reduceEqDiff, Nat.reduceAdd, Int.reduceAdd, Nat.reduceMul, Nat.reduceSub, Int.reduceToNat, Int.reduceLE, Int.reduceLT, Int.reduceEq, Int.reduceNe, reduceCtorEq, Nat.reduceLT, Nat.reduceLeDiff, hc, hw]
      refine ⟨⟨i + 1, _⟩, by dsimp only; omega, ⟨hi, fun j hj => ?_⟩, rfl, rfl⟩
      rcases (by dsimp only at hj; omega : j = i ∨ j < i) with rfl | h
      · rw [kt]; exact hc
      · exact x2 j h
    · simp only [go_sem, Nat.reduceMod, Nat.reduceBNe, Nat.reduceBEq, Nat.reduceEqDiff, Nat.reduceAdd, Int.reduceAdd, Nat.reduceMul, Nat.reduceSub, Int.reduceToNat, Int.reduceLE, Int.reduceLT, Int.reduceEq, Int.reduceNe, reduceCtorEq, Nat.reduceLT, Nat.reduceLeDiff, hc]
      have hb := badT_at (l := toks l) (i := i) (by rw [toks_len]; exact hi) x2 (by rw [kt]; exact hc)
      unfold prS
      rw [hb, kt]
      rfl
  · have hi' : ¬ (i : Int) < l.length := by omega
    have hb : badT (toks l) = none := badT_all fun j hj => x2 j (by rw [toks_len] at hj; omega)
    have hprS : prS (toks l) = if 2000 < (prR true (toks l)).length then ([], 0, 3) else (prR true (toks l), 0, 0) := by
      unfold prS; rw [hb]
    simp only [A_lexer_PrintL0, go_sem, Nat.reduceMod, Nat.reduceBNe, Nat.reduceBEq, Nat.reduceEqDiff, Nat.reduceAdd, Int.reduceAdd, Nat.reduceMul, Nat.reduceSub, Int.reduceToNat, Int.reduceLE, Int.reduceLT, Int.reduceEq, Int.reduceNe, reduceCtorEq, Nat.reduceLT, Nat.reduceLeDiff, hi']
    rw [hprS]
    have hok : ∀ j, j < l.length → chk (l.getD j default).1 = 0 := fun j hj => by
      rw [← toks_at l hj]; exact x2 j (by omega)
    refine w_loop' hs.hm (ι := PS2) (fun x => x.i ≤ l.length ∧ prR true (toks l) = x.c ++ prR x.b ((toks l).drop x.i) ∧ x.c.length ≤ x.i * 10000000) (fun x => [(28, .int .i64 x.i), (27, .int .i64 l.length), (26, lst itV .ro l), (8, .ptr G.length 0), (9, .bool x.b)]) (fun x => G ++ .bld 38 5 x.c :: x.K) (fun x => l.length - x.i) ⟨0, true, [], []⟩ ?_ fun x hx => ?_
    · simp only [go_sem, Nat.reduceMod, Nat.reduceBNe, Nat.reduceBEq, Nat.reduceEqDiff, Nat.reduceAdd, Int.reduceAdd, Nat.reduceMul, Nat.reduceSub, Int.reduceToNat, Int.reduceLE, Int.reduceLT, Int.reduceEq, Int.reduceNe, reduceCtorEq, Nat.reduceLT, Nat.reduceLeDiff]
      exact Nat.zero_le _
    obtain ⟨k, b, c, K⟩ := x
    obtain ⟨y1, y2, y3⟩ := hx
    dsimp only at y1 y2 y3 ⊢
    by_cases hk : k < l.length
    · have hk' : (k : Int) < l.length := by omega
      have k1 := (okTT_at hl hk).1
      have k2 : (l.getD k default).1.s.length < 1000000 := Nat.lt_of_le_of_lt (chk_len (hok k hk)) (by decide)
      have kt := toks_at l hk
      have hst := pr_step (l := toks l) (i := k) (by rw [toks_len]; exact hk) b
      have hch := chk_0 (hok k hk)
      rw [kt] at hst
      simp only [A_lexer_PrintL1, go_sem, Nat.reduceMod, Nat.reduceBNe, Nat.reduceBEq, Nat.reduceEqDiff, Nat.reduceAdd, Int.reduceAdd, Nat.reduceMul, Nat.reduceSub, Int.reduceToNat, Int.reduceLE, Int.reduceLT, Int.reduceEq, Int.reduceNe, reduceCtorEq, Nat.reduceLT, Nat.reduceLeDiff, hk']
      generalize l.getD k default = t at k1 k2 kt hst hch
      have hwl := wr_len k1
      have hw : IntKind.i64.wrap ((k : Int) + 1) = ((k + 1 : Nat) : Int) := by rw [wi64 (by omega)]; omega
      have hy : k * 10000000 ≤ 1000000 * 10000000 := by omega
      obtain ⟨⟨kd, n, s⟩, pa, pb⟩ := t
      dsimp only at k1 k2 kt hst hch hwl
      have fin : ∀ (d : List UInt8) (Bx : Blk), d = (if b || isCl ⟨kd, n, s⟩ then [] else [32]) ++ wr ⟨kd, n, s⟩ → ∃ j : PS2, l.length - j.i < l.length - k ∧ (j.i ≤ l.length ∧ prR true (toks l) = j.c ++ prR j.b ((toks l).drop j.i) ∧ j.c.length ≤ j.i * 10000000) ∧ j.i = k + 1 ∧ j.b = isOp ⟨kd, n, s⟩ ∧ j.c = c ++ d ∧ j.K = K ++ [Bx] := fun d Bx hd => by
        refine ⟨⟨k + 1, isOp ⟨kd, n, s⟩, c ++ d, K ++ [Bx]⟩, by dsimp only; omega, ⟨by dsimp only; omega, ?_, ?_⟩, rfl, rfl, rfl, rfl⟩
        · dsimp only
          rw [y2, hst, hd]
          simp only [List.append_assoc]
        · have : d.length ≤ 10000000 := by
            rw [hd, List.length_append]
            split <;> simp <;> omega
          dsimp only
          rw [List.length_append]; omega
      have hcl : ∀ d : List UInt8, d.length ≤ 10 → c.length + d.length ≤ 140737488355328 := fun d hd => by omega
      by_cases kq : kd = 4 ∨ kd = 5 ∨ kd = 6 ∨ kd = 7
      · rcases kq with rfl | rfl | rfl | rfl
        · cases b with
          | true =>
            simp only [itV, tkV, go_sem, Nat.reduceMod, Nat.reduceBNe, Nat.reduceBEq, Nat.reduceEqDiff, Nat.reduceAdd, Int.reduceAdd, Nat.reduceMul, Nat.reduceSub, Int.reduceToNat, Int.reduceLE, Int.reduceLT, Int.reduceEq, Int.reduceNe, reduceCtorEq, Nat.reduceLT, Nat.reduceLeDiff, List.append_assoc, List.cons_append, hl1, hx1, hs1, gx0, gs0, hw]
            refine ⟨by omega, call_ev (ev_written hX hs hB hP ⟨4, n, s⟩ pa pb ⟨hch.1, hch.2.1⟩ k1 hch.2.2 k2) ?_⟩
            simp only [go_sem, Nat.reduceMod, Nat.reduceBNe, Nat.reduceBEq, Nat.reduceEqDiff, Nat.reduceAdd, Int.reduceAdd, Nat.reduceMul, Nat.reduceSub, Int.reduceToNat, Int.reduceLE, Int.reduceLT, Int.reduceEq, Int.reduceNe, reduceCtorEq, Nat.reduceLT, Nat.reduceLeDiff, List.append_assoc, List.cons_append, hl1, hx1, hs1, gx0, gs0, hw]
            refine call_evm (ev_bWS hX (i := G.length) (wr ⟨4, n, s⟩) (by rw [gx0]) (by (try simp only [List.length_append, List.length_cons, List.length_nil]); omega)) ?_
            rintro r2 H2 ⟨rfl, rfl⟩
            simp only [go_sem, Nat.reduceMod, Nat.reduceBNe, Nat.reduceBEq, Nat.reduceEqDiff, Nat.reduceAdd, Int.reduceAdd, Nat.reduceMul, Nat.reduceSub, Int.reduceToNat, Int.reduceLE, Int.reduceLT, Int.reduceEq, Int.reduceNe, reduceCtorEq, Nat.reduceLT, Nat.reduceLeDiff, List.append_assoc, List.cons_append, hl1, hx1, hs1, gx0, gs0, hw]
            obtain ⟨⟨j1, j2, j3, j4⟩, q1, q2, q3, q4, q5, q6⟩ := fin (wr ⟨4, n, s⟩) (.box [.int .i64 4, .int .i64 pa, .int .i64 pb, .int .i64 n, .str s]) (by simp [isCl])
            dsimp only at q3 q4 q5 q6
            subst q3 q4 q5 q6
            exact ⟨⟨k + 1, _, _, _⟩, q1, q2, by simp [isOp], by rfl⟩
          | false =>
            simp only [itV, tkV, go_sem, Nat.reduceMod, Nat.reduceBNe, Nat.reduceBEq, Nat.reduceEqDiff, Nat.reduceAdd, Int.reduceAdd, Nat.reduceMul, Nat.reduceSub, Int.reduceToNat, Int.reduceLE, Int.reduceLT, Int.reduceEq, Int.reduceNe, reduceCtorEq, Nat.reduceLT, Nat.reduceLeDiff, List.append_assoc, List.cons_append, hl1, hx1, hs1, gx0, gs0, hw]
            refine ⟨by omega, ?_⟩
            refine call_evm (ev_bWB hX (i := G.length) (l := c) 32 (by rw [gx0]) (by omega)) ?_
            rintro r2 H2 ⟨rfl, rfl⟩
            simp only [go_sem, Nat.reduceMod, Nat.reduceBNe, Nat.reduceBEq, Nat.reduceEqDiff, Nat.reduceAdd, Int.reduceAdd, Nat.reduceMul, Nat.reduceSub, Int.reduceToNat, Int.reduceLE, Int.reduceLT, Int.reduceEq, Int.reduceNe, reduceCtorEq, Nat.reduceLT, Nat.reduceLeDiff, List.append_assoc, List.cons_append, hl1, hx1, hs1, gx0, gs0, hw]
            refine call_ev (ev_written hX hs hB hP ⟨4, n, s⟩ pa pb ⟨hch.1, hch.2.1⟩ k1 hch.2.2 k2) ?_
            simp only [go_sem, Nat.reduceMod, Nat.reduceBNe, Nat.reduceBEq, Nat.reduceEqDiff, Nat.reduceAdd, Int.reduceAdd, Nat.reduceMul, Nat.reduceSub, Int.reduceToNat, Int.reduceLE, Int.reduceLT, Int.reduceEq, Int.reduceNe, reduceCtorEq, Nat.reduceLT, Nat.reduceLeDiff, List.append_assoc, List.cons_append, hl1, hx1, hs1, gx0, gs0, hw]
            refine call_evm (ev_bWS hX (i := G.length) (wr ⟨4, n, s⟩) (by rw [gx0]) (by (try simp only [List.length_append, List.length_cons, List.length_nil]); omega)) ?_
            rintro r2 H2 ⟨rfl, rfl⟩
            simp only [go_sem, Nat.reduceMod, Nat.reduceBNe, Nat.reduceBEq, Nat.reduceEqDiff, Nat.reduceAdd, Int.reduceAdd, Nat.reduceMul, Nat.reduceSub, Int.reduceToNat, Int.reduceLE, Int.reduceLT, Int.reduceEq, Int.reduceNe, reduceCtorEq, Nat.reduceLT, Nat.reduceLeDiff, List.append_assoc, List.cons_append, hl1, hx1, hs1, gx0, gs0, hw]
            obtain ⟨⟨j1, j2, j3, j4⟩, q1, q2, q3, q4, q5, q6⟩ := fin ([32] ++ wr ⟨4, n, s⟩) (.box [.int .i64 4, .int .i64 pa, .int .i64 pb, .int .i64 n, .str s]) (by simp [isCl])
            dsimp only at q3 q4 q5 q6
            subst q3 q4 q5 q6
            exact ⟨⟨k + 1, _, _, _⟩, q1, q2, by simp [isOp], by rfl⟩
        · cases b with
          | true =>
            simp only [itV, tkV, go_sem, Nat.reduceMod, Nat.reduceBNe, Nat.reduceBEq, Nat.reduceEqDiff, Nat.reduceAdd, Int.reduceAdd, Nat.reduceMul, Nat.reduceSub, Int.reduceToNat, Int.reduceLE, Int.reduceLT, Int.reduceEq, Int.reduceNe, reduceCtorEq, Nat.reduceLT, Nat.reduceLeDiff, List.append_assoc, List.cons_append, hl1, hx1, hs1, gx0, gs0, hw]
            refine ⟨by omega, call_ev (ev_written hX hs hB hP ⟨5, n, s⟩ pa pb ⟨hch.1, hch.2.1⟩ k1 hch.2.2 k2) ?_⟩
            simp only [go_sem, Nat.reduceMod, Nat.reduceBNe, Nat.reduceBEq, Nat.reduceEqDiff, Nat.reduceAdd, Int.reduceAdd, Nat.reduceMul, Nat.reduceSub, Int.reduceToNat, Int.reduceLE, Int.reduceLT, Int.reduceEq, Int.reduceNe, reduceCtorEq, Nat.reduceLT, Nat.reduceLeDiff, List.append_assoc, List.cons_append, hl1, hx1, hs1, gx0, gs0, hw]
            refine call_evm (ev_bWS hX (i := G.length) (wr ⟨5, n, s⟩) (by rw [gx0]) (by (try simp only [List.length_append, List.length_cons, List.length_nil]); omega)) ?_
            rintro r2 H2 ⟨rfl, rfl⟩
            simp only [go_sem, Nat.reduceMod, Nat.reduceBNe, Nat.reduceBEq, Nat.reduceEqDiff, Nat.reduceAdd, Int.reduceAdd, Nat.reduceMul, Nat.reduceSub, Int.reduceToNat, Int.reduceLE, Int.reduceLT, Int.reduceEq, Int.reduceNe, reduceCtorEq, Nat.reduceLT, Nat.reduceLeDiff, List.append_assoc, List.cons_append, hl1, hx1, hs1, gx0, gs0, hw]
            obtain ⟨⟨j1, j2, j3, j4⟩, q1, q2, q3, q4, q5, q6⟩ := fin (wr ⟨5, n, s⟩) (.box [.int .i64 5, .int .i64 pa, .int .i64 pb, .int .i64 n, .str s]) (by simp [isCl])
            dsimp only at q3 q4 q5 q6
            subst q3 q4 q5 q6
            exact ⟨⟨k + 1, _, _, _⟩, q1, q2, by simp [isOp], by rfl⟩
          | false =>
            simp only [itV, tkV, go_sem, Nat.reduceMod, Nat.reduceBNe, Nat.reduceBEq, Nat.reduceEqDiff, Nat.reduceAdd, Int.reduceAdd, Nat.reduceMul, Nat.reduceSub, Int.reduceToNat, Int.reduceLE, Int.reduceLT, Int.reduceEq, Int.reduceNe, reduceCtorEq, Nat.reduceLT, Nat.reduceLeDiff, List.append_assoc, List.cons_append, hl1, hx1, hs1, gx0, gs0, hw]
            refine ⟨by omega, call_ev (ev_written hX hs hB hP ⟨5, n, s⟩ pa pb ⟨hch.1, hch.2.1⟩ k1 hch.2.2 k2) ?_⟩
            simp only [go_sem, Nat.reduceMod, Nat.reduceBNe, Nat.reduceBEq, Nat.reduceEqDiff, Nat.reduceAdd, Int.reduceAdd, Nat.reduceMul, Nat.reduceSub, Int.reduceToNat, Int.reduceLE, Int.reduceLT, Int.reduceEq, Int.reduceNe, reduceCtorEq, Nat.reduceLT, Nat.reduceLeDiff, List.append_assoc, List.cons_append, hl1, hx1, hs1, gx0, gs0, hw]
            refine call_evm (ev_bWS hX (i := G.length) (wr ⟨5, n, s⟩) (by rw [gx0]) (by (try simp only [List.length_append, List.length_cons, List.length_nil]); omega)) ?_
            rintro r2 H2 ⟨rfl, rfl⟩
            simp only [go_sem, Nat.reduceMod, Nat.reduceBNe, Nat.reduceBEq, Nat.reduceEqDiff, Nat.reduceAdd, Int.reduceAdd, Nat.reduceMul, Nat.reduceSub, Int.reduceToNat, Int.reduceLE, Int.reduceLT, Int.reduceEq, Int.reduceNe, reduceCtorEq, Nat.reduceLT, Nat.reduceLeDiff, List.append_assoc, List.cons_append, hl1, hx1, hs1, gx0, gs0, hw]
            obtain ⟨⟨j1, j2, j3, j4⟩, q1, q2, q3, q4, q5, q6⟩ := fin (wr ⟨5, n, s⟩) (.box [.int .i64 5, .int .i64 pa, .int .i64 pb, .int .i64 n, .str s]) (by simp [isCl])
            dsimp only at q3 q4 q5 q6
            subst q3 q4 q5 q6
            exact ⟨⟨k + 1, _, _, _⟩, q1, q2, by simp [isOp], by rfl⟩
        · cases b with
          | true =>
            simp only [itV, tkV, go_sem, Nat.reduceMod, Nat.reduceBNe, Nat.reduceBEq, Nat.reduceEqDiff, Nat.reduceAdd, Int.reduceAdd, Nat.reduceMul, Nat.reduceSub, Int.reduceToNat, Int.reduceLE, Int.reduceLT, Int.reduceEq, Int.reduceNe, reduceCtorEq, Nat.reduceLT, Nat.reduceLeDiff, List.append_assoc, List.cons_append, hl1, hx1, hs1, gx0, gs0, hw]
            refine ⟨by omega, call_ev (ev_written hX hs hB hP ⟨6, n, s⟩ pa pb ⟨hch.1, hch.2.1⟩ k1 hch.2.2 k2) ?_⟩
            simp only [go_sem, Nat.reduceMod, Nat.reduceBNe, Nat.reduceBEq, Nat.reduceEqDiff, Nat.reduceAdd, Int.reduceAdd, Nat.reduceMul, Nat.reduceSub, Int.reduceToNat, Int.reduceLE, Int.reduceLT, Int.reduceEq, Int.reduceNe, reduceCtorEq, Nat.reduceLT, Nat.reduceLeDiff, List.append_assoc, List.cons_append, hl1, hx1, hs1, gx0, gs0, hw]
            refine call_evm (ev_bWS hX (i := G.length) (wr ⟨6, n, s⟩) (by rw [gx0]) (by (try simp only [List.length_append, List.length_cons, List.length_nil]); omega)) ?_
            rintro r2 H2 ⟨rfl, rfl⟩
            simp only [go_sem, Nat.reduceMod, Nat.reduceBNe, Nat.reduceBEq, Nat.reduceEqDiff, Nat.reduceAdd, Int.reduceAdd, Nat.reduceMul, Nat.reduceSub, Int.reduceToNat, Int.reduceLE, Int.reduceLT, Int.reduceEq, Int.reduceNe, reduceCtorEq, Nat.reduceLT, Nat.reduceLeDiff, List.append_assoc, List.cons_append, hl1, hx1, hs1, gx0, gs0, hw]
            obtain ⟨⟨j1, j2, j3, j4⟩, q1, q2, q3, q4, q5, q6⟩ := fin (wr ⟨6, n, s⟩) (.box [.int .i64 6, .int .i64 pa, .int .i64 pb, .int .i64 n, .str s]) (by simp [isCl])
            dsimp only at q3 q4 q5 q6
            subst q3 q4 q5 q6
            exact ⟨⟨k + 1, _, _, _⟩, q1, q2, by simp [isOp], by rfl⟩
          | false =>
            simp only [itV, tkV, go_sem, Nat.reduceMod, Nat.reduceBNe, Nat.reduceBEq, Nat.reduceEqDiff, Nat.reduceAdd, Int.reduceAdd, Nat.reduceMul, Nat.reduceSub, Int.reduceToNat, Int.reduceLE, Int.reduceLT, Int.reduceEq, Int.reduceNe, reduceCtorEq, Nat.reduceLT, Nat.reduceLeDiff, List.append_assoc, List.cons_append, hl1, hx1, hs1, gx0, gs0, hw]
            refine ⟨by omega, ?_⟩
            refine call_evm (ev_bWB hX (i := G.length) (l := c) 32 (by rw [gx0]) (by omega)) ?_
            rintro r2 H2 ⟨rfl, rfl⟩
            simp only [go_sem, Nat.reduceMod, Nat.reduceBNe, Nat.reduceBEq, Nat.reduceEqDiff, Nat.reduceAdd, Int.reduceAdd, Nat.reduceMul, Nat.reduceSub, Int.reduceToNat, Int.reduceLE, Int.reduceLT, Int.reduceEq, Int.reduceNe, reduceCtorEq, Nat.reduceLT, Nat.reduceLeDiff, List.append_assoc, List.cons_append, hl1, hx1, hs1, gx0, gs0, hw]
            refine call_ev (ev_written hX hs hB hP ⟨6, n, s⟩ pa pb ⟨hch.1, hch.2.1⟩ k1 hch.2.2 k2) ?_
            simp only [go_sem, Nat.reduceMod, Nat.reduceBNe, Nat.reduceBEq, Nat.reduceEqDiff, Nat.reduceAdd, Int.reduceAdd, Nat.reduceMul, Nat.reduceSub, Int.reduceToNat, Int.reduceLE, Int.reduceLT, Int.reduceEq, Int.reduceNe, reduceCtorEq, Nat.reduceLT, Nat.reduceLeDiff, List.append_assoc, List.cons_append, hl1, hx1, hs1, gx0, gs0, hw]
            refine call_evm (ev_bWS hX (i := G.length) (wr ⟨6, n, s⟩) (by rw [gx0]) (by (try simp only [List.length_append, List.length_cons, List.length_nil]); omega)) ?_
            rintro r2 H2 ⟨rfl, rfl⟩
            simp only [go_sem, Nat.reduceMod, Nat.reduceBNe, Nat.reduceBEq, Nat.reduceEqDiff, Nat.reduceAdd, Int.reduceAdd, Nat.reduceMul, Nat.reduceSub, Int.reduceToNat, Int.reduceLE, Int.reduceLT, Int.reduceEq, Int.reduceNe, reduceCtorEq, Nat.reduceLT, Nat.reduceLeDiff, List.append_assoc, List.cons_append, hl1, hx1, hs1, gx0, gs0, hw]
            obtain ⟨⟨j1, j2, j3, j4⟩, q1, q2, q3, q4, q5, q6⟩ := fin ([32] ++ wr ⟨6, n, s⟩) (.box [.int .i64 6, .int .i64 pa, .int .i64 pb, .int .i64 n, .str s]) (by simp [isCl])
            dsimp only at q3 q4 q5 q6
            subst q3 q4 q5 q6
            exact ⟨⟨k + 1, _, _, _⟩, q1, q2, by simp [isOp], by rfl⟩
        · cases b with
          | true =>
            simp only [itV, tkV, go_sem, Nat.reduceMod, Nat.reduceBNe, Nat.reduceBEq, Nat.reduceEqDiff, Nat.reduceAdd, Int.reduceAdd, Nat.reduceMul, Nat.reduceSub, Int.reduceToNat, Int.reduceLE, Int.reduceLT, Int.reduceEq, Int.reduceNe, reduceCtorEq, Nat.reduceLT, Nat.reduceLeDiff, List.append_assoc, List.cons_append, hl1, hx1, hs1, gx0, gs0, hw]
            refine ⟨by omega, call_ev (ev_written hX hs hB hP ⟨7, n, s⟩ pa pb ⟨hch.1, hch.2.1⟩ k1 hch.2.2 k2) ?_⟩
            simp only [go_sem, Nat.reduceMod, Nat.reduceBNe, Nat.reduceBEq, Nat.reduceEqDiff, Nat.reduceAdd, Int.reduceAdd, Nat.reduceMul, Nat.reduceSub, Int.reduceToNat, Int.reduceLE, Int.reduceLT, Int.reduceEq, Int.reduceNe, reduceCtorEq, Nat.reduceLT, Nat.reduceLeDiff, List.append_assoc, List.cons_append, hl1, hx1, hs1, gx0, gs0, hw]
            refine call_evm (ev_bWS hX (i := G.length) (wr ⟨7, n, s⟩) (by rw [gx0]) (by (try simp only [List.length_append, List.length_cons, List.length_nil]); omega)) ?_
            rintro r2 H2 ⟨rfl, rfl⟩
            simp only [go_sem, Nat.reduceMod, Nat.reduceBNe, Nat.reduceBEq, Nat.reduceEqDiff, Nat.reduceAdd, Int.reduceAdd, Nat.reduceMul, Nat.reduceSub, Int.reduceToNat, Int.reduceLE, Int.reduceLT, Int.reduceEq, Int.reduceNe, reduceCtorEq, Nat.reduceLT, Nat.reduceLeDiff, List.append_assoc, List.cons_append, hl1, hx1, hs1, gx0, gs0, hw]
            obtain ⟨⟨j1, j2, j3, j4⟩, q1, q2, q3, q4, q5, q6⟩ := fin (wr ⟨7, n, s⟩) (.box [.int .i64 7, .int .i64 pa, .int .i64 pb, .int .i64 n, .str s]) (by simp [isCl])
            dsimp only at q3 q4 q5 q6
            subst q3 q4 q5 q6
            exact ⟨⟨k + 1, _, _, _⟩, q1, q2, by simp [isOp], by rfl⟩
          | false =>
            simp only [itV, tkV, go_sem, Nat.reduceMod, Nat.reduceBNe, Nat.reduceBEq, Nat.reduceEqDiff, Nat.reduceAdd, Int.reduceAdd, Nat.reduceMul, Nat.reduceSub, Int.reduceToNat, Int.reduceLE, Int.reduceLT, Int.reduceEq, Int.reduceNe, reduceCtorEq, Nat.reduceLT, Nat.reduceLeDiff, List.append_assoc, List.cons_append, hl1, hx1, hs1, gx0, gs0, hw]
            refine ⟨by omega, call_ev (ev_written hX hs hB hP ⟨7, n, s⟩ pa pb ⟨hch.1, hch.2.1⟩ k1 hch.2.2 k2) ?_⟩
            simp only [go_sem, Nat.reduceMod, Nat.reduceBNe, Nat.reduceBEq, Nat.reduceEqDiff, Nat.reduceAdd, Int.reduceAdd, Nat.reduceMul, Nat.reduceSub, Int.reduceToNat, Int.reduceLE, Int.reduceLT, Int.reduceEq, Int.reduceNe, reduceCtorEq, Nat.reduceLT, Nat.reduceLeDiff, List.append_assoc, List.cons_append, hl1, hx1, hs1, gx0, gs0, hw]
            refine call_evm (ev_bWS hX (i := G.length) (wr ⟨7, n, s⟩) (by rw [gx0]) (by (try simp only [List.length_append, List.length_cons, List.length_nil]); omega)) ?_
            rintro r2 H2 ⟨rfl, rfl⟩
            simp only [go_sem, Nat.reduceMod, Nat.reduceBNe, Nat.reduceBEq, Nat.reduceEqDiff, Nat.reduceAdd, Int.reduceAdd, Nat.reduceMul, Nat.reduceSub, Int.reduceToNat, Int.reduceLE, Int.reduceLT, Int.reduceEq, Int.reduceNe, reduceCtorEq, Nat.reduceLT, Nat.reduceLeDiff, List.append_assoc, List.cons_append, hl1, hx1, hs1, gx0, gs0, hw]
            obtain ⟨⟨j1, j2, j3, j4⟩, q1, q2, q3, q4, q5, q6⟩ := fin (wr ⟨7, n, s⟩) (.box [.int .i64 7, .int .i64 pa, .int .i64 pb, .int .i64 n, .str s]) (by simp [isCl])
            dsimp only at q3 q4 q5 q6
            subst q3 q4 q5 q6
            exact ⟨⟨k + 1, _, _, _⟩, q1, q2, by simp [isOp], by rfl⟩
      · have k4 : ¬ kd = 4 := fun e => kq (.inl e)
        have k5 : ¬ kd = 5 := fun e => kq (.inr (.inl e))
        have k6 : ¬ kd = 6 := fun e => kq (.inr (.inr (.inl e)))
        have k7 : ¬ kd = 7 := fun e => kq (.inr (.inr (.inr e)))
        cases b with
        | true =>
          simp only [itV, tkV, go_sem, Nat.reduceMod, Nat.reduceBNe, Nat.reduceBEq, Nat.reduceEqDiff, Nat.reduceAdd, Int.reduceAdd, Nat.reduceMul, Nat.reduceSub, Int.reduceToNat, Int.reduceLE, Int.reduceLT, Int.reduceEq, Int.reduceNe, reduceCtorEq, Nat.reduceLT, Nat.reduceLeDiff, List.append_assoc, List.cons_append, hl1, hx1, hs1, gx0, gs0, hw, k4, k5, k6, k7]
          refine ⟨by omega, call_ev (ev_written hX hs hB hP ⟨kd, n, s⟩ pa pb ⟨hch.1, hch.2.1⟩ k1 hch.2.2 k2) ?_⟩
          simp only [go_sem, Nat.reduceMod, Nat.reduceBNe, Nat.reduceBEq, Nat.reduceEqDiff, Nat.reduceAdd, Int.reduceAdd, Nat.reduceMul, Nat.reduceSub, Int.reduceToNat, Int.reduceLE, Int.reduceLT, Int.reduceEq, Int.reduceNe, reduceCtorEq, Nat.reduceLT, Nat.reduceLeDiff, List.append_assoc, List.cons_append, hl1, hx1, hs1, gx0, gs0, hw, k4, k5, k6, k7]
          refine call_evm (ev_bWS hX (i := G.length) (wr ⟨kd, n, s⟩) (by rw [gx0]) (by (try simp only [List.length_append, List.length_cons, List.length_nil]); omega)) ?_
          rintro r2 H2 ⟨rfl, rfl⟩
          simp only [go_sem, Nat.reduceMod, Nat.reduceBNe, Nat.reduceBEq, Nat.reduceEqDiff, Nat.reduceAdd, Int.reduceAdd, Nat.reduceMul, Nat.reduceSub, Int.reduceToNat, Int.reduceLE, Int.reduceLT, Int.reduceEq, Int.reduceNe, reduceCtorEq, Nat.reduceLT, Nat.reduceLeDiff, List.append_assoc, List.cons_append, hl1, hx1, hs1, gx0, gs0, hw, k4, k5, k6, k7]
          obtain ⟨⟨j1, j2, j3, j4⟩, q1, q2, q3, q4, q5, q6⟩ := fin (wr ⟨kd, n, s⟩) (.box [.int .i64 kd, .int .i64 pa, .int .i64 pb, .int .i64 n, .str s]) (by simp [isCl, k5, k7])
          dsimp only at q3 q4 q5 q6
          subst q3 q4 q5 q6
          exact ⟨⟨k + 1, _, _, _⟩, q1, q2, by simp [isOp, k4, k5, k6, k7], by rfl⟩
        | false =>
          simp only [itV, tkV, go_sem, Nat.reduceMod, Nat.reduceBNe, Nat.reduceBEq, Nat.reduceEqDiff, Nat.reduceAdd, Int.reduceAdd, Nat.reduceMul, Nat.reduceSub, Int.reduceToNat, Int.reduceLE, Int.reduceLT, Int.reduceEq, Int.reduceNe, reduceCtorEq, Nat.reduceLT, Nat.reduceLeDiff, List.append_assoc, List.cons_append, hl1, hx1, hs1, gx0, gs0, hw, k4, k5, k6, k7]
          refine ⟨by omega, ?_⟩
          refine call_evm (ev_bWB hX (i := G.length) (l := c) 32 (by rw [gx0]) (by omega)) ?_
          rintro r2 H2 ⟨rfl, rfl⟩
          simp only [go_sem, Nat.reduceMod, Nat.reduceBNe, Nat.reduceBEq, Nat.reduceEqDiff, Nat.reduceAdd, Int.reduceAdd, Nat.reduceMul, Nat.reduceSub, Int.reduceToNat, Int.reduceLE, Int.reduceLT, Int.reduceEq, Int.reduceNe, reduceCtorEq, Nat.reduceLT, Nat.reduceLeDiff, List.append_assoc, List.cons_append, hl1, hx1, hs1, gx0, gs0, hw, k4, k5, k6, k7]
          refine call_ev (ev_written hX hs hB hP ⟨kd, n, s⟩ pa pb ⟨hch.1, hch.2.1⟩ k1 hch.2.2 k2) ?_
          simp only [go_sem, Nat.reduceMod, Nat.reduceBNe, Nat.reduceBEq, Nat.reduceEqDiff, Nat.reduceAdd, Int.reduceAdd, Nat.reduceMul, Nat.reduceSub, Int.reduceToNat, Int.reduceLE, Int.reduceLT, Int.reduceEq, Int.reduceNe, reduceCtorEq, Nat.reduceLT, Nat.reduceLeDiff, List.append_assoc, List.cons_append, hl1, hx1, hs1, gx0, gs0, hw, k4, k5, k6, k7]
          refine call_evm (ev_bWS hX (i := G.length) (wr ⟨kd, n, s⟩) (by rw [gx0]) (by (try simp only [List.length_append, List.length_cons, List.length_nil]); omega)) ?_
          rintro r2 H2 ⟨rfl, rfl⟩
          simp only [go_sem, Nat.reduceMod, Nat.reduceBNe, Nat.reduceBEq, Nat.reduceEqDiff, Nat.reduceAdd, Int.reduceAdd, Nat.reduceMul, Nat.reduceSub, Int.reduceToNat, Int.reduceLE, Int.reduceLT, Int.reduceEq, Int.reduceNe, reduceCtorEq, Nat.reduceLT, Nat.reduceLeDiff, List.append_assoc, List.cons_append, hl1, hx1, hs1, gx0, gs0, hw, k4, k5, k6, k7]
          obtain ⟨⟨j1, j2, j3, j4⟩, q1, q2, q3, q4, q5, q6⟩ := fin ([32] ++ wr ⟨kd, n, s⟩) (.box [.int .i64 kd, .int .i64 pa, .int .i64 pb, .int .i64 n, .str s]) (by simp [isCl, k5, k7])
          dsimp only at q3 q4 q5 q6
          subst q3 q4 q5 q6
          exact ⟨⟨k + 1, _, _, _⟩, q1, q2, by simp [isOp, k4, k5, k6, k7], by rfl⟩
    · have hk' : ¬ (k : Int) < l.length := by omega
      have e : prR true (toks l) = c := by
        rw [y2, List.drop_eq_nil_of_le (by rw [toks_len]; omega), prR, List.append_nil]
      simp only [A_lexer_PrintL1, go_sem, Nat.reduceMod, Nat.reduceBNe, Nat.reduceBEq, Nat.reduceEqDiff, Nat.reduceAdd, Int.reduceAdd, Nat.reduceMul, Nat.reduceSub, Int.reduceToNat, Int.reduceLE, Int.reduceLT, Int.reduceEq, Int.reduceNe, reduceCtorEq, Nat.reduceLT, Nat.reduceLeDiff, hk']
      refine call_evm (ev_bLen hX (i := G.length) (by rw [gx0])) ?_
      rintro r2 H2 ⟨rfl, rfl⟩
      simp only [go_sem, Nat.reduceMod, Nat.reduceBNe, Nat.reduceBEq, Nat.reduceEqDiff, Nat.reduceAdd, Int.reduceAdd, Nat.reduceMul, Nat.reduceSub, Int.reduceToNat, Int.reduceLE, Int.reduceLT, Int.reduceEq, Int.reduceNe, reduceCtorEq, Nat.reduceLT, Nat.reduceLeDiff]
      rw [e]
      refine ⟨fun h => ?_, fun h => ?_⟩
      · rw [if_pos (by omega)]; rfl
      · rw [if_neg (by omega)]
        refine call_evm (ev_bString hX (i := G.length) (by rw [gx0])) ?_
        rintro r2 H2 ⟨rfl, rfl⟩
        simp only [go_sem, Nat.reduceMod, Nat.reduceBNe, Nat.reduceBEq, Nat.reduceEqDiff, Nat.reduceAdd, Int.reduceAdd, Nat.reduceMul, Nat.reduceSub, Int.reduceToNat, Int.reduceLE, Int.reduceLT, Int.reduceEq, Int.reduceNe, reduceCtorEq, Nat.reduceLT, Nat.reduceLeDiff]
        rfl
end
end Go.Avm

/- Same, Example. -/
namespace Go.Avm
open Go Go.Rn Go.Lx
set_option maxRecDepth 10000
def eqT (pl : Bool) (x y : TT) : Bool := decide (x.1.kind = y.1.kind ∧ x.1.n = y.1.n ∧ x.1.s = y.1.s ∧ (pl = true → x.2 = y.2))
def sameB (pl : Bool) : List TT → List TT → Bool
  | [], [] => true
  | x :: l, y :: m => eqT pl x y && sameB pl l m
  | _, _ => false
theorem same_len {pl : Bool} : ∀ {l m : List TT}, l.length ≠ m.length → sameB pl l m = false
  | [], [], h => absurd rfl h
  | [], _ :: _, _ => rfl
  | _ :: _, [], _ => rfl
  | x :: l, y :: m, h => by
    rw [sameB, same_len (l := l) (m := m) (by simpa using h), Bool.and_false]
theorem same_no {pl : Bool} : ∀ {l m : List TT} {i : Nat}, i < l.length → l.length = m.length → eqT pl (l.getD i default) (m.getD i default) = false → sameB pl l m = false
  | [], _, i, h, _, _ => by simp at h
  | _ :: _, [], i, _, h, _ => by simp at h
  | x :: l, y :: m, 0, _, _, h => by
    simp only [List.getD_cons_zero] at h
    rw [sameB, h, Bool.false_and]
  | x :: l, y :: m, i + 1, h1, h2, h => by
    simp only [List.getD_cons_succ] at h
    rw [sameB, same_no (l := l) (m := m) (i := i) (by simpa using h1) (by simpa using h2) h, Bool.and_false]
theorem same_yes {pl : Bool} : ∀ {l m : List TT}, l.length = m.length → (∀ i, i < l.length → eqT pl (l.getD i default) (m.getD i default) = true) → sameB pl l m = true
  | [], [], _, _ => rfl
  | [], _ :: _, h, _ => by simp at h
  | _ :: _, [], h, _ => by simp at h
  | x :: l, y :: m, h2, h => by
    have h0 := h 0 (by simp)
    simp only [List.getD_cons_zero] at h0
    rw [sameB, h0, Bool.true_and]
    exact same_yes (by simpa using h2) fun i hi => by
      have := h (i + 1) (by simpa using hi)
      simpa using this
section
variable {X : Cx} (hX : X.P = Go.Proofs.Tryz.prog) (hs : Std X)
include hX hs
set_option maxHeartbeats 4000000 in
theorem ev_Same (l m : List TT) (pl : Bool) (hl : l.length < 1000000) : Ev X F_ref14_Same [lst itV .ro l, lst itV .ro m, .bool pl] (.bool (sameB pl l m)) := by
  refine ev_of_wpc hs (A_ref14_Same_ok hX) 0 ?_
  simp only [A_ref14_Same, go_sem, Nat.reduceMod, Nat.reduceBNe, Nat.reduceBEq, Nat.reduceEqDiff, Nat.reduceAdd, Int.reduceAdd, Nat.reduceMul, Nat.reduceSub, Int.reduceToNat, Int.reduceLE, Int.reduceLT, Int.reduceEq, Int.reduceNe, reduceCtorEq, Nat.reduceLT, Nat.reduceLeDiff]
  refine ⟨fun h => ?_, fun h => ?_⟩
  · rw [same_len (by omega)]
  have hlm : l.length = m.length := by omega
  refine w_loop' hs.hm (ι := PS) (fun x => x.i ≤ l.length ∧ x.G.length % 2 = 0 ∧ ∀ j, j < x.i → eqT pl (l.getD j default) (m.getD j default) = true) (fun x => [(7, .int .i64 x.i), (0, lst itV .ro l), (1, lst itV .ro m), (2, .bool pl)]) (fun x => x.G) (fun x => l.length - x.i) ⟨0, []⟩ ?_ fun x hx => ?_
  · simp only [go_sem, Nat.reduceMod, Nat.reduceBNe, Nat.reduceBEq, Nat.reduceEqDiff, Nat.reduceAdd, Int.reduceAdd, Nat.reduceMul, Nat.reduceSub, Int.reduceToNat, Int.reduceLE, Int.reduceLT, Int.reduceEq, Int.reduceNe, reduceCtorEq, Nat.reduceLT, Nat.reduceLeDiff]
    exact ⟨Nat.zero_le _, fun j hj => absurd hj (Nat.not_lt_zero _)⟩
  obtain ⟨i, G⟩ := x
  obtain ⟨x1, x3, x2⟩ := hx
  dsimp only at x1 x2 x3 ⊢
  by_cases hi : i < l.length
  · have hi' : (i : Int) < l.length := by omega
    have him : (i : Int) < m.length := by omega
    have hw : IntKind.i64.wrap ((i : Int) + 1) = ((i + 1 : Nat) : Int) := by rw [wi64 (by omega)]; omega
    have hno : eqT pl (l.getD i default) (m.getD i default) = false → sameB pl l m = false := same_no hi hlm
    simp only [A_ref14_SameL0, go_sem, Nat.reduceMod, Nat.reduceBNe, Nat.reduceBEq, Nat.reduceEqDiff, Nat.reduceAdd, Int.reduceAdd, Nat.reduceMul, Nat.reduceSub, Int.reduceToNat, Int.reduceLE, Int.reduceLT, Int.reduceEq, Int.reduceNe, reduceCtorEq, Nat.reduceLT, Nat.reduceLeDiff, hi', him]
    generalize hx : l.getD i default = x at hno
    generalize hy : m.getD i default = y at hno
    obtain ⟨⟨k1, n1, s1⟩, a1, b1⟩ := x
    obtain ⟨⟨k2, n2, s2⟩, a2, b2⟩ := y
    simp only [itV, tkV, go_sem, Nat.reduceMod, Nat.reduceBNe, Nat.reduceBEq, Nat.reduceEqDiff, Nat.reduceAdd, Int.reduceAdd, Nat.reduceMul, Nat.reduceSub, Int.reduceToNat, Int.reduceLE, Int.reduceLT, Int.reduceEq, Int.reduceNe, reduceCtorEq, Nat.reduceLT, Nat.reduceLeDiff, List.append_assoc, List.cons_append, List.nil_append, gl2, gl3, gx0, gs0, gx1, gs1, hw]
    have o1 : ((G.length + 1) % 2 == 1) = true := by rw [beq_iff_eq]; omega
    have o0 : (G.length % 2 == 1) = false := by rw [beq_eq_false_iff_ne]; omega
    have nextI : eqT pl (l.getD i default) (m.getD i default) = true → ∀ A B : Blk, ((⟨i + 1, G ++ [A, B]⟩ : PS).i ≤ l.length ∧ (⟨i + 1, G ++ [A, B]⟩ : PS).G.length % 2 = 0 ∧ ∀ j, j < (⟨i + 1, G ++ [A, B]⟩ : PS).i → eqT pl (l.getD j default) (m.getD j default) = true) := fun he A B => by
      refine ⟨hi, by dsimp only; rw [gl3]; omega, fun j hj => ?_⟩
      dsimp only at hj
      rcases (by omega : j = i ∨ j < i) with rfl | h
      · exact he
      · exact x2 j h
    rw [hx, hy] at nextI
    cases pl with
    | true =>
      simp only [go_sem, Nat.reduceMod, Nat.reduceBNe, Nat.reduceBEq, Nat.reduceEqDiff, Nat.reduceAdd, Int.reduceAdd, Nat.reduceMul, Nat.reduceSub, Int.reduceToNat, Int.reduceLE, Int.reduceLT, Int.reduceEq, Int.reduceNe, reduceCtorEq, Nat.reduceLT, Nat.reduceLeDiff, List.append_assoc, List.cons_append, List.nil_append, gl2, gl3, gx0, gs0, gx1, gs1, hw]
      refine ⟨by omega, by omega, fun h => ?_, fun h => ?_⟩
      · rw [hno]
        unfold eqT
        simp only [Bool.and_eq_false_iff, beq_eq_false_iff_ne, decide_eq_false_iff_not, true_implies, Prod.mk.injEq] at h ⊢
        rintro ⟨e1, e2, e3, e4, e5⟩
        rcases h with h | h | h | h | h
        · exact h e1
        · exact h e4
        · exact h e5
        · exact h e2
        · exact h e3
      · simp only [beq_iff_eq] at h
        refine ⟨⟨i + 1, _⟩, by dsimp only; omega, nextI ?_ _ _, rfl, rfl⟩
        unfold eqT
        simp only [decide_eq_true_eq, true_implies, Prod.mk.injEq]
        exact ⟨h.1, h.2.2.2.1, h.2.2.2.2, h.2.1, h.2.2.1⟩
    | false =>
      simp only [go_sem, Nat.reduceMod, Nat.reduceBNe, Nat.reduceBEq, Nat.reduceEqDiff, Nat.reduceAdd, Int.reduceAdd, Nat.reduceMul, Nat.reduceSub, Int.reduceToNat, Int.reduceLE, Int.reduceLT, Int.reduceEq, Int.reduceNe, reduceCtorEq, Nat.reduceLT, Nat.reduceLeDiff, List.append_assoc, List.cons_append, List.nil_append, gl2, gl3, gx0, gs0, gx1, gs1, hw, o1, o0]
      refine ⟨by omega, by omega, fun h => ?_, fun h => ?_⟩
      · rw [hno]
        unfold eqT
        simp only [Bool.and_eq_false_iff, beq_eq_false_iff_ne, decide_eq_false_iff_not, Bool.false_eq_true, false_implies] at h ⊢
        rintro ⟨e1, e2, e3, e4⟩
        rcases h with h | h | h
        · exact h e1
        · exact h e2
        · exact h e3
      · simp only [beq_iff_eq] at h
        refine ⟨⟨i + 1, _⟩, by dsimp only; omega, nextI ?_ _ _, rfl, rfl⟩
        unfold eqT
        simp only [decide_eq_true_eq, Bool.false_eq_true, false_implies]
        exact ⟨h.1, h.2.1, h.2.2, trivial⟩
  · have hi' : ¬ (i : Int) < l.length := by omega
    simp only [A_ref14_SameL0, go_sem, Nat.reduceMod, Nat.reduceBNe, Nat.reduceBEq, Nat.reduceEqDiff, Nat.reduceAdd, Int.reduceAdd, Nat.reduceMul, Nat.reduceSub, Int.reduceToNat, Int.reduceLE, Int.reduceLT, Int.reduceEq, Int.reduceNe, reduceCtorEq, Nat.reduceLT, Nat.reduceLeDiff, hi']
    rw [same_yes hlm fun j hj => x2 j (by omega)]
omit hs in
def exT : List TT := [(⟨1, 0, [120]⟩, 0, 0), (⟨8, 0, []⟩, 0, 0), (⟨6, 0, []⟩, 0, 0), (⟨2, 1, []⟩, 0, 0), (⟨2, -2, []⟩, 0, 0), (⟨7, 0, []⟩, 0, 0), (⟨1, 0, [97, 100, 100]⟩, 0, 0), (⟨3, 0, [97, 195, 169]⟩, 0, 0)]
theorem ev_Example : Ev X F_law14_Example [] (lst itV .ex exT) := by
  refine ev_of_wpc hs (A_law14_Example_ok hX) 0 ?_
  simp only [A_law14_Example, go_sem, Nat.reduceMod, Nat.reduceBNe, Nat.reduceBEq, Nat.reduceEqDiff, Nat.reduceAdd, Int.reduceAdd, Nat.reduceMul, Nat.reduceSub, Int.reduceToNat, Int.reduceLE, Int.reduceLT, Int.reduceEq, Int.reduceNe, reduceCtorEq, Nat.reduceLT, Nat.reduceLeDiff]
  rfl
end
end Go.Avm

/- far, shown. -/
namespace Go.Avm
open Go Go.Rn Go.Lx
set_option maxRecDepth 10000
def toT (x : PT) : TT := (x.1, (x.2.1 : Int), (x.2.2 : Int))
theorem lst_pt (p : Perm) (l : List PT) : lst ptV p l = lst itV p (l.map toT) := by
  simp only [lst, List.map_map]; rfl
theorem toks_pt (l : List PT) : toks (l.map toT) = l.map (·.1) := by
  simp only [toks, List.map_map]; rfl
/-- the sum of the texts' lengths -/
def sumL (l : List TT) (i : Nat) : Nat := ((l.take i).map fun x => x.1.s.length).sum
theorem sumL_step (l : List TT) {i : Nat} (h : i < l.length) : sumL l (i + 1) = sumL l i + (l.getD i default).1.s.length := by
  unfold sumL
  rw [List.take_succ_eq_append_getElem h, List.map_append, List.sum_append, List.getD_eq_getElem?_getD, List.getElem?_eq_getElem h]
  simp
def totB (l : List TT) : Int := IntKind.i64.wrap (sumL l l.length : Nat)
def farB (l : List TT) : Bool := decide ((100 < l.length ∧ l.length ≤ 2000) ∨ 2005 < l.length) || (decide (3000 < totB l) || (decide (100 < l.length) && decide (0 < totB l)))
theorem far_no {l : List TT} (h : farB l = false) : l.length ≤ 2005 := by
  unfold farB at h
  simp only [Bool.or_eq_false_iff, decide_eq_false_iff_not] at h
  omega
theorem same_toks : ∀ {l m : List TT}, toks l = toks m → sameB false l m = true
  | [], [], _ => rfl
  | [], _ :: _, h => by simp [toks] at h
  | _ :: _, [], h => by simp [toks] at h
  | x :: l, y :: m, h => by
    simp only [toks, List.map_cons, List.cons.injEq] at h
    rw [sameB, same_toks (l := l) (m := m) h.2, Bool.and_true]
    unfold eqT
    simp [h.1]
section
variable {X : Cx} (hX : X.P = Go.Proofs.Tryz.prog) (hs : Std X)
include hX hs
theorem ev_far (l : List TT) (hl : ∀ x ∈ l, x.1.s.length ≤ 9223372036854775807) (hl0 : l.length ≤ 9223372036854775807) : Ev X F_law14_far [lst itV .ro l] (.bool (farB l)) := by
  refine ev_of_wpc hs (A_law14_far_ok hX) 0 ?_
  by_cases hc : (100 < l.length ∧ l.length ≤ 2000) ∨ 2005 < l.length
  · have hf : farB l = true := by unfold farB; rw [decide_eq_true hc, Bool.true_or]
    rw [hf]
    have a2000 : ((l.length : Int) ≤ 2000) ↔ l.length ≤ 2000 := by omega
    by_cases c1 : 100 < l.length
    · have c1' : (100 : Int) < l.length := by omega
      by_cases c2 : l.length ≤ 2000
      · have c2' : (l.length : Int) ≤ 2000 := by omega
        simp only [A_law14_far, go_sem, Nat.reduceMod, Nat.reduceBNe, Nat.reduceBEq, Nat.reduceEqDiff, Nat.reduceAdd, Int.reduceAdd, Nat.reduceMul, Nat.reduceSub, Int.reduceToNat, Int.reduceLE, Int.reduceLT, Int.reduceEq, Int.reduceNe, reduceCtorEq, Nat.reduceLT, Nat.reduceLeDiff, c1', c2']
      · have c2' : ¬ (l.length : Int) ≤ 2000 := by omega
        have c3' : (2005 : Int) < l.length := by omega
        simp only [A_law14_far, go_sem, Nat.reduceMod, Nat.reduceBNe, Nat.reduceBEq, Nat.reduceEqDiff, Nat.reduceAdd, Int.reduceAdd, Nat.reduceMul, Nat.reduceSub, Int.reduceToNat, Int.reduceLE, Int.reduceLT, Int.reduceEq, Int.reduceNe, reduceCtorEq, Nat.reduceLT, Nat.reduceLeDiff, c1', c2', c3']
    · omega
  · have hf : farB l = (decide (3000 < totB l) || (decide (100 < l.length) && decide (0 < totB l))) := by unfold farB; rw [decide_eq_false hc, Bool.false_or]
    rw [hf]
    have c3' : ¬ (2005 : Int) < l.length := by omega
    by_cases c1 : 100 < l.length
    · have c1' : (100 : Int) < l.length := by omega
      have c2' : ¬ (l.length : Int) ≤ 2000 := by omega
      simp only [A_law14_far, go_sem, Nat.reduceMod, Nat.reduceBNe, Nat.reduceBEq, Nat.reduceEqDiff, Nat.reduceAdd, Int.reduceAdd, Nat.reduceMul, Nat.reduceSub, Int.reduceToNat, Int.reduceLE, Int.reduceLT, Int.reduceEq, Int.reduceNe, reduceCtorEq, Nat.reduceLT, Nat.reduceLeDiff, c1', c2', c3']
      refine w_loop' hs.hm (ι := Nat) (fun i => i ≤ l.length) (fun i => [(4, .int .i64 i), (3, .int .i64 (IntKind.i64.wrap (sumL l i : Nat))), (0, lst itV .ro l)]) (fun _ => []) (fun i => l.length - i) 0 ?_ fun i hi => ?_
      · simp only [go_sem, Nat.reduceMod, Nat.reduceBNe, Nat.reduceBEq, Nat.reduceEqDiff, Nat.reduceAdd, Int.reduceAdd, Nat.reduceMul, Nat.reduceSub, Int.reduceToNat, Int.reduceLE, Int.reduceLT, Int.reduceEq, Int.reduceNe, reduceCtorEq, Nat.reduceLT, Nat.reduceLeDiff]
        exact ⟨Nat.zero_le _, rfl⟩
      by_cases hi2 : i < l.length
      · have hi' : (i : Int) < l.length := by omega
        have hw : IntKind.i64.wrap ((i : Int) + 1) = ((i + 1 : Nat) : Int) := by rw [wi64 (by omega)]; omega
        have hst := sumL_step l hi2
        simp only [A_law14_farL0, go_sem, Nat.reduceMod, Nat.reduceBNe, Nat.reduceBEq, Nat.reduceEqDiff, Nat.reduceAdd, Int.reduceAdd, Nat.reduceMul, Nat.reduceSub, Int.reduceToNat, Int.reduceLE, Int.reduceLT, Int.reduceEq, Int.reduceNe, reduceCtorEq, Nat.reduceLT, Nat.reduceLeDiff, hi', hw]
        generalize l.getD i default = t at hst
        have hw2 : IntKind.i64.wrap (IntKind.i64.wrap (sumL l i : Nat) + (t.1.s.length : Nat)) = IntKind.i64.wrap (sumL l (i + 1) : Nat) := by
          rw [hst, w_i64, w_i64, w_i64]
          omega
        simp only [itV, tkV, go_sem, Nat.reduceMod, Nat.reduceBNe, Nat.reduceBEq, Nat.reduceEqDiff, Nat.reduceAdd, Int.reduceAdd, Nat.reduceMul, Nat.reduceSub, Int.reduceToNat, Int.reduceLE, Int.reduceLT, Int.reduceEq, Int.reduceNe, reduceCtorEq, Nat.reduceLT, Nat.reduceLeDiff, hw2]
        refine ⟨by omega, i + 1, by omega, hi2, by rw [hw], rfl⟩
      · have hi' : ¬ (i : Int) < l.length := by omega
        have ei : i = l.length := by omega
        have eT : totB l = IntKind.i64.wrap (sumL l i : Nat) := by unfold totB; rw [ei]
        rw [eT]
        generalize IntKind.i64.wrap (sumL l i : Nat) = T
        simp only [A_law14_farL0, go_sem, Nat.reduceMod, Nat.reduceBNe, Nat.reduceBEq, Nat.reduceEqDiff, Nat.reduceAdd, Int.reduceAdd, Nat.reduceMul, Nat.reduceSub, Int.reduceToNat, Int.reduceLE, Int.reduceLT, Int.reduceEq, Int.reduceNe, reduceCtorEq, Nat.reduceLT, Nat.reduceLeDiff, hi', c1']
        refine ⟨fun h => by simp [h], fun h => by simp [h, c1]⟩
    · have c1' : ¬ (100 : Int) < l.length := by omega
      simp only [A_law14_far, go_sem, Nat.reduceMod, Nat.reduceBNe, Nat.reduceBEq, Nat.reduceEqDiff, Nat.reduceAdd, Int.reduceAdd, Nat.reduceMul, Nat.reduceSub, Int.reduceToNat, Int.reduceLE, Int.reduceLT, Int.reduceEq, Int.reduceNe, reduceCtorEq, Nat.reduceLT, Nat.reduceLeDiff, c1', c3']
      refine w_loop' hs.hm (ι := Nat) (fun i => i ≤ l.length) (fun i => [(4, .int .i64 i), (3, .int .i64 (IntKind.i64.wrap (sumL l i : Nat))), (0, lst itV .ro l)]) (fun _ => []) (fun i => l.length - i) 0 ?_ fun i hi => ?_
      · simp only [go_sem, Nat.reduceMod, Nat.reduceBNe, Nat.reduceBEq, Nat.reduceEqDiff, Nat.reduceAdd, Int.reduceAdd, Nat.reduceMul, Nat.reduceSub, Int.reduceToNat, Int.reduceLE, Int.reduceLT, Int.reduceEq, Int.reduceNe, reduceCtorEq, Nat.reduceLT, Nat.reduceLeDiff]
        exact ⟨Nat.zero_le _, rfl⟩
      by_cases hi2 : i < l.length
      · have hi' : (i : Int) < l.length := by omega
        have hw : IntKind.i64.wrap ((i : Int) + 1) = ((i + 1 : Nat) : Int) := by rw [wi64 (by omega)]; omega
        have hst := sumL_step l hi2
        simp only [A_law14_farL0, go_sem, Nat.reduceMod, Nat.reduceBNe, Nat.reduceBEq, Nat.reduceEqDiff, Nat.reduceAdd, Int.reduceAdd, Nat.reduceMul, Nat.reduceSub, Int.reduceToNat, Int.reduceLE, Int.reduceLT, Int.reduceEq, Int.reduceNe, reduceCtorEq, Nat.reduceLT, Nat.reduceLeDiff, hi', hw]
        generalize l.getD i default = t at hst
        have hw2 : IntKind.i64.wrap (IntKind.i64.wrap (sumL l i : Nat) + (t.1.s.length : Nat)) = IntKind.i64.wrap (sumL l (i + 1) : Nat) := by
          rw [hst, w_i64, w_i64, w_i64]
          omega
        simp only [itV, tkV, go_sem, Nat.reduceMod, Nat.reduceBNe, Nat.reduceBEq, Nat.reduceEqDiff, Nat.reduceAdd, Int.reduceAdd, Nat.reduceMul, Nat.reduceSub, Int.reduceToNat, Int.reduceLE, Int.reduceLT, Int.reduceEq, Int.reduceNe, reduceCtorEq, Nat.reduceLT, Nat.reduceLeDiff, hw2]
        refine ⟨by omega, i + 1, by omega, hi2, by rw [hw], rfl⟩
      · have hi' : ¬ (i : Int) < l.length := by omega
        have ei : i = l.length := by omega
        have eT : totB l = IntKind.i64.wrap (sumL l i : Nat) := by unfold totB; rw [ei]
        rw [eT]
        generalize IntKind.i64.wrap (sumL l i : Nat) = T
        simp only [A_law14_farL0, go_sem, Nat.reduceMod, Nat.reduceBNe, Nat.reduceBEq, Nat.reduceEqDiff, Nat.reduceAdd, Int.reduceAdd, Nat.reduceMul, Nat.reduceSub, Int.reduceToNat, Int.reduceLE, Int.reduceLT, Int.reduceEq, Int.reduceNe, reduceCtorEq, Nat.reduceLT, Nat.reduceLeDiff, hi', c1']
        refine ⟨fun h => by simp [h], fun h => by simp [h, c1]⟩
omit hX hs in
theorem hok_ex : okTT exT := ⟨by decide, by unfold exT I64; decide⟩
end
end Go.Avm

/- shown; Back. -/
namespace Go.Avm
open Go Go.Rn Go.Lx
set_option maxRecDepth 10000
/-- what the package's tables hold -/
structure LEnv (X : Cx) : Prop where
  hN : X.G 2 = some [.int .i64 0, .int .i64 0]
  hB : X.G 8 = some tabB
  hP : X.G 3 = some (Lib.pow10Tab.map (AV.int .u64))
  hR : ∃ te, X.G 5 = some [.ifc te .undef]
  hR4 : ∃ te, X.G 4 = some [.ifc te .undef]
  h0 : X.G 0 = some tab0
  h1 : X.G 1 = some tab1
theorem lineV_eq (x : List PT × Nat × Int) : lineV x = .tuple [lst itV .ro (x.1.map toT), .int .i64 (x.2.1 : Nat), .int .i64 x.2.2] := by
  unfold lineV; rw [lst_pt]
section
variable {X : Cx} (hX : X.P = Go.Proofs.Tryz.prog) (hs : Std X) (hE : LEnv X)
include hX hs hE
theorem ev_LineE (s : List UInt8) (hl : s.length < 1000000) : Ev X F_lexer_Line [.str s] (.tuple [lst itV .ro ((lineR s).1.map toT), .int .i64 ((lineR s).2.1 : Nat), .int .i64 (lineR s).2.2]) := by
  obtain ⟨te, hR⟩ := hE.hR
  obtain ⟨te', hR4⟩ := hE.hR4
  rw [← lineV_eq]
  exact ev_Line hX hs hE.hN hE.hB hE.hP hR hR4 s hl
theorem ev_PrintE (l : List TT) (hl : okTT l) : Ev X F_lexer_Print [lst itV .ro l] (.tuple [.str (prS (toks l)).1, .int .i64 ((prS (toks l)).2.1 : Nat), .int .i64 (prS (toks l)).2.2]) :=
  ev_Print hX hs hE.hB hE.hP hE.h0 hE.h1 l hl
set_option maxHeartbeats 4000000 in
theorem ev_shown : Ev X F_law14_shown [] (.bool true) := by
  refine ev_of_wpc hs (A_law14_shown_ok hX) 0 ?_
  obtain ⟨m, m1, m2⟩ := line_ex
  have l1 := ev_LineE hX hs hE shT (by decide)
  have l2 := ev_LineE hX hs hE [53, 120] (by decide)
  have l3 := ev_LineE hX hs hE [120, 32, 60, 32, 53] (by decide)
  have p1 := ev_PrintE hX hs hE exT hok_ex
  rw [show toks exT = exTk from rfl, prS_ex] at p1
  rw [m1] at l1
  rw [line_5x] at l2
  rw [line_lt] at l3
  have sm := ev_Same hX hs (m.map toT) exT false (by
    have := congrArg List.length m2
    rw [List.length_map] at this ⊢
    rw [this]; decide)
  rw [same_toks (by rw [toks_pt, m2]; rfl)] at sm
  simp only [A_law14_shown, go_sem, Nat.reduceMod, Nat.reduceBNe, Nat.reduceBEq, Nat.reduceEqDiff, Nat.reduceAdd, Int.reduceAdd, Nat.reduceMul, Nat.reduceSub, Int.reduceToNat, Int.reduceLE, Int.reduceLT, Int.reduceEq, Int.reduceNe, reduceCtorEq, Nat.reduceLT, Nat.reduceLeDiff]
  refine call_ev l1 ?_
  simp only [go_sem, Nat.reduceMod, Nat.reduceBNe, Nat.reduceBEq, Nat.reduceEqDiff, Nat.reduceAdd, Int.reduceAdd, Nat.reduceMul, Nat.reduceSub, Int.reduceToNat, Int.reduceLE, Int.reduceLT, Int.reduceEq, Int.reduceNe, reduceCtorEq, Nat.reduceLT, Nat.reduceLeDiff]
  refine call_ev (ev_Example hX hs) ?_
  simp only [go_sem, Nat.reduceMod, Nat.reduceBNe, Nat.reduceBEq, Nat.reduceEqDiff, Nat.reduceAdd, Int.reduceAdd, Nat.reduceMul, Nat.reduceSub, Int.reduceToNat, Int.reduceLE, Int.reduceLT, Int.reduceEq, Int.reduceNe, reduceCtorEq, Nat.reduceLT, Nat.reduceLeDiff]
  refine call_ev p1 ?_
  simp only [go_sem, Nat.reduceMod, Nat.reduceBNe, Nat.reduceBEq, Nat.reduceEqDiff, Nat.reduceAdd, Int.reduceAdd, Nat.reduceMul, Nat.reduceSub, Int.reduceToNat, Int.reduceLE, Int.reduceLT, Int.reduceEq, Int.reduceNe, reduceCtorEq, Nat.reduceLT, Nat.reduceLeDiff]
  refine call_ev l2 ?_
  simp only [go_sem, Nat.reduceMod, Nat.reduceBNe, Nat.reduceBEq, Nat.reduceEqDiff, Nat.reduceAdd, Int.reduceAdd, Nat.reduceMul, Nat.reduceSub, Int.reduceToNat, Int.reduceLE, Int.reduceLT, Int.reduceEq, Int.reduceNe, reduceCtorEq, Nat.reduceLT, Nat.reduceLeDiff]
  refine call_ev l3 ?_
  simp only [go_sem, Nat.reduceMod, Nat.reduceBNe, Nat.reduceBEq, Nat.reduceEqDiff, Nat.reduceAdd, Int.reduceAdd, Nat.reduceMul, Nat.reduceSub, Int.reduceToNat, Int.reduceLE, Int.reduceLT, Int.reduceEq, Int.reduceNe, reduceCtorEq, Nat.reduceLT, Nat.reduceLeDiff]
  refine call_ev (ev_Example hX hs) ?_
  simp only [go_sem, Nat.reduceMod, Nat.reduceBNe, Nat.reduceBEq, Nat.reduceEqDiff, Nat.reduceAdd, Int.reduceAdd, Nat.reduceMul, Nat.reduceSub, Int.reduceToNat, Int.reduceLE, Int.reduceLT, Int.reduceEq, Int.reduceNe, reduceCtorEq, Nat.reduceLT, Nat.reduceLeDiff]
  refine call_ev sm ?_
  simp only [go_sem, Nat.reduceMod, Nat.reduceBNe, Nat.reduceBEq, Nat.reduceEqDiff, Nat.reduceAdd, Int.reduceAdd, Nat.reduceMul, Nat.reduceSub, Int.reduceToNat, Int.reduceLE, Int.reduceLT, Int.reduceEq, Int.reduceNe, reduceCtorEq, Nat.reduceLT, Nat.reduceLeDiff]
  exact fun h => absurd rfl h
end
end Go.Avm
