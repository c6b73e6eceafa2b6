/- Quoted forms, what is written, marks. -/
import Derived.Test.YtpkgglpiboeogaaGreatDoorAQ1
import Derived.Test.YtpkgglpiboeogaaGreatDoorAQ2
import Derived.Test.YtpkgglpiboeogaaGreatDoorM3
import Derived.Test.YtpkgglpiboeogaaGreatDoorAQ3
set_option linter.unusedSectionVars false
set_option linter.unusedSimpArgs false
set_option linter.unusedVariables false

/- Quoted forms, what is written, marks. -/
namespace Go.Avm
open Go Go.Rn Go.Lx
set_option maxRecDepth 10000
section
variable {X : Cx} (hX : X.P = Go.Proofs.Tryz.prog) (hs : Std X)
include hX hs
set_option maxHeartbeats 1000000 in
theorem ev_quoted (hB : X.G 8 = some tabB) (s : List UInt8) (ht : okT s = true) (hl : s.length < 1000000) : Ev X F_lexer_quoted [.str s] (.str (qt s)) := by
  refine ev_of_wpc hs (A_lexer_quoted_ok hX) 0 ?_
  simp only [A_lexer_quoted, go_sem, Nat.reduceMod, Nat.reduceBNe, Nat.reduceBEq, Nat.reduceEqDiff, Nat.reduceAdd, Int.reduceAdd, Nat.reduceMul, Nat.reduceSub, Int.reduceToNat, Int.reduceLE, Int.reduceLT, Int.reduceEq, Int.reduceNe, reduceCtorEq, Nat.reduceLT, Nat.reduceLeDiff]
  refine call_evm (ev_bWB hX (i := 0) (l := []) 34 (by rfl) (by decide)) ?_
  rintro r H' ⟨rfl, rfl⟩
  simp only [go_sem, Nat.reduceMod, Nat.reduceBNe, Nat.reduceBEq, Nat.reduceEqDiff, Nat.reduceAdd, Int.reduceAdd, Nat.reduceMul, Nat.reduceSub, Int.reduceToNat, Int.reduceLE, Int.reduceLT, Int.reduceEq, Int.reduceNe, reduceCtorEq, Nat.reduceLT, Nat.reduceLeDiff]
  refine w_loop' hs.hm (ι := QS) (QI s) (fun x => [(0, .str s), (3, .ptr 0 0), (8, .ptr 1 0)]) (fun x => [.bld 38 5 (34 :: x.pre.flatMap escR), .sit s x.q]) (fun x => s.length - x.q) ⟨0, []⟩ ?_ fun x hx => ?_
  · simp only [go_sem, Nat.reduceMod, Nat.reduceBNe, Nat.reduceBEq, Nat.reduceEqDiff, Nat.reduceAdd, Int.reduceAdd, Nat.reduceMul, Nat.reduceSub, Int.reduceToNat, Int.reduceLE, Int.reduceLT, Int.reduceEq, Int.reduceNe, reduceCtorEq, Nat.reduceLT, Nat.reduceLeDiff]
    exact ⟨QI_0 ht, rfl⟩
  by_cases hq : x.q < s.length
  · obtain ⟨r, n, hd, hv, hn, hI⟩ := QI_step hx hq
    have hx4 := hx.2.2.2.1
    have hr := valid_rng hv
    have hlp := enc_len_pos hv
    have hne : s.drop x.q ≠ [] := fun e => by have := congrArg List.length e; rw [List.length_drop] at this; simp at this; omega
    have hde := dec_of (s.drop x.q) hne
    rw [hd] at hde
    have d1 : (((dec (s.drop x.q)).1 : Nat) : Int) = r := by rw [hde]; simp only [pr]; omega
    have d2 : (dec (s.drop x.q)).2 = n := by rw [hde]; rfl
    have hfl : (34 :: x.pre.flatMap escR).length ≤ 10000000 := by rw [List.length_cons]; omega
    have fin : ∀ bs, bs = escR r → ∃ j : QS, s.length - j.q < s.length - x.q ∧ QI s j ∧ [Blk.bld 38 5 (34 :: x.pre.flatMap escR ++ bs), Blk.sit s (x.q + n)] = [Blk.bld 38 5 (34 :: j.pre.flatMap escR), Blk.sit s j.q] := fun bs hb => by
      refine ⟨⟨x.q + n, x.pre ++ [r]⟩, by dsimp only; omega, hI, ?_⟩
      subst hb
      dsimp only
      rw [List.flatMap_append]
      simp
    simp only [A_lexer_quotedL0, go_sem, Nat.reduceMod, Nat.reduceBNe, Nat.reduceBEq, Nat.reduceEqDiff, Nat.reduceAdd, Int.reduceAdd, Nat.reduceMul, Nat.reduceSub, Int.reduceToNat, Int.reduceLE, Int.reduceLT, Int.reduceEq, Int.reduceNe, reduceCtorEq, Nat.reduceLT, Nat.reduceLeDiff, hq, d1, d2]
    by_cases c34 : r = 34
    · simp only [go_sem, Nat.reduceMod, Nat.reduceBNe, Nat.reduceBEq, Nat.reduceEqDiff, Nat.reduceAdd, Int.reduceAdd, Nat.reduceMul, Nat.reduceSub, Int.reduceToNat, Int.reduceLE, Int.reduceLT, Int.reduceEq, Int.reduceNe, reduceCtorEq, Nat.reduceLT, Nat.reduceLeDiff, c34]
      refine call_evm (ev_bWB hX (i := 0) 92 (by rfl) (by omega)) ?_
      rintro r2 H2 ⟨rfl, rfl⟩
      simp only [go_sem, Nat.reduceMod, Nat.reduceBNe, Nat.reduceBEq, Nat.reduceEqDiff, Nat.reduceAdd, Int.reduceAdd, Nat.reduceMul, Nat.reduceSub, Int.reduceToNat, Int.reduceLE, Int.reduceLT, Int.reduceEq, Int.reduceNe, reduceCtorEq, Nat.reduceLT, Nat.reduceLeDiff]
      refine call_evm (ev_bWR hX (i := 0) 34 (by decide) (by rfl) (by simp only [List.length_cons, List.length_append, List.length_nil] at hfl ⊢; omega)) ?_
      rintro r2 H2 ⟨rfl, rfl⟩
      simp only [go_sem, Nat.reduceMod, Nat.reduceBNe, Nat.reduceBEq, Nat.reduceEqDiff, Nat.reduceAdd, Int.reduceAdd, Nat.reduceMul, Nat.reduceSub, Int.reduceToNat, Int.reduceLE, Int.reduceLT, Int.reduceEq, Int.reduceNe, reduceCtorEq, Nat.reduceLT, Nat.reduceLeDiff]
      have := fin ([92] ++ enc 34) (by rw [c34]; rfl)
      rw [← List.append_assoc] at this
      exact this
    by_cases c92 : r = 92
    · simp only [go_sem, Nat.reduceMod, Nat.reduceBNe, Nat.reduceBEq, Nat.reduceEqDiff, Nat.reduceAdd, Int.reduceAdd, Nat.reduceMul, Nat.reduceSub, Int.reduceToNat, Int.reduceLE, Int.reduceLT, Int.reduceEq, Int.reduceNe, reduceCtorEq, Nat.reduceLT, Nat.reduceLeDiff, c92]
      refine call_evm (ev_bWB hX (i := 0) 92 (by rfl) (by omega)) ?_
      rintro r2 H2 ⟨rfl, rfl⟩
      simp only [go_sem, Nat.reduceMod, Nat.reduceBNe, Nat.reduceBEq, Nat.reduceEqDiff, Nat.reduceAdd, Int.reduceAdd, Nat.reduceMul, Nat.reduceSub, Int.reduceToNat, Int.reduceLE, Int.reduceLT, Int.reduceEq, Int.reduceNe, reduceCtorEq, Nat.reduceLT, Nat.reduceLeDiff]
      refine call_evm (ev_bWR hX (i := 0) 92 (by decide) (by rfl) (by simp only [List.length_cons, List.length_append, List.length_nil] at hfl ⊢; omega)) ?_
      rintro r2 H2 ⟨rfl, rfl⟩
      simp only [go_sem, Nat.reduceMod, Nat.reduceBNe, Nat.reduceBEq, Nat.reduceEqDiff, Nat.reduceAdd, Int.reduceAdd, Nat.reduceMul, Nat.reduceSub, Int.reduceToNat, Int.reduceLE, Int.reduceLT, Int.reduceEq, Int.reduceNe, reduceCtorEq, Nat.reduceLT, Nat.reduceLeDiff]
      have := fin ([92] ++ enc 92) (by rw [c92]; rfl)
      rw [← List.append_assoc] at this
      exact this
    have n1 : ¬ (r = 34 ∨ r = 92) := fun e => e.elim c34 c92
    by_cases c10 : r = 10
    · simp only [go_sem, Nat.reduceMod, Nat.reduceBNe, Nat.reduceBEq, Nat.reduceEqDiff, Nat.reduceAdd, Int.reduceAdd, Nat.reduceMul, Nat.reduceSub, Int.reduceToNat, Int.reduceLE, Int.reduceLT, Int.reduceEq, Int.reduceNe, reduceCtorEq, Nat.reduceLT, Nat.reduceLeDiff, c10]
      refine call_evm (ev_bWS hX (i := 0) [92, 110] (by rfl) (by simp only [List.length_cons, List.length_nil] at hfl ⊢; omega)) ?_
      rintro r2 H2 ⟨rfl, rfl⟩
      simp only [go_sem, Nat.reduceMod, Nat.reduceBNe, Nat.reduceBEq, Nat.reduceEqDiff, Nat.reduceAdd, Int.reduceAdd, Nat.reduceMul, Nat.reduceSub, Int.reduceToNat, Int.reduceLE, Int.reduceLT, Int.reduceEq, Int.reduceNe, reduceCtorEq, Nat.reduceLT, Nat.reduceLeDiff]
      exact fin [92, 110] (by rw [c10]; rfl)
    by_cases cp : 32 ≤ r ∧ r < 127
    · have e : enc r = escR r := by
        unfold escR; rw [if_neg n1, if_neg c10, if_pos (by omega)]
      simp only [go_sem, Nat.reduceMod, Nat.reduceBNe, Nat.reduceBEq, Nat.reduceEqDiff, Nat.reduceAdd, Int.reduceAdd, Nat.reduceMul, Nat.reduceSub, Int.reduceToNat, Int.reduceLE, Int.reduceLT, Int.reduceEq, Int.reduceNe, reduceCtorEq, Nat.reduceLT, Nat.reduceLeDiff, c34, c92, c10, cp.1, cp.2]
      refine call_evm (ev_bWR hX (i := 0) r hv (by rfl) (by omega)) ?_
      rintro r2 H2 ⟨rfl, rfl⟩
      simp only [go_sem, Nat.reduceMod, Nat.reduceBNe, Nat.reduceBEq, Nat.reduceEqDiff, Nat.reduceAdd, Int.reduceAdd, Nat.reduceMul, Nat.reduceSub, Int.reduceToNat, Int.reduceLE, Int.reduceLT, Int.reduceEq, Int.reduceNe, reduceCtorEq, Nat.reduceLT, Nat.reduceLeDiff]
      exact fin (enc r) e
    · have e : escR r = 92 :: 117 :: (hexs r.toNat ++ [59]) := by
        unfold escR; rw [if_neg n1, if_neg c10, if_neg (by omega)]
      have hlen : (hexs r.toNat).length ≤ 6 := hexs_len 5 r.toNat (by rw [show (16 : Nat) ^ (5 + 1) = 16777216 by rfl]; omega)
      have hw : IntKind.i64.wrap r = ((r.toNat : Nat) : Int) := by rw [wi64 (by omega)]; omega
      have go : ∀ (K : Fr → Heap → Prop) (d : Option Nat) (fr : Fr) (H : Heap), K (fr.updo d (.str (hexs r.toNat))) H → CallOk X F_strconv_FormatInt [.int .i64 ((r.toNat : Nat) : Int), .int .i64 16] d fr H K := fun K d fr H hK => call_ev (ev_FormatHex hX hs hB r.toNat (by omega)) hK
      by_cases c32 : 32 ≤ r
      · have c127 : ¬ r < 127 := fun h => cp ⟨c32, h⟩
        simp only [go_sem, Nat.reduceMod, Nat.reduceBNe, Nat.reduceBEq, Nat.reduceEqDiff, Nat.reduceAdd, Int.reduceAdd, Nat.reduceMul, Nat.reduceSub, Int.reduceToNat, Int.reduceLE, Int.reduceLT, Int.reduceEq, Int.reduceNe, reduceCtorEq, Nat.reduceLT, Nat.reduceLeDiff, c34, c92, c10, c32, c127, hw]
        refine go _ _ _ _ ?_
        simp only [go_sem, Nat.reduceMod, Nat.reduceBNe, Nat.reduceBEq, Nat.reduceEqDiff, Nat.reduceAdd, Int.reduceAdd, Nat.reduceMul, Nat.reduceSub, Int.reduceToNat, Int.reduceLE, Int.reduceLT, Int.reduceEq, Int.reduceNe, reduceCtorEq, Nat.reduceLT, Nat.reduceLeDiff]
        refine ⟨by omega, by omega, ?_⟩
        refine call_evm (ev_bWS hX (i := 0) (92 :: 117 :: (hexs r.toNat ++ [59])) (by rfl) (by simp only [List.length_cons, List.length_append, List.length_nil] at hfl ⊢; omega)) ?_
        rintro r2 H2 ⟨rfl, rfl⟩
        simp only [go_sem, Nat.reduceMod, Nat.reduceBNe, Nat.reduceBEq, Nat.reduceEqDiff, Nat.reduceAdd, Int.reduceAdd, Nat.reduceMul, Nat.reduceSub, Int.reduceToNat, Int.reduceLE, Int.reduceLT, Int.reduceEq, Int.reduceNe, reduceCtorEq, Nat.reduceLT, Nat.reduceLeDiff]
        exact fin _ e.symm
      · simp only [go_sem, Nat.reduceMod, Nat.reduceBNe, Nat.reduceBEq, Nat.reduceEqDiff, Nat.reduceAdd, Int.reduceAdd, Nat.reduceMul, Nat.reduceSub, Int.reduceToNat, Int.reduceLE, Int.reduceLT, Int.reduceEq, Int.reduceNe, reduceCtorEq, Nat.reduceLT, Nat.reduceLeDiff, c34, c92, c10, c32, hw]
        refine go _ _ _ _ ?_
        simp only [go_sem, Nat.reduceMod, Nat.reduceBNe, Nat.reduceBEq, Nat.reduceEqDiff, Nat.reduceAdd, Int.reduceAdd, Nat.reduceMul, Nat.reduceSub, Int.reduceToNat, Int.reduceLE, Int.reduceLT, Int.reduceEq, Int.reduceNe, reduceCtorEq, Nat.reduceLT, Nat.reduceLeDiff]
        refine ⟨by omega, by omega, ?_⟩
        refine call_evm (ev_bWS hX (i := 0) (92 :: 117 :: (hexs r.toNat ++ [59])) (by rfl) (by simp only [List.length_cons, List.length_append, List.length_nil] at hfl ⊢; omega)) ?_
        rintro r2 H2 ⟨rfl, rfl⟩
        simp only [go_sem, Nat.reduceMod, Nat.reduceBNe, Nat.reduceBEq, Nat.reduceEqDiff, Nat.reduceAdd, Int.reduceAdd, Nat.reduceMul, Nat.reduceSub, Int.reduceToNat, Int.reduceLE, Int.reduceLT, Int.reduceEq, Int.reduceNe, reduceCtorEq, Nat.reduceLT, Nat.reduceLeDiff]
        exact fin _ e.symm
  · have he := QI_end hx hq
    have hx4 := hx.2.2.2.1
    have hx1 := hx.1
    simp only [A_lexer_quotedL0, go_sem, Nat.reduceMod, Nat.reduceBNe, Nat.reduceBEq, Nat.reduceEqDiff, Nat.reduceAdd, Int.reduceAdd, Nat.reduceMul, Nat.reduceSub, Int.reduceToNat, Int.reduceLE, Int.reduceLT, Int.reduceEq, Int.reduceNe, reduceCtorEq, Nat.reduceLT, Nat.reduceLeDiff, hq]
    refine call_evm (ev_bWB hX (i := 0) 34 (by rfl) (by rw [List.length_cons]; omega)) ?_
    rintro r2 H2 ⟨rfl, rfl⟩
    simp only [go_sem, Nat.reduceMod, Nat.reduceBNe, Nat.reduceBEq, Nat.reduceEqDiff, Nat.reduceAdd, Int.reduceAdd, Nat.reduceMul, Nat.reduceSub, Int.reduceToNat, Int.reduceLE, Int.reduceLT, Int.reduceEq, Int.reduceNe, reduceCtorEq, Nat.reduceLT, Nat.reduceLeDiff]
    refine call_evm (ev_bString hX (i := 0) (by rfl)) ?_
    rintro r2 H2 ⟨rfl, rfl⟩
    simp only [go_sem, Nat.reduceMod, Nat.reduceBNe, Nat.reduceBEq, Nat.reduceEqDiff, Nat.reduceAdd, Int.reduceAdd, Nat.reduceMul, Nat.reduceSub, Int.reduceToNat, Int.reduceLE, Int.reduceLT, Int.reduceEq, Int.reduceNe, reduceCtorEq, Nat.reduceLT, Nat.reduceLeDiff, he]
    rfl
theorem ev_written (hB : X.G 8 = some tabB) (hP : X.G 3 = some (Lib.pow10Tab.map (AV.int .u64))) (t : Tok) (a b : Int) (hk : 1 ≤ t.kind ∧ t.kind ≤ 9) (hn : I64 t.n) (ht : t.kind = 3 → okT t.s = true) (hl : t.s.length < 1000000) : Ev X F_lexer_written [tkV t a b] (.str (wr t)) := by
  obtain ⟨k, n, s⟩ := t
  dsimp only at hk hn ht hl
  refine ev_of_wpc hs (A_lexer_written_ok hX) 0 ?_
  rcases (by omega : k = 1 ∨ k = 2 ∨ k = 3 ∨ k = 4 ∨ k = 5 ∨ k = 6 ∨ k = 7 ∨ k = 8 ∨ k = 9) with rfl | rfl | rfl | rfl | rfl | rfl | rfl | rfl | rfl
  · simp only [A_lexer_written, tkV, go_sem, Nat.reduceMod, Nat.reduceBNe, Nat.reduceBEq, Nat.reduceEqDiff, Nat.reduceAdd, Int.reduceAdd, Nat.reduceMul, Nat.reduceSub, Int.reduceToNat, Int.reduceLE, Int.reduceLT, Int.reduceEq, Int.reduceNe, reduceCtorEq, Nat.reduceLT, Nat.reduceLeDiff]
    rfl
  · simp only [A_lexer_written, tkV, go_sem, Nat.reduceMod, Nat.reduceBNe, Nat.reduceBEq, Nat.reduceEqDiff, Nat.reduceAdd, Int.reduceAdd, Nat.reduceMul, Nat.reduceSub, Int.reduceToNat, Int.reduceLE, Int.reduceLT, Int.reduceEq, Int.reduceNe, reduceCtorEq, Nat.reduceLT, Nat.reduceLeDiff]
    refine call_ev (ev_FormatInt hX hP n hn) ?_
    simp only [go_sem, Nat.reduceMod, Nat.reduceBNe, Nat.reduceBEq, Nat.reduceEqDiff, Nat.reduceAdd, Int.reduceAdd, Nat.reduceMul, Nat.reduceSub, Int.reduceToNat, Int.reduceLE, Int.reduceLT, Int.reduceEq, Int.reduceNe, reduceCtorEq, Nat.reduceLT, Nat.reduceLeDiff]
    rfl
  · simp only [A_lexer_written, tkV, go_sem, Nat.reduceMod, Nat.reduceBNe, Nat.reduceBEq, Nat.reduceEqDiff, Nat.reduceAdd, Int.reduceAdd, Nat.reduceMul, Nat.reduceSub, Int.reduceToNat, Int.reduceLE, Int.reduceLT, Int.reduceEq, Int.reduceNe, reduceCtorEq, Nat.reduceLT, Nat.reduceLeDiff]
    refine call_ev (ev_quoted hX hs hB s (ht rfl) hl) ?_
    simp only [go_sem, Nat.reduceMod, Nat.reduceBNe, Nat.reduceBEq, Nat.reduceEqDiff, Nat.reduceAdd, Int.reduceAdd, Nat.reduceMul, Nat.reduceSub, Int.reduceToNat, Int.reduceLE, Int.reduceLT, Int.reduceEq, Int.reduceNe, reduceCtorEq, Nat.reduceLT, Nat.reduceLeDiff]
    rfl
  all_goals
    simp only [A_lexer_written, tkV, go_sem, Nat.reduceMod, Nat.reduceBNe, Nat.reduceBEq, Nat.reduceEqDiff, Nat.reduceAdd, Int.reduceAdd, Nat.reduceMul, Nat.reduceSub, Int.reduceToNat, Int.reduceLE, Int.reduceLT, Int.reduceEq, Int.reduceNe, reduceCtorEq, Nat.reduceLT, Nat.reduceLeDiff]
    rfl
end
end Go.Avm

/- Marks; Check; Quote. -/
namespace Go.Avm
open Go Go.Rn Go.Lx
set_option maxRecDepth 10000
theorem hasP_mk (u : List UInt8) (k : Int) (h : (mk k).length ≤ 2) : hasP u (mk k) = decide (u.take (mk k).length = mk k) := by
  unfold hasP
  by_cases e : u.take (mk k).length = mk k
  · have := congrArg List.length e
    rw [List.length_take] at this
    simp [e]; omega
  · simp [e]
theorem mk_len (k : Int) : 1 ≤ (mk k).length ∧ (mk k).length ≤ 2 := by
  unfold mk
  repeat' split
  all_goals decide
section
variable {X : Cx} (hX : X.P = Go.Proofs.Tryz.prog) (hs : Std X) (hN : X.G 2 = some [.int .i64 0, .int .i64 0]) (hB : X.G 8 = some tabB) (hP : X.G 3 = some (Lib.pow10Tab.map (AV.int .u64)))
include hX hs hN hB hP
theorem ev_mark (s : List UInt8) (p : Nat) (G : Heap) (hl : s.length < 1000000) (hp : p < s.length) :
    EvM X F_lexer_reader_mark [.ptr 1 0] (RH s p G) (OutQ s p G (markO (s.drop p))) := by
  refine evM_of_wpc hs (A_lexer_reader_mark_ok hX) ?_
  unfold RH
  simp only [A_lexer_reader_mark, go_sem, Nat.reduceMod, Nat.reduceBNe, Nat.reduceBEq, Nat.reduceEqDiff, Nat.reduceAdd, Int.reduceAdd, Nat.reduceMul, Nat.reduceSub, Int.reduceToNat, Int.reduceLE, Int.reduceLT, Int.reduceEq, Int.reduceNe, reduceCtorEq, Nat.reduceLT, Nat.reduceLeDiff, rdr, List.append_assoc, gx0, gx1, gs0, gs1, gl2]
  have hul : (s.drop p).length = s.length - p := List.length_drop
  have wrt : ∀ k : Nat, 4 ≤ k → k ≤ 9 → Ev X F_lexer_written [.agg [.int .i64 (k : Int), .int .i64 0, .int .i64 0, .int .i64 0, .str []]] (.str (mk k)) := fun k h1 h2 => by
    have := ev_written hX hs hB hP ⟨k, 0, []⟩ 0 0 (by dsimp only; omega) (show I64 0 by unfold I64; decide) (fun e => by dsimp only at e; omega) (by simp)
    rw [wr_mk (by omega)] at this
    exact this
  refine w_loop' hs.hm (ι := Nat) (fun k => 4 ≤ k ∧ k ≤ 10 ∧ ∀ j : Int, 4 ≤ j → j < k → ¬ (s.drop p).take (mk j).length = mk j) (fun k => [(0, .ptr 1 0), (2, .ptr (G.length + 1 + 1) 0), (3, .ptr (G.length + 1 + 1 + 1) 0), (4, .int .i64 k)]) (fun _ => .dead :: .box [.str s, .int .i64 p] :: (G ++ [.box [.int .i64 0, .int .i64 0, .int .i64 0, .int .i64 0, .str []], .box [.int .i64 0, .int .i64 0]])) (fun k => 10 - k) 4 ?_ fun k hk => ?_
  · simp only [go_sem, Nat.reduceMod, Nat.reduceBNe, Nat.reduceBEq, Nat.reduceEqDiff, Nat.reduceAdd, Int.reduceAdd, Nat.reduceMul, Nat.reduceSub, Int.reduceToNat, Int.reduceLE, Int.reduceLT, Int.reduceEq, Int.reduceNe, reduceCtorEq, Nat.reduceLT, Nat.reduceLeDiff]
    intro j h1 h2
    omega
  obtain ⟨k1, k2, k3⟩ := hk
  by_cases hk9 : k ≤ 9
  · have hk9' : (k : Int) ≤ 9 := by omega
    have hml := mk_len k
    simp only [A_lexer_reader_markL0, go_sem, Nat.reduceMod, Nat.reduceBNe, Nat.reduceBEq, Nat.reduceEqDiff, Nat.reduceAdd, Int.reduceAdd, Nat.reduceMul, Nat.reduceSub, Int.reduceToNat, Int.reduceLE, Int.reduceLT, Int.reduceEq, Int.reduceNe, reduceCtorEq, Nat.reduceLT, Nat.reduceLeDiff, gx0, gx1, gs0, gs1, hk9', List.take_length]
    refine ⟨⟨⟨by omega, by omega⟩, by omega⟩, ?_⟩
    refine callq_ev (wrt k k1 hk9) ?_
    simp only [go_sem, Nat.reduceMod, Nat.reduceBNe, Nat.reduceBEq, Nat.reduceEqDiff, Nat.reduceAdd, Int.reduceAdd, Nat.reduceMul, Nat.reduceSub, Int.reduceToNat, Int.reduceLE, Int.reduceLT, Int.reduceEq, Int.reduceNe, reduceCtorEq, Nat.reduceLT, Nat.reduceLeDiff]
    refine callq_ev (ev_HasPrefix hX hs (s.drop p) (mk k) (by omega) (by omega)) ?_
    rw [hasP_mk _ _ hml.2]
    by_cases hh : (s.drop p).take (mk k).length = mk k
    · have hq := markO_hit (u := s.drop p) (k := k) ⟨by omega, by omega⟩ hh
      simp only [hh, decide_true, go_sem, Nat.reduceMod, Nat.reduceBNe, Nat.reduceBEq, Nat.reduceEqDiff, Nat.reduceAdd, Int.reduceAdd, Nat.reduceMul, Nat.reduceSub, Int.reduceToNat, Int.reduceLE, Int.reduceLT, Int.reduceEq, Int.reduceNe, reduceCtorEq, Nat.reduceLT, Nat.reduceLeDiff, gx0, gx1, gs0, gs1]
      refine callq_ev (wrt k k1 hk9) ?_
      have hw : IntKind.i64.wrap ((p : Int) + (mk k).length) = ((p + (mk k).length : Nat) : Int) := by rw [wi64 (by omega)]; omega
      simp only [go_sem, Nat.reduceMod, Nat.reduceBNe, Nat.reduceBEq, Nat.reduceEqDiff, Nat.reduceAdd, Int.reduceAdd, Nat.reduceMul, Nat.reduceSub, Int.reduceToNat, Int.reduceLE, Int.reduceLT, Int.reduceEq, Int.reduceNe, reduceCtorEq, Nat.reduceLT, Nat.reduceLeDiff, gx0, gx1, gs0, gs1, hN, hw]
      refine ⟨[_, _], _, rfl, ?_, fun t n e => ?_⟩
      · rw [hq]; rfl
      · rw [hq] at e; cases e; rfl
    · simp only [hh, decide_false, go_sem, Nat.reduceMod, Nat.reduceBNe, Nat.reduceBEq, Nat.reduceEqDiff, Nat.reduceAdd, Int.reduceAdd, Nat.reduceMul, Nat.reduceSub, Int.reduceToNat, Int.reduceLE, Int.reduceLT, Int.reduceEq, Int.reduceNe, reduceCtorEq, Nat.reduceLT, Nat.reduceLeDiff]
      have hw : IntKind.i64.wrap ((k : Int) + 1) = ((k + 1 : Nat) : Int) := by rw [wi64 (by omega)]; omega
      rw [hw]
      refine ⟨k + 1, by omega, ⟨by omega, by omega, fun j h1 h2 => ?_⟩, rfl⟩
      rcases (by omega : j = (k : Int) ∨ j < k) with rfl | h
      · exact hh
      · exact k3 j h1 h
  · have hk9' : ¬ (k : Int) ≤ 9 := by omega
    have hq := markO_miss (u := s.drop p) fun j h1 h2 => k3 j h1 (by omega)
    simp only [A_lexer_reader_markL0, go_sem, Nat.reduceMod, Nat.reduceBNe, Nat.reduceBEq, Nat.reduceEqDiff, Nat.reduceAdd, Int.reduceAdd, Nat.reduceMul, Nat.reduceSub, Int.reduceToNat, Int.reduceLE, Int.reduceLT, Int.reduceEq, Int.reduceNe, reduceCtorEq, Nat.reduceLT, Nat.reduceLeDiff, gx0, gx1, gs0, gs1, hk9']
    refine ⟨[_, _], _, rfl, ?_, fun t n e => ?_⟩
    · rw [hq]; rfl
    · rw [hq] at e; cases e
omit hN hB hP in
theorem ev_Check (h0 : X.G 0 = some tab0) (h1 : X.G 1 = some tab1) (t : Tok) (a b : Int) (hl : t.s.length ≤ 9223372036854775807) : Ev X F_lexer_Check [tkV t a b] (.int .i64 (chk t)) := by
  obtain ⟨k, n, s⟩ := t
  dsimp only at hl
  refine ev_of_wpcD hs (A_lexer_Check_ok hX) 0 ?_
  by_cases hk1 : k < 1
  · have e : chk ⟨k, n, s⟩ = 2 := by unfold chk; rw [if_pos (.inl hk1)]
    rw [e]
    have k1 : ¬ k = 1 := by omega
    have k2 : ¬ k = 2 := by omega
    have k3 : ¬ k = 3 := by omega
    simp only [A_lexer_Check, tkV, go_sem, Nat.reduceMod, Nat.reduceBNe, Nat.reduceBEq, Nat.reduceEqDiff, Nat.reduceAdd, Int.reduceAdd, Nat.reduceMul, Nat.reduceSub, Int.reduceToNat, Int.reduceLE, Int.reduceLT, Int.reduceEq, Int.reduceNe, reduceCtorEq, Nat.reduceLT, Nat.reduceLeDiff, k1, k2, k3, hk1]
  by_cases hk9 : 9 < k
  · have e : chk ⟨k, n, s⟩ = 2 := by unfold chk; rw [if_pos (.inr (.inl hk9))]
    rw [e]
    have k1 : ¬ k = 1 := by omega
    have k2 : ¬ k = 2 := by omega
    have k3 : ¬ k = 3 := by omega
    simp only [A_lexer_Check, tkV, go_sem, Nat.reduceMod, Nat.reduceBNe, Nat.reduceBEq, Nat.reduceEqDiff, Nat.reduceAdd, Int.reduceAdd, Nat.reduceMul, Nat.reduceSub, Int.reduceToNat, Int.reduceLE, Int.reduceLT, Int.reduceEq, Int.reduceNe, reduceCtorEq, Nat.reduceLT, Nat.reduceLeDiff, k1, k2, k3, hk1, hk9]
  rcases (by omega : k = 1 ∨ k = 2 ∨ k = 3 ∨ k = 4 ∨ k = 5 ∨ k = 6 ∨ k = 7 ∨ k = 8 ∨ k = 9) with rfl | rfl | rfl | rfl | rfl | rfl | rfl | rfl | rfl
  · rw [chk_1]
    simp only [A_lexer_Check, tkV, go_sem, Nat.reduceMod, Nat.reduceBNe, Nat.reduceBEq, Nat.reduceEqDiff, Nat.reduceAdd, Int.reduceAdd, Nat.reduceMul, Nat.reduceSub, Int.reduceToNat, Int.reduceLE, Int.reduceLT, Int.reduceEq, Int.reduceNe, reduceCtorEq, Nat.reduceLT, Nat.reduceLeDiff]
    refine ⟨fun e => by rw [if_pos (by simpa using e)], fun e => ?_⟩
    rw [if_neg (by simpa using e)]
    refine callq_evm (d := _) (h := ev_classG hX hs 3 s _ 0 _ (by rfl) hl (by decide)) ?_
    have hcl : clsAt s 0 = 8 ↔ ltr (s.getD 0 0) = true := by
      rw [← cls_ltr, decide_eq_true_eq]
      unfold clsAt
      split
      · rfl
      · rename_i hge
        have e0 : s.getD 0 0 = 0 := by simp [List.getD_eq_getElem?_getD, List.getElem?_eq_none (Nat.le_of_not_lt hge)]
        rw [e0]; decide
    by_cases h8 : clsAt s 0 = 8
    · simp only [go_sem, Nat.reduceMod, Nat.reduceBNe, Nat.reduceBEq, Nat.reduceEqDiff, Nat.reduceAdd, Int.reduceAdd, Nat.reduceMul, Nat.reduceSub, Int.reduceToNat, Int.reduceLE, Int.reduceLT, Int.reduceEq, Int.reduceNe, reduceCtorEq, Nat.reduceLT, Nat.reduceLeDiff, h8]
      refine ⟨_, _, callB_of (i := 3) (cs := [.str s, .int .i64 0]) (b := [.str s, .int .i64 ((0 + cnt (clP 8 6) (s.drop 0) : Nat) : Int)]) (by rfl) (fun H2 hh => ev_whileG hX hs 3 s 0 8 6 H2 hh hl (Nat.zero_le _) (by decide)) (by rfl), ?_⟩
      have hall : decide (s.take (cnt al s) = s) = s.all al := by
        have hle := cnt_le al s
        rw [Bool.eq_iff_iff, decide_eq_true_eq]
        constructor
        · intro e
          rw [← e]
          exact List.all_eq_true.2 fun c hc => cnt_all al s c hc
        · intro e
          have := all_cnt (v := []) e rfl
          rw [List.append_nil] at this
          rw [this, List.take_length]
      rw [show clP 8 6 = al from funext cls_al, List.drop_zero]
      simp only [go_sem, Nat.reduceMod, Nat.reduceBNe, Nat.reduceBEq, Nat.reduceEqDiff, Nat.reduceAdd, Int.reduceAdd, Nat.reduceMul, Nat.reduceSub, Int.reduceToNat, Int.reduceLE, Int.reduceLT, Int.reduceEq, Int.reduceNe, reduceCtorEq, Nat.reduceLT, Nat.reduceLeDiff]
      have hn : nmd s = s.all al := by unfold nmd; rw [hcl.1 h8, Bool.true_and]
      rw [hn, ← hall]
      by_cases hh : s.take (cnt al s) = s
      · simp only [hh, decide_true, not_true_eq_false, false_implies, true_and, not_false_eq_true, true_implies]
        refine ⟨fun h => ?_, fun h => ?_⟩
        · rw [if_neg (by simp), if_pos (by omega)]
        · rw [if_neg (by simp), if_neg (by omega)]
      · simp only [hh, decide_false, not_true_eq_false, false_implies, and_true, not_false_eq_true, true_implies]
        simp
    · have hn : nmd s = false := by
        unfold nmd
        cases hq : ltr (s.getD 0 0) with
        | true => exact absurd (hcl.2 hq) h8
        | false => rfl
      simp only [go_sem, Nat.reduceMod, Nat.reduceBNe, Nat.reduceBEq, Nat.reduceEqDiff, Nat.reduceAdd, Int.reduceAdd, Nat.reduceMul, Nat.reduceSub, Int.reduceToNat, Int.reduceLE, Int.reduceLT, Int.reduceEq, Int.reduceNe, reduceCtorEq, Nat.reduceLT, Nat.reduceLeDiff, h8, hn]
  · rw [chk_2]
    simp only [A_lexer_Check, tkV, go_sem, Nat.reduceMod, Nat.reduceBNe, Nat.reduceBEq, Nat.reduceEqDiff, Nat.reduceAdd, Int.reduceAdd, Nat.reduceMul, Nat.reduceSub, Int.reduceToNat, Int.reduceLE, Int.reduceLT, Int.reduceEq, Int.reduceNe, reduceCtorEq, Nat.reduceLT, Nat.reduceLeDiff]
    refine ⟨fun e => by rw [if_neg (by simpa using e)], fun e => ?_⟩
    have e : s = [] := by simpa using e
    subst e
    simp
  · rw [chk_3]
    simp only [A_lexer_Check, tkV, go_sem, Nat.reduceMod, Nat.reduceBNe, Nat.reduceBEq, Nat.reduceEqDiff, Nat.reduceAdd, Int.reduceAdd, Nat.reduceMul, Nat.reduceSub, Int.reduceToNat, Int.reduceLE, Int.reduceLT, Int.reduceEq, Int.reduceNe, reduceCtorEq, Nat.reduceLT, Nat.reduceLeDiff]
    refine ⟨fun e => by rw [if_pos (by simpa using e)], fun e => ?_⟩
    rw [if_neg (by simpa using e)]
    refine call_ev (ev_ValidStringG hX h0 h1 s hl) ?_
    cases hv : okT s with
    | true =>
      simp only [go_sem, Nat.reduceMod, Nat.reduceBNe, Nat.reduceBEq, Nat.reduceEqDiff, Nat.reduceAdd, Int.reduceAdd, Nat.reduceMul, Nat.reduceSub, Int.reduceToNat, Int.reduceLE, Int.reduceLT, Int.reduceEq, Int.reduceNe, reduceCtorEq, Nat.reduceLT, Nat.reduceLeDiff]
      refine ⟨fun h => ?_, fun h => ?_⟩
      · rw [if_pos (by omega)]
      · rw [if_neg (by omega)]
    | false =>
      simp only [go_sem, Nat.reduceMod, Nat.reduceBNe, Nat.reduceBEq, Nat.reduceEqDiff, Nat.reduceAdd, Int.reduceAdd, Nat.reduceMul, Nat.reduceSub, Int.reduceToNat, Int.reduceLE, Int.reduceLT, Int.reduceEq, Int.reduceNe, reduceCtorEq, Nat.reduceLT, Nat.reduceLeDiff]
  all_goals
    rw [chk_k (by decide)]
    simp only [A_lexer_Check, tkV, go_sem, Nat.reduceMod, Nat.reduceBNe, Nat.reduceBEq, Nat.reduceEqDiff, Nat.reduceAdd, Int.reduceAdd, Nat.reduceMul, Nat.reduceSub, Int.reduceToNat, Int.reduceLE, Int.reduceLT, Int.reduceEq, Int.reduceNe, reduceCtorEq, Nat.reduceLT, Nat.reduceLeDiff]
    by_cases hn : n = 0 <;> by_cases hs0 : s = [] <;> simp [hn, hs0]
end
end Go.Avm

/- Line. -/
namespace Go.Avm
open Go Go.Rn Go.Lx
set_option maxRecDepth 10000
instance : Inhabited Tok := ⟨⟨0, 0, []⟩⟩
def ptV (x : PT) : AV := tkV x.1 (x.2.1 : Nat) (x.2.2 : Nat)
instance : Elt ptV 5 := ⟨fun _ => rfl, fun _ => rfl, fun _ => rfl, fun _ => rfl⟩
end Go.Avm
namespace Go.Lx
def LR.pre (l : List PT) : LR → LR
  | .ok m => .ok (l ++ m)
  | .bad d e => .bad d e
end Go.Lx
namespace Go.Avm
open Go Go.Rn Go.Lx
set_option maxRecDepth 10000
theorem pre_cons (l : List PT) (x : PT) (r : LR) : (r.cons x).pre l = r.pre (l ++ [x]) := by
  cases r <;> simp [LR.pre, LR.cons]
structure LS where
  p : Nat
  l : List PT
  G : Heap
def LI (s : List UInt8) (x : LS) : Prop := x.p ≤ s.length ∧ x.l.length ≤ x.p ∧ lexS 0 0 s = (lexS 0 x.p (s.drop x.p)).pre x.l
def lineV (x : List PT × Nat × Int) : AV := .tuple [lst ptV .ro x.1, .int .i64 (x.2.1 : Nat), .int .i64 x.2.2]
theorem cls_more : ∀ n : Nat, n < 256 → (decide (classI n = 1) = decide (n = 32)) ∧ (decide (classI n = 7) = decide (n = 45)) ∧ (decide (classI n = 5) = decide (n = 34)) ∧ decide (classI n = 6) = (decide (48 ≤ n) && decide (n ≤ 57)) := by decide +kernel
theorem ev_of_wpcDd {X : Cx} (hs : Std X) {f : FuncId} {hint : Nat → Bool} {af : AFun} (hc : compileFun X.P f hint = some af) {args : List AV} {r : AV} (k : Nat)
    (h : wpc X af.n af.code (kq X af.n (RetIs af.res fun r' H' => dry (fin H' k r') = r) []) (FL.get (args.zipIdx.map fun p => (p.2, p.1))) [.dead]) : Ev X f args r := by
  have h0 := (evM_of_wpcD (Hin := []) hs hc h).evF
  exact ⟨h0.1, fun g w vs h1 h2 h3 => (h0.2 g w vs h1 h2 h3).mono fun e w' ⟨v, r', g', H', k1, k2, k3, k4, k5, k6⟩ => by
    subst k6
    exact ⟨v, _, finG g' w', [], k1, finG_flat ▸ dry_rel _ (fin_rel k4 k r' k2), finG_wf k3, hr_nil (fun _ => rfl) (fun _ => rfl) (fun _ => rfl), k5.trans finG_ext, rfl, rfl⟩⟩
section
variable {X : Cx} (hX : X.P = Go.Proofs.Tryz.prog) (hs : Std X) (hN : X.G 2 = some [.int .i64 0, .int .i64 0]) (hB : X.G 8 = some tabB) (hP : X.G 3 = some (Lib.pow10Tab.map (AV.int .u64))) {te te' : Nat} (hR : X.G 5 = some [.ifc te .undef]) (hR4 : X.G 4 = some [.ifc te' .undef])
include hX hs hN hB hP hR hR4
set_option maxHeartbeats 4000000 in
theorem ev_Line (s : List UInt8) (hl : s.length < 1000000) : Ev X F_lexer_Line [.str s] (lineV (lineR s)) := by
  refine ev_of_wpcDd hs (A_lexer_Line_ok hX) 0 ?_
  simp only [A_lexer_Line, go_sem, Nat.reduceMod, Nat.reduceBNe, Nat.reduceBEq, Nat.reduceEqDiff, Nat.reduceAdd, Int.reduceAdd, Nat.reduceMul, Nat.reduceSub, Int.reduceToNat, Int.reduceLE, Int.reduceLT, Int.reduceEq, Int.reduceNe, reduceCtorEq, Nat.reduceLT, Nat.reduceLeDiff]
  refine ⟨fun h => ?_, fun h => ?_⟩
  · unfold lineR
    rw [if_pos (by omega)]
    rfl
  · have hl2 : s.length ≤ 2000 := by omega
    refine w_loop hs.hm (ι := LS) (LI s) (fun x => [(0, .str s), (2, lst ptV (.tok 2 5) x.l), (5, .ptr 1 0)]) (fun x => .dead :: .box [.str s, .int .i64 x.p] :: .tok x.l.length :: x.G) (fun x => s.length - x.p) ⟨0, [], []⟩ ⟨⟨Nat.zero_le _, Nat.le_refl _, ?_⟩, _, _, wk_tok 2 5 rfl, ⟨by simp only [go_sem, Nat.reduceMod, Nat.reduceBNe, Nat.reduceBEq, Nat.reduceEqDiff, Nat.reduceAdd, Int.reduceAdd, Nat.reduceMul, Nat.reduceSub, Int.reduceToNat, Int.reduceLE, Int.reduceLT, Int.reduceEq, Int.reduceNe, reduceCtorEq, Nat.reduceLT, Nat.reduceLeDiff]; rfl, rfl⟩⟩ fun x hx => ?_
    · dsimp only
      rw [List.drop_zero]
      cases lexS 0 0 s <;> rfl
    obtain ⟨p, l, G⟩ := x
    obtain ⟨x1, x2, x3⟩ := hx
    dsimp only at x1 x2 x3 ⊢
    by_cases hp : p < s.length
    · have hp' : (p : Int) < s.length := by omega
      obtain ⟨c, v, hv⟩ : ∃ c v, s.drop p = c :: v := by
        cases hd : s.drop p with
        | nil => have := congrArg List.length hd; rw [List.length_drop] at this; simp at this; omega
        | cons y v => exact ⟨y, v, rfl⟩
      have hcg : s.getD p 0 = c := by
        have := congrArg (fun l => List.getD l 0 0) hv
        simpa [List.getD_eq_getElem?_getD, List.getElem?_drop] using this
      have hcl : clsAt s p = classI (c.toNat : Int) := by unfold clsAt; rw [if_pos hp, hcg]
      have hct := c.toNat_lt
      have hcm := cls_more c.toNat hct
      have hc8 := cls_ltr c
      rw [← hcl] at hcm hc8
      simp only [A_lexer_LineL0, go_sem, Nat.reduceMod, Nat.reduceBNe, Nat.reduceBEq, Nat.reduceEqDiff, Nat.reduceAdd, Int.reduceAdd, Nat.reduceMul, Nat.reduceSub, Int.reduceToNat, Int.reduceLE, Int.reduceLT, Int.reduceEq, Int.reduceNe, reduceCtorEq, Nat.reduceLT, Nat.reduceLeDiff, hp']
      refine call_evm (ev_class hX hs 1 s _ p _ (by rfl) hl (by omega)) ?_
      rintro r H' ⟨rfl, rfl⟩
      by_cases c32 : c = 32
      · have e1 : clsAt s p = 1 := by
          have := hcm.1; rw [decide_eq_decide] at this; exact this.2 (by rw [c32]; rfl)
        have hw : IntKind.i64.wrap ((p : Int) + 1) = ((p + 1 : Nat) : Int) := by rw [wi64 (by omega)]; omega
        simp only [go_sem, Nat.reduceMod, Nat.reduceBNe, Nat.reduceBEq, Nat.reduceEqDiff, Nat.reduceAdd, Int.reduceAdd, Nat.reduceMul, Nat.reduceSub, Int.reduceToNat, Int.reduceLE, Int.reduceLT, Int.reduceEq, Int.reduceNe, reduceCtorEq, Nat.reduceLT, Nat.reduceLeDiff, e1, hw]
        refine ⟨⟨p + 1, l, G⟩, by dsimp only; omega, ⟨by dsimp only; omega, by dsimp only; omega, ?_⟩, rfl, rfl⟩
        dsimp only
        rw [x3, hv, c32, lex_blank]
        have : s.drop (p + 1) = v := by rw [← List.drop_drop, hv]; rfl
        rw [this]
      have n1 : ¬ clsAt s p = 1 := fun e => c32 (by
        have := hcm.1; rw [decide_eq_decide] at this
        exact UInt8.toNat_inj.1 ((this.1 e).trans rfl))
      have tail_bad : ∀ (d : Nat) (e : Int), tokO (c :: v) = .bad d e → AV.tuple [.sl .ro [], .int .i64 ((p + d : Nat) : Int), .int .i64 e] = lineV (lineR s) := fun d e hto => by
        unfold lineR
        rw [if_neg (by omega), x3, hv, lex_bad c32 hto]
        rfl
      have nextI : ∀ (t : Tok) (k : Nat) (G3 : Heap), tokO (c :: v) = .ok t k → 1 ≤ k → p + k ≤ s.length → LI s ⟨p + k, l ++ [(t, p, p + k)], G3⟩ := fun t k G3 hto h1 h2 => by
        refine ⟨h2, by dsimp only; rw [List.length_append, List.length_singleton]; omega, ?_⟩
        dsimp only
        rw [x3, hv, lex_tok c32 hto, pre_cons, ← List.drop_drop, hv]
      by_cases cl : ltr c = true
      · have e1 : clsAt s p = 8 := by rw [cl, decide_eq_true_eq] at hc8; exact hc8
        have ht : tokO (c :: v) = wordO (c :: v) := by unfold tokO; rw [List.getD_cons_zero, if_pos cl]
        simp only [go_sem, Nat.reduceMod, Nat.reduceBNe, Nat.reduceBEq, Nat.reduceEqDiff, Nat.reduceAdd, Int.reduceAdd, Nat.reduceMul, Nat.reduceSub, Int.reduceToNat, Int.reduceLE, Int.reduceLT, Int.reduceEq, Int.reduceNe, reduceCtorEq, Nat.reduceLT, Nat.reduceLeDiff, e1]
        refine call_evm (ev_word hX hs hN s p (.tok l.length :: G) hl hp) ?_
        rintro r H2 ⟨G2, p2, rfl, rfl, hp2⟩
        rw [hv, ← ht] at hp2
        rw [hv, ← ht]
        have hRH : RH s p2 (.tok l.length :: G ++ G2) = .dead :: .box [.str s, .int .i64 p2] :: .tok l.length :: (G ++ G2) := rfl
        rw [hRH]
        generalize G ++ G2 = G3
        cases hto : tokO (c :: v) with
        | ok t k =>
          have hst := tok_stab (by simp) hto
          have hp2 := hp2 t k hto
          subst hp2
          have hkl : p + k ≤ s.length := by
            have := congrArg List.length hv
            rw [List.length_drop] at this
            omega
          simp only [outV, tkV, go_sem, Nat.reduceMod, Nat.reduceBNe, Nat.reduceBEq, Nat.reduceEqDiff, Nat.reduceAdd, Int.reduceAdd, Nat.reduceMul, Nat.reduceSub, Int.reduceToNat, Int.reduceLE, Int.reduceLT, Int.reduceEq, Int.reduceNe, reduceCtorEq, Nat.reduceLT, Nat.reduceLeDiff, List.append_assoc, List.cons_append, gx0, gx1, gs0, gs1, gl2]
          rw [show [AV.agg [AV.int .i64 t.kind, AV.int .i64 (p : Nat), AV.int .i64 ((p + k : Nat) : Int), AV.int .i64 t.n, AV.str t.s]] = [((t, p, p + k) : PT)].map ptV from rfl, ax_tok]
          simp only [go_sem, Nat.reduceMod, Nat.reduceBNe, Nat.reduceBEq, Nat.reduceEqDiff, Nat.reduceAdd, Int.reduceAdd, Nat.reduceMul, Nat.reduceSub, Int.reduceToNat, Int.reduceLE, Int.reduceLT, Int.reduceEq, Int.reduceNe, reduceCtorEq, Nat.reduceLT, Nat.reduceLeDiff, List.length_append]
          refine ⟨⟨by omega, by omega⟩, ⟨p + k, l ++ [(t, p, p + k)], G3 ++ [.box [.int .i64 t.kind, .int .i64 (p : Nat), .int .i64 ((p + k : Nat) : Int), .int .i64 t.n, .str t.s], .box [.int .i64 0, .int .i64 0]]⟩, by dsimp only; omega, nextI t k _ hto hst.1 hkl, rfl, ?_⟩
          dsimp only
          rw [List.length_append]; rfl
        | bad d e =>
          have hbd := tok_bad (by simp) hto
          have hne : ¬ e = 0 := by omega
          simp only [outV, tkV, go_sem, Nat.reduceMod, Nat.reduceBNe, Nat.reduceBEq, Nat.reduceEqDiff, Nat.reduceAdd, Int.reduceAdd, Nat.reduceMul, Nat.reduceSub, Int.reduceToNat, Int.reduceLE, Int.reduceLT, Int.reduceEq, Int.reduceNe, reduceCtorEq, Nat.reduceLT, Nat.reduceLeDiff, List.append_assoc, List.cons_append, gx0, gx1, gs0, gs1, gl2, hne]
          exact tail_bad d e hto
      have n8 : ¬ clsAt s p = 8 := fun e => by rw [e] at hc8; exact cl hc8.symm
      have cl' : ¬ ltr ((c :: v).getD 0 0) = true := cl
      by_cases cd : dg c = true
      · have e1 : clsAt s p = 6 := by have h6 := hcm.2.2.2; rw [show (decide (48 ≤ c.toNat) && decide (c.toNat ≤ 57)) = dg c from rfl, cd, decide_eq_true_eq] at h6; exact h6
        have ht : tokO (c :: v) = numO (c :: v) := by unfold tokO; rw [if_neg cl', if_pos (by rw [List.getD_cons_zero, cd]; rfl)]
        simp only [go_sem, Nat.reduceMod, Nat.reduceBNe, Nat.reduceBEq, Nat.reduceEqDiff, Nat.reduceAdd, Int.reduceAdd, Nat.reduceMul, Nat.reduceSub, Int.reduceToNat, Int.reduceLE, Int.reduceLT, Int.reduceEq, Int.reduceNe, reduceCtorEq, Nat.reduceLT, Nat.reduceLeDiff, e1]
        refine call_evm (ev_num hX hs hN hR s p (.tok l.length :: G) hl hp) ?_
        rintro r H2 ⟨G2, p2, rfl, rfl, hp2⟩
        rw [hv, ← ht] at hp2
        rw [hv, ← ht]
        have hRH : RH s p2 (.tok l.length :: G ++ G2) = .dead :: .box [.str s, .int .i64 p2] :: .tok l.length :: (G ++ G2) := rfl
        rw [hRH]
        generalize G ++ G2 = G3
        cases hto : tokO (c :: v) with
        | ok t k =>
          have hst := tok_stab (by simp) hto
          have hp2 := hp2 t k hto
          subst hp2
          have hkl : p + k ≤ s.length := by
            have := congrArg List.length hv
            rw [List.length_drop] at this
            omega
          simp only [outV, tkV, go_sem, Nat.reduceMod, Nat.reduceBNe, Nat.reduceBEq, Nat.reduceEqDiff, Nat.reduceAdd, Int.reduceAdd, Nat.reduceMul, Nat.reduceSub, Int.reduceToNat, Int.reduceLE, Int.reduceLT, Int.reduceEq, Int.reduceNe, reduceCtorEq, Nat.reduceLT, Nat.reduceLeDiff, List.append_assoc, List.cons_append, gx0, gx1, gs0, gs1, gl2]
          rw [show [AV.agg [AV.int .i64 t.kind, AV.int .i64 (p : Nat), AV.int .i64 ((p + k : Nat) : Int), AV.int .i64 t.n, AV.str t.s]] = [((t, p, p + k) : PT)].map ptV from rfl, ax_tok]
          simp only [go_sem, Nat.reduceMod, Nat.reduceBNe, Nat.reduceBEq, Nat.reduceEqDiff, Nat.reduceAdd, Int.reduceAdd, Nat.reduceMul, Nat.reduceSub, Int.reduceToNat, Int.reduceLE, Int.reduceLT, Int.reduceEq, Int.reduceNe, reduceCtorEq, Nat.reduceLT, Nat.reduceLeDiff, List.length_append]
          refine ⟨⟨by omega, by omega⟩, ⟨p + k, l ++ [(t, p, p + k)], G3 ++ [.box [.int .i64 t.kind, .int .i64 (p : Nat), .int .i64 ((p + k : Nat) : Int), .int .i64 t.n, .str t.s], .box [.int .i64 0, .int .i64 0]]⟩, by dsimp only; omega, nextI t k _ hto hst.1 hkl, rfl, ?_⟩
          dsimp only
          rw [List.length_append]; rfl
        | bad d e =>
          have hbd := tok_bad (by simp) hto
          have hne : ¬ e = 0 := by omega
          simp only [outV, tkV, go_sem, Nat.reduceMod, Nat.reduceBNe, Nat.reduceBEq, Nat.reduceEqDiff, Nat.reduceAdd, Int.reduceAdd, Nat.reduceMul, Nat.reduceSub, Int.reduceToNat, Int.reduceLE, Int.reduceLT, Int.reduceEq, Int.reduceNe, reduceCtorEq, Nat.reduceLT, Nat.reduceLeDiff, List.append_assoc, List.cons_append, gx0, gx1, gs0, gs1, gl2, hne]
          exact tail_bad d e hto
      have n6 : ¬ clsAt s p = 6 := fun e => cd (by
        have h6 := hcm.2.2.2
        rw [show (decide (48 ≤ c.toNat) && decide (c.toNat ≤ 57)) = dg c from rfl, e] at h6
        exact h6.symm)
      by_cases c45 : c = 45
      · have e1 : clsAt s p = 7 := by have h7 := hcm.2.1; rw [decide_eq_decide] at h7; exact h7.2 (by rw [c45]; rfl)
        have ht : tokO (c :: v) = numO (c :: v) := by unfold tokO; rw [if_neg cl', if_pos (by rw [List.getD_cons_zero, c45]; rfl)]
        simp only [go_sem, Nat.reduceMod, Nat.reduceBNe, Nat.reduceBEq, Nat.reduceEqDiff, Nat.reduceAdd, Int.reduceAdd, Nat.reduceMul, Nat.reduceSub, Int.reduceToNat, Int.reduceLE, Int.reduceLT, Int.reduceEq, Int.reduceNe, reduceCtorEq, Nat.reduceLT, Nat.reduceLeDiff, e1]
        refine call_evm (ev_num hX hs hN hR s p (.tok l.length :: G) hl hp) ?_
        rintro r H2 ⟨G2, p2, rfl, rfl, hp2⟩
        rw [hv, ← ht] at hp2
        rw [hv, ← ht]
        have hRH : RH s p2 (.tok l.length :: G ++ G2) = .dead :: .box [.str s, .int .i64 p2] :: .tok l.length :: (G ++ G2) := rfl
        rw [hRH]
        generalize G ++ G2 = G3
        cases hto : tokO (c :: v) with
        | ok t k =>
          have hst := tok_stab (by simp) hto
          have hp2 := hp2 t k hto
          subst hp2
          have hkl : p + k ≤ s.length := by
            have := congrArg List.length hv
            rw [List.length_drop] at this
            omega
          simp only [outV, tkV, go_sem, Nat.reduceMod, Nat.reduceBNe, Nat.reduceBEq, Nat.reduceEqDiff, Nat.reduceAdd, Int.reduceAdd, Nat.reduceMul, Nat.reduceSub, Int.reduceToNat, Int.reduceLE, Int.reduceLT, Int.reduceEq, Int.reduceNe, reduceCtorEq, Nat.reduceLT, Nat.reduceLeDiff, List.append_assoc, List.cons_append, gx0, gx1, gs0, gs1, gl2]
          rw [show [AV.agg [AV.int .i64 t.kind, AV.int .i64 (p : Nat), AV.int .i64 ((p + k : Nat) : Int), AV.int .i64 t.n, AV.str t.s]] = [((t, p, p + k) : PT)].map ptV from rfl, ax_tok]
          simp only [go_sem, Nat.reduceMod, Nat.reduceBNe, Nat.reduceBEq, Nat.reduceEqDiff, Nat.reduceAdd, Int.reduceAdd, Nat.reduceMul, Nat.reduceSub, Int.reduceToNat, Int.reduceLE, Int.reduceLT, Int.reduceEq, Int.reduceNe, reduceCtorEq, Nat.reduceLT, Nat.reduceLeDiff, List.length_append]
          refine ⟨⟨by omega, by omega⟩, ⟨p + k, l ++ [(t, p, p + k)], G3 ++ [.box [.int .i64 t.kind, .int .i64 (p : Nat), .int .i64 ((p + k : Nat) : Int), .int .i64 t.n, .str t.s], .box [.int .i64 0, .int .i64 0]]⟩, by dsimp only; omega, nextI t k _ hto hst.1 hkl, rfl, ?_⟩
          dsimp only
          rw [List.length_append]; rfl
        | bad d e =>
          have hbd := tok_bad (by simp) hto
          have hne : ¬ e = 0 := by omega
          simp only [outV, tkV, go_sem, Nat.reduceMod, Nat.reduceBNe, Nat.reduceBEq, Nat.reduceEqDiff, Nat.reduceAdd, Int.reduceAdd, Nat.reduceMul, Nat.reduceSub, Int.reduceToNat, Int.reduceLE, Int.reduceLT, Int.reduceEq, Int.reduceNe, reduceCtorEq, Nat.reduceLT, Nat.reduceLeDiff, List.append_assoc, List.cons_append, gx0, gx1, gs0, gs1, gl2, hne]
          exact tail_bad d e hto
      have n7 : ¬ clsAt s p = 7 := fun e => c45 (by
        have h7 := hcm.2.1; rw [decide_eq_decide] at h7
        exact UInt8.toNat_inj.1 ((h7.1 e).trans rfl))
      have nd : ¬ (dg ((c :: v).getD 0 0) || decide ((c :: v).getD 0 0 = 45)) = true := by
        rw [List.getD_cons_zero]
        simp only [Bool.or_eq_true, decide_eq_true_eq]
        exact fun e => e.elim cd c45
      by_cases c34 : c = 34
      · have e1 : clsAt s p = 5 := by have h5 := hcm.2.2.1; rw [decide_eq_decide] at h5; exact h5.2 (by rw [c34]; rfl)
        have ht : tokO (c :: v) = textO (c :: v) := by unfold tokO; rw [if_neg cl', if_neg nd, if_pos (by rw [List.getD_cons_zero, c34])]
        simp only [go_sem, Nat.reduceMod, Nat.reduceBNe, Nat.reduceBEq, Nat.reduceEqDiff, Nat.reduceAdd, Int.reduceAdd, Nat.reduceMul, Nat.reduceSub, Int.reduceToNat, Int.reduceLE, Int.reduceLT, Int.reduceEq, Int.reduceNe, reduceCtorEq, Nat.reduceLT, Nat.reduceLeDiff, e1]
        refine call_evm (ev_text hX hs hN hR4 s p (.tok l.length :: G) hl hp (by rw [hcg, c34])) ?_
        rintro r H2 ⟨G2, p2, rfl, rfl, hp2⟩
        rw [hv, ← ht] at hp2
        rw [hv, ← ht]
        have hRH : RH s p2 (.tok l.length :: G ++ G2) = .dead :: .box [.str s, .int .i64 p2] :: .tok l.length :: (G ++ G2) := rfl
        rw [hRH]
        generalize G ++ G2 = G3
        cases hto : tokO (c :: v) with
        | ok t k =>
          have hst := tok_stab (by simp) hto
          have hp2 := hp2 t k hto
          subst hp2
          have hkl : p + k ≤ s.length := by
            have := congrArg List.length hv
            rw [List.length_drop] at this
            omega
          simp only [outV, tkV, go_sem, Nat.reduceMod, Nat.reduceBNe, Nat.reduceBEq, Nat.reduceEqDiff, Nat.reduceAdd, Int.reduceAdd, Nat.reduceMul, Nat.reduceSub, Int.reduceToNat, Int.reduceLE, Int.reduceLT, Int.reduceEq, Int.reduceNe, reduceCtorEq, Nat.reduceLT, Nat.reduceLeDiff, List.append_assoc, List.cons_append, gx0, gx1, gs0, gs1, gl2]
          rw [show [AV.agg [AV.int .i64 t.kind, AV.int .i64 (p : Nat), AV.int .i64 ((p + k : Nat) : Int), AV.int .i64 t.n, AV.str t.s]] = [((t, p, p + k) : PT)].map ptV from rfl, ax_tok]
          simp only [go_sem, Nat.reduceMod, Nat.reduceBNe, Nat.reduceBEq, Nat.reduceEqDiff, Nat.reduceAdd, Int.reduceAdd, Nat.reduceMul, Nat.reduceSub, Int.reduceToNat, Int.reduceLE, Int.reduceLT, Int.reduceEq, Int.reduceNe, reduceCtorEq, Nat.reduceLT, Nat.reduceLeDiff, List.length_append]
          refine ⟨⟨by omega, by omega⟩, ⟨p + k, l ++ [(t, p, p + k)], G3 ++ [.box [.int .i64 t.kind, .int .i64 (p : Nat), .int .i64 ((p + k : Nat) : Int), .int .i64 t.n, .str t.s], .box [.int .i64 0, .int .i64 0]]⟩, by dsimp only; omega, nextI t k _ hto hst.1 hkl, rfl, ?_⟩
          dsimp only
          rw [List.length_append]; rfl
        | bad d e =>
          have hbd := tok_bad (by simp) hto
          have hne : ¬ e = 0 := by omega
          simp only [outV, tkV, go_sem, Nat.reduceMod, Nat.reduceBNe, Nat.reduceBEq, Nat.reduceEqDiff, Nat.reduceAdd, Int.reduceAdd, Nat.reduceMul, Nat.reduceSub, Int.reduceToNat, Int.reduceLE, Int.reduceLT, Int.reduceEq, Int.reduceNe, reduceCtorEq, Nat.reduceLT, Nat.reduceLeDiff, List.append_assoc, List.cons_append, gx0, gx1, gs0, gs1, gl2, hne]
          exact tail_bad d e hto
      have n5 : ¬ clsAt s p = 5 := fun e => c34 (by
        have h5 := hcm.2.2.1; rw [decide_eq_decide] at h5
        exact UInt8.toNat_inj.1 ((h5.1 e).trans rfl))
      have e1 : True := trivial
      have ht : tokO (c :: v) = markO (c :: v) := by unfold tokO; rw [if_neg cl', if_neg nd, if_neg (by rw [List.getD_cons_zero]; exact c34)]
      simp only [go_sem, Nat.reduceMod, Nat.reduceBNe, Nat.reduceBEq, Nat.reduceEqDiff, Nat.reduceAdd, Int.reduceAdd, Nat.reduceMul, Nat.reduceSub, Int.reduceToNat, Int.reduceLE, Int.reduceLT, Int.reduceEq, Int.reduceNe, reduceCtorEq, Nat.reduceLT, Nat.reduceLeDiff, n1, n8, n6, n7, n5]
      refine call_evm (ev_mark hX hs hN hB hP s p (.tok l.length :: G) hl hp) ?_
      rintro r H2 ⟨G2, p2, rfl, rfl, hp2⟩
      rw [hv, ← ht] at hp2
      rw [hv, ← ht]
      have hRH : RH s p2 (.tok l.length :: G ++ G2) = .dead :: .box [.str s, .int .i64 p2] :: .tok l.length :: (G ++ G2) := rfl
      rw [hRH]
      generalize G ++ G2 = G3
      cases hto : tokO (c :: v) with
      | ok t k =>
        have hst := tok_stab (by simp) hto
        have hp2 := hp2 t k hto
        subst hp2
        have hkl : p + k ≤ s.length := by
          have := congrArg List.length hv
          rw [List.length_drop] at this
          omega
        simp only [outV, tkV, go_sem, Nat.reduceMod, Nat.reduceBNe, Nat.reduceBEq, Nat.reduceEqDiff, Nat.reduceAdd, Int.reduceAdd, Nat.reduceMul, Nat.reduceSub, Int.reduceToNat, Int.reduceLE, Int.reduceLT, Int.reduceEq, Int.reduceNe, reduceCtorEq, Nat.reduceLT, Nat.reduceLeDiff, List.append_assoc, List.cons_append, gx0, gx1, gs0, gs1, gl2]
        rw [show [AV.agg [AV.int .i64 t.kind, AV.int .i64 (p : Nat), AV.int .i64 ((p + k : Nat) : Int), AV.int .i64 t.n, AV.str t.s]] = [((t, p, p + k) : PT)].map ptV from rfl, ax_tok]
        simp only [go_sem, Nat.reduceMod, Nat.reduceBNe, Nat.reduceBEq, Nat.reduceEqDiff, Nat.reduceAdd, Int.reduceAdd, Nat.reduceMul, Nat.reduceSub, Int.reduceToNat, Int.reduceLE, Int.reduceLT, Int.reduceEq, Int.reduceNe, reduceCtorEq, Nat.reduceLT, Nat.reduceLeDiff, List.length_append]
        refine ⟨⟨by omega, by omega⟩, ⟨p + k, l ++ [(t, p, p + k)], G3 ++ [.box [.int .i64 t.kind, .int .i64 (p : Nat), .int .i64 ((p + k : Nat) : Int), .int .i64 t.n, .str t.s], .box [.int .i64 0, .int .i64 0]]⟩, by dsimp only; omega, nextI t k _ hto hst.1 hkl, rfl, ?_⟩
        dsimp only
        rw [List.length_append]; rfl
      | bad d e =>
        have hbd := tok_bad (by simp) hto
        have hne : ¬ e = 0 := by omega
        simp only [outV, tkV, go_sem, Nat.reduceMod, Nat.reduceBNe, Nat.reduceBEq, Nat.reduceEqDiff, Nat.reduceAdd, Int.reduceAdd, Nat.reduceMul, Nat.reduceSub, Int.reduceToNat, Int.reduceLE, Int.reduceLT, Int.reduceEq, Int.reduceNe, reduceCtorEq, Nat.reduceLT, Nat.reduceLeDiff, List.append_assoc, List.cons_append, gx0, gx1, gs0, gs1, gl2, hne]
        exact tail_bad d e hto
    · have hp' : ¬ (p : Int) < s.length := by omega
      simp only [A_lexer_LineL0, go_sem, Nat.reduceMod, Nat.reduceBNe, Nat.reduceBEq, Nat.reduceEqDiff, Nat.reduceAdd, Int.reduceAdd, Nat.reduceMul, Nat.reduceSub, Int.reduceToNat, Int.reduceLE, Int.reduceLT, Int.reduceEq, Int.reduceNe, reduceCtorEq, Nat.reduceLT, Nat.reduceLeDiff, hp']
      unfold lineR
      rw [if_neg (by omega), x3, List.drop_eq_nil_of_le (by omega), lex_nil]
      simp only [LR.pre, List.append_nil]
      rfl
end
end Go.Avm
