/- Split. -/
import Derived.Test.YtbhdhlkjchgddaaGreatDoorAQ8
import Derived.Test.YtbhdhlkjchgddaaGreatDoorAQ7
import Derived.Test.YtbhdhlkjchgddaaGreatDoorM2
import Derived.Test.YtbhdhlkjchgddaaGreatDoorAQ6
import Derived.Test.YtbhdhlkjchgddaaGreatDoorAQ5
import Derived.Test.YtbhdhlkjchgddaaGreatDoorM4
import Derived.Lib.ItoaLen
set_option linter.unusedSectionVars false
set_option linter.unusedSimpArgs false
set_option linter.unusedVariables false

/- Split. -/
namespace Go.Avm
open Go
/-- the code behind the labels -/
def J1 : ACode := match findLabelA A_words_fields_1J0 1 with
  | some (.seq _ r) => r
  | _ => .bad
def J0 : ACode := match findLabelA A_words_fields_1J0 0 with
  | some (.seq _ r) => r
  | _ => .bad
/-- states of the run through a line: at the label 'found' or not; fuel; what is left; the fields; the field, its length; other blocks -/
abbrev SpI := Bool × Nat × List UInt8 × List Wo.Fd × Wo.Fd × Nat × List Blk
def spL (x : SpI) : Nat := bif x.1 then 0 else 1
def spC (s : List UInt8) (x : SpI) : Prop := x.2.2.1.length ≤ s.length ∧ x.2.2.1.length < x.2.1 + 1 ∧ x.2.2.2.1.length + x.2.2.1.length ≤ s.length ∧ Wo.splitS s = Wo.cms x.2.2.2.1 (Wo.spl (x.2.1 + 1) x.2.2.1) ∧ (x.1 = true → Wo.fld x.2.2.1 = some (x.2.2.2.2.1, x.2.2.2.2.2.1))
def spF (s : List UInt8) (x : SpI) : FL := [(5, .int .i64 (x.2.2.2.2.2.1 : Nat)), (4, .ptr 6 0), (3, .str x.2.2.1), (0, .yv 5)]
def spH (L : Loop) (frc : Fr) (x : SpI) : Heap := .box [.sl .ex []] :: .box [.int .i64 0] :: .box [lst fdV (.tok 4 2) x.2.2.2.1] :: .box [.bool (Wo.long x.2.2.2.1)] :: .tok x.2.2.2.1.length :: .lp L frc :: .box [.str x.2.2.2.2.1.1, .bool x.2.2.2.2.1.2] :: x.2.2.2.2.2.2
def spM (x : SpI) : Nat := bif x.1 then 2 * x.2.2.1.length else 2 * x.2.2.1.length + 1
theorem lt_i (n : Nat) : decide ((2000 : Int) < (n : Int)) = decide (2000 < n) := by
  rw [Bool.eq_iff_iff, decide_eq_true_eq, decide_eq_true_eq]
  omega
set_option maxRecDepth 10000
section
variable {X : Cx} (hX : X.P = Go.Proofs.Tryz.prog) (hs : Std X)
include hX hs
theorem ev_fields (s : List UInt8) : Ev X F_words_fields [.str s] (.clo F_words_fields_1 [] [.vp [.str s]]) := by
  refine ev_of_wpc hs (A_words_fields_ok hX) 2 ?_
  simp only [A_words_fields, go_sem, Nat.reduceMod, Nat.reduceBNe, Nat.reduceBEq, Nat.reduceEqDiff, Nat.reduceAdd, Int.reduceAdd, Nat.reduceMul, Nat.reduceSub, Int.reduceToNat, Int.reduceLE, Int.reduceLT, Int.reduceEq, Int.reduceNe, reduceCtorEq, Nat.reduceLT, Nat.reduceLeDiff]
  rfl
section
variable {s : List UInt8} (hl : s.length < 1000000) {L : Loop} {G : FL} (hL : LoopIs X 39 [17, 18] A_words_SplitR0a A_words_SplitR0b L) (hps : ∀ p ∈ [17, 18], p < 39) (G2 : G.get 2 = .ptr 0 0) (G3 : G.get 3 = .ptr 1 0) (G4 : G.get 4 = .ptr 2 0) (G5 : G.get 5 = .ptr 3 0)
  {Qo : Exit → Fr → Heap → Prop}
  (hN : ∀ (o : List Wo.Fd) (B : Blk) (R : List Blk), (Wo.splitS s = if Wo.long o || decide (64 < o.length) then ([], 3) else (o, 0)) → Qo .normal G.get (.box [.sl .ex []] :: .box [.int .i64 0] :: .box [lst fdV (.tok 4 2) o] :: .box [.bool (Wo.long o)] :: .tok o.length :: .dead :: B :: R))
  (hR : ∀ (B1 B2 B3 B4 : Blk) (R : List Blk), Wo.splitS s = ([], 6) → Qo .ret G.get (.box [.sl .ex []] :: .box [.int .i64 6] :: B1 :: B2 :: B3 :: .dead :: B4 :: R))
include hl hL hps G2 G3 G4 G5 hN hR
set_option maxHeartbeats 4000000 in
theorem sp_found (P : SpI → Prop) {F0 : FL} {F n : Nat} {r : List UInt8} {o : List Wo.Fd} {f : Wo.Fd} {R : List Blk} (hC : spC s (true, F, r, o, f, n, R)) (hP : ∀ j, spM j < 2 * r.length → P j) (g0 : F0.get 0 = .yv 5) (g3 : F0.get 3 = .str r) (g4 : F0.get 4 = .ptr 6 0) (g5 : F0.get 5 = .int .i64 n) :
    wpc X 57 J0 (kq X 57 (AJ spL (spC s) (spF s) (spH L G.get) P (kq X 57 (RetIs [] fun _ H' => LoopQ 5 L G.get Qo H') [])) []) F0.get (spH L G.get (true, F, r, o, f, n, R)) := by
  obtain ⟨c1, c2, c3, c4, c5⟩ := hC
  have hf := c5 rfl
  simp only at c1 c2 c3 c4 hf
  have hfl := Wo.fld_le hf
  simp only [J0, findLabelA, A_words_fields_1J0, spH, go_sem, Nat.reduceMod, Nat.reduceBNe, Nat.reduceBEq, Nat.reduceEqDiff, Nat.reduceAdd, Int.reduceAdd, Nat.reduceMul, Nat.reduceSub, Int.reduceToNat, Int.reduceLE, Int.reduceLT, Int.reduceEq, Int.reduceNe, reduceCtorEq, Nat.reduceLT, Nat.reduceLeDiff, g0, g3, g4, g5, List.take_length]
  refine ⟨by omega, fun h1 => ⟨by have := List.length_pos_iff.2 h1; omega, fun h2 => ?_, fun h2 => ?_⟩, fun h1 => ?_⟩
  · refine w_round' hs.hm hL hps rfl rfl fun l => ?_
    simp only [A_words_SplitR0a, A_words_SplitR0b, go_sem, Nat.reduceMod, Nat.reduceBNe, Nat.reduceBEq, Nat.reduceEqDiff, Nat.reduceAdd, Int.reduceAdd, Nat.reduceMul, Nat.reduceSub, Int.reduceToNat, Int.reduceLE, Int.reduceLT, Int.reduceEq, Int.reduceNe, reduceCtorEq, Nat.reduceLT, Nat.reduceLeDiff, G2, G3, G4, G5]
    refine lq_r rfl (hR _ _ _ _ _ ?_)
    have hn : n < r.length := by
      have := List.length_pos_iff.2 h1
      rw [List.length_drop] at this
      omega
    rw [c4, Wo.spl_odd hf hn (fun h => h2 ((u8_lit (b := 32) rfl).2 (by rw [← h]; simp [List.getD_eq_getElem?_getD])))]
  · refine w_round' hs.hm hL hps rfl rfl fun l => ?_
    simp only [A_words_SplitR0a, A_words_SplitR0b, go_sem, Nat.reduceMod, Nat.reduceBNe, Nat.reduceBEq, Nat.reduceEqDiff, Nat.reduceAdd, Int.reduceAdd, Nat.reduceMul, Nat.reduceSub, Int.reduceToNat, Int.reduceLE, Int.reduceLT, Int.reduceEq, Int.reduceNe, reduceCtorEq, Nat.reduceLT, Nat.reduceLeDiff, G2, G3, G4, G5, ax1_fd, g0, g3, g4, g5, h1]
    have hn : n < r.length := by
      have := List.length_pos_iff.2 h1
      rw [List.length_drop] at this
      omega
    have hg : (r.drop n).getD 0 0 = r.getD n 0 := by simp [List.getD_eq_getElem?_getD]
    have hnx := c4
    rw [Wo.spl_next hf hn (by rw [← hg]; exact (u8_lit (b := 32) rfl).1 h2)] at hnx
    obtain ⟨F, rfl⟩ : ∃ G, F = G + 1 := ⟨F - 1, by omega⟩
    have hlg := Wo.long_snoc o f
    have hj : spC s (false, F, r.drop (n + 1), o ++ [f], f, n, R ++ [.box [.str f.1, .bool f.2]]) := by
      refine ⟨?_, ?_, ?_, hnx, fun h => by simp at h⟩
      · simp only [List.length_drop]; omega
      · simp only [List.length_drop]; omega
      · simp only [List.length_drop, List.length_append, List.length_singleton]; omega
    have hPj : P (false, F, r.drop (n + 1), o ++ [f], f, n, R ++ [.box [.str f.1, .bool f.2]]) := hP _ (by simp only [spM, cond_false, List.length_drop]; omega)
    have hdl : (r.drop n).length = r.length - n := List.length_drop
    have e2 : AV.str (List.drop 1 (List.take (r.drop n).length (r.drop n))) = AV.str (r.drop (n + 1)) := by
      rw [List.take_length, List.drop_drop]
    refine ⟨fun hL' => ⟨by omega, by omega, _, hPj, rfl, hj, ?_, ?_⟩, fun hL' => ⟨by omega, by omega, _, hPj, rfl, hj, ?_, ?_⟩⟩
    · simp only [spF, go_sem, Nat.reduceMod, Nat.reduceBNe, Nat.reduceBEq, Nat.reduceEqDiff, Nat.reduceAdd, Int.reduceAdd, Nat.reduceMul, Nat.reduceSub, Int.reduceToNat, Int.reduceLE, Int.reduceLT, Int.reduceEq, Int.reduceNe, reduceCtorEq, Nat.reduceLT, Nat.reduceLeDiff, g0, g3, g4, g5]
      exact e2
    · simp only [spH, hlg, hL', Bool.true_or, List.length_append, List.length_singleton]
    · simp only [spF, go_sem, Nat.reduceMod, Nat.reduceBNe, Nat.reduceBEq, Nat.reduceEqDiff, Nat.reduceAdd, Int.reduceAdd, Nat.reduceMul, Nat.reduceSub, Int.reduceToNat, Int.reduceLE, Int.reduceLT, Int.reduceEq, Int.reduceNe, reduceCtorEq, Nat.reduceLT, Nat.reduceLeDiff, g0, g3, g4, g5]
      exact e2
    · simp only [spH, hlg, hL', Bool.false_or, List.length_append, List.length_singleton]
      rw [lt_i]
  · refine w_round' hs.hm hL hps rfl rfl fun l => ?_
    simp only [A_words_SplitR0a, A_words_SplitR0b, go_sem, Nat.reduceMod, Nat.reduceBNe, Nat.reduceBEq, Nat.reduceEqDiff, Nat.reduceAdd, Int.reduceAdd, Nat.reduceMul, Nat.reduceSub, Int.reduceToNat, Int.reduceLE, Int.reduceLT, Int.reduceEq, Int.reduceNe, reduceCtorEq, Nat.reduceLT, Nat.reduceLeDiff, G2, G3, G4, G5, ax1_fd, g0, g3, g4, g5, h1]
    have hn : r.length ≤ n := by
      rcases Nat.lt_or_ge n r.length with h | h
      · exact absurd h1 (Wo.drop_ne h)
      · exact h
    have hend := c4
    rw [Wo.spl_end hf hn] at hend
    have hlg := Wo.long_snoc o f
    have hq := hN (o ++ [f]) (.box [.str f.1, .bool f.2]) (R ++ [.box [.str f.1, .bool f.2]]) hend
    rw [List.length_append, List.length_singleton, hlg] at hq
    refine ⟨fun hL' => ⟨by omega, lq_n rfl ?_⟩, fun hL' => ⟨by omega, lq_n rfl ?_⟩⟩
    · rw [hL', Bool.true_or] at hq
      exact hq
    · rw [hL', Bool.false_or] at hq
      rw [lt_i]
      exact hq
set_option maxHeartbeats 4000000 in
theorem sp_field (hE : X.G gEsc = some tabE) (P : SpI → Prop) {F0 : FL} {F n : Nat} {r : List UInt8} {o : List Wo.Fd} {f : Wo.Fd} {R : List Blk} (hC : spC s (false, F, r, o, f, n, R)) (hP : ∀ j, spM j < 2 * r.length + 1 → P j) (g0 : F0.get 0 = .yv 5) (g3 : F0.get 3 = .str r) (g4 : F0.get 4 = .ptr 6 0) :
    XA X 57 J1 F0.get (spH L G.get (false, F, r, o, f, n, R)) (AJ spL (spC s) (spF s) (spH L G.get) P (kq X 57 (RetIs [] fun _ H' => LoopQ 5 L G.get Qo H') [])) := by
  obtain ⟨c1, c2, c3, c4, c5⟩ := hC
  simp only at c1 c2 c3 c4
  have hq := @Wo.unqS_le r
  have hfq := @Wo.fld_q r
  have hfb := @Wo.fld_b r
  have hfn := @Wo.fld_n r
  simp only [J1, findLabelA, A_words_fields_1J0, spH]
  refine xa_cut hs.hm ?_
  simp only [go_sem, Nat.reduceMod, Nat.reduceBNe, Nat.reduceBEq, Nat.reduceEqDiff, Nat.reduceAdd, Int.reduceAdd, Nat.reduceMul, Nat.reduceSub, Int.reduceToNat, Int.reduceLE, Int.reduceLT, Int.reduceEq, Int.reduceNe, reduceCtorEq, Nat.reduceLT, Nat.reduceLeDiff, g0, g3, g4]
  refine call_ev (ev_unquote hX hs hE r (by omega)) ?_
  simp only [go_sem, Nat.reduceMod, Nat.reduceBNe, Nat.reduceBEq, Nat.reduceEqDiff, Nat.reduceAdd, Int.reduceAdd, Nat.reduceMul, Nat.reduceSub, Int.reduceToNat, Int.reduceLE, Int.reduceLT, Int.reduceEq, Int.reduceNe, reduceCtorEq, Nat.reduceLT, Nat.reduceLeDiff, g0, g3, g4]
  have hQ : ∀ h : 0 < (Wo.unqS r).2, spC s (true, F, r, o, ((Wo.unqS r).1, true), (Wo.unqS r).2, R) := fun h => ⟨c1, c2, c3, c4, fun _ => hfq h⟩
  refine ⟨fun h => ⟨(true, F, r, o, ((Wo.unqS r).1, true), (Wo.unqS r).2, R), hP _ (by simp only [spM, cond_true]; omega), rfl, hQ (by omega), ?_, rfl⟩, fun h => ?_⟩
  · simp only [spF, go_sem, Nat.reduceMod, Nat.reduceBNe, Nat.reduceBEq, Nat.reduceEqDiff, Nat.reduceAdd, Int.reduceAdd, Nat.reduceMul, Nat.reduceSub, Int.reduceToNat, Int.reduceLE, Int.reduceLT, Int.reduceEq, Int.reduceNe, reduceCtorEq, Nat.reduceLT, Nat.reduceLeDiff, g0, g3, g4]
  have h0 : ¬ 0 < (Wo.unqS r).2 := by omega
  have hix := Lat.idx_le 32 r
  refine xa_keep [0, 3, 4] ?_
  simp only [go_sem, Nat.reduceMod, Nat.reduceBNe, Nat.reduceBEq, Nat.reduceEqDiff, Nat.reduceAdd, Int.reduceAdd, Nat.reduceMul, Nat.reduceSub, Int.reduceToNat, Int.reduceLE, Int.reduceLT, Int.reduceEq, Int.reduceNe, reduceCtorEq, Nat.reduceLT, Nat.reduceLeDiff, g0, g3, g4]
  refine xa_cut hs.hm ?_
  simp only [go_sem, Nat.reduceMod, Nat.reduceBNe, Nat.reduceBEq, Nat.reduceEqDiff, Nat.reduceAdd, Int.reduceAdd, Nat.reduceMul, Nat.reduceSub, Int.reduceToNat, Int.reduceLE, Int.reduceLT, Int.reduceEq, Int.reduceNe, reduceCtorEq, Nat.reduceLT, Nat.reduceLeDiff]
  refine xa_cut hs.hm ?_
  simp only [go_sem, Nat.reduceMod, Nat.reduceBNe, Nat.reduceBEq, Nat.reduceEqDiff, Nat.reduceAdd, Int.reduceAdd, Nat.reduceMul, Nat.reduceSub, Int.reduceToNat, Int.reduceLE, Int.reduceLT, Int.reduceEq, Int.reduceNe, reduceCtorEq, Nat.reduceLT, Nat.reduceLeDiff]
  refine call_ev (ev_Cut hX hs r 32 (by omega)) ?_
  have ecut : (if Lat.idx 32 r < r.length then r.take (Lat.idx 32 r) else r) = r.take (Lat.idx 32 r) := by
    split
    · rfl
    · rw [List.take_of_length_le (by omega)]
  rw [ecut]
  simp only [go_sem, Nat.reduceMod, Nat.reduceBNe, Nat.reduceBEq, Nat.reduceEqDiff, Nat.reduceAdd, Int.reduceAdd, Nat.reduceMul, Nat.reduceSub, Int.reduceToNat, Int.reduceLE, Int.reduceLT, Int.reduceEq, Int.reduceNe, reduceCtorEq, Nat.reduceLT, Nat.reduceLeDiff]
  refine xa_keep [0, 3, 4] ?_
  simp only [go_sem, Nat.reduceMod, Nat.reduceBNe, Nat.reduceBEq, Nat.reduceEqDiff, Nat.reduceAdd, Int.reduceAdd, Nat.reduceMul, Nat.reduceSub, Int.reduceToNat, Int.reduceLE, Int.reduceLT, Int.reduceEq, Int.reduceNe, reduceCtorEq, Nat.reduceLT, Nat.reduceLeDiff]
  refine xa_cut hs.hm ?_
  have htl := Wo.take_idx_len r
  simp only [go_sem, Nat.reduceMod, Nat.reduceBNe, Nat.reduceBEq, Nat.reduceEqDiff, Nat.reduceAdd, Int.reduceAdd, Nat.reduceMul, Nat.reduceSub, Int.reduceToNat, Int.reduceLE, Int.reduceLT, Int.reduceEq, Int.reduceNe, reduceCtorEq, Nat.reduceLT, Nat.reduceLeDiff, htl]
  refine xa_keep [0, 3, 4, 5] ?_
  simp only [go_sem, Nat.reduceMod, Nat.reduceBNe, Nat.reduceBEq, Nat.reduceEqDiff, Nat.reduceAdd, Int.reduceAdd, Nat.reduceMul, Nat.reduceSub, Int.reduceToNat, Int.reduceLE, Int.reduceLT, Int.reduceEq, Int.reduceNe, reduceCtorEq, Nat.reduceLT, Nat.reduceLeDiff]
  refine xa_cut hs.hm ?_
  simp only [go_sem, Nat.reduceMod, Nat.reduceBNe, Nat.reduceBEq, Nat.reduceEqDiff, Nat.reduceAdd, Int.reduceAdd, Nat.reduceMul, Nat.reduceSub, Int.reduceToNat, Int.reduceLE, Int.reduceLT, Int.reduceEq, Int.reduceNe, reduceCtorEq, Nat.reduceLT, Nat.reduceLeDiff]
  refine call_ev (ev_isBare hX hs _ (by omega)) ?_
  cases hb : Wo.bareB (r.take (Lat.idx 32 r)) with
  | false =>
    simp only [go_sem, Nat.reduceMod, Nat.reduceBNe, Nat.reduceBEq, Nat.reduceEqDiff, Nat.reduceAdd, Int.reduceAdd, Nat.reduceMul, Nat.reduceSub, Int.reduceToNat, Int.reduceLE, Int.reduceLT, Int.reduceEq, Int.reduceNe, reduceCtorEq, Nat.reduceLT, Nat.reduceLeDiff]
    refine w_round' hs.hm hL hps rfl rfl fun l => ?_
    simp only [A_words_SplitR0a, A_words_SplitR0b, go_sem, Nat.reduceMod, Nat.reduceBNe, Nat.reduceBEq, Nat.reduceEqDiff, Nat.reduceAdd, Int.reduceAdd, Nat.reduceMul, Nat.reduceSub, Int.reduceToNat, Int.reduceLE, Int.reduceLT, Int.reduceEq, Int.reduceNe, reduceCtorEq, Nat.reduceLT, Nat.reduceLeDiff, G2, G3, G4, G5]
    refine lq_r rfl (hR _ _ _ _ _ ?_)
    rw [c4, Wo.spl_bad (hfn h0 hb)]
  | true =>
    simp only [go_sem, Nat.reduceMod, Nat.reduceBNe, Nat.reduceBEq, Nat.reduceEqDiff, Nat.reduceAdd, Int.reduceAdd, Nat.reduceMul, Nat.reduceSub, Int.reduceToNat, Int.reduceLE, Int.reduceLT, Int.reduceEq, Int.reduceNe, reduceCtorEq, Nat.reduceLT, Nat.reduceLeDiff]
    refine xa_cut hs.hm ?_
    simp only [go_sem, Nat.reduceMod, Nat.reduceBNe, Nat.reduceBEq, Nat.reduceEqDiff, Nat.reduceAdd, Int.reduceAdd, Nat.reduceMul, Nat.reduceSub, Int.reduceToNat, Int.reduceLE, Int.reduceLT, Int.reduceEq, Int.reduceNe, reduceCtorEq, Nat.reduceLT, Nat.reduceLeDiff]
    refine xa_last hs.hm ?_
    exact sp_found hX hs hl hL hps G2 G3 G4 G5 hN hR P (F0 := _) ⟨c1, c2, c3, c4, fun _ => hfb h0 hb⟩ (fun j hj => hP j (by omega)) rfl rfl rfl rfl
end
set_option maxHeartbeats 4000000 in
theorem ev_Split (hE : X.G gEsc = some tabE) (s : List UInt8) (hl : s.length < 1000000) : Ev X F_words_Split [.str s] (splV s) := by
  refine ev_of_wpcd hs (A_words_Split_ok hX) 2 ?_
  simp only [A_words_Split, go_sem, Nat.reduceMod, Nat.reduceBNe, Nat.reduceBEq, Nat.reduceEqDiff, Nat.reduceAdd, Int.reduceAdd, Nat.reduceMul, Nat.reduceSub, Int.reduceToNat, Int.reduceLE, Int.reduceLT, Int.reduceEq, Int.reduceNe, reduceCtorEq, Nat.reduceLT, Nat.reduceLeDiff]
  refine ⟨fun h => ?_, fun h => ⟨fun h0 => ?_, fun h0 => ?_⟩⟩
  · exact splV_nil (by rw [Wo.splitS, if_pos (by omega)])
  · exact splV_nil (by rw [Wo.splitS, if_neg (by omega), if_pos h0])
  have hp : 0 < s.length := List.length_pos_iff.2 h0
  have hst := Wo.splitS_cms (s := s) (by omega) h0
  refine call_ev (ev_fields hX hs s) ?_
  simp only [go_sem, Nat.reduceMod, Nat.reduceBNe, Nat.reduceBEq, Nat.reduceEqDiff, Nat.reduceAdd, Int.reduceAdd, Nat.reduceMul, Nat.reduceSub, Int.reduceToNat, Int.reduceLE, Int.reduceLT, Int.reduceEq, Int.reduceNe, reduceCtorEq, Nat.reduceLT, Nat.reduceLeDiff]
  refine w_rangeT (wk_tokb 2 0 2 rfl rfl) ?_
  refine w_rangeF' hs rfl (A_words_fields_1_ok hX) fun L frc hf hL hps => ?_
  subst hf
  simp only [A_words_fields_1, go_sem, Nat.reduceMod, Nat.reduceBNe, Nat.reduceBEq, Nat.reduceEqDiff, Nat.reduceAdd, Int.reduceAdd, Nat.reduceMul, Nat.reduceSub, Int.reduceToNat, Int.reduceLE, Int.reduceLT, Int.reduceEq, Int.reduceNe, reduceCtorEq, Nat.reduceLT, Nat.reduceLeDiff]
  generalize hG : ([(16, AV.clo F_words_fields_1 [] [AV.vp [AV.str s]]), (15, AV.str s), (5, AV.ptr 3 0), (4, AV.ptr 2 0), (12, AV.bool (decide (s = []))), (14, AV.bool (decide (s = []))), (13, AV.str s), (8, AV.bool (decide ((8192 : Int) < s.length))), (11, AV.bool (decide ((8192 : Int) < s.length))), (10, AV.int .i64 s.length), (9, AV.str s), (3, AV.ptr 1 0), (2, AV.ptr 0 0), (0, AV.str s)] : FL) = G
  have G2 : FL.get G 2 = .ptr 0 0 := by rw [← hG]; rfl
  have G3 : FL.get G 3 = .ptr 1 0 := by rw [← hG]; rfl
  have G4 : FL.get G 4 = .ptr 2 0 := by rw [← hG]; rfl
  have G5 : FL.get G 5 = .ptr 3 0 := by rw [← hG]; rfl
  clear hG
  generalize hQo : kq X 39 (RetIs [ARes.cell none 2, ARes.cell none 3] fun r' H' => dry (fin H' 2 r') = splV s) _ = Qo
  have hN : ∀ (o : List Wo.Fd) (B : Blk) (R : List Blk), (Wo.splitS s = if Wo.long o || decide (64 < o.length) then ([], 3) else (o, 0)) → Qo .normal (FL.get G) (.box [.sl .ex []] :: .box [.int .i64 0] :: .box [lst fdV (.tok 4 2) o] :: .box [.bool (Wo.long o)] :: .tok o.length :: .dead :: B :: R) := fun o B R ho => by
    subst hQo
    simp only [go_sem, Nat.reduceMod, Nat.reduceBNe, Nat.reduceBEq, Nat.reduceEqDiff, Nat.reduceAdd, Int.reduceAdd, Nat.reduceMul, Nat.reduceSub, Int.reduceToNat, Int.reduceLE, Int.reduceLT, Int.reduceEq, Int.reduceNe, reduceCtorEq, Nat.reduceLT, Nat.reduceLeDiff, G2, G3, G4, G5]
    refine ⟨fun hL' => splV_nil (by rw [ho, hL', Bool.true_or]; rfl), fun hL' => ⟨fun h => splV_nil (by rw [ho, decide_eq_true (show 64 < o.length by omega), Bool.or_true]; rfl), fun h => splV_eq (by rw [ho, hL', decide_eq_false (show ¬ 64 < o.length by omega)]; rfl)⟩⟩
  have hR : ∀ (B1 B2 B3 B4 : Blk) (R : List Blk), Wo.splitS s = ([], 6) → Qo .ret (FL.get G) (.box [.sl .ex []] :: .box [.int .i64 6] :: B1 :: B2 :: B3 :: .dead :: B4 :: R) := fun B1 B2 B3 B4 R ho => by
    subst hQo
    simp only [go_sem, Nat.reduceMod, Nat.reduceBNe, Nat.reduceBEq, Nat.reduceEqDiff, Nat.reduceAdd, Int.reduceAdd, Nat.reduceMul, Nat.reduceSub, Int.reduceToNat, Int.reduceLE, Int.reduceLT, Int.reduceEq, Int.reduceNe, reduceCtorEq, Nat.reduceLT, Nat.reduceLeDiff, G2, G3, G4, G5]
    exact splV_nil ho
  refine w_scopeJx spL (spC s) (spF s) (spH L (FL.get G)) spM ?_ ?_
  · simp only [A_words_fields_1J0]
    refine xa_cut hs.hm ?_
    simp only [go_sem, Nat.reduceMod, Nat.reduceBNe, Nat.reduceBEq, Nat.reduceEqDiff, Nat.reduceAdd, Int.reduceAdd, Nat.reduceMul, Nat.reduceSub, Int.reduceToNat, Int.reduceLE, Int.reduceLT, Int.reduceEq, Int.reduceNe, reduceCtorEq, Nat.reduceLT, Nat.reduceLeDiff]
    refine xa_cut hs.hm ?_
    simp only [go_sem, Nat.reduceMod, Nat.reduceBNe, Nat.reduceBEq, Nat.reduceEqDiff, Nat.reduceAdd, Int.reduceAdd, Nat.reduceMul, Nat.reduceSub, Int.reduceToNat, Int.reduceLE, Int.reduceLT, Int.reduceEq, Int.reduceNe, reduceCtorEq, Nat.reduceLT, Nat.reduceLeDiff]
    refine xa_cut hs.hm ?_
    simp only [go_sem, Nat.reduceMod, Nat.reduceBNe, Nat.reduceBEq, Nat.reduceEqDiff, Nat.reduceAdd, Int.reduceAdd, Nat.reduceMul, Nat.reduceSub, Int.reduceToNat, Int.reduceLE, Int.reduceLT, Int.reduceEq, Int.reduceNe, reduceCtorEq, Nat.reduceLT, Nat.reduceLeDiff]
    refine xa_cut hs.hm ?_
    simp only [go_sem, Nat.reduceMod, Nat.reduceBNe, Nat.reduceBEq, Nat.reduceEqDiff, Nat.reduceAdd, Int.reduceAdd, Nat.reduceMul, Nat.reduceSub, Int.reduceToNat, Int.reduceLE, Int.reduceLT, Int.reduceEq, Int.reduceNe, reduceCtorEq, Nat.reduceLT, Nat.reduceLeDiff]
    exact sp_field hX hs hl hL hps G2 G3 G4 G5 hN hR hE _ (F := s.length) (n := 0) (r := s) (o := []) (f := ([], false)) (R := []) ⟨Nat.le_refl _, Nat.lt_succ_self _, by simp, hst, fun h => by cases h⟩ (fun _ _ => trivial) rfl rfl rfl
  · rintro ⟨b, F, r, o, f, n, R⟩ hC
    cases b with
    | true =>
      refine ⟨.seq .skip J0, rfl, ?_⟩
      refine xa_cut hs.hm ?_
      simp only [go_sem, Nat.reduceMod, Nat.reduceBNe, Nat.reduceBEq, Nat.reduceEqDiff, Nat.reduceAdd, Int.reduceAdd, Nat.reduceMul, Nat.reduceSub, Int.reduceToNat, Int.reduceLE, Int.reduceLT, Int.reduceEq, Int.reduceNe, reduceCtorEq, Nat.reduceLT, Nat.reduceLeDiff]
      exact xa_last hs.hm (sp_found hX hs hl hL hps G2 G3 G4 G5 hN hR _ (F0 := _) hC (fun j hj => hj) rfl rfl rfl rfl)
    | false =>
      refine ⟨.seq .skip J1, rfl, ?_⟩
      refine xa_cut hs.hm ?_
      simp only [go_sem, Nat.reduceMod, Nat.reduceBNe, Nat.reduceBEq, Nat.reduceEqDiff, Nat.reduceAdd, Int.reduceAdd, Nat.reduceMul, Nat.reduceSub, Int.reduceToNat, Int.reduceLE, Int.reduceLT, Int.reduceEq, Int.reduceNe, reduceCtorEq, Nat.reduceLT, Nat.reduceLeDiff]
      exact sp_field hX hs hl hL hps G2 G3 G4 G5 hN hR hE _ (F0 := _) hC (fun j hj => hj) rfl rfl rfl
end
end Go.Avm

/- Numerals and quoted forms. -/
namespace Go.Avm
open Go
theorem dig1 {a : Nat} (h : a < 10) : ([.int .u8 (IntKind.u8.wrap (48 + (a : Int)))] : List AV) = [u8 (UInt8.ofNat (48 + a))] := by
  rw [wu8 (by omega)]
  simp only [u8, UInt8.toNat_ofNat']
  congr 2
  omega
set_option maxRecDepth 10000
section
variable {X : Cx} (hX : X.P = Go.Proofs.Tryz.prog) (hs : Std X)
include hX hs
theorem ev_rDigits (n : Int) (h : -9223372036854775808 ≤ n ∧ n ≤ 9223372036854775807) : Ev X F_ref01_Digits [.int .i64 n] (.str (Lib.itoa n)) := by
  generalize hk : n.natAbs * 2 + (if n < 0 then 1 else 0) = k
  induction k using Nat.strongRecOn generalizing n with
  | _ k ih =>
    subst hk
    refine ev_of_wpc hs (A_ref01_Digits_ok hX) 0 ?_
    by_cases hb : 9 < n ∨ n < -9
    · have hq : (n.tdiv 10).natAbs = n.natAbs / 10 ∧ (n < 0 ∨ ¬ n.tdiv 10 < 0) := by
        rcases Int.lt_or_le n 0 with h0 | h0
        · obtain ⟨m, rfl⟩ : ∃ m : Nat, n = -(m : Int) := ⟨n.natAbs, by omega⟩
          rw [Int.neg_tdiv, Int.tdiv_eq_ediv_of_nonneg (by omega)]; omega
        · rw [Int.tdiv_eq_ediv_of_nonneg (by omega)]; omega
      have hm : n.tmod 10 = if n < 0 then -((n.natAbs % 10 : Nat) : Int) else ((n.natAbs % 10 : Nat) : Int) := by
        rcases Int.lt_or_le n 0 with h0 | h0
        · obtain ⟨m, rfl⟩ : ∃ m : Nat, n = -(m : Int) := ⟨n.natAbs, by omega⟩
          rw [if_pos h0, Int.neg_tmod, Int.tmod_eq_emod_of_nonneg (by omega)]; omega
        · rw [if_neg (by omega), Int.tmod_eq_emod_of_nonneg (by omega)]; omega
      have hr : Ev X F_ref01_Digits [.int .i64 (n.tdiv 10)] (.str (Lib.itoa (n.tdiv 10))) := ih _ (by
        have h1 := hq.1
        split <;> split <;> omega) _ (by omega) rfl
      have ew : IntKind.i64.wrap (n.tdiv 10) = n.tdiv 10 := wi64 (by omega)
      have hst := Wo.itoa_step hb
      have hd := dig1 (a := n.natAbs % 10) (Nat.mod_lt _ (by decide))
      have hlen := Wo.itoa_len (n := n.tdiv 10) (by omega)
      have hq1 := hq.1
      have hfin : ∀ t : Int, t = ((n.natAbs % 10 : Nat) : Int) → b2sX (.sl .ex [.int .u8 (IntKind.u8.wrap (IntKind.i64.wrap (48 + t)))]) = some (true, .str [UInt8.ofNat (48 + n.natAbs % 10)], none) := fun t ht => by
        subst ht
        have hlt : n.natAbs % 10 < 10 := Nat.mod_lt _ (by decide)
        rw [wi64 (by omega), hd]
        exact bs_1 .ex _
      have c9 : decide (9 < n) = decide (¬ n < -9) := by
        congr 1
        rw [eq_iff_iff]
        omega
      have w0 : IntKind.i64.wrap (0 - n.tmod 10) = -n.tmod 10 := by
        rw [wi64 (by split at hm <;> omega)]; omega
      by_cases c1 : 9 < n
      · rw [if_neg (by omega)] at hm
        simp only [A_ref01_Digits, go_sem, Nat.reduceMod, Nat.reduceBNe, Nat.reduceBEq, Nat.reduceEqDiff, Nat.reduceAdd, Int.reduceAdd, Nat.reduceMul, Nat.reduceSub, Int.reduceToNat, Int.reduceLE, Int.reduceLT, Int.reduceEq, Int.reduceNe, reduceCtorEq, Nat.reduceLT, Nat.reduceLeDiff, c1, ew, w0]
        refine ⟨fun e => by omega, fun e => callq_ev hr ?_⟩
        simp only [go_sem, Nat.reduceMod, Nat.reduceBNe, Nat.reduceBEq, Nat.reduceEqDiff, Nat.reduceAdd, Int.reduceAdd, Nat.reduceMul, Nat.reduceSub, Int.reduceToNat, Int.reduceLE, Int.reduceLT, Int.reduceEq, Int.reduceNe, reduceCtorEq, Nat.reduceLT, Nat.reduceLeDiff, hfin _ hm]
        exact ⟨by omega, by rw [hst]⟩
      · have c2 : n < -9 := by omega
        rw [if_pos (by omega)] at hm
        simp only [A_ref01_Digits, go_sem, Nat.reduceMod, Nat.reduceBNe, Nat.reduceBEq, Nat.reduceEqDiff, Nat.reduceAdd, Int.reduceAdd, Nat.reduceMul, Nat.reduceSub, Int.reduceToNat, Int.reduceLE, Int.reduceLT, Int.reduceEq, Int.reduceNe, reduceCtorEq, Nat.reduceLT, Nat.reduceLeDiff, c1, c2, ew, w0]
        refine ⟨fun e => callq_ev hr ?_, fun e => callq_ev hr ?_⟩
        · simp only [go_sem, Nat.reduceMod, Nat.reduceBNe, Nat.reduceBEq, Nat.reduceEqDiff, Nat.reduceAdd, Int.reduceAdd, Nat.reduceMul, Nat.reduceSub, Int.reduceToNat, Int.reduceLE, Int.reduceLT, Int.reduceEq, Int.reduceNe, reduceCtorEq, Nat.reduceLT, Nat.reduceLeDiff, hfin (-n.tmod 10) (by omega)]
          exact ⟨by omega, by rw [hst]⟩
        · simp only [go_sem, Nat.reduceMod, Nat.reduceBNe, Nat.reduceBEq, Nat.reduceEqDiff, Nat.reduceAdd, Int.reduceAdd, Nat.reduceMul, Nat.reduceSub, Int.reduceToNat, Int.reduceLE, Int.reduceLT, Int.reduceEq, Int.reduceNe, reduceCtorEq, Nat.reduceLT, Nat.reduceLeDiff, hfin (n.tmod 10) (by omega)]
          exact ⟨by omega, by rw [hst]⟩
    · by_cases h0 : n < 0
      · have hr : Ev X F_ref01_Digits [.int .i64 (-n)] (.str (Lib.itoa (-n))) := ih _ (by
          rw [if_pos h0, if_neg (by omega)]; omega) _ (by omega) rfl
        have hlen := Wo.itoa_len (n := -n) (by omega)
        have w0 : IntKind.i64.wrap (0 - n) = -n := by rw [wi64 (by omega)]; omega
        simp only [A_ref01_Digits, go_sem, Nat.reduceMod, Nat.reduceBNe, Nat.reduceBEq, Nat.reduceEqDiff, Nat.reduceAdd, Int.reduceAdd, Nat.reduceMul, Nat.reduceSub, Int.reduceToNat, Int.reduceLE, Int.reduceLT, Int.reduceEq, Int.reduceNe, reduceCtorEq, Nat.reduceLT, Nat.reduceLeDiff, show ¬ 9 < n by omega, show ¬ n < -9 by omega, h0, w0]
        refine call_ev hr ?_
        simp only [go_sem, Nat.reduceMod, Nat.reduceBNe, Nat.reduceBEq, Nat.reduceEqDiff, Nat.reduceAdd, Int.reduceAdd, Nat.reduceMul, Nat.reduceSub, Int.reduceToNat, Int.reduceLE, Int.reduceLT, Int.reduceEq, Int.reduceNe, reduceCtorEq, Nat.reduceLT, Nat.reduceLeDiff]
        exact ⟨by omega, by rw [Wo.itoa_neg h0]⟩
      · have hd := dig1 (a := n.natAbs) (by omega)
        have e0 : ((n.natAbs : Nat) : Int) = n := by omega
        rw [e0] at hd
        simp only [A_ref01_Digits, go_sem, Nat.reduceMod, Nat.reduceBNe, Nat.reduceBEq, Nat.reduceEqDiff, Nat.reduceAdd, Int.reduceAdd, Nat.reduceMul, Nat.reduceSub, Int.reduceToNat, Int.reduceLE, Int.reduceLT, Int.reduceEq, Int.reduceNe, reduceCtorEq, Nat.reduceLT, Nat.reduceLeDiff, show ¬ 9 < n by omega, show ¬ n < -9 by omega, h0]
        rw [wi64 (n := 48 + n) (by omega), hd]
        have := bs_1 .ex (UInt8.ofNat (48 + n.natAbs))
        simp only [u8] at this ⊢
        simp only [this, go_sem, Nat.reduceMod, Nat.reduceBNe, Nat.reduceBEq, Nat.reduceEqDiff, Nat.reduceAdd, Int.reduceAdd, Nat.reduceMul, Nat.reduceSub, Int.reduceToNat, Int.reduceLE, Int.reduceLT, Int.reduceEq, Int.reduceNe, reduceCtorEq, Nat.reduceLT, Nat.reduceLeDiff]
        rw [Wo.itoa_one (by omega) (by omega)]
end
end Go.Avm

/- Types: their texts. -/
namespace Go.Avm
open Go
def prV (ns : List (List UInt8)) (up : List UInt8) (t : Lat.Ty) : AV := .tuple [.str (Lat.tyPS ns up t).1, .int .i64 (Lat.tyPS ns up t).2]
theorem prV_bad {ns : List (List UInt8)} {up : List UInt8} {t : Lat.Ty} (h : ¬ Lat.tyS ns up t = 0) : AV.tuple [.str [], .int .i64 (Lat.tyS ns up t)] = prV ns up t := by
  rw [prV, Lat.tyPS, if_pos h]
theorem prV_ok {ns : List (List UInt8)} {up : List UInt8} {t : Lat.Ty} (h : Lat.tyS ns up t = 0) {s : List UInt8} (hs : s = Lat.tyTx ns t) : AV.tuple [.str s, .int .i64 0] = prV ns up t := by
  rw [prV, Lat.tyPS, if_neg (by rw [h]; decide), hs]
set_option maxRecDepth 10000
section
variable {X : Cx} (hX : X.P = Go.Proofs.Tryz.prog) (hs : Std X)
include hX hs
theorem ev_rKind (k : Int) : Ev X F_ref20_kind [.int .i64 k] (.str (if k = 1 then Lat.tInt else Lat.tChar)) := by
  refine ev_of_wpc hs (A_ref20_kind_ok hX) 0 ?_
  simp only [A_ref20_kind, go_sem, Nat.reduceMod, Nat.reduceBNe, Nat.reduceBEq, Nat.reduceEqDiff, Nat.reduceAdd, Int.reduceAdd, Nat.reduceMul, Nat.reduceSub, Int.reduceToNat, Int.reduceLE, Int.reduceLT, Int.reduceEq, Int.reduceNe, reduceCtorEq, Nat.reduceLT, Nat.reduceLeDiff]
  exact ⟨fun h => by rw [if_pos h]; rfl, fun h => by rw [if_neg h]; rfl⟩
end
end Go.Avm

/- Types: Print of the reference. -/
namespace Go.Avm
open Go
/-- what is printed when i axes have been -/
def tyI (ns : List (List UInt8)) (t : Lat.Ty) (i : Nat) : List UInt8 := (if t.k = 1 then Lat.tInt else Lat.tChar) ++ [32] ++ Lib.itoa t.r ++ (if 0 < i then [32] ++ ns.getD t.a0.toNat [] else []) ++ (if 1 < i then [32] ++ ns.getD t.a1.toNat [] else [])
theorem tyI_end {ns : List (List UInt8)} {up : List UInt8} {t : Lat.Ty} (hg : Lat.Good ns.length up t) : tyI ns t t.r.toNat ++ [32] ++ ns.getD t.d.toNat [] = Lat.tyTx ns t := by
  have hk := hg.k
  have hr := hg.r
  obtain ⟨k, r, a0, a1, d⟩ := t
  simp only at hk hr
  have : r = 0 ∨ r = 1 ∨ r = 2 := by omega
  rcases hk with rfl | rfl <;> rcases this with rfl | rfl | rfl <;> simp [tyI, Lat.tyTx, Lat.tyFl, Lat.tyK, Lib.join_cons, Lib.joinTail]
set_option maxRecDepth 10000
section
variable {X : Cx} (hX : X.P = Go.Proofs.Tryz.prog) (hs : Std X)
include hX hs
theorem ev_rPrint (ns : List (List UInt8)) (up : List UInt8) (t : Lat.Ty) : Ev X F_ref20_Print [latV ns up, tyV t] (prV ns up t) := by
  refine ev_of_wpc hs (A_ref20_Print_ok hX) 2 ?_
  simp only [A_ref20_Print, latV, tyV, go_sem, Nat.reduceMod, Nat.reduceBNe, Nat.reduceBEq, Nat.reduceEqDiff, Nat.reduceAdd, Int.reduceAdd, Nat.reduceMul, Nat.reduceSub, Int.reduceToNat, Int.reduceLE, Int.reduceLT, Int.reduceEq, Int.reduceNe, reduceCtorEq, Nat.reduceLT, Nat.reduceLeDiff]
  refine call_ev (ev_r_Check hX hs ns up t) ?_
  simp only [go_sem, Nat.reduceMod, Nat.reduceBNe, Nat.reduceBEq, Nat.reduceEqDiff, Nat.reduceAdd, Int.reduceAdd, Nat.reduceMul, Nat.reduceSub, Int.reduceToNat, Int.reduceLE, Int.reduceLT, Int.reduceEq, Int.reduceNe, reduceCtorEq, Nat.reduceLT, Nat.reduceLeDiff]
  refine ⟨fun h => ?_, fun h => ?_⟩
  · exact prV_bad h
  obtain ⟨hc, hv, hg⟩ := Lat.tyS_0 h
  have hr := hg.r
  refine callq_ev (ev_rKind hX hs t.k) ?_
  simp only [go_sem, Nat.reduceMod, Nat.reduceBNe, Nat.reduceBEq, Nat.reduceEqDiff, Nat.reduceAdd, Int.reduceAdd, Nat.reduceMul, Nat.reduceSub, Int.reduceToNat, Int.reduceLE, Int.reduceLT, Int.reduceEq, Int.reduceNe, reduceCtorEq, Nat.reduceLT, Nat.reduceLeDiff]
  refine ⟨?_, callq_ev (ev_rDigits hX hs t.r (by omega)) ?_⟩
  · split <;> decide
  have hkl : (if t.k = 1 then Lat.tInt else Lat.tChar).length ≤ 4 := by split <;> decide
  simp only [go_sem, Nat.reduceMod, Nat.reduceBNe, Nat.reduceBEq, Nat.reduceEqDiff, Nat.reduceAdd, Int.reduceAdd, Nat.reduceMul, Nat.reduceSub, Int.reduceToNat, Int.reduceLE, Int.reduceLT, Int.reduceEq, Int.reduceNe, reduceCtorEq, Nat.reduceLT, Nat.reduceLeDiff]
  have hnm : ∀ a : Int, Lat.lab ns.length a = true → (ns.getD a.toNat []).length ≤ 16 := fun a ha => by
    obtain ⟨x, rfl, hx⟩ := Lat.lab_nat ha
    exact (Lat.nm_bare (Lat.names_nm (Lat.checkS_val hc).1 x hx)).2
  have l0 := hnm _ hg.l0
  have l1 := hnm _ hg.l1
  have ld := hnm _ hg.ld
  have li := Lib.itoa_length_le t.r (by omega) (by omega)
  have hti : ∀ i, (tyI ns t i).length ≤ 100 := fun i => by
    unfold tyI
    have m1 : (if 0 < i then [32] ++ ns.getD t.a0.toNat [] else ([] : List UInt8)).length ≤ 17 := by
      split
      · rw [List.length_append, List.length_singleton]; omega
      · exact Nat.zero_le _
    have m2 : (if 1 < i then [32] ++ ns.getD t.a1.toNat [] else ([] : List UInt8)).length ≤ 17 := by
      split
      · rw [List.length_append, List.length_singleton]; omega
      · exact Nat.zero_le _
    rw [List.length_append, List.length_append, List.length_append, List.length_append, List.length_singleton]
    omega
  refine ⟨by rw [List.length_append, List.length_singleton]; omega, ?_⟩
  refine w_loop' hs.hm (ι := Nat) (fun i => (i : Int) ≤ t.r) (fun i => [(8, .int .i64 i), (7, .str (tyI ns t i)), (3, .ptr 1 0), (2, .ptr 0 0)]) (fun _ => [.box [lst AV.str .ro ns, lst u8 .ro up], .box [.int .i64 t.k, .int .i64 t.r, .int .i64 t.a0, .int .i64 t.a1, .int .i64 t.d]]) (fun i => (t.r - i).toNat) 0 ?_ fun i hi => ?_
  · simp only [go_sem, Nat.reduceMod, Nat.reduceBNe, Nat.reduceBEq, Nat.reduceEqDiff, Nat.reduceAdd, Int.reduceAdd, Nat.reduceMul, Nat.reduceSub, Int.reduceToNat, Int.reduceLE, Int.reduceLT, Int.reduceEq, Int.reduceNe, reduceCtorEq, Nat.reduceLT, Nat.reduceLeDiff]
    refine ⟨hr.1, ?_⟩
    have z0 : (if 0 < 0 then [32] ++ ns.getD t.a0.toNat [] else ([] : List UInt8)) = [] := rfl
    have z1 : (if 1 < 0 then [32] ++ ns.getD t.a1.toNat [] else ([] : List UInt8)) = [] := rfl
    rw [tyI, z0, z1, List.append_nil, List.append_nil]
  · have hti' := hti i
    obtain ⟨x0, e0, h0⟩ := Lat.lab_nat hg.l0
    obtain ⟨x1, e1, h1⟩ := Lat.lab_nat hg.l1
    obtain ⟨xd, ed, hd⟩ := Lat.lab_nat hg.ld
    have nx : (i : Int) < t.r → ∀ s : List UInt8, s = tyI ns t (i + 1) → ∃ j : Nat, (t.r - j).toNat < (t.r - i).toNat ∧ (j : Int) ≤ t.r ∧ AV.int .i64 (IntKind.i64.wrap ((i : Int) + 1)) = AV.int .i64 j ∧ AV.str s = AV.str (tyI ns t j) := fun h s hs => ⟨i + 1, by omega, by omega, by rw [wi64 (by omega)]; rfl, by rw [hs]⟩
    match i with
    | 0 =>
      simp only [A_ref20_PrintL0, e0, go_sem, Nat.reduceMod, Nat.reduceBNe, Nat.reduceBEq, Nat.reduceEqDiff, Nat.reduceAdd, Int.reduceAdd, Nat.reduceMul, Nat.reduceSub, Int.reduceToNat, Int.reduceLE, Int.reduceLT, Int.reduceEq, Int.reduceNe, reduceCtorEq, Nat.reduceLT, Nat.reduceLeDiff]
      have d0 : ns.getD x0 default = ns.getD t.a0.toNat [] := by rw [e0]; rfl
      refine ⟨fun hl => ⟨by omega, ⟨by omega, by omega⟩, by rw [d0, List.length_append, List.length_singleton]; omega, nx hl _ ?_⟩, fun hl => ?_⟩
      · have z0 : (if 0 < 1 then [32] ++ ns.getD t.a0.toNat [] else ([] : List UInt8)) = [32] ++ ns.getD t.a0.toNat [] := rfl
        have z1 : (if 1 < 1 then [32] ++ ns.getD t.a1.toNat [] else ([] : List UInt8)) = [] := rfl
        have y0 : (if 0 < 0 then [32] ++ ns.getD t.a0.toNat [] else ([] : List UInt8)) = [] := rfl
        have y1 : (if 1 < 0 then [32] ++ ns.getD t.a1.toNat [] else ([] : List UInt8)) = [] := rfl
        rw [d0, tyI, tyI, y0, y1, show 0 + 1 = 1 from rfl, z0, z1, List.append_nil, List.append_nil, List.append_nil, List.append_assoc _ [32] (ns.getD _ _)]
      · have hd0 : ns.getD t.d.toNat default = ns.getD t.d.toNat [] := rfl
        have r0 : t.r.toNat = 0 := by omega
        refine ⟨by omega, ⟨by omega, by omega⟩, by rw [hd0, List.length_append, List.length_singleton]; omega, prV_ok h ?_⟩
        rw [hd0, ← tyI_end hg, r0]
    | 1 =>
      simp only [A_ref20_PrintL0, e1, go_sem, Nat.reduceMod, Nat.reduceBNe, Nat.reduceBEq, Nat.reduceEqDiff, Nat.reduceAdd, Int.reduceAdd, Nat.reduceMul, Nat.reduceSub, Int.reduceToNat, Int.reduceLE, Int.reduceLT, Int.reduceEq, Int.reduceNe, reduceCtorEq, Nat.reduceLT, Nat.reduceLeDiff]
      have d0 : ns.getD x1 default = ns.getD t.a1.toNat [] := by rw [e1]; rfl
      refine ⟨fun hl => ⟨by omega, ⟨by omega, by omega⟩, by rw [d0, List.length_append, List.length_singleton]; omega, nx hl _ ?_⟩, fun hl => ?_⟩
      · have z0 : (if 0 < 2 then [32] ++ ns.getD t.a0.toNat [] else ([] : List UInt8)) = [32] ++ ns.getD t.a0.toNat [] := rfl
        have z1 : (if 1 < 2 then [32] ++ ns.getD t.a1.toNat [] else ([] : List UInt8)) = [32] ++ ns.getD t.a1.toNat [] := rfl
        have y0 : (if 0 < 1 then [32] ++ ns.getD t.a0.toNat [] else ([] : List UInt8)) = [32] ++ ns.getD t.a0.toNat [] := rfl
        have y1 : (if 1 < 1 then [32] ++ ns.getD t.a1.toNat [] else ([] : List UInt8)) = [] := rfl
        rw [d0, tyI, tyI, y0, y1, show 1 + 1 = 2 from rfl, z0, z1, List.append_nil, List.append_assoc _ [32] (ns.getD t.a1.toNat _)]
      · have hd0 : ns.getD t.d.toNat default = ns.getD t.d.toNat [] := rfl
        have r0 : t.r.toNat = 1 := by omega
        refine ⟨by omega, ⟨by omega, by omega⟩, by rw [hd0, List.length_append, List.length_singleton]; omega, prV_ok h ?_⟩
        rw [hd0, ← tyI_end hg, r0]
    | i + 2 =>
      have hnl : ¬ ((i + 2 : Nat) : Int) < t.r := by omega
      simp only [A_ref20_PrintL0, hnl, go_sem, Nat.reduceMod, Nat.reduceBNe, Nat.reduceBEq, Nat.reduceEqDiff, Nat.reduceAdd, Int.reduceAdd, Nat.reduceMul, Nat.reduceSub, Int.reduceToNat, Int.reduceLE, Int.reduceLT, Int.reduceEq, Int.reduceNe, reduceCtorEq, Nat.reduceLT, Nat.reduceLeDiff]
      have hd0 : ns.getD t.d.toNat default = ns.getD t.d.toNat [] := rfl
      have r0 : t.r.toNat = i + 2 := by omega
      refine ⟨by omega, ⟨by omega, by omega⟩, by rw [hd0, List.length_append, List.length_singleton]; omega, prV_ok h ?_⟩
      rw [hd0, ← tyI_end hg, r0]
end
end Go.Avm
