/- Split. -/
import Derived.Test.YtpichdklbnkhfaaGreatDoorZQ2
import Derived.Test.YtpichdklbnkhfaaGreatDoorZS
import Derived.Test.YtpichdklbnkhfaaGreatDoorN2
set_option linter.unusedSectionVars false
set_option linter.unusedSimpArgs false
set_option linter.unusedVariables false

/- Split. -/
namespace Go.Avm
open Go
/-- the code behind the labels -/
def J1 : ACode := match findLabelA A_words_fields_1J0 1 with
  | some (.seq _ r) => r
  | _ => .bad
def J0 : ACode := match findLabelA A_words_fields_1J0 0 with
  | some (.seq _ r) => r
  | _ => .bad
/-- states of the run through a line: at the label 'found' or not; fuel; what is left; the fields; the field, its length; other blocks -/
abbrev SpI := Bool × Nat × List UInt8 × List Wo.Fd × Wo.Fd × Nat × List Blk
def spL (x : SpI) : Nat := bif x.1 then 0 else 1
def spC (s : List UInt8) (x : SpI) : Prop := x.2.2.1.length ≤ s.length ∧ x.2.2.1.length < x.2.1 + 1 ∧ x.2.2.2.1.length + x.2.2.1.length ≤ s.length ∧ Wo.splitS s = Wo.cms x.2.2.2.1 (Wo.spl (x.2.1 + 1) x.2.2.1) ∧ (x.1 = true → Wo.fld x.2.2.1 = some (x.2.2.2.2.1, x.2.2.2.2.2.1))
def spF (s : List UInt8) (x : SpI) : FL := [(5, .int .i64 (x.2.2.2.2.2.1 : Nat)), (4, .ptr 6 0), (3, .str x.2.2.1), (0, .yv 5)]
def spH (L : Loop) (frc : Fr) (x : SpI) : Heap := .box [.sl .ex []] :: .box [.int .i64 0] :: .box [lst fdV (.tok 4 2) x.2.2.2.1] :: .box [.bool (Wo.long x.2.2.2.1)] :: .tok x.2.2.2.1.length :: .lp L frc :: .box [.str x.2.2.2.2.1.1, .bool x.2.2.2.2.1.2] :: x.2.2.2.2.2.2
def spM (x : SpI) : Nat := bif x.1 then 2 * x.2.2.1.length else 2 * x.2.2.1.length + 1
theorem lt_i (n : Nat) : decide ((2000 : Int) < (n : Int)) = decide (2000 < n) := by
  rw [Bool.eq_iff_iff, decide_eq_true_eq, decide_eq_true_eq]
  omega
set_option maxRecDepth 10000
section
variable {X : Cx} (hX : X.P = Go.Proofs.Tryz.prog) (hs : Std X)
include hX hs
theorem ev_fields (s : List UInt8) : Ev X F_words_fields [.str s] (.clo F_words_fields_1 [] [.vp [.str s]]) := by
  refine ev_of_wpc hs (A_words_fields_ok hX) 2 ?_
  simp only [A_words_fields, go_sem, Nat.reduceMod, Nat.reduceBNe, Nat.reduceBEq, Nat.reduceEqDiff, Nat.reduceAdd, Int.reduceAdd, Nat.reduceMul, Nat.reduceSub, Int.reduceToNat, Int.reduceLE, Int.reduceLT, Int.reduceEq, Int.reduceNe, reduceCtorEq, Nat.reduceLT, Nat.reduceLeDiff]
  rfl
section
variable {s : List UInt8} (hl : s.length < 1000000) {L : Loop} {G : FL} (hL : LoopIs X 39 [17, 18] A_words_SplitR0a A_words_SplitR0b L) (hps : ∀ p ∈ [17, 18], p < 39) (G2 : G.get 2 = .ptr 0 0) (G3 : G.get 3 = .ptr 1 0) (G4 : G.get 4 = .ptr 2 0) (G5 : G.get 5 = .ptr 3 0)
  {Qo : Exit → Fr → Heap → Prop}
  (hN : ∀ (o : List Wo.Fd) (B : Blk) (R : List Blk), (Wo.splitS s = if Wo.long o || decide (64 < o.length) then ([], 3) else (o, 0)) → Qo .normal G.get (.box [.sl .ex []] :: .box [.int .i64 0] :: .box [lst fdV (.tok 4 2) o] :: .box [.bool (Wo.long o)] :: .tok o.length :: .dead :: B :: R))
  (hR : ∀ (B1 B2 B3 B4 : Blk) (R : List Blk), Wo.splitS s = ([], 6) → Qo .ret G.get (.box [.sl .ex []] :: .box [.int .i64 6] :: B1 :: B2 :: B3 :: .dead :: B4 :: R))
include hl hL hps G2 G3 G4 G5 hN hR
set_option maxHeartbeats 4000000 in
theorem sp_found (P : SpI → Prop) {F0 : FL} {F n : Nat} {r : List UInt8} {o : List Wo.Fd} {f : Wo.Fd} {R : List Blk} (hC : spC s (true, F, r, o, f, n, R)) (hP : ∀ j, spM j < 2 * r.length → P j) (g0 : F0.get 0 = .yv 5) (g3 : F0.get 3 = .str r) (g4 : F0.get 4 = .ptr 6 0) (g5 : F0.get 5 = .int .i64 n) :
    wpc X 57 J0 (kq X 57 (AJ spL (spC s) (spF s) (spH L G.get) P (kq X 57 (RetIs [] fun _ H' => LoopQ 5 L G.get Qo H') [])) []) F0.get (spH L G.get (true, F, r, o, f, n, R)) := by
  obtain ⟨c1, c2, c3, c4, c5⟩ := hC
  have hf := c5 rfl
  simp only at c1 c2 c3 c4 hf
  have hfl := Wo.fld_le hf
  simp only [J0, findLabelA, A_words_fields_1J0, spH, go_sem, Nat.reduceMod, Nat.reduceBNe, Nat.reduceBEq, Nat.reduceEqDiff, Nat.reduceAdd, Int.reduceAdd, Nat.reduceMul, Nat.reduceSub, Int.reduceToNat, Int.reduceLE, Int.reduceLT, Int.reduceEq, Int.reduceNe, reduceCtorEq, Nat.reduceLT, Nat.reduceLeDiff, g0, g3, g4, g5, List.take_length]
  refine ⟨by omega, fun h1 => ⟨by have := List.length_pos_iff.2 h1; omega, fun h2 => ?_, fun h2 => ?_⟩, fun h1 => ?_⟩
  · refine w_round' hs.hm hL hps rfl rfl fun l => ?_
    simp only [A_words_SplitR0a, A_words_SplitR0b, go_sem, Nat.reduceMod, Nat.reduceBNe, Nat.reduceBEq, Nat.reduceEqDiff, Nat.reduceAdd, Int.reduceAdd, Nat.reduceMul, Nat.reduceSub, Int.reduceToNat, Int.reduceLE, Int.reduceLT, Int.reduceEq, Int.reduceNe, reduceCtorEq, Nat.reduceLT, Nat.reduceLeDiff, G2, G3, G4, G5]
    refine lq_r rfl (hR _ _ _ _ _ ?_)
    have hn : n < r.length := by
      have := List.length_pos_iff.2 h1
      rw [List.length_drop] at this
      omega
    rw [c4, Wo.spl_odd hf hn (fun h => h2 ((u8_lit (b := 32) rfl).2 (by rw [← h]; simp [List.getD_eq_getElem?_getD])))]
  · refine w_round' hs.hm hL hps rfl rfl fun l => ?_
    simp only [A_words_SplitR0a, A_words_SplitR0b, go_sem, Nat.reduceMod, Nat.reduceBNe, Nat.reduceBEq, Nat.reduceEqDiff, Nat.reduceAdd, Int.reduceAdd, Nat.reduceMul, Nat.reduceSub, Int.reduceToNat, Int.reduceLE, Int.reduceLT, Int.reduceEq, Int.reduceNe, reduceCtorEq, Nat.reduceLT, Nat.reduceLeDiff, G2, G3, G4, G5, ax1_fd, g0, g3, g4, g5, h1]
    have hn : n < r.length := by
      have := List.length_pos_iff.2 h1
      rw [List.length_drop] at this
      omega
    have hg : (r.drop n).getD 0 0 = r.getD n 0 := by simp [List.getD_eq_getElem?_getD]
    have hnx := c4
    rw [Wo.spl_next hf hn (by rw [← hg]; exact (u8_lit (b := 32) rfl).1 h2)] at hnx
    obtain ⟨F, rfl⟩ : ∃ G, F = G + 1 := ⟨F - 1, by omega⟩
    have hlg := Wo.long_snoc o f
    have hj : spC s (false, F, r.drop (n + 1), o ++ [f], f, n, R ++ [.box [.str f.1, .bool f.2]]) := by
      refine ⟨?_, ?_, ?_, hnx, fun h => by simp at h⟩
      · simp only [List.length_drop]; omega
      · simp only [List.length_drop]; omega
      · simp only [List.length_drop, List.length_append, List.length_singleton]; omega
    have hPj : P (false, F, r.drop (n + 1), o ++ [f], f, n, R ++ [.box [.str f.1, .bool f.2]]) := hP _ (by simp only [spM, cond_false, List.length_drop]; omega)
    have hdl : (r.drop n).length = r.length - n := List.length_drop
    have e2 : AV.str (List.drop 1 (List.take (r.drop n).length (r.drop n))) = AV.str (r.drop (n + 1)) := by
      rw [List.take_length, List.drop_drop]
    refine ⟨fun hL' => ⟨by omega, by omega, _, hPj, rfl, hj, ?_, ?_⟩, fun hL' => ⟨by omega, by omega, _, hPj, rfl, hj, ?_, ?_⟩⟩
    · simp only [spF, go_sem, Nat.reduceMod, Nat.reduceBNe, Nat.reduceBEq, Nat.reduceEqDiff, Nat.reduceAdd, Int.reduceAdd, Nat.reduceMul, Nat.reduceSub, Int.reduceToNat, Int.reduceLE, Int.reduceLT, Int.reduceEq, Int.reduceNe, reduceCtorEq, Nat.reduceLT, Nat.reduceLeDiff, g0, g3, g4, g5]
      exact e2
    · simp only [spH, hlg, hL', Bool.true_or, List.length_append, List.length_singleton]
    · simp only [spF, go_sem, Nat.reduceMod, Nat.reduceBNe, Nat.reduceBEq, Nat.reduceEqDiff, Nat.reduceAdd, Int.reduceAdd, Nat.reduceMul, Nat.reduceSub, Int.reduceToNat, Int.reduceLE, Int.reduceLT, Int.reduceEq, Int.reduceNe, reduceCtorEq, Nat.reduceLT, Nat.reduceLeDiff, g0, g3, g4, g5]
      exact e2
    · simp only [spH, hlg, hL', Bool.false_or, List.length_append, List.length_singleton]
      rw [lt_i]
  · refine w_round' hs.hm hL hps rfl rfl fun l => ?_
    simp only [A_words_SplitR0a, A_words_SplitR0b, go_sem, Nat.reduceMod, Nat.reduceBNe, Nat.reduceBEq, Nat.reduceEqDiff, Nat.reduceAdd, Int.reduceAdd, Nat.reduceMul, Nat.reduceSub, Int.reduceToNat, Int.reduceLE, Int.reduceLT, Int.reduceEq, Int.reduceNe, reduceCtorEq, Nat.reduceLT, Nat.reduceLeDiff, G2, G3, G4, G5, ax1_fd, g0, g3, g4, g5, h1]
    have hn : r.length ≤ n := by
      rcases Nat.lt_or_ge n r.length with h | h
      · exact absurd h1 (Wo.drop_ne h)
      · exact h
    have hend := c4
    rw [Wo.spl_end hf hn] at hend
    have hlg := Wo.long_snoc o f
    have hq := hN (o ++ [f]) (.box [.str f.1, .bool f.2]) (R ++ [.box [.str f.1, .bool f.2]]) hend
    rw [List.length_append, List.length_singleton, hlg] at hq
    refine ⟨fun hL' => ⟨by omega, lq_n rfl ?_⟩, fun hL' => ⟨by omega, lq_n rfl ?_⟩⟩
    · rw [hL', Bool.true_or] at hq
      exact hq
    · rw [hL', Bool.false_or] at hq
      rw [lt_i]
      exact hq
set_option maxHeartbeats 4000000 in
theorem sp_field (hE : X.G gEsc = some tabE) (P : SpI → Prop) {F0 : FL} {F n : Nat} {r : List UInt8} {o : List Wo.Fd} {f : Wo.Fd} {R : List Blk} (hC : spC s (false, F, r, o, f, n, R)) (hP : ∀ j, spM j < 2 * r.length + 1 → P j) (g0 : F0.get 0 = .yv 5) (g3 : F0.get 3 = .str r) (g4 : F0.get 4 = .ptr 6 0) :
    XA X 57 J1 F0.get (spH L G.get (false, F, r, o, f, n, R)) (AJ spL (spC s) (spF s) (spH L G.get) P (kq X 57 (RetIs [] fun _ H' => LoopQ 5 L G.get Qo H') [])) := by
  obtain ⟨c1, c2, c3, c4, c5⟩ := hC
  simp only at c1 c2 c3 c4
  have hq := @Wo.unqS_le r
  have hfq := @Wo.fld_q r
  have hfb := @Wo.fld_b r
  have hfn := @Wo.fld_n r
  simp only [J1, findLabelA, A_words_fields_1J0, spH]
  refine xa_cut hs.hm ?_
  simp only [go_sem, Nat.reduceMod, Nat.reduceBNe, Nat.reduceBEq, Nat.reduceEqDiff, Nat.reduceAdd, Int.reduceAdd, Nat.reduceMul, Nat.reduceSub, Int.reduceToNat, Int.reduceLE, Int.reduceLT, Int.reduceEq, Int.reduceNe, reduceCtorEq, Nat.reduceLT, Nat.reduceLeDiff, g0, g3, g4]
  refine call_ev (ev_unquote hX hs hE r (by omega)) ?_
  simp only [go_sem, Nat.reduceMod, Nat.reduceBNe, Nat.reduceBEq, Nat.reduceEqDiff, Nat.reduceAdd, Int.reduceAdd, Nat.reduceMul, Nat.reduceSub, Int.reduceToNat, Int.reduceLE, Int.reduceLT, Int.reduceEq, Int.reduceNe, reduceCtorEq, Nat.reduceLT, Nat.reduceLeDiff, g0, g3, g4]
  have hQ : ∀ h : 0 < (Wo.unqS r).2, spC s (true, F, r, o, ((Wo.unqS r).1, true), (Wo.unqS r).2, R) := fun h => ⟨c1, c2, c3, c4, fun _ => hfq h⟩
  refine ⟨fun h => ⟨(true, F, r, o, ((Wo.unqS r).1, true), (Wo.unqS r).2, R), hP _ (by simp only [spM, cond_true]; omega), rfl, hQ (by omega), ?_, rfl⟩, fun h => ?_⟩
  · simp only [spF, go_sem, Nat.reduceMod, Nat.reduceBNe, Nat.reduceBEq, Nat.reduceEqDiff, Nat.reduceAdd, Int.reduceAdd, Nat.reduceMul, Nat.reduceSub, Int.reduceToNat, Int.reduceLE, Int.reduceLT, Int.reduceEq, Int.reduceNe, reduceCtorEq, Nat.reduceLT, Nat.reduceLeDiff, g0, g3, g4]
  have h0 : ¬ 0 < (Wo.unqS r).2 := by omega
  have hix := Lat.idx_le 32 r
  refine xa_keep [0, 3, 4] ?_
  simp only [go_sem, Nat.reduceMod, Nat.reduceBNe, Nat.reduceBEq, Nat.reduceEqDiff, Nat.reduceAdd, Int.reduceAdd, Nat.reduceMul, Nat.reduceSub, Int.reduceToNat, Int.reduceLE, Int.reduceLT, Int.reduceEq, Int.reduceNe, reduceCtorEq, Nat.reduceLT, Nat.reduceLeDiff, g0, g3, g4]
  refine xa_cut hs.hm ?_
  simp only [go_sem, Nat.reduceMod, Nat.reduceBNe, Nat.reduceBEq, Nat.reduceEqDiff, Nat.reduceAdd, Int.reduceAdd, Nat.reduceMul, Nat.reduceSub, Int.reduceToNat, Int.reduceLE, Int.reduceLT, Int.reduceEq, Int.reduceNe, reduceCtorEq, Nat.reduceLT, Nat.reduceLeDiff]
  refine xa_cut hs.hm ?_
  simp only [go_sem, Nat.reduceMod, Nat.reduceBNe, Nat.reduceBEq, Nat.reduceEqDiff, Nat.reduceAdd, Int.reduceAdd, Nat.reduceMul, Nat.reduceSub, Int.reduceToNat, Int.reduceLE, Int.reduceLT, Int.reduceEq, Int.reduceNe, reduceCtorEq, Nat.reduceLT, Nat.reduceLeDiff]
  refine call_ev (ev_Cut hX hs r 32 (by omega)) ?_
  have ecut : (if Lat.idx 32 r < r.length then r.take (Lat.idx 32 r) else r) = r.take (Lat.idx 32 r) := by
    split
    · rfl
    · rw [List.take_of_length_le (by omega)]
  rw [ecut]
  simp only [go_sem, Nat.reduceMod, Nat.reduceBNe, Nat.reduceBEq, Nat.reduceEqDiff, Nat.reduceAdd, Int.reduceAdd, Nat.reduceMul, Nat.reduceSub, Int.reduceToNat, Int.reduceLE, Int.reduceLT, Int.reduceEq, Int.reduceNe, reduceCtorEq, Nat.reduceLT, Nat.reduceLeDiff]
  refine xa_keep [0, 3, 4] ?_
  simp only [go_sem, Nat.reduceMod, Nat.reduceBNe, Nat.reduceBEq, Nat.reduceEqDiff, Nat.reduceAdd, Int.reduceAdd, Nat.reduceMul, Nat.reduceSub, Int.reduceToNat, Int.reduceLE, Int.reduceLT, Int.reduceEq, Int.reduceNe, reduceCtorEq, Nat.reduceLT, Nat.reduceLeDiff]
  refine xa_cut hs.hm ?_
  have htl := Wo.take_idx_len r
  simp only [go_sem, Nat.reduceMod, Nat.reduceBNe, Nat.reduceBEq, Nat.reduceEqDiff, Nat.reduceAdd, Int.reduceAdd, Nat.reduceMul, Nat.reduceSub, Int.reduceToNat, Int.reduceLE, Int.reduceLT, Int.reduceEq, Int.reduceNe, reduceCtorEq, Nat.reduceLT, Nat.reduceLeDiff, htl]
  refine xa_keep [0, 3, 4, 5] ?_
  simp only [go_sem, Nat.reduceMod, Nat.reduceBNe, Nat.reduceBEq, Nat.reduceEqDiff, Nat.reduceAdd, Int.reduceAdd, Nat.reduceMul, Nat.reduceSub, Int.reduceToNat, Int.reduceLE, Int.reduceLT, Int.reduceEq, Int.reduceNe, reduceCtorEq, Nat.reduceLT, Nat.reduceLeDiff]
  refine xa_cut hs.hm ?_
  simp only [go_sem, Nat.reduceMod, Nat.reduceBNe, Nat.reduceBEq, Nat.reduceEqDiff, Nat.reduceAdd, Int.reduceAdd, Nat.reduceMul, Nat.reduceSub, Int.reduceToNat, Int.reduceLE, Int.reduceLT, Int.reduceEq, Int.reduceNe, reduceCtorEq, Nat.reduceLT, Nat.reduceLeDiff]
  refine call_ev (ev_isBare hX hs _ (by omega)) ?_
  cases hb : Wo.bareB (r.take (Lat.idx 32 r)) with
  | false =>
    simp only [go_sem, Nat.reduceMod, Nat.reduceBNe, Nat.reduceBEq, Nat.reduceEqDiff, Nat.reduceAdd, Int.reduceAdd, Nat.reduceMul, Nat.reduceSub, Int.reduceToNat, Int.reduceLE, Int.reduceLT, Int.reduceEq, Int.reduceNe, reduceCtorEq, Nat.reduceLT, Nat.reduceLeDiff]
    refine w_round' hs.hm hL hps rfl rfl fun l => ?_
    simp only [A_words_SplitR0a, A_words_SplitR0b, go_sem, Nat.reduceMod, Nat.reduceBNe, Nat.reduceBEq, Nat.reduceEqDiff, Nat.reduceAdd, Int.reduceAdd, Nat.reduceMul, Nat.reduceSub, Int.reduceToNat, Int.reduceLE, Int.reduceLT, Int.reduceEq, Int.reduceNe, reduceCtorEq, Nat.reduceLT, Nat.reduceLeDiff, G2, G3, G4, G5]
    refine lq_r rfl (hR _ _ _ _ _ ?_)
    rw [c4, Wo.spl_bad (hfn h0 hb)]
  | true =>
    simp only [go_sem, Nat.reduceMod, Nat.reduceBNe, Nat.reduceBEq, Nat.reduceEqDiff, Nat.reduceAdd, Int.reduceAdd, Nat.reduceMul, Nat.reduceSub, Int.reduceToNat, Int.reduceLE, Int.reduceLT, Int.reduceEq, Int.reduceNe, reduceCtorEq, Nat.reduceLT, Nat.reduceLeDiff]
    refine xa_cut hs.hm ?_
    simp only [go_sem, Nat.reduceMod, Nat.reduceBNe, Nat.reduceBEq, Nat.reduceEqDiff, Nat.reduceAdd, Int.reduceAdd, Nat.reduceMul, Nat.reduceSub, Int.reduceToNat, Int.reduceLE, Int.reduceLT, Int.reduceEq, Int.reduceNe, reduceCtorEq, Nat.reduceLT, Nat.reduceLeDiff]
    refine xa_last hs.hm ?_
    exact sp_found hX hs hl hL hps G2 G3 G4 G5 hN hR P (F0 := _) ⟨c1, c2, c3, c4, fun _ => hfb h0 hb⟩ (fun j hj => hP j (by omega)) rfl rfl rfl rfl
end
set_option maxHeartbeats 4000000 in
theorem ev_Split (hE : X.G gEsc = some tabE) (s : List UInt8) (hl : s.length < 1000000) : Ev X F_words_Split [.str s] (splV s) := by
  refine ev_of_wpcd hs (A_words_Split_ok hX) 2 ?_
  simp only [A_words_Split, go_sem, Nat.reduceMod, Nat.reduceBNe, Nat.reduceBEq, Nat.reduceEqDiff, Nat.reduceAdd, Int.reduceAdd, Nat.reduceMul, Nat.reduceSub, Int.reduceToNat, Int.reduceLE, Int.reduceLT, Int.reduceEq, Int.reduceNe, reduceCtorEq, Nat.reduceLT, Nat.reduceLeDiff]
  refine ⟨fun h => ?_, fun h => ⟨fun h0 => ?_, fun h0 => ?_⟩⟩
  · exact splV_nil (by rw [Wo.splitS, if_pos (by omega)])
  · exact splV_nil (by rw [Wo.splitS, if_neg (by omega), if_pos h0])
  have hp : 0 < s.length := List.length_pos_iff.2 h0
  have hst := Wo.splitS_cms (s := s) (by omega) h0
  refine call_ev (ev_fields hX hs s) ?_
  simp only [go_sem, Nat.reduceMod, Nat.reduceBNe, Nat.reduceBEq, Nat.reduceEqDiff, Nat.reduceAdd, Int.reduceAdd, Nat.reduceMul, Nat.reduceSub, Int.reduceToNat, Int.reduceLE, Int.reduceLT, Int.reduceEq, Int.reduceNe, reduceCtorEq, Nat.reduceLT, Nat.reduceLeDiff]
  refine w_rangeT (wk_tokb 2 0 2 rfl rfl) ?_
  refine w_rangeF' hs rfl (A_words_fields_1_ok hX) fun L frc hf hL hps => ?_
  subst hf
  simp only [A_words_fields_1, go_sem, Nat.reduceMod, Nat.reduceBNe, Nat.reduceBEq, Nat.reduceEqDiff, Nat.reduceAdd, Int.reduceAdd, Nat.reduceMul, Nat.reduceSub, Int.reduceToNat, Int.reduceLE, Int.reduceLT, Int.reduceEq, Int.reduceNe, reduceCtorEq, Nat.reduceLT, Nat.reduceLeDiff]
  generalize hG : ([(16, AV.clo F_words_fields_1 [] [AV.vp [AV.str s]]), (15, AV.str s), (5, AV.ptr 3 0), (4, AV.ptr 2 0), (12, AV.bool (decide (s = []))), (14, AV.bool (decide (s = []))), (13, AV.str s), (8, AV.bool (decide ((8192 : Int) < s.length))), (11, AV.bool (decide ((8192 : Int) < s.length))), (10, AV.int .i64 s.length), (9, AV.str s), (3, AV.ptr 1 0), (2, AV.ptr 0 0), (0, AV.str s)] : FL) = G
  have G2 : FL.get G 2 = .ptr 0 0 := by rw [← hG]; rfl
  have G3 : FL.get G 3 = .ptr 1 0 := by rw [← hG]; rfl
  have G4 : FL.get G 4 = .ptr 2 0 := by rw [← hG]; rfl
  have G5 : FL.get G 5 = .ptr 3 0 := by rw [← hG]; rfl
  clear hG
  generalize hQo : kq X 39 (RetIs [ARes.cell none 2, ARes.cell none 3] fun r' H' => dry (fin H' 2 r') = splV s) _ = Qo
  have hN : ∀ (o : List Wo.Fd) (B : Blk) (R : List Blk), (Wo.splitS s = if Wo.long o || decide (64 < o.length) then ([], 3) else (o, 0)) → Qo .normal (FL.get G) (.box [.sl .ex []] :: .box [.int .i64 0] :: .box [lst fdV (.tok 4 2) o] :: .box [.bool (Wo.long o)] :: .tok o.length :: .dead :: B :: R) := fun o B R ho => by
    subst hQo
    simp only [go_sem, Nat.reduceMod, Nat.reduceBNe, Nat.reduceBEq, Nat.reduceEqDiff, Nat.reduceAdd, Int.reduceAdd, Nat.reduceMul, Nat.reduceSub, Int.reduceToNat, Int.reduceLE, Int.reduceLT, Int.reduceEq, Int.reduceNe, reduceCtorEq, Nat.reduceLT, Nat.reduceLeDiff, G2, G3, G4, G5]
    refine ⟨fun hL' => splV_nil (by rw [ho, hL', Bool.true_or]; rfl), fun hL' => ⟨fun h => splV_nil (by rw [ho, decide_eq_true (show 64 < o.length by omega), Bool.or_true]; rfl), fun h => splV_eq (by rw [ho, hL', decide_eq_false (show ¬ 64 < o.length by omega)]; rfl)⟩⟩
  have hR : ∀ (B1 B2 B3 B4 : Blk) (R : List Blk), Wo.splitS s = ([], 6) → Qo .ret (FL.get G) (.box [.sl .ex []] :: .box [.int .i64 6] :: B1 :: B2 :: B3 :: .dead :: B4 :: R) := fun B1 B2 B3 B4 R ho => by
    subst hQo
    simp only [go_sem, Nat.reduceMod, Nat.reduceBNe, Nat.reduceBEq, Nat.reduceEqDiff, Nat.reduceAdd, Int.reduceAdd, Nat.reduceMul, Nat.reduceSub, Int.reduceToNat, Int.reduceLE, Int.reduceLT, Int.reduceEq, Int.reduceNe, reduceCtorEq, Nat.reduceLT, Nat.reduceLeDiff, G2, G3, G4, G5]
    exact splV_nil ho
  refine w_scopeJx spL (spC s) (spF s) (spH L (FL.get G)) spM ?_ ?_
  · simp only [A_words_fields_1J0]
    refine xa_cut hs.hm ?_
    simp only [go_sem, Nat.reduceMod, Nat.reduceBNe, Nat.reduceBEq, Nat.reduceEqDiff, Nat.reduceAdd, Int.reduceAdd, Nat.reduceMul, Nat.reduceSub, Int.reduceToNat, Int.reduceLE, Int.reduceLT, Int.reduceEq, Int.reduceNe, reduceCtorEq, Nat.reduceLT, Nat.reduceLeDiff]
    refine xa_cut hs.hm ?_
    simp only [go_sem, Nat.reduceMod, Nat.reduceBNe, Nat.reduceBEq, Nat.reduceEqDiff, Nat.reduceAdd, Int.reduceAdd, Nat.reduceMul, Nat.reduceSub, Int.reduceToNat, Int.reduceLE, Int.reduceLT, Int.reduceEq, Int.reduceNe, reduceCtorEq, Nat.reduceLT, Nat.reduceLeDiff]
    refine xa_cut hs.hm ?_
    simp only [go_sem, Nat.reduceMod, Nat.reduceBNe, Nat.reduceBEq, Nat.reduceEqDiff, Nat.reduceAdd, Int.reduceAdd, Nat.reduceMul, Nat.reduceSub, Int.reduceToNat, Int.reduceLE, Int.reduceLT, Int.reduceEq, Int.reduceNe, reduceCtorEq, Nat.reduceLT, Nat.reduceLeDiff]
    refine xa_cut hs.hm ?_
    simp only [go_sem, Nat.reduceMod, Nat.reduceBNe, Nat.reduceBEq, Nat.reduceEqDiff, Nat.reduceAdd, Int.reduceAdd, Nat.reduceMul, Nat.reduceSub, Int.reduceToNat, Int.reduceLE, Int.reduceLT, Int.reduceEq, Int.reduceNe, reduceCtorEq, Nat.reduceLT, Nat.reduceLeDiff]
    exact sp_field hX hs hl hL hps G2 G3 G4 G5 hN hR hE _ (F := s.length) (n := 0) (r := s) (o := []) (f := ([], false)) (R := []) ⟨Nat.le_refl _, Nat.lt_succ_self _, by simp, hst, fun h => by cases h⟩ (fun _ _ => trivial) rfl rfl rfl
  · rintro ⟨b, F, r, o, f, n, R⟩ hC
    cases b with
    | true =>
      refine ⟨.seq .skip J0, rfl, ?_⟩
      refine xa_cut hs.hm ?_
      simp only [go_sem, Nat.reduceMod, Nat.reduceBNe, Nat.reduceBEq, Nat.reduceEqDiff, Nat.reduceAdd, Int.reduceAdd, Nat.reduceMul, Nat.reduceSub, Int.reduceToNat, Int.reduceLE, Int.reduceLT, Int.reduceEq, Int.reduceNe, reduceCtorEq, Nat.reduceLT, Nat.reduceLeDiff]
      exact xa_last hs.hm (sp_found hX hs hl hL hps G2 G3 G4 G5 hN hR _ (F0 := _) hC (fun j hj => hj) rfl rfl rfl rfl)
    | false =>
      refine ⟨.seq .skip J1, rfl, ?_⟩
      refine xa_cut hs.hm ?_
      simp only [go_sem, Nat.reduceMod, Nat.reduceBNe, Nat.reduceBEq, Nat.reduceEqDiff, Nat.reduceAdd, Int.reduceAdd, Nat.reduceMul, Nat.reduceSub, Int.reduceToNat, Int.reduceLE, Int.reduceLT, Int.reduceEq, Int.reduceNe, reduceCtorEq, Nat.reduceLT, Nat.reduceLeDiff]
      exact sp_field hX hs hl hL hps G2 G3 G4 G5 hN hR hE _ (F0 := _) hC (fun j hj => hj) rfl rfl rfl
end
end Go.Avm

/- Numerals and quoted forms. -/
namespace Go.Avm
open Go
theorem dig1 {a : Nat} (h : a < 10) : ([.int .u8 (IntKind.u8.wrap (48 + (a : Int)))] : List AV) = [u8 (UInt8.ofNat (48 + a))] := by
  rw [wu8 (by omega)]
  simp only [u8, UInt8.toNat_ofNat']
  congr 2
  omega
theorem ax1_34 {H : Heap} {by' : Nat} (i : Nat) (l : List UInt8) : appX H 1 by' (lst u8 (.tok i 1) l) (some [.int .u8 34]) = app1 H by' i l.length (lst u8 (.tok i 1) (l ++ [34])) := ax1_u8 i l 34
theorem axe_34 {H : Heap} {by' : Nat} (l : List UInt8) : appX H 1 by' (lst u8 .ex l) (some [.int .u8 34]) = some (decide ((l.length + 1) * by' ≤ 140737488355328) && decide (l.length + 1 ≤ 9223372036854775807), lst u8 (.tok H.length 1) (l ++ [34]), some (H ++ [.tok (l.length + 1)])) := by
  have := ax_ex (H := H) (by' := by') (f := u8) (l := l) (m := [34])
  simp only [List.isEmpty_cons, Bool.and_false, Bool.false_eq_true, if_false, List.length_singleton] at this
  exact this
def appk (H : Heap) (by' i k m : Nat) (v : AV) : Option (Bool × AV × Option Heap) := match H[i]? with
    | some (.tok n) => some (decide (n = k) && decide ((k + m) * by' ≤ 140737488355328) && decide (k + m ≤ 9223372036854775807), v, some (H.set i (.tok (k + m))))
    | _ => none
theorem ax2_92 {H : Heap} {by' : Nat} (i : Nat) (l : List UInt8) (b : UInt8) : appX H 1 by' (lst u8 (.tok i 1) l) (some [.int .u8 92, .int .u8 ((b.toNat : Nat) : Int)]) = appk H by' i l.length 2 (lst u8 (.tok i 1) (l ++ [92, b])) :=
  ax_tok (f := u8) (m := [92, b]) i
theorem ax4_92 {H : Heap} {by' : Nat} (i : Nat) (l : List UInt8) (b c : UInt8) : appX H 1 by' (lst u8 (.tok i 1) l) (some [.int .u8 92, .int .u8 120, .int .u8 ((b.toNat : Nat) : Int), .int .u8 ((c.toNat : Nat) : Int)]) = appk H by' i l.length 4 (lst u8 (.tok i 1) (l ++ [92, 120, b, c])) :=
  ax_tok (f := u8) (m := [92, 120, b, c]) i
theorem nib {n : Nat} (h : n < 256) : (Int.fdiv (n : Int) (2 ^ (min 4 8))) = ((n / 16 : Nat) : Int) ∧ bits .and .u8 (n : Int) 15 = ((n % 16 : Nat) : Int) := by
  have : ∀ n : Nat, n < 256 → (Int.fdiv (n : Int) (2 ^ (min 4 8))) = ((n / 16 : Nat) : Int) ∧ bits .and .u8 (n : Int) 15 = ((n % 16 : Nat) : Int) := by decide +kernel
  exact this n h
theorem axn_34 {H : Heap} {by' : Nat} (i : Nat) : appX H 1 by' (.sl (.tok i 1) []) (some [.int .u8 34]) = app1 H by' i 0 (lst u8 (.tok i 1) [34]) := ax1_u8 i [] 34
set_option maxRecDepth 10000
section
variable {X : Cx} (hX : X.P = Go.Proofs.Tryz.prog) (hs : Std X)
include hX hs
theorem ev_Digits (hP : X.G (sRen.g 17) = some tabP) (n : Int) (h : -9223372036854775808 ≤ n ∧ n ≤ 9223372036854775807) : Ev X F_words_Digits [.int .i64 n] (.str (Lib.itoa n)) := by
  refine ev_of_wpc hs (A_words_Digits_ok hX) 0 ?_
  simp only [A_words_Digits, go_sem, Nat.reduceMod, Nat.reduceBNe, Nat.reduceBEq, Nat.reduceEqDiff, Nat.reduceAdd, Int.reduceAdd, Nat.reduceMul, Nat.reduceSub, Int.reduceToNat, Int.reduceLE, Int.reduceLT, Int.reduceEq, Int.reduceNe, reduceCtorEq, Nat.reduceLT, Nat.reduceLeDiff]
  refine call_ev (ev_FormatInt hX hP n h) ?_
  simp only [go_sem, Nat.reduceMod, Nat.reduceBNe, Nat.reduceBEq, Nat.reduceEqDiff, Nat.reduceAdd, Int.reduceAdd, Nat.reduceMul, Nat.reduceSub, Int.reduceToNat, Int.reduceLE, Int.reduceLT, Int.reduceEq, Int.reduceNe, reduceCtorEq, Nat.reduceLT, Nat.reduceLeDiff]
theorem ev_rDigits (n : Int) (h : -9223372036854775808 ≤ n ∧ n ≤ 9223372036854775807) : Ev X F_ref01_Digits [.int .i64 n] (.str (Lib.itoa n)) := by
  generalize hk : n.natAbs * 2 + (if n < 0 then 1 else 0) = k
  induction k using Nat.strongRecOn generalizing n with
  | _ k ih =>
    subst hk
    refine ev_of_wpc hs (A_ref01_Digits_ok hX) 0 ?_
    by_cases hb : 9 < n ∨ n < -9
    · have hq : (n.tdiv 10).natAbs = n.natAbs / 10 ∧ (n < 0 ∨ ¬ n.tdiv 10 < 0) := by
        rcases Int.lt_or_le n 0 with h0 | h0
        · obtain ⟨m, rfl⟩ : ∃ m : Nat, n = -(m : Int) := ⟨n.natAbs, by omega⟩
          rw [Int.neg_tdiv, Int.tdiv_eq_ediv_of_nonneg (by omega)]; omega
        · rw [Int.tdiv_eq_ediv_of_nonneg (by omega)]; omega
      have hm : n.tmod 10 = if n < 0 then -((n.natAbs % 10 : Nat) : Int) else ((n.natAbs % 10 : Nat) : Int) := by
        rcases Int.lt_or_le n 0 with h0 | h0
        · obtain ⟨m, rfl⟩ : ∃ m : Nat, n = -(m : Int) := ⟨n.natAbs, by omega⟩
          rw [if_pos h0, Int.neg_tmod, Int.tmod_eq_emod_of_nonneg (by omega)]; omega
        · rw [if_neg (by omega), Int.tmod_eq_emod_of_nonneg (by omega)]; omega
      have hr : Ev X F_ref01_Digits [.int .i64 (n.tdiv 10)] (.str (Lib.itoa (n.tdiv 10))) := ih _ (by
        have h1 := hq.1
        split <;> split <;> omega) _ (by omega) rfl
      have ew : IntKind.i64.wrap (n.tdiv 10) = n.tdiv 10 := wi64 (by omega)
      have hst := Wo.itoa_step hb
      have hd := dig1 (a := n.natAbs % 10) (Nat.mod_lt _ (by decide))
      have hlen := Wo.itoa_len (n := n.tdiv 10) (by omega)
      have hq1 := hq.1
      have hfin : ∀ t : Int, t = ((n.natAbs % 10 : Nat) : Int) → b2sX (.sl .ex [.int .u8 (IntKind.u8.wrap (IntKind.i64.wrap (48 + t)))]) = some (true, .str [UInt8.ofNat (48 + n.natAbs % 10)], none) := fun t ht => by
        subst ht
        have hlt : n.natAbs % 10 < 10 := Nat.mod_lt _ (by decide)
        rw [wi64 (by omega), hd]
        exact bs_1 .ex _
      have c9 : decide (9 < n) = decide (¬ n < -9) := by
        congr 1
        rw [eq_iff_iff]
        omega
      have w0 : IntKind.i64.wrap (0 - n.tmod 10) = -n.tmod 10 := by
        rw [wi64 (by split at hm <;> omega)]; omega
      by_cases c1 : 9 < n
      · rw [if_neg (by omega)] at hm
        simp only [A_ref01_Digits, go_sem, Nat.reduceMod, Nat.reduceBNe, Nat.reduceBEq, Nat.reduceEqDiff, Nat.reduceAdd, Int.reduceAdd, Nat.reduceMul, Nat.reduceSub, Int.reduceToNat, Int.reduceLE, Int.reduceLT, Int.reduceEq, Int.reduceNe, reduceCtorEq, Nat.reduceLT, Nat.reduceLeDiff, c1, ew, w0]
        refine ⟨fun e => by omega, fun e => callq_ev hr ?_⟩
        simp only [go_sem, Nat.reduceMod, Nat.reduceBNe, Nat.reduceBEq, Nat.reduceEqDiff, Nat.reduceAdd, Int.reduceAdd, Nat.reduceMul, Nat.reduceSub, Int.reduceToNat, Int.reduceLE, Int.reduceLT, Int.reduceEq, Int.reduceNe, reduceCtorEq, Nat.reduceLT, Nat.reduceLeDiff, hfin _ hm]
        exact ⟨by omega, by rw [hst]⟩
      · have c2 : n < -9 := by omega
        rw [if_pos (by omega)] at hm
        simp only [A_ref01_Digits, go_sem, Nat.reduceMod, Nat.reduceBNe, Nat.reduceBEq, Nat.reduceEqDiff, Nat.reduceAdd, Int.reduceAdd, Nat.reduceMul, Nat.reduceSub, Int.reduceToNat, Int.reduceLE, Int.reduceLT, Int.reduceEq, Int.reduceNe, reduceCtorEq, Nat.reduceLT, Nat.reduceLeDiff, c1, c2, ew, w0]
        refine ⟨fun e => callq_ev hr ?_, fun e => callq_ev hr ?_⟩
        · simp only [go_sem, Nat.reduceMod, Nat.reduceBNe, Nat.reduceBEq, Nat.reduceEqDiff, Nat.reduceAdd, Int.reduceAdd, Nat.reduceMul, Nat.reduceSub, Int.reduceToNat, Int.reduceLE, Int.reduceLT, Int.reduceEq, Int.reduceNe, reduceCtorEq, Nat.reduceLT, Nat.reduceLeDiff, hfin (-n.tmod 10) (by omega)]
          exact ⟨by omega, by rw [hst]⟩
        · simp only [go_sem, Nat.reduceMod, Nat.reduceBNe, Nat.reduceBEq, Nat.reduceEqDiff, Nat.reduceAdd, Int.reduceAdd, Nat.reduceMul, Nat.reduceSub, Int.reduceToNat, Int.reduceLE, Int.reduceLT, Int.reduceEq, Int.reduceNe, reduceCtorEq, Nat.reduceLT, Nat.reduceLeDiff, hfin (n.tmod 10) (by omega)]
          exact ⟨by omega, by rw [hst]⟩
    · by_cases h0 : n < 0
      · have hr : Ev X F_ref01_Digits [.int .i64 (-n)] (.str (Lib.itoa (-n))) := ih _ (by
          rw [if_pos h0, if_neg (by omega)]; omega) _ (by omega) rfl
        have hlen := Wo.itoa_len (n := -n) (by omega)
        have w0 : IntKind.i64.wrap (0 - n) = -n := by rw [wi64 (by omega)]; omega
        simp only [A_ref01_Digits, go_sem, Nat.reduceMod, Nat.reduceBNe, Nat.reduceBEq, Nat.reduceEqDiff, Nat.reduceAdd, Int.reduceAdd, Nat.reduceMul, Nat.reduceSub, Int.reduceToNat, Int.reduceLE, Int.reduceLT, Int.reduceEq, Int.reduceNe, reduceCtorEq, Nat.reduceLT, Nat.reduceLeDiff, show ¬ 9 < n by omega, show ¬ n < -9 by omega, h0, w0]
        refine call_ev hr ?_
        simp only [go_sem, Nat.reduceMod, Nat.reduceBNe, Nat.reduceBEq, Nat.reduceEqDiff, Nat.reduceAdd, Int.reduceAdd, Nat.reduceMul, Nat.reduceSub, Int.reduceToNat, Int.reduceLE, Int.reduceLT, Int.reduceEq, Int.reduceNe, reduceCtorEq, Nat.reduceLT, Nat.reduceLeDiff]
        exact ⟨by omega, by rw [Wo.itoa_neg h0]⟩
      · have hd := dig1 (a := n.natAbs) (by omega)
        have e0 : ((n.natAbs : Nat) : Int) = n := by omega
        rw [e0] at hd
        simp only [A_ref01_Digits, go_sem, Nat.reduceMod, Nat.reduceBNe, Nat.reduceBEq, Nat.reduceEqDiff, Nat.reduceAdd, Int.reduceAdd, Nat.reduceMul, Nat.reduceSub, Int.reduceToNat, Int.reduceLE, Int.reduceLT, Int.reduceEq, Int.reduceNe, reduceCtorEq, Nat.reduceLT, Nat.reduceLeDiff, show ¬ 9 < n by omega, show ¬ n < -9 by omega, h0]
        rw [wi64 (n := 48 + n) (by omega), hd]
        have := bs_1 .ex (UInt8.ofNat (48 + n.natAbs))
        simp only [u8] at this ⊢
        simp only [this, go_sem, Nat.reduceMod, Nat.reduceBNe, Nat.reduceBEq, Nat.reduceEqDiff, Nat.reduceAdd, Int.reduceAdd, Nat.reduceMul, Nat.reduceSub, Int.reduceToNat, Int.reduceLE, Int.reduceLT, Int.reduceEq, Int.reduceNe, reduceCtorEq, Nat.reduceLT, Nat.reduceLeDiff]
        rw [Wo.itoa_one (by omega) (by omega)]
theorem ev_Quote (hE : X.G gEsc = some tabE) (s : List UInt8) (hl : s.length < 1000000) : Ev X F_words_Quote [.str s] (.str (Wo.quoteS s)) := by
  refine ev_of_wpc hs (A_words_Quote_ok hX) 0 ?_
  simp only [A_words_Quote, go_sem, Nat.reduceMod, Nat.reduceBNe, Nat.reduceBEq, Nat.reduceEqDiff, Nat.reduceAdd, Int.reduceAdd, Nat.reduceMul, Nat.reduceSub, Int.reduceToNat, Int.reduceLE, Int.reduceLT, Int.reduceEq, Int.reduceNe, reduceCtorEq, Nat.reduceLT, Nat.reduceLeDiff, axn_34]
  rw [wi64 (by omega)]
  refine ⟨by omega, ?_⟩
  refine w_loop' hs.hm (ι := Nat) (fun i => i ≤ s.length) (fun i => [(16, .int .i64 i), (15, .int .i64 s.length), (3, lst u8 (.tok 0 1) (34 :: (s.take i).flatMap Wo.escB)), (0, .str s)]) (fun i => [.tok (((s.take i).flatMap Wo.escB).length + 1)]) (fun i => s.length - i) 0 ?_ fun i hi => ?_
  · simp only [go_sem, Nat.reduceMod, Nat.reduceBNe, Nat.reduceBEq, Nat.reduceEqDiff, Nat.reduceAdd, Int.reduceAdd, Nat.reduceMul, Nat.reduceSub, Int.reduceToNat, Int.reduceLE, Int.reduceLT, Int.reduceEq, Int.reduceNe, reduceCtorEq, Nat.reduceLT, Nat.reduceLeDiff]
    exact ⟨Nat.zero_le _, rfl, rfl⟩
  have hf4 := Wo.len_flat4 (s.take i)
  rw [List.length_take] at hf4
  by_cases hlt : i < s.length
  · have hlt' : (i : Int) < s.length := by omega
    have hft := Wo.flat_take hlt
    have fin : ∀ b : List UInt8, b = Wo.escB (s.getD i 0) → ∃ j, s.length - j < s.length - i ∧ j ≤ s.length ∧ (AV.int IntKind.i64 (IntKind.i64.wrap ((i : Int) + 1)) = AV.int IntKind.i64 j ∧ lst u8 (Perm.tok 0 1) (34 :: ((s.take i).flatMap Wo.escB ++ b)) = lst u8 (Perm.tok 0 1) (34 :: (s.take j).flatMap Wo.escB)) ∧ [Blk.tok (((s.take i).flatMap Wo.escB).length + 1 + b.length)] = [Blk.tok (((s.take j).flatMap Wo.escB).length + 1)] := fun b hb => by
      subst hb
      refine ⟨i + 1, by omega, by omega, ⟨by rw [wi64 (by omega)]; rfl, by rw [hft]⟩, ?_⟩
      rw [hft, List.length_append]
      congr 2
      omega
    generalize hc : s.getD i 0 = c at *
    simp only [A_words_QuoteL0, go_sem, Nat.reduceMod, Nat.reduceBNe, Nat.reduceBEq, Nat.reduceEqDiff, Nat.reduceAdd, Int.reduceAdd, Nat.reduceMul, Nat.reduceSub, Int.reduceToNat, Int.reduceLE, Int.reduceLT, Int.reduceEq, Int.reduceNe, reduceCtorEq, Nat.reduceLT, Nat.reduceLeDiff, hlt', hc]
    refine ⟨by omega, call_ev (ev_letterOf hX hs hE c) ?_⟩
    simp only [go_sem, Nat.reduceMod, Nat.reduceBNe, Nat.reduceBEq, Nat.reduceEqDiff, Nat.reduceAdd, Int.reduceAdd, Nat.reduceMul, Nat.reduceSub, Int.reduceToNat, Int.reduceLE, Int.reduceLT, Int.reduceEq, Int.reduceNe, reduceCtorEq, Nat.reduceLT, Nat.reduceLeDiff]
    refine call_ev (ev_isPlain hX hs c) ?_
    cases hp : Wo.plainB c with
    | true =>
      simp only [go_sem, Nat.reduceMod, Nat.reduceBNe, Nat.reduceBEq, Nat.reduceEqDiff, Nat.reduceAdd, Int.reduceAdd, Nat.reduceMul, Nat.reduceSub, Int.reduceToNat, Int.reduceLE, Int.reduceLT, Int.reduceEq, Int.reduceNe, reduceCtorEq, Nat.reduceLT, Nat.reduceLeDiff]
      exact ⟨by omega, fin [c] (by rw [Wo.escB, if_pos hp])⟩
    | false =>
      have hc := c.toNat_lt
      have hnb := nib hc
      have hh : ∀ n, n < 16 → [48, 49, 50, 51, 52, 53, 54, 55, 56, 57, 97, 98, 99, 100, 101, 102].getD n 0 = Wo.hexd n := fun n hn => hexs_at hn
      simp only [go_sem, Nat.reduceMod, Nat.reduceBNe, Nat.reduceBEq, Nat.reduceEqDiff, Nat.reduceAdd, Int.reduceAdd, Nat.reduceMul, Nat.reduceSub, Int.reduceToNat, Int.reduceLE, Int.reduceLT, Int.reduceEq, Int.reduceNe, reduceCtorEq, Nat.reduceLT, Nat.reduceLeDiff, ax2_92, hnb.1, hnb.2, hh _ (show c.toNat / 16 < 16 by omega), hh _ (show c.toNat % 16 < 16 by omega), ax4_92, appk]
      refine ⟨fun h0 => ⟨by omega, fin [92, Wo.letB c] ?_⟩, fun h0 => ⟨⟨by omega, by omega⟩, ⟨by omega, by omega⟩, by omega, fin [92, 120, Wo.hexd (c.toNat / 16), Wo.hexd (c.toNat % 16)] ?_⟩⟩
      · rw [Wo.escB, if_neg (by rw [hp]; decide), if_pos (fun h => h0 ((u8_lit (b := 0) rfl).2 h))]
      · rw [Wo.escB, if_neg (by rw [hp]; decide), if_neg (fun h => h ((u8_lit (b := 0) rfl).1 h0))]
  · have hlt' : ¬ (i : Int) < s.length := by omega
    have ht : s.take i = s := List.take_of_length_le (by omega)
    simp only [A_words_QuoteL0, go_sem, Nat.reduceMod, Nat.reduceBNe, Nat.reduceBEq, Nat.reduceEqDiff, Nat.reduceAdd, Int.reduceAdd, Nat.reduceMul, Nat.reduceSub, Int.reduceToNat, Int.reduceLE, Int.reduceLT, Int.reduceEq, Int.reduceNe, reduceCtorEq, Nat.reduceLT, Nat.reduceLeDiff, hlt', ax1_34]
    rw [ht] at hf4 ⊢
    exact ⟨by omega, rfl⟩
end
end Go.Avm

/- Join. -/
namespace Go.Avm
open Go
theorem ce_fd (f : Wo.Fd) : AV.cells (fdV f) = [.str f.1, .bool f.2] := rfl
def joinV (l : List Wo.Fd) : AV := .tuple [.str (Wo.joinS l).1, .int .i64 (Wo.joinS l).2]
theorem joinV_eq {l : List Wo.Fd} {t : List UInt8} {e : Int} (h : Wo.joinS l = (t, e)) : AV.tuple [.str t, .int .i64 e] = joinV l := by rw [joinV, h]
set_option maxRecDepth 10000
section
variable {X : Cx} (hX : X.P = Go.Proofs.Tryz.prog) (hs : Std X)
include hX hs
theorem ev_Join (hE : X.G gEsc = some tabE) (l : List Wo.Fd) : Ev X F_words_Join [lst fdV .ro l] (joinV l) := by
  refine ev_of_wpc hs (A_words_Join_ok hX) 0 ?_
  simp only [A_words_Join, go_sem, Nat.reduceMod, Nat.reduceBNe, Nat.reduceBEq, Nat.reduceEqDiff, Nat.reduceAdd, Int.reduceAdd, Nat.reduceMul, Nat.reduceSub, Int.reduceToNat, Int.reduceLE, Int.reduceLT, Int.reduceEq, Int.reduceNe, reduceCtorEq, Nat.reduceLT, Nat.reduceLeDiff]
  refine ⟨fun h => joinV_eq (by rw [Wo.joinS, if_pos (by omega)]), fun h64 => ?_⟩
  refine w_loop hs.hm (ι := Nat × List Blk) (fun x => x.1 ≤ l.length ∧ ∀ k, k < x.1 → ¬ 2000 < (l.getD k default).1.length) (fun x => [(15, .int .i64 x.1), (14, .int .i64 l.length), (13, lst fdV .ro l), (5, lst AV.str (.tok 0 1) ((l.take x.1).map Wo.fT)), (4, .int .i64 (if (l.take x.1).any Wo.badF then 6 else 0)), (0, lst fdV .ro l)]) (fun x => .tok x.1 :: x.2) (fun x => l.length - x.1) (0, []) ⟨⟨Nat.zero_le _, no_lt0⟩, _, _, wk_tok 5 1 rfl, ⟨by simp only [go_sem, Nat.reduceMod, Nat.reduceBNe, Nat.reduceBEq, Nat.reduceEqDiff, Nat.reduceAdd, Int.reduceAdd, Nat.reduceMul, Nat.reduceSub, Int.reduceToNat, Int.reduceLE, Int.reduceLT, Int.reduceEq, Int.reduceNe, reduceCtorEq, Nat.reduceLT, Nat.reduceLeDiff]; exact ⟨rfl, rfl⟩, rfl⟩⟩ fun x hx => ?_
  obtain ⟨i, R⟩ := x
  obtain ⟨i1, i2⟩ := hx
  simp only at i1 i2
  by_cases hlt : i < l.length
  · have hlt' : (i : Int) < l.length := by omega
    simp only [A_words_JoinL0, go_sem, Nat.reduceMod, Nat.reduceBNe, Nat.reduceBEq, Nat.reduceEqDiff, Nat.reduceAdd, Int.reduceAdd, Nat.reduceMul, Nat.reduceSub, Int.reduceToNat, Int.reduceLE, Int.reduceLT, Int.reduceEq, Int.reduceNe, reduceCtorEq, Nat.reduceLT, Nat.reduceLeDiff, hlt', ce_fd]
    have hat := Wo.any_take Wo.badF hlt
    have hmt : (l.take (i + 1)).map Wo.fT = (l.take i).map Wo.fT ++ [Wo.fT (l.getD i default)] := by
      rw [List.take_add_one, List.getElem?_eq_getElem hlt, List.getD_eq_getElem?_getD, List.getElem?_eq_getElem hlt, List.map_append]
      rfl
    have hlm : ((l.take i).map Wo.fT).length = i := by rw [List.length_map, List.length_take]; omega
    generalize hf : l.getD i default = f at *
    obtain ⟨u, q⟩ := f
    have fin : ∀ (h : ¬ 2000 < u.length) (e : Int) (he : e = if (l.take (i + 1)).any Wo.badF then 6 else 0) (R' : List Blk), ∃ j : Nat × List Blk, l.length - j.1 < l.length - i ∧ (j.1 ≤ l.length ∧ ∀ k, k < j.1 → ¬ 2000 < (l.getD k default).1.length) ∧ (AV.int .i64 (IntKind.i64.wrap ((i : Int) + 1)) = AV.int .i64 j.1 ∧ lst AV.str (.tok 0 1) ((l.take i).map Wo.fT ++ [Wo.fT (u, q)]) = lst AV.str (.tok 0 1) ((l.take j.1).map Wo.fT) ∧ AV.int .i64 e = AV.int .i64 (if (l.take j.1).any Wo.badF then 6 else 0)) ∧ (Blk.tok (i + 1) :: R') = Blk.tok j.1 :: j.2 := fun h e he R' =>
      ⟨(i + 1, R'), by simp only; omega, ⟨by simp only; omega, fun k hk => by
        rcases Nat.lt_or_ge k i with h' | h'
        · exact i2 k h'
        · simp only at hk
          rw [show k = i by omega, hf]; exact h⟩, ⟨by rw [wi64 (by omega)]; rfl, by rw [hmt], by rw [he]⟩, rfl⟩
    dsimp only
    refine ⟨by omega, fun h => joinV_eq (by rw [Wo.joinS, if_neg (by omega), if_pos (Wo.long_yes hlt (by rw [hf]; dsimp only; omega))]), fun h => ⟨fun hq => ?_, fun hq => ?_⟩⟩
    · subst hq
      refine call_ev (ev_Quote hX hs hE u (by omega)) ?_
      simp only [go_sem, Nat.reduceMod, Nat.reduceBNe, Nat.reduceBEq, Nat.reduceEqDiff, Nat.reduceAdd, Int.reduceAdd, Nat.reduceMul, Nat.reduceSub, Int.reduceToNat, Int.reduceLE, Int.reduceLT, Int.reduceEq, Int.reduceNe, reduceCtorEq, Nat.reduceLT, Nat.reduceLeDiff, hlm]
      exact ⟨by omega, fin (by omega) _ (by rw [hat]; simp only [Wo.badF, Bool.not_true, Bool.false_and, Bool.or_false]) _⟩
    · subst hq
      refine call_ev (ev_isBare hX hs u (by omega)) ?_
      cases hb : Wo.bareB u with
      | true =>
        simp only [go_sem, Nat.reduceMod, Nat.reduceBNe, Nat.reduceBEq, Nat.reduceEqDiff, Nat.reduceAdd, Int.reduceAdd, Nat.reduceMul, Nat.reduceSub, Int.reduceToNat, Int.reduceLE, Int.reduceLT, Int.reduceEq, Int.reduceNe, reduceCtorEq, Nat.reduceLT, Nat.reduceLeDiff, hlm]
        exact ⟨by omega, fin (by omega) _ (by rw [hat]; simp only [Wo.badF, hb, Bool.not_true, Bool.and_false, Bool.or_false]) _⟩
      | false =>
        simp only [go_sem, Nat.reduceMod, Nat.reduceBNe, Nat.reduceBEq, Nat.reduceEqDiff, Nat.reduceAdd, Int.reduceAdd, Nat.reduceMul, Nat.reduceSub, Int.reduceToNat, Int.reduceLE, Int.reduceLT, Int.reduceEq, Int.reduceNe, reduceCtorEq, Nat.reduceLT, Nat.reduceLeDiff, hlm]
        exact ⟨by omega, fin (by omega) _ (by rw [hat]; simp only [Wo.badF, hb, Bool.not_false, Bool.and_true, Bool.or_true]; rfl) _⟩
  · have hlt' : ¬ (i : Int) < l.length := by omega
    have hie : i = l.length := by omega
    subst hie
    have hjl := Wo.join_take_len (l := l) (by omega) i2
    have hlg : Wo.long l = false := Wo.long_no i2
    simp only [List.take_length] at hjl ⊢
    simp only [A_words_JoinL0, go_sem, Nat.reduceMod, Nat.reduceBNe, Nat.reduceBEq, Nat.reduceEqDiff, Nat.reduceAdd, Int.reduceAdd, Nat.reduceMul, Nat.reduceSub, Int.reduceToNat, Int.reduceLE, Int.reduceLT, Int.reduceEq, Int.reduceNe, reduceCtorEq, Nat.reduceLT, Nat.reduceLeDiff, hlt']
    refine call_ev (ev_sJoin hX (l.map Wo.fT) [32] (by rw [List.length_map]; omega) (by omega)) ?_
    have hj : Wo.joinS l = if l.any Wo.badF then ([], 6) else if 8192 < (Lib.join (l.map Wo.fT) [32]).length then ([], 3) else (Lib.join (l.map Wo.fT) [32], 0) := by rw [Wo.joinS, if_neg (by omega), if_neg (by rw [hlg]; decide)]
    cases hb : l.any Wo.badF with
    | true =>
      rw [hb, if_pos rfl] at hj
      simp only [go_sem, Nat.reduceMod, Nat.reduceBNe, Nat.reduceBEq, Nat.reduceEqDiff, Nat.reduceAdd, Int.reduceAdd, Nat.reduceMul, Nat.reduceSub, Int.reduceToNat, Int.reduceLE, Int.reduceLT, Int.reduceEq, Int.reduceNe, reduceCtorEq, Nat.reduceLT, Nat.reduceLeDiff, if_true]
      exact joinV_eq hj
    | false =>
      rw [hb, if_neg (by decide)] at hj
      simp only [go_sem, Nat.reduceMod, Nat.reduceBNe, Nat.reduceBEq, Nat.reduceEqDiff, Nat.reduceAdd, Int.reduceAdd, Nat.reduceMul, Nat.reduceSub, Int.reduceToNat, Int.reduceLE, Int.reduceLT, Int.reduceEq, Int.reduceNe, reduceCtorEq, Nat.reduceLT, Nat.reduceLeDiff, Bool.false_eq_true, if_false]
      exact ⟨fun h => joinV_eq (by rw [hj, if_pos (by omega)]), fun h => joinV_eq (by rw [hj, if_neg (by omega)])⟩
end
end Go.Avm
