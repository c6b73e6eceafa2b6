/- Types: Parse of the reference. -/
import Derived.Test.YtbhdhlkjchgddaaGreatDoorAR2
set_option linter.unusedSectionVars false
set_option linter.unusedSimpArgs false
set_option linter.unusedVariables false

/- Types: Parse of the reference. -/
namespace Go.Avm
open Go
set_option maxRecDepth 10000
theorem tyPF_7 {ns : List (List UInt8)} {up f0 f1 : List UInt8} {R : List (List UInt8)} {r : Int} (hk : f0 = Lat.tInt ∨ f0 = Lat.tChar) (hI : Wo.intS f1 0 4611686018427387904 = (r, 0)) (h : 2 < r) : Lat.tyPF ns up (f0 :: f1 :: R) = (Lat.zeroT, 7) := by
  rw [Lat.tyPF, if_neg (by
      simp only [List.length_cons, List.getD_cons_succ, List.getD_cons_zero, hI]
      rintro (h | h | h)
      · omega
      · exact hk.elim h.1 h.2
      · exact h rfl), if_pos (by simp only [List.getD_cons_succ, List.getD_cons_zero, hI]; omega)]
theorem tyPF_l {ns : List (List UInt8)} {up f0 f1 : List UInt8} {R : List (List UInt8)} {r : Int} (hk : f0 = Lat.tInt ∨ f0 = Lat.tChar) (hI : Wo.intS f1 0 4611686018427387904 = (r, 0)) (h0 : 0 ≤ r) (h7 : ¬ 2 < r) (h : ¬ (R.length : Int) = 1 + r) : Lat.tyPF ns up (f0 :: f1 :: R) = (Lat.zeroT, 6) := by
  rw [Lat.tyPF, if_neg (by
      simp only [List.length_cons, List.getD_cons_succ, List.getD_cons_zero, hI]
      rintro (h | h | h)
      · omega
      · exact hk.elim h.1 h.2
      · exact h rfl), if_neg (by simp only [List.getD_cons_succ, List.getD_cons_zero, hI]; omega), if_pos (by
      simp only [List.length_cons, List.getD_cons_succ, List.getD_cons_zero, hI]
      omega)]
theorem paR_stick {ns : List (List UInt8)} {F : List Wo.Fd} {i : Nat} (h : ¬ paR ns F i = 0) : ∀ k, ¬ paR ns F (i + k) = 0
  | 0 => h
  | k + 1 => by
    have := paR_stick h k
    show ¬ paE ns (paR ns F (i + k)) _ = 0
    rw [paE, if_neg this]
    exact this
section
variable {X : Cx} (hX : X.P = Go.Proofs.Tryz.prog) (hs : Std X)
include hX hs
theorem lp_rp (ns : List (List UInt8)) (up : List UInt8) (hc : (Lat.checkS ns up).2 = 0) (F : List Wo.Fd) (hF : F.length ≤ 100) (kd b : Int) (n : Nat) (hn : n ≤ 2) (hl : F.length = 3 + n) {Q : Exit → Fr → Heap → Prop}
    (hE : paR ns F (n + 1) = 0 → ∀ G : FL, G.get 11 = .ptr 2 0 → G.get 2 = .ptr 0 0 → G.get 4 = .ptr 1 0 → Q (.exit 2) G.get [.box [lst AV.str .ro ns, lst u8 .ro up], .box [.int .i64 0, .int .i64 0, .int .i64 0, .int .i64 0, .int .i64 0], .box [.int .i64 kd, .int .i64 n, .int .i64 (if 1 ≤ n then paY ns F 0 else b), .int .i64 (if 2 ≤ n then paY ns F 1 else b), .int .i64 (paY ns F n)]])
    (hR : ¬ paR ns F (n + 1) = 0 → ∀ (G : FL) (J : Blk), G.get 4 = .ptr 1 0 → G.get 5 = .int .i64 4 → Q .ret G.get [.box [lst AV.str .ro ns, lst u8 .ro up], .box [.int .i64 0, .int .i64 0, .int .i64 0, .int .i64 0, .int .i64 0], J])
    (G0 : FL) (g12 : G0.get 12 = .int .i64 0) (g11 : G0.get 11 = .ptr 2 0) (g8 : G0.get 8 = lst fdV .ro F) (g2 : G0.get 2 = .ptr 0 0) (g4 : G0.get 4 = .ptr 1 0) :
    wpc X 135 (.loop A_ref20_ParseL1) Q G0.get [.box [lst AV.str .ro ns, lst u8 .ro up], .box [.int .i64 0, .int .i64 0, .int .i64 0, .int .i64 0, .int .i64 0], .box [.int .i64 kd, .int .i64 n, .int .i64 b, .int .i64 b, .int .i64 0]] := by
  refine w_loop' hs.hm (ι := Nat) (fun i => i ≤ n + 1 ∧ paR ns F i = 0) (fun i => [(12, .int .i64 i), (11, .ptr 2 0), (8, lst fdV .ro F), (2, .ptr 0 0), (4, .ptr 1 0)])
    (fun i => [.box [lst AV.str .ro ns, lst u8 .ro up], .box [.int .i64 0, .int .i64 0, .int .i64 0, .int .i64 0, .int .i64 0], .box [.int .i64 kd, .int .i64 n, .int .i64 (if 1 ≤ i ∧ 1 ≤ n then paY ns F 0 else b), .int .i64 (if 2 ≤ i ∧ 2 ≤ n then paY ns F 1 else b), .int .i64 (if i = n + 1 then paY ns F n else 0)]]) (fun i => n + 2 - i) 0 ?_ fun i hi => ?_
  · simp only [go_sem, Nat.reduceMod, Nat.reduceBNe, Nat.reduceBEq, Nat.reduceEqDiff, Nat.reduceAdd, Int.reduceAdd, Nat.reduceMul, Nat.reduceSub, Int.reduceToNat, Int.reduceLE, Int.reduceLT, Int.reduceEq, Int.reduceNe, reduceCtorEq, Nat.reduceLT, Nat.reduceLeDiff, g12, g11, g8, g2, g4, Nat.not_succ_le_zero, false_and, if_false]
    rfl
  obtain ⟨i1, i2⟩ := hi
  rcases Nat.lt_or_ge n i with hg | hg
  · obtain rfl : i = n + 1 := by omega
    have hlt : ¬ ((n + 1 : Nat) : Int) ≤ n := by omega
    have e1 : (1 ≤ n + 1 ∧ 1 ≤ n) = (1 ≤ n) := by rw [eq_iff_iff]; omega
    have e2 : (2 ≤ n + 1 ∧ 2 ≤ n) = (2 ≤ n) := by rw [eq_iff_iff]; omega
    have e3 : (1 ≤ n ∧ 2 ≤ n) = (2 ≤ n) := by rw [eq_iff_iff]; omega
    simp only [A_ref20_ParseL1, hlt, e1, e2, e3, if_pos, go_sem, Nat.reduceMod, Nat.reduceBNe, Nat.reduceBEq, Nat.reduceEqDiff, Nat.reduceAdd, Int.reduceAdd, Nat.reduceMul, Nat.reduceSub, Int.reduceToNat, Int.reduceLE, Int.reduceLT, Int.reduceEq, Int.reduceNe, reduceCtorEq, Nat.reduceLT, Nat.reduceLeDiff]
    refine hE i2 _ ?_ ?_ ?_ <;> rfl
  have hle : (i : Int) ≤ n := by omega
  have hlt : 2 + i < F.length := by omega
  have ew : IntKind.i64.wrap (2 + (i : Int)) = ((2 + i : Nat) : Int) := by rw [wi64 (by omega)]; rfl
  have ew1 : IntKind.i64.wrap ((i : Int) + 1) = ((i + 1 : Nat) : Int) := by rw [wi64 (by omega)]; rfl
  have w2 : IntKind.i64.wrap 2 = 2 := rfl
  have w3 : IntKind.i64.wrap 3 = 3 := rfl
  have ed : F.getD (2 + i) default = F.getD (2 + i) ([], false) := rfl
  have hfind := ev_rFind hX hs ns up (F.getD (2 + i) ([], false)).1
  have hf : Lat.findS ns up (F.getD (2 + i) ([], false)).1 = (paY ns F i, if (Lat.findO ns (F.getD (2 + i) ([], false)).1).isNone then 4 else 0) := by
    simp only [Lat.findS, if_pos hc, paY, Lat.idO]
    cases Lat.findO ns (F.getD (2 + i) ([], false)).1 <;> rfl
  have hstep : paR ns F (i + 1) = if (Lat.findO ns (F.getD (2 + i) ([], false)).1).isNone then 4 else 0 := by
    show paE ns (paR ns F i) _ = _
    rw [paE, if_pos i2]
  rw [hf] at hfind
  cases hno : (Lat.findO ns (F.getD (2 + i) ([], false)).1).isNone with
  | true =>
    rw [hno, if_pos rfl] at hstep hfind
    have hbad : ¬ paR ns F (n + 1) = 0 := by
      have := paR_stick (ns := ns) (F := F) (i := i + 1) (by rw [hstep]; decide) (n - i)
      rwa [show i + 1 + (n - i) = n + 1 by omega] at this
    simp only [A_ref20_ParseL1, hle, ew, fdV, ed, go_sem, Nat.reduceMod, Nat.reduceBNe, Nat.reduceBEq, Nat.reduceEqDiff, Nat.reduceAdd, Int.reduceAdd, Nat.reduceMul, Nat.reduceSub, Int.reduceToNat, Int.reduceLE, Int.reduceLT, Int.reduceEq, Int.reduceNe, reduceCtorEq, Nat.reduceLT, Nat.reduceLeDiff]
    refine ⟨⟨by omega, by omega⟩, callq_ev hfind ?_⟩
    simp only [go_sem, Nat.reduceMod, Nat.reduceBNe, Nat.reduceBEq, Nat.reduceEqDiff, Nat.reduceAdd, Int.reduceAdd, Nat.reduceMul, Nat.reduceSub, Int.reduceToNat, Int.reduceLE, Int.reduceLT, Int.reduceEq, Int.reduceNe, reduceCtorEq, Nat.reduceLT, Nat.reduceLeDiff]
    exact hR hbad _ _ rfl rfl
  | false =>
    rw [hno, if_neg (by decide)] at hstep hfind
    have nx : ∃ j, n + 2 - j < n + 2 - i ∧ (j ≤ n + 1 ∧ paR ns F j = 0) ∧ j = i + 1 := ⟨i + 1, by omega, ⟨by omega, hstep⟩, rfl⟩
    obtain ⟨j, j1, j2, rfl⟩ := nx
    rcases Nat.lt_or_ge i n with hin | hin
    · have hin' : (i : Int) < n := by omega
      have : (i = 0 ∧ (n = 1 ∨ n = 2)) ∨ (i = 1 ∧ n = 2) := by omega
      rcases this with ⟨rfl, rfl | rfl⟩ | ⟨rfl, rfl⟩
      all_goals
        simp only [A_ref20_ParseL1, hle, hin', ew, w2, w3, fdV, ed, go_sem, Nat.reduceMod, Nat.reduceBNe, Nat.reduceBEq, Nat.reduceEqDiff, Nat.reduceAdd, Int.reduceAdd, Nat.reduceMul, Nat.reduceSub, Int.reduceToNat, Int.reduceLE, Int.reduceLT, Int.reduceEq, Int.reduceNe, reduceCtorEq, Nat.reduceLT, Nat.reduceLeDiff]
        refine ⟨by omega, callq_ev hfind ?_⟩
        simp only [hin', go_sem, Nat.reduceMod, Nat.reduceBNe, Nat.reduceBEq, Nat.reduceEqDiff, Nat.reduceAdd, Int.reduceAdd, Nat.reduceMul, Nat.reduceSub, Int.reduceToNat, Int.reduceLE, Int.reduceLT, Int.reduceEq, Int.reduceNe, reduceCtorEq, Nat.reduceLT, Nat.reduceLeDiff]
      · exact ⟨1, by omega, ⟨by omega, hstep⟩, rfl, by simp⟩
      · exact ⟨1, by omega, ⟨by omega, hstep⟩, rfl, by simp⟩
      · exact ⟨2, by omega, ⟨by omega, hstep⟩, rfl, by simp⟩
    · obtain rfl : i = n := by omega
      have hin' : ¬ (i : Int) < i := by omega
      simp only [A_ref20_ParseL1, hle, hin', ew, fdV, ed, go_sem, Nat.reduceMod, Nat.reduceBNe, Nat.reduceBEq, Nat.reduceEqDiff, Nat.reduceAdd, Int.reduceAdd, Nat.reduceMul, Nat.reduceSub, Int.reduceToNat, Int.reduceLE, Int.reduceLT, Int.reduceEq, Int.reduceNe, reduceCtorEq, Nat.reduceLT, Nat.reduceLeDiff]
      refine ⟨⟨by omega, by omega⟩, callq_ev hfind ?_⟩
      simp only [hin', go_sem, Nat.reduceMod, Nat.reduceBNe, Nat.reduceBEq, Nat.reduceEqDiff, Nat.reduceAdd, Int.reduceAdd, Nat.reduceMul, Nat.reduceSub, Int.reduceToNat, Int.reduceLE, Int.reduceLT, Int.reduceEq, Int.reduceNe, reduceCtorEq, Nat.reduceLT, Nat.reduceLeDiff]
      have e1 : (1 ≤ i ∧ 1 ≤ i) = (1 ≤ i + 1 ∧ 1 ≤ i) := by rw [eq_iff_iff]; omega
      have e2 : (2 ≤ i ∧ 2 ≤ i) = (2 ≤ i + 1 ∧ 2 ≤ i) := by rw [eq_iff_iff]; omega
      refine ⟨i + 1, by omega, ⟨by omega, hstep⟩, by rw [ew1], ?_⟩
      simp only [e1, e2, eq_self, if_true]
end
section
variable {X : Cx} (hX : X.P = Go.Proofs.Tryz.prog) (hs : Std X)
include hX hs
theorem ev_rParse20 (ns : List (List UInt8)) (up s : List UInt8) (hl : s.length < 100000) : Ev X F_ref20_Parse [latV ns up, .str s] (paV ns up s) := by
  refine ev_of_wpc hs (A_ref20_Parse_ok hX) 1 ?_
  simp only [A_ref20_Parse, latV, go_sem, Nat.reduceMod, Nat.reduceBNe, Nat.reduceBEq, Nat.reduceEqDiff, Nat.reduceAdd, Int.reduceAdd, Nat.reduceMul, Nat.reduceSub, Int.reduceToNat, Int.reduceLE, Int.reduceLT, Int.reduceEq, Int.reduceNe, reduceCtorEq, Nat.reduceLT, Nat.reduceLeDiff]
  refine call_ev (ev_rCheck hX hs ns up) ?_
  rcases Decidable.em ((Lat.checkS ns up).2 = 0) with hc | hc
  case inr =>
    simp only [go_sem, Nat.reduceMod, Nat.reduceBNe, Nat.reduceBEq, Nat.reduceEqDiff, Nat.reduceAdd, Int.reduceAdd, Nat.reduceMul, Nat.reduceSub, Int.reduceToNat, Int.reduceLE, Int.reduceLT, Int.reduceEq, Int.reduceNe, reduceCtorEq, Nat.reduceLT, Nat.reduceLeDiff, hc]
    exact paV_z (by rw [Lat.tyPA, if_pos hc])
  have hv := (Lat.checkS_val hc).2
  simp only [go_sem, Nat.reduceMod, Nat.reduceBNe, Nat.reduceBEq, Nat.reduceEqDiff, Nat.reduceAdd, Int.reduceAdd, Nat.reduceMul, Nat.reduceSub, Int.reduceToNat, Int.reduceLE, Int.reduceLT, Int.reduceEq, Int.reduceNe, reduceCtorEq, Nat.reduceLT, Nat.reduceLeDiff, hc]
  refine call_ev (ev_rSplit hX hs s (by omega)) ?_
  rcases hS : Wo.splitS s with ⟨F, e⟩
  obtain ⟨hF, hfl⟩ : F.length ≤ 64 ∧ ∀ f ∈ F, f.1.length ≤ 2000 := by
    have := Wo.splitS_len s
    rw [hS] at this
    exact this
  simp only [splV, hS, go_sem, Nat.reduceMod, Nat.reduceBNe, Nat.reduceBEq, Nat.reduceEqDiff, Nat.reduceAdd, Int.reduceAdd, Nat.reduceMul, Nat.reduceSub, Int.reduceToNat, Int.reduceLE, Int.reduceLT, Int.reduceEq, Int.reduceNe, reduceCtorEq, Nat.reduceLT, Nat.reduceLeDiff]
  refine ⟨fun he => paV_z (by rw [Lat.tyPA, if_neg (by rw [hc]; decide), hS, if_pos he]), fun he => ?_⟩
  subst he
  have hPA : Lat.tyPA ns up s = if F.any (·.2) then (Lat.zeroT, 6) else Lat.tyPF ns up (F.map (·.1)) := by
    rw [Lat.tyPA, if_neg (by rw [hc]; decide), hS, if_neg (by simp)]
  have hPF : (F.map (·.1)).length = F.length := by simp
  refine w_loop' hs.hm (ι := Nat) (fun i => i ≤ F.length ∧ (F.take i).any (·.2) = false) (fun i => [(9, .int .i64 i), (8, lst fdV .ro F), (2, .ptr 0 0), (4, .ptr 1 0)]) (fun _ => [.box [lst AV.str .ro ns, lst u8 .ro up], .box [.int .i64 0, .int .i64 0, .int .i64 0, .int .i64 0, .int .i64 0]]) (fun i => F.length - i) 0 ?_ fun i hi => ?_
  · simp only [go_sem, Nat.reduceMod, Nat.reduceBNe, Nat.reduceBEq, Nat.reduceEqDiff, Nat.reduceAdd, Int.reduceAdd, Nat.reduceMul, Nat.reduceSub, Int.reduceToNat, Int.reduceLE, Int.reduceLT, Int.reduceEq, Int.reduceNe, reduceCtorEq, Nat.reduceLT, Nat.reduceLeDiff]
    exact ⟨Nat.zero_le _, rfl⟩
  obtain ⟨i1, i2⟩ := hi
  have ed : F.getD i default = F.getD i ([], false) := rfl
  rcases Nat.lt_or_ge i F.length with hlt | hge
  · have hlt' : (i : Int) < F.length := by omega
    have e1 : F.getD i ([], false) = F[i] := by rw [List.getD_eq_getElem?_getD, List.getElem?_eq_getElem hlt]; rfl
    simp only [A_ref20_ParseL0, fdV, ed, hlt', go_sem, Nat.reduceMod, Nat.reduceBNe, Nat.reduceBEq, Nat.reduceEqDiff, Nat.reduceAdd, Int.reduceAdd, Nat.reduceMul, Nat.reduceSub, Int.reduceToNat, Int.reduceLE, Int.reduceLT, Int.reduceEq, Int.reduceNe, reduceCtorEq, Nat.reduceLT, Nat.reduceLeDiff]
    refine ⟨by omega, fun h => paV_z ?_, fun h => ⟨i + 1, by omega, ⟨by omega, ?_⟩, by rw [wi64 (by omega)]; rfl⟩⟩
    · rw [hPA, if_pos (List.any_eq_true.2 ⟨F[i], List.getElem_mem _, by rw [← e1]; exact h⟩)]
    · rw [List.take_succ_eq_append_getElem hlt, List.any_append, i2, ← e1]
      simp only [List.any_cons, List.any_nil, h, Bool.or_false]
  obtain rfl : i = F.length := by omega
  rw [List.take_length] at i2
  rw [if_neg (by rw [i2]; decide)] at hPA
  have hge' : ¬ (F.length : Int) < F.length := by omega
  rcases Nat.lt_or_ge F.length 2 with h2 | h2
  · have h2' : (F.length : Int) < 2 := by omega
    simp only [A_ref20_ParseL0, fdV, ed, hge', h2', go_sem, Nat.reduceMod, Nat.reduceBNe, Nat.reduceBEq, Nat.reduceEqDiff, Nat.reduceAdd, Int.reduceAdd, Nat.reduceMul, Nat.reduceSub, Int.reduceToNat, Int.reduceLE, Int.reduceLT, Int.reduceEq, Int.reduceNe, reduceCtorEq, Nat.reduceLT, Nat.reduceLeDiff]
    exact paV_z (by rw [hPA, Lat.tyPF, if_pos (.inl (by omega))])
  obtain ⟨f0, f1, R, rfl⟩ : ∃ f0 f1 R, F = f0 :: f1 :: R := by
    match F, h2 with
    | [], h => simp at h
    | [_], h => simp at h
    | a :: b :: r, _ => exact ⟨a, b, r, rfl⟩
  have h2' : ¬ ((f0 :: f1 :: R).length : Int) < 2 := by omega
  have hint := ev_rInt hX hs f1.1 0 4611686018427387904 (by have := hfl f1 (by simp); omega)
  rcases hI : Wo.intS f1.1 0 4611686018427387904 with ⟨r, er⟩
  rw [intV, hI] at hint
  simp only [List.map_cons] at hPA
  simp only [List.length_cons] at hge' h2' hF
  have cases3 : f0.1 = [105, 110, 116] ∨ (¬ f0.1 = [105, 110, 116] ∧ f0.1 = [99, 104, 97, 114]) ∨ (¬ f0.1 = [105, 110, 116] ∧ ¬ f0.1 = [99, 104, 97, 114]) := by
    by_cases h : f0.1 = [105, 110, 116]
    · exact .inl h
    · by_cases h' : f0.1 = [99, 104, 97, 114]
      · exact .inr (.inl ⟨h, h'⟩)
      · exact .inr (.inr ⟨h, h'⟩)
  have len2 : ¬ ((f0.1 :: f1.1 :: R.map (·.1) : List (List UInt8)).length < 2) := by simp
  have hd0 : (f0.1 = Lat.tInt ∨ f0.1 = Lat.tChar) → ¬ (f0.1 ≠ Lat.tInt ∧ f0.1 ≠ Lat.tChar) := fun h h' => h.elim h'.1 h'.2
  have g6 : ¬ er = 0 → Lat.tyPA ns up s = (Lat.zeroT, 6) := fun h => by
    rw [hPA, Lat.tyPF, if_pos (.inr (.inr (by simp only [List.getD_cons_succ, List.getD_cons_zero, hI]; exact h)))]
  have kne : (([99, 104, 97, 114] : List UInt8) = [105, 110, 116]) = False := by simp
  have kne' : (([105, 110, 116] : List UInt8) = [99, 104, 97, 114]) = False := by simp
  have hlow := ev_r_Low hX hs ns up hv
  rcases cases3 with k1 | ⟨k1, k2⟩ | ⟨k1, k2⟩
  · have kk := k1
    have hkd : (f0.1 = Lat.tInt ∨ f0.1 = Lat.tChar) ∧ (1 : Int) = if f0.1 = Lat.tChar then 2 else 1 := by rw [k1]; decide
    simp only [A_ref20_ParseL0, fdV, hge', h2', kk, kne, kne', go_sem, Nat.reduceMod, Nat.reduceBNe, Nat.reduceBEq, Nat.reduceEqDiff, Nat.reduceAdd, Int.reduceAdd, Nat.reduceMul, Nat.reduceSub, Int.reduceToNat, Int.reduceLE, Int.reduceLT, Int.reduceEq, Int.reduceNe, reduceCtorEq, Nat.reduceLT, Nat.reduceLeDiff]
    refine ⟨by omega, by omega, call_ev hint ?_⟩
    simp only [go_sem, Nat.reduceMod, Nat.reduceBNe, Nat.reduceBEq, Nat.reduceEqDiff, Nat.reduceAdd, Int.reduceAdd, Nat.reduceMul, Nat.reduceSub, Int.reduceToNat, Int.reduceLE, Int.reduceLT, Int.reduceEq, Int.reduceNe, reduceCtorEq, Nat.reduceLT, Nat.reduceLeDiff]
    have hr := intS_rng hI
    refine ⟨fun h => paV_z ?_, fun he => ⟨fun h => paV_z ?_, fun h7 => ⟨fun h => paV_z ?_, fun hln => ?_⟩⟩⟩
    · exact g6 h
    · rw [hPA, tyPF_7 hkd.1 (he ▸ hI) h]
    · have hr := hr he
      rw [wi64 (by omega)] at h
      rw [hPA, tyPF_l hkd.1 (he ▸ hI) hr.1 h7 (by rw [List.length_map]; omega)]
    have hr := hr he
    rw [wi64 (by omega)] at hln
    obtain ⟨n, rfl⟩ : ∃ n : Nat, r = n := ⟨r.toNat, by omega⟩
    subst he
    have hn : n ≤ 2 := by omega
    have hR' : R.length = 1 + n := by omega
    have fin := tyPF_fin (ns := ns) (up := up) (f0 := f0) (f1 := f1) (R := R) (kd := 1) hkd hI hn hR'
    simp only [List.map_cons] at fin
    rw [← hPA] at fin
    refine callq_ev hlow ?_
    simp only [go_sem, Nat.reduceMod, Nat.reduceBNe, Nat.reduceBEq, Nat.reduceEqDiff, Nat.reduceAdd, Int.reduceAdd, Nat.reduceMul, Nat.reduceSub, Int.reduceToNat, Int.reduceLE, Int.reduceLT, Int.reduceEq, Int.reduceNe, reduceCtorEq, Nat.reduceLT, Nat.reduceLeDiff]
    refine callq_ev hlow ?_
    have hd0 : (f0 :: f1 :: R).getD 0 default = f0 := rfl
    simp only [fdV, hd0, kk, kne, kne', go_sem, Nat.reduceMod, Nat.reduceBNe, Nat.reduceBEq, Nat.reduceEqDiff, Nat.reduceAdd, Int.reduceAdd, Nat.reduceMul, Nat.reduceSub, Int.reduceToNat, Int.reduceLE, Int.reduceLT, Int.reduceEq, Int.reduceNe, reduceCtorEq, Nat.reduceLT, Nat.reduceLeDiff]
    refine ⟨by omega, lp_rp hX hs ns up hc (f0 :: f1 :: R) (by simp only [List.length_cons]; omega) 1 (Lat.bot ns.length up : Nat) n hn (by simp only [List.length_cons]; omega) (fun hz G g11 g2 g4 => ?_) (fun hz G J g4 g5 => ?_) _ rfl rfl rfl rfl rfl⟩
    · have hck := ev_r_Good hX hs ns up hv ⟨1, n, if 1 ≤ n then paY ns (f0 :: f1 :: R) 0 else (Lat.bot ns.length up : Nat), if 2 ≤ n then paY ns (f0 :: f1 :: R) 1 else (Lat.bot ns.length up : Nat), paY ns (f0 :: f1 :: R) n⟩
      generalize hT : (⟨1, n, if 1 ≤ n then paY ns (f0 :: f1 :: R) 0 else (Lat.bot ns.length up : Nat), if 2 ≤ n then paY ns (f0 :: f1 :: R) 1 else (Lat.bot ns.length up : Nat), paY ns (f0 :: f1 :: R) n⟩ : Lat.Ty) = T at *
      have hb : AV.agg [.int .i64 1, .int .i64 n, .int .i64 (if 1 ≤ n then paY ns (f0 :: f1 :: R) 0 else (Lat.bot ns.length up : Nat)), .int .i64 (if 2 ≤ n then paY ns (f0 :: f1 :: R) 1 else (Lat.bot ns.length up : Nat)), .int .i64 (paY ns (f0 :: f1 :: R) n)] = tyV T := by rw [← hT]; rfl
      simp only [g11, g2, g4, go_sem, Nat.reduceMod, Nat.reduceBNe, Nat.reduceBEq, Nat.reduceEqDiff, Nat.reduceAdd, Int.reduceAdd, Nat.reduceMul, Nat.reduceSub, Int.reduceToNat, Int.reduceLE, Int.reduceLT, Int.reduceEq, Int.reduceNe, reduceCtorEq, Nat.reduceLT, Nat.reduceLeDiff]
      rw [hb]
      refine call_ev hck ?_
      simp only [g11, g2, g4, go_sem, Nat.reduceMod, Nat.reduceBNe, Nat.reduceBEq, Nat.reduceEqDiff, Nat.reduceAdd, Int.reduceAdd, Nat.reduceMul, Nat.reduceSub, Int.reduceToNat, Int.reduceLE, Int.reduceLT, Int.reduceEq, Int.reduceNe, reduceCtorEq, Nat.reduceLT, Nat.reduceLeDiff]
      rw [if_neg (by rw [hz]; simp)] at fin
      refine ⟨fun h => paV_z ?_, fun h => ?_⟩
      · rw [fin.1, if_pos h]
      · rw [← paV_eq (fin.1.trans (if_neg (by rw [h]; decide))), ← hT]
    · simp only [g4, g5, go_sem, Nat.reduceMod, Nat.reduceBNe, Nat.reduceBEq, Nat.reduceEqDiff, Nat.reduceAdd, Int.reduceAdd, Nat.reduceMul, Nat.reduceSub, Int.reduceToNat, Int.reduceLE, Int.reduceLT, Int.reduceEq, Int.reduceNe, reduceCtorEq, Nat.reduceLT, Nat.reduceLeDiff]
      rw [if_pos hz] at fin
      exact paV_z fin.1
  · have kk := k2
    have hkd : (f0.1 = Lat.tInt ∨ f0.1 = Lat.tChar) ∧ (2 : Int) = if f0.1 = Lat.tChar then 2 else 1 := by rw [k2]; decide
    simp only [A_ref20_ParseL0, fdV, hge', h2', kk, kne, kne', go_sem, Nat.reduceMod, Nat.reduceBNe, Nat.reduceBEq, Nat.reduceEqDiff, Nat.reduceAdd, Int.reduceAdd, Nat.reduceMul, Nat.reduceSub, Int.reduceToNat, Int.reduceLE, Int.reduceLT, Int.reduceEq, Int.reduceNe, reduceCtorEq, Nat.reduceLT, Nat.reduceLeDiff]
    refine ⟨by omega, by omega, by omega, call_ev hint ?_⟩
    simp only [go_sem, Nat.reduceMod, Nat.reduceBNe, Nat.reduceBEq, Nat.reduceEqDiff, Nat.reduceAdd, Int.reduceAdd, Nat.reduceMul, Nat.reduceSub, Int.reduceToNat, Int.reduceLE, Int.reduceLT, Int.reduceEq, Int.reduceNe, reduceCtorEq, Nat.reduceLT, Nat.reduceLeDiff]
    have hr := intS_rng hI
    refine ⟨fun h => paV_z ?_, fun he => ⟨fun h => paV_z ?_, fun h7 => ⟨fun h => paV_z ?_, fun hln => ?_⟩⟩⟩
    · exact g6 h
    · rw [hPA, tyPF_7 hkd.1 (he ▸ hI) h]
    · have hr := hr he
      rw [wi64 (by omega)] at h
      rw [hPA, tyPF_l hkd.1 (he ▸ hI) hr.1 h7 (by rw [List.length_map]; omega)]
    have hr := hr he
    rw [wi64 (by omega)] at hln
    obtain ⟨n, rfl⟩ : ∃ n : Nat, r = n := ⟨r.toNat, by omega⟩
    subst he
    have hn : n ≤ 2 := by omega
    have hR' : R.length = 1 + n := by omega
    have fin := tyPF_fin (ns := ns) (up := up) (f0 := f0) (f1 := f1) (R := R) (kd := 2) hkd hI hn hR'
    simp only [List.map_cons] at fin
    rw [← hPA] at fin
    refine callq_ev hlow ?_
    simp only [go_sem, Nat.reduceMod, Nat.reduceBNe, Nat.reduceBEq, Nat.reduceEqDiff, Nat.reduceAdd, Int.reduceAdd, Nat.reduceMul, Nat.reduceSub, Int.reduceToNat, Int.reduceLE, Int.reduceLT, Int.reduceEq, Int.reduceNe, reduceCtorEq, Nat.reduceLT, Nat.reduceLeDiff]
    refine callq_ev hlow ?_
    have hd0 : (f0 :: f1 :: R).getD 0 default = f0 := rfl
    simp only [fdV, hd0, kk, kne, kne', go_sem, Nat.reduceMod, Nat.reduceBNe, Nat.reduceBEq, Nat.reduceEqDiff, Nat.reduceAdd, Int.reduceAdd, Nat.reduceMul, Nat.reduceSub, Int.reduceToNat, Int.reduceLE, Int.reduceLT, Int.reduceEq, Int.reduceNe, reduceCtorEq, Nat.reduceLT, Nat.reduceLeDiff]
    refine ⟨by omega, lp_rp hX hs ns up hc (f0 :: f1 :: R) (by simp only [List.length_cons]; omega) 2 (Lat.bot ns.length up : Nat) n hn (by simp only [List.length_cons]; omega) (fun hz G g11 g2 g4 => ?_) (fun hz G J g4 g5 => ?_) _ rfl rfl rfl rfl rfl⟩
    · have hck := ev_r_Good hX hs ns up hv ⟨2, n, if 1 ≤ n then paY ns (f0 :: f1 :: R) 0 else (Lat.bot ns.length up : Nat), if 2 ≤ n then paY ns (f0 :: f1 :: R) 1 else (Lat.bot ns.length up : Nat), paY ns (f0 :: f1 :: R) n⟩
      generalize hT : (⟨2, n, if 1 ≤ n then paY ns (f0 :: f1 :: R) 0 else (Lat.bot ns.length up : Nat), if 2 ≤ n then paY ns (f0 :: f1 :: R) 1 else (Lat.bot ns.length up : Nat), paY ns (f0 :: f1 :: R) n⟩ : Lat.Ty) = T at *
      have hb : AV.agg [.int .i64 2, .int .i64 n, .int .i64 (if 1 ≤ n then paY ns (f0 :: f1 :: R) 0 else (Lat.bot ns.length up : Nat)), .int .i64 (if 2 ≤ n then paY ns (f0 :: f1 :: R) 1 else (Lat.bot ns.length up : Nat)), .int .i64 (paY ns (f0 :: f1 :: R) n)] = tyV T := by rw [← hT]; rfl
      simp only [g11, g2, g4, go_sem, Nat.reduceMod, Nat.reduceBNe, Nat.reduceBEq, Nat.reduceEqDiff, Nat.reduceAdd, Int.reduceAdd, Nat.reduceMul, Nat.reduceSub, Int.reduceToNat, Int.reduceLE, Int.reduceLT, Int.reduceEq, Int.reduceNe, reduceCtorEq, Nat.reduceLT, Nat.reduceLeDiff]
      rw [hb]
      refine call_ev hck ?_
      simp only [g11, g2, g4, go_sem, Nat.reduceMod, Nat.reduceBNe, Nat.reduceBEq, Nat.reduceEqDiff, Nat.reduceAdd, Int.reduceAdd, Nat.reduceMul, Nat.reduceSub, Int.reduceToNat, Int.reduceLE, Int.reduceLT, Int.reduceEq, Int.reduceNe, reduceCtorEq, Nat.reduceLT, Nat.reduceLeDiff]
      rw [if_neg (by rw [hz]; simp)] at fin
      refine ⟨fun h => paV_z ?_, fun h => ?_⟩
      · rw [fin.1, if_pos h]
      · rw [← paV_eq (fin.1.trans (if_neg (by rw [h]; decide))), ← hT]
    · simp only [g4, g5, go_sem, Nat.reduceMod, Nat.reduceBNe, Nat.reduceBEq, Nat.reduceEqDiff, Nat.reduceAdd, Int.reduceAdd, Nat.reduceMul, Nat.reduceSub, Int.reduceToNat, Int.reduceLE, Int.reduceLT, Int.reduceEq, Int.reduceNe, reduceCtorEq, Nat.reduceLT, Nat.reduceLeDiff]
      rw [if_pos hz] at fin
      exact paV_z fin.1
  · simp only [A_ref20_ParseL0, fdV, hge', h2', k1, k2, go_sem, Nat.reduceMod, Nat.reduceBNe, Nat.reduceBEq, Nat.reduceEqDiff, Nat.reduceAdd, Int.reduceAdd, Nat.reduceMul, Nat.reduceSub, Int.reduceToNat, Int.reduceLE, Int.reduceLT, Int.reduceEq, Int.reduceNe, reduceCtorEq, Nat.reduceLT, Nat.reduceLeDiff]
    refine ⟨by omega, by omega, paV_z ?_⟩
    rw [hPA, Lat.tyPF, if_pos (.inr (.inl ⟨k1, k2⟩))]
end
end Go.Avm
