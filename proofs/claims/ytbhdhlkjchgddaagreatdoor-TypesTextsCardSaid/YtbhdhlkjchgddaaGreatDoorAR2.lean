/- Types: Parse. -/
import Derived.Test.YtbhdhlkjchgddaaGreatDoorAR1
import Derived.Test.YtbhdhlkjchgddaaGreatDoorA8
set_option linter.unusedSectionVars false
set_option linter.unusedSimpArgs false
set_option linter.unusedVariables false

/- Types: Parse. -/
namespace Go.Wo
theorem splitS_len (s : List UInt8) : (splitS s).1.length ≤ 64 ∧ ∀ f ∈ (splitS s).1, f.1.length ≤ 2000 := by
  have hn : ∀ n : Int, (([], n) : List Fd × Int).1.length ≤ 64 ∧ ∀ f ∈ (([], n) : List Fd × Int).1, f.1.length ≤ 2000 := fun _ => ⟨Nat.zero_le _, fun _ h => by simp at h⟩
  unfold splitS
  split
  · exact hn 3
  · split
    · exact hn 0
    · split
      · exact hn 6
      · rename_i l _
        split
        · exact hn 3
        · rename_i h
          simp only [Bool.or_eq_true, decide_eq_true_eq, not_or, Nat.not_lt, Bool.not_eq_true] at h
          refine ⟨h.2, fun f hf => ?_⟩
          have h1 := h.1
          rw [long, List.any_eq_false] at h1
          have := h1 f hf
          simp only [decide_eq_true_eq] at this
          omega
end Go.Wo
namespace Go.Avm
open Go
set_option maxRecDepth 10000
def paV (ns : List (List UInt8)) (up : List UInt8) (s : List UInt8) : AV := .tuple [tyV (Lat.tyPA ns up s).1, .int .i64 (Lat.tyPA ns up s).2]
theorem paV_eq {ns : List (List UInt8)} {up s : List UInt8} {t : Lat.Ty} {e : Int} (h : Lat.tyPA ns up s = (t, e)) : AV.tuple [.agg [.int .i64 t.k, .int .i64 t.r, .int .i64 t.a0, .int .i64 t.a1, .int .i64 t.d], .int .i64 e] = paV ns up s := by
  rw [paV, h]
  rfl
theorem paV_z {ns : List (List UInt8)} {up s : List UInt8} {e : Int} (h : Lat.tyPA ns up s = (Lat.zeroT, e)) : AV.tuple [.agg [.int .i64 0, .int .i64 0, .int .i64 0, .int .i64 0, .int .i64 0], .int .i64 e] = paV ns up s := paV_eq h
theorem intS_rng {s : List UInt8} {lo hi r e : Int} (h : Wo.intS s lo hi = (r, e)) (he : e = 0) : lo ≤ r ∧ r ≤ hi := by
  subst he
  unfold Wo.intS at h
  split at h
  · injection h with _ h; cases h
  · split at h
    · injection h with _ h; cases h
    · rename_i h2
      injection h with h _
      omega
theorem tyPF_fin {ns : List (List UInt8)} {up : List UInt8} {f0 f1 : Wo.Fd} {R : List Wo.Fd} {kd : Int} {n : Nat} (hk : (f0.1 = Lat.tInt ∨ f0.1 = Lat.tChar) ∧ kd = if f0.1 = Lat.tChar then 2 else 1) (hI : Wo.intS f1.1 0 4611686018427387904 = ((n : Int), 0)) (hn : n ≤ 2) (hR : R.length = 1 + n) :
    Lat.tyPF ns up ((f0 :: f1 :: R).map (·.1)) = (if paR ns (f0 :: f1 :: R) (n + 1) ≠ 0 then (Lat.zeroT, 4)
      else if Lat.goodS ns.length up ⟨kd, n, if 1 ≤ n then paY ns (f0 :: f1 :: R) 0 else (Lat.bot ns.length up : Nat), if 2 ≤ n then paY ns (f0 :: f1 :: R) 1 else (Lat.bot ns.length up : Nat), paY ns (f0 :: f1 :: R) n⟩ ≠ 0 then (Lat.zeroT, Lat.goodS ns.length up ⟨kd, n, if 1 ≤ n then paY ns (f0 :: f1 :: R) 0 else (Lat.bot ns.length up : Nat), if 2 ≤ n then paY ns (f0 :: f1 :: R) 1 else (Lat.bot ns.length up : Nat), paY ns (f0 :: f1 :: R) n⟩)
      else (⟨kd, n, if 1 ≤ n then paY ns (f0 :: f1 :: R) 0 else (Lat.bot ns.length up : Nat), if 2 ≤ n then paY ns (f0 :: f1 :: R) 1 else (Lat.bot ns.length up : Nat), paY ns (f0 :: f1 :: R) n⟩, 0)) ∧ (paR ns (f0 :: f1 :: R) (n + 1) ≠ 0 → paR ns (f0 :: f1 :: R) (n + 1) = 4) := by
  have hc : ¬ ((f0 :: f1 :: R).map (·.1) : List (List UInt8)).length < 2 := by simp only [List.length_map, List.length_cons]; omega
  have e0 : ((f0 :: f1 :: R).map (·.1) : List (List UInt8)).getD 0 [] = f0.1 := rfl
  have e1 : ((f0 :: f1 :: R).map (·.1) : List (List UInt8)).getD 1 [] = f1.1 := rfl
  have e2 : ((f0 :: f1 :: R).map (·.1) : List (List UInt8)).drop 2 = R.map (·.1) := rfl
  have e3 : (((f0 :: f1 :: R).map (·.1) : List (List UInt8)).length : Int) = 3 + n := by simp only [List.length_map, List.length_cons]; omega
  rw [Lat.tyPF, e0, e1, e2, hI, if_neg (by
    rintro (h | h | h)
    · exact hc h
    · exact hk.1.elim h.1 h.2
    · exact h rfl), if_neg (by simp only; omega), if_neg (by rw [e3]; simp)]
  have hkd := hk.2
  subst hkd
  have hn : n = 0 ∨ n = 1 ∨ n = 2 := by omega
  rcases hn with rfl | rfl | rfl
  · obtain ⟨a, rfl⟩ := List.length_eq_one_iff.1 hR
    cases ha : Lat.findO ns a.1 <;> simp [paR, paE, paY, ha]
  · match R, hR with
    | [a, b], _ => cases ha : Lat.findO ns a.1 <;> cases hb : Lat.findO ns b.1 <;> simp [paR, paE, paY, ha, hb]
  · match R, hR with
    | [a, b, c], _ => cases ha : Lat.findO ns a.1 <;> cases hb : Lat.findO ns b.1 <;> cases hcc : Lat.findO ns c.1 <;> simp [paR, paE, paY, ha, hb, hcc]
theorem kind_ix (s : List UInt8) : (Lat.oi (Lat.findO [[], Lat.tInt, Lat.tChar] s) < 1 → s ≠ Lat.tInt ∧ s ≠ Lat.tChar) ∧ (¬ Lat.oi (Lat.findO [[], Lat.tInt, Lat.tChar] s) < 1 → (s = Lat.tInt ∨ s = Lat.tChar) ∧ Lat.oi (Lat.findO [[], Lat.tInt, Lat.tChar] s) = if s = Lat.tChar then 2 else 1) := by
  by_cases h1 : s = Lat.tInt
  · subst h1; decide
  · by_cases h2 : s = Lat.tChar
    · subst h2; decide
    · refine ⟨fun _ => ⟨h1, h2⟩, fun h => ?_⟩
      exfalso
      apply h
      cases e : Lat.findO [[], Lat.tInt, Lat.tChar] s with
      | none => decide
      | some i =>
        obtain ⟨h3, h4, _⟩ := Lat.ff_eq_some.1 e
        have : i = 0 ∨ i = 1 ∨ i = 2 := by simp only [List.length_cons, List.length_nil] at h3; omega
        rcases this with rfl | rfl | rfl
        · decide
        · simp only [List.getD_cons_zero, List.getD_cons_succ, beq_iff_eq] at h4
          exact absurd h4.symm h1
        · simp only [List.getD_cons_zero, List.getD_cons_succ, beq_iff_eq] at h4
          exact absurd h4.symm h2
section
variable {X : Cx} (hX : X.P = Go.Proofs.Tryz.prog) (hs : Std X)
include hX hs
theorem ev_Parse20 (hE : X.G gEsc = some tabE) {te : Nat} (hR : X.G (sRen.g 16) = some [.ifc te .undef]) (ns : List (List UInt8)) (up s : List UInt8) (hl : s.length < 100000) : Ev X F_types_Parse [latV ns up, .str s] (paV ns up s) := by
  refine ev_of_wpcD hs (A_types_Parse_ok hX) 1 ?_
  have hof := ev_t_of hX hs ns up
  simp only [A_types_Parse, latV, go_sem, Nat.reduceMod, Nat.reduceBNe, Nat.reduceBEq, Nat.reduceEqDiff, Nat.reduceAdd, Int.reduceAdd, Nat.reduceMul, Nat.reduceSub, Int.reduceToNat, Int.reduceLE, Int.reduceLT, Int.reduceEq, Int.reduceNe, reduceCtorEq, Nat.reduceLT, Nat.reduceLeDiff]
  refine call_ev hof ?_
  rcases Decidable.em ((Lat.checkS ns up).2 = 0) with hc | hc
  case inr =>
    simp only [ordT, go_sem, Nat.reduceMod, Nat.reduceBNe, Nat.reduceBEq, Nat.reduceEqDiff, Nat.reduceAdd, Int.reduceAdd, Nat.reduceMul, Nat.reduceSub, Int.reduceToNat, Int.reduceLE, Int.reduceLT, Int.reduceEq, Int.reduceNe, reduceCtorEq, Nat.reduceLT, Nat.reduceLeDiff, hc]
    exact paV_z (by rw [Lat.tyPA, if_pos hc])
  have hv := (Lat.checkS_val hc).2
  simp only [ordT, go_sem, Nat.reduceMod, Nat.reduceBNe, Nat.reduceBEq, Nat.reduceEqDiff, Nat.reduceAdd, Int.reduceAdd, Nat.reduceMul, Nat.reduceSub, Int.reduceToNat, Int.reduceLE, Int.reduceLT, Int.reduceEq, Int.reduceNe, reduceCtorEq, Nat.reduceLT, Nat.reduceLeDiff, hc]
  refine call_ev (ev_Split hX hs hE s (by omega)) ?_
  rcases hS : Wo.splitS s with ⟨F, e⟩
  obtain ⟨hF, hfl⟩ : F.length ≤ 64 ∧ ∀ f ∈ F, f.1.length ≤ 2000 := by
    have := Wo.splitS_len s
    rw [hS] at this
    exact this
  simp only [splV, hS, go_sem, Nat.reduceMod, Nat.reduceBNe, Nat.reduceBEq, Nat.reduceEqDiff, Nat.reduceAdd, Int.reduceAdd, Nat.reduceMul, Nat.reduceSub, Int.reduceToNat, Int.reduceLE, Int.reduceLT, Int.reduceEq, Int.reduceNe, reduceCtorEq, Nat.reduceLT, Nat.reduceLeDiff]
  refine ⟨fun he => paV_z (by rw [Lat.tyPA, if_neg (by rw [hc]; decide), hS, if_pos he]), fun he => ?_⟩
  subst he
  have hPA : Lat.tyPA ns up s = if F.any (·.2) then (Lat.zeroT, 6) else Lat.tyPF ns up (F.map (·.1)) := by
    rw [Lat.tyPA, if_neg (by rw [hc]; decide), hS, if_neg (by simp)]
  have hPF : (F.map (·.1)).length = F.length := by simp
  refine ⟨fun h2 => ?_, fun h2 => ?_⟩
  · refine paV_z ?_
    rw [hPA]
    split
    · rfl
    · rw [Lat.tyPF, if_pos (.inl (by omega))]
  refine call_ev (ev_ContainsFuncF hX hs F (by omega)) ?_
  simp only [go_sem, Nat.reduceMod, Nat.reduceBNe, Nat.reduceBEq, Nat.reduceEqDiff, Nat.reduceAdd, Int.reduceAdd, Nat.reduceMul, Nat.reduceSub, Int.reduceToNat, Int.reduceLE, Int.reduceLT, Int.reduceEq, Int.reduceNe, reduceCtorEq, Nat.reduceLT, Nat.reduceLeDiff]
  refine ⟨fun h => paV_z (by rw [hPA, if_pos h]), fun hq => ?_⟩
  rw [if_neg (by rw [hq]; decide)] at hPA
  obtain ⟨f0, f1, R, rfl⟩ : ∃ f0 f1 R, F = f0 :: f1 :: R := by
    match F, h2 with
    | [], h => simp at h
    | [_], h => simp at h
    | a :: b :: r, _ => exact ⟨a, b, r, rfl⟩
  refine call_ev (ev_names hX hs) ?_
  have hk := kind_ix f0.1
  have hint := ev_Int hX hs hR f1.1 0 4611686018427387904 (by have := hfl f1 (by simp); omega)
  simp only [List.map_cons] at hPA
  simp only [fdV, go_sem, Nat.reduceMod, Nat.reduceBNe, Nat.reduceBEq, Nat.reduceEqDiff, Nat.reduceAdd, Int.reduceAdd, Nat.reduceMul, Nat.reduceSub, Int.reduceToNat, Int.reduceLE, Int.reduceLT, Int.reduceEq, Int.reduceNe, reduceCtorEq, Nat.reduceLT, Nat.reduceLeDiff]
  refine ⟨by omega, callq_lend (r := .int .i64 (Lat.oi (Lat.findO [[], Lat.tInt, Lat.tChar] f0.1))) (ev_Index hX hs [[], Lat.tInt, Lat.tChar] f0.1 (by decide)) rfl ?_⟩
  generalize Lat.oi (Lat.findO [[], Lat.tInt, Lat.tChar] f0.1) = kd at *
  simp only [fdV, go_sem, Nat.reduceMod, Nat.reduceBNe, Nat.reduceBEq, Nat.reduceEqDiff, Nat.reduceAdd, Int.reduceAdd, Nat.reduceMul, Nat.reduceSub, Int.reduceToNat, Int.reduceLE, Int.reduceLT, Int.reduceEq, Int.reduceNe, reduceCtorEq, Nat.reduceLT, Nat.reduceLeDiff]
  refine ⟨by omega, call_ev hint ?_⟩
  rcases hI : Wo.intS f1.1 0 4611686018427387904 with ⟨r, er⟩
  simp only [intV, hI, go_sem, Nat.reduceMod, Nat.reduceBNe, Nat.reduceBEq, Nat.reduceEqDiff, Nat.reduceAdd, Int.reduceAdd, Nat.reduceMul, Nat.reduceSub, Int.reduceToNat, Int.reduceLE, Int.reduceLT, Int.reduceEq, Int.reduceNe, reduceCtorEq, Nat.reduceLT, Nat.reduceLeDiff]
  have hd0 : ∀ h : (f0.1 = Lat.tInt ∨ f0.1 = Lat.tChar), ¬ (f0.1 ≠ Lat.tInt ∧ f0.1 ≠ Lat.tChar) := fun h h' => h.elim h'.1 h'.2
  have hr := intS_rng hI
  refine ⟨fun h => paV_z ?_, fun hkd => ⟨fun h => paV_z ?_, fun he => ⟨fun h => paV_z ?_, fun h7 => ⟨fun h => paV_z ?_, fun hln => ?_⟩⟩⟩⟩
  · rw [hPA, Lat.tyPF, if_pos (.inr (.inl (hk.1 h)))]
  · rw [hPA, Lat.tyPF, if_pos (.inr (.inr (by simp only [List.getD_cons_succ, List.getD_cons_zero, hI]; exact h)))]
  · subst he
    have hr := hr rfl
    rw [hPA, Lat.tyPF, if_neg (by
      simp only [List.length_cons, List.getD_cons_succ, List.getD_cons_zero, hI]
      rintro (h | h | h)
      · omega
      · exact hd0 (hk.2 hkd).1 h
      · exact h rfl), if_pos (by simp only [List.getD_cons_succ, List.getD_cons_zero, hI]; omega)]
  · subst he
    have hr := hr rfl
    rw [wi64 (by omega)] at h
    rw [hPA, Lat.tyPF, if_neg (by
      simp only [List.length_cons, List.getD_cons_succ, List.getD_cons_zero, hI]
      rintro (h | h | h)
      · omega
      · exact hd0 (hk.2 hkd).1 h
      · exact h rfl), if_neg (by simp only [List.getD_cons_succ, List.getD_cons_zero, hI]; omega), if_pos (by
      simp only [List.length_cons, List.length_map, List.getD_cons_succ, List.getD_cons_zero, hI]
      omega)]
  subst he
  have hr := hr rfl
  rw [wi64 (by omega)] at hln
  obtain ⟨n, rfl⟩ : ∃ n : Nat, r = n := ⟨r.toNat, by omega⟩
  have hn : n ≤ 2 := by omega
  have hR' : R.length = 1 + n := by omega
  have fin := tyPF_fin (ns := ns) (up := up) (f0 := f0) (f1 := f1) (R := R) (kd := kd) (hk.2 hkd) hI hn hR'
  refine call_evm (ev_each_pa hX hs ns up hc (f0 :: f1 :: R) (by simp only [List.length_cons]; omega) _ _ _ _ _ kd (Lat.bot ns.length up) n hn (by simp only [List.length_cons]; omega)) ?_
  rintro r' H' ⟨rfl, J1, J2, J3, rfl⟩
  have hck := ev_t_check hX hs ns up hv ⟨kd, n, if 1 ≤ n then paY ns (f0 :: f1 :: R) 0 else (Lat.bot ns.length up : Nat), if 2 ≤ n then paY ns (f0 :: f1 :: R) 1 else (Lat.bot ns.length up : Nat), paY ns (f0 :: f1 :: R) n⟩
  generalize hT : (⟨kd, n, if 1 ≤ n then paY ns (f0 :: f1 :: R) 0 else (Lat.bot ns.length up : Nat), if 2 ≤ n then paY ns (f0 :: f1 :: R) 1 else (Lat.bot ns.length up : Nat), paY ns (f0 :: f1 :: R) n⟩ : Lat.Ty) = T at *
  simp only [List.map_cons] at fin
  rcases Decidable.em (paR ns (f0 :: f1 :: R) (n + 1) = 0) with hz | hz
  · simp only [tyV, hz, go_sem, Nat.reduceMod, Nat.reduceBNe, Nat.reduceBEq, Nat.reduceEqDiff, Nat.reduceAdd, Int.reduceAdd, Nat.reduceMul, Nat.reduceSub, Int.reduceToNat, Int.reduceLE, Int.reduceLT, Int.reduceEq, Int.reduceNe, reduceCtorEq, Nat.reduceLT, Nat.reduceLeDiff]
    refine call_ev hck ?_
    simp only [go_sem, Nat.reduceMod, Nat.reduceBNe, Nat.reduceBEq, Nat.reduceEqDiff, Nat.reduceAdd, Int.reduceAdd, Nat.reduceMul, Nat.reduceSub, Int.reduceToNat, Int.reduceLE, Int.reduceLT, Int.reduceEq, Int.reduceNe, reduceCtorEq, Nat.reduceLT, Nat.reduceLeDiff]
    rw [if_neg (by simpa using hz)] at fin
    refine ⟨fun h => paV_z ?_, fun h => paV_eq ?_⟩
    · rw [hPA, fin.1, if_pos h]
    · rw [hPA, fin.1, if_neg (by simpa using h)]
  · rw [if_pos hz] at fin
    simp only [tyV, hz, go_sem, Nat.reduceMod, Nat.reduceBNe, Nat.reduceBEq, Nat.reduceEqDiff, Nat.reduceAdd, Int.reduceAdd, Nat.reduceMul, Nat.reduceSub, Int.reduceToNat, Int.reduceLE, Int.reduceLT, Int.reduceEq, Int.reduceNe, reduceCtorEq, Nat.reduceLT, Nat.reduceLeDiff]
    refine paV_z ?_
    rw [hPA, fin.1, fin.2 hz]
end
end Go.Avm
