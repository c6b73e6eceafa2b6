/- Labels: Read of the reference. -/
import Derived.Test.YtebnoigmepfdcaaGreatDoorAR4
import Derived.Test.YtebnoigmepfdcaaGreatDoorAR3
import Derived.Test.YtebnoigmepfdcaaGreatDoorM4
set_option linter.unusedSectionVars false
set_option linter.unusedSimpArgs false
set_option linter.unusedVariables false

/- Labels: Read of the reference. -/
namespace Go.Avm
open Go
theorem spk_next {s : List UInt8} {f i : Nat} (hf : f ≤ i) (hi : i < s.length) (hc : s.getD i 0 = 44) (hn : ∀ j, f ≤ j → j < i → s.getD j 0 ≠ 44) : Lat.spk (s.drop f) = (s.take i).drop f :: Lat.spk (s.drop (i + 1)) := by
  have hg : ∀ k, (s.drop f).getD k 0 = s.getD (f + k) 0 := fun k => by rw [List.getD_eq_getElem?_getD, List.getD_eq_getElem?_getD, List.getElem?_drop]
  have hix : Lat.idx 44 (s.drop f) = i - f := Lat.idx_eq (by rw [List.length_drop]; omega) (by rw [hg, show f + (i - f) = i by omega]; exact hc) fun k hk => by rw [hg]; exact hn _ (by omega) (by omega)
  have h := Lat.spk_idx (s := s.drop f) (by rw [hix, List.length_drop]; omega)
  rw [h, hix, List.drop_drop, List.take_drop, show f + (i - f) = i by omega, show f + (i - f + 1) = i + 1 by omega]
theorem spk_end {s : List UInt8} {f : Nat} (hn : ∀ j, f ≤ j → j < s.length → s.getD j 0 ≠ 44) : Lat.spk (s.drop f) = [s.drop f] := Lat.spk_no fun hm => by
  obtain ⟨k, hk, e⟩ := List.getElem_of_mem hm
  rw [List.length_drop] at hk
  rw [List.getElem_drop] at e
  exact hn (f + k) (by omega) (by omega) (by rw [List.getD_eq_getElem?_getD, List.getElem?_eq_getElem (by omega)]; exact e)
def RInv (s : List UInt8) (x : Nat × List (List UInt8) × Nat) : Prop :=
  (x.1 ≤ s.length ∧ x.2.2 ≤ x.1 ∧ Lat.spk s = x.2.1 ++ Lat.spk (s.drop x.2.2) ∧ ∀ j, x.2.2 ≤ j → j < x.1 → s.getD j 0 ≠ 44) ∨ (x.1 = s.length + 1 ∧ x.2.1 = Lat.spk s)
set_option maxRecDepth 10000
section
variable {X : Cx} (hX : X.P = Go.Proofs.Tryz.prog) (hs : Std X)
include hX hs
theorem ev_rlRead (ns : List (List UInt8)) (up : List UInt8) (s : List UInt8) (hl : s.length < 1000000) : Ev X F_ref04_Read [latV ns up, .str s] (.tuple [lst (AV.int .i64) .ro (rdS ns up s).1, .int .i64 (rdS ns up s).2]) := by
  refine ev_of_wpcd hs (A_ref04_Read_ok hX) 1 ?_
  simp only [A_ref04_Read, latV, go_sem, Nat.reduceMod, Nat.reduceBNe, Nat.reduceBEq, Nat.reduceEqDiff, Nat.reduceAdd, Int.reduceAdd, Nat.reduceMul, Nat.reduceSub, Int.reduceToNat, Int.reduceLE, Int.reduceLT, Int.reduceEq, Int.reduceNe, reduceCtorEq, Nat.reduceLT, Nat.reduceLeDiff]
  refine call_ev (ev_rCheck hX hs ns up) ?_
  by_cases h : (Lat.checkS ns up).2 = 0
  · simp only [h, go_sem, Nat.reduceMod, Nat.reduceBNe, Nat.reduceBEq, Nat.reduceEqDiff, Nat.reduceAdd, Int.reduceAdd, Nat.reduceMul, Nat.reduceSub, Int.reduceToNat, Int.reduceLE, Int.reduceLT, Int.reduceEq, Int.reduceNe, reduceCtorEq, Nat.reduceLT, Nat.reduceLeDiff]
    refine ⟨fun c => ?_, fun c => ?_⟩
    · rw [dry_sl0, rdS, if_pos h, if_pos c]
    · have hsp : (Lat.spk s).length ≤ s.length + 1 := by
        rw [Lat.spk_count]
        have := List.count_le_length (a := (44 : UInt8)) (l := s)
        omega
      have er : rdS ns up s = if 64 < (Lat.spk s).length then ([], 3) else if (Lat.findO (Lat.spk s) []).isSome then ([], 6) else fdL ns up (Lat.spk s) := by rw [rdS, if_pos h, if_neg c]
      refine w_loop hs.hm (ι := Nat × List (List UInt8) × Nat) (RInv s) (fun x => [(10, .int .i64 x.1), (9, .int .i64 x.2.2), (8, lst AV.str (.tok 1 1) x.2.1), (1, .str s), (2, .ptr 0 0)]) (fun x => [.box [lst AV.str .ro ns, lst u8 .ro up], .tok x.2.1.length]) (fun x => s.length + 1 - x.1) (0, [], 0) ⟨.inl ⟨Nat.zero_le _, Nat.le_refl _, rfl, fun j h1 h2 => absurd h2 (Nat.not_lt_zero j)⟩, _, _, wk_tok 8 1 rfl, ⟨by simp only [go_sem, Nat.reduceMod, Nat.reduceBNe, Nat.reduceBEq, Nat.reduceEqDiff, Nat.reduceAdd, Int.reduceAdd, Nat.reduceMul, Nat.reduceSub, Int.reduceToNat, Int.reduceLE, Int.reduceLT, Int.reduceEq, Int.reduceNe, reduceCtorEq, Nat.reduceLT, Nat.reduceLeDiff]; rfl, rfl⟩⟩ fun x hx => ?_
      obtain ⟨i, N, f⟩ := x
      simp only [A_ref04_ReadL0, go_sem, Nat.reduceMod, Nat.reduceBNe, Nat.reduceBEq, Nat.reduceEqDiff, Nat.reduceAdd, Int.reduceAdd, Nat.reduceMul, Nat.reduceSub, Int.reduceToNat, Int.reduceLE, Int.reduceLT, Int.reduceEq, Int.reduceNe, reduceCtorEq, Nat.reduceLT, Nat.reduceLeDiff]
      rcases hx with ⟨x1, x2, x3, x4⟩ | ⟨x1, x2⟩
      · simp only at x1 x2 x3 x4
        have hN : N.length ≤ s.length + 1 := by
          have := congrArg List.length x3
          rw [List.length_append] at this
          omega
        refine ⟨fun _ => ⟨fun e => ?_, fun hne => ⟨⟨by omega, by omega⟩, fun e44 => ?_, fun e44 => ?_⟩⟩, fun hno => absurd hno (by omega)⟩
        · obtain rfl : i = s.length := by omega
          have h2 : N ++ [(s.take s.length).drop f] = Lat.spk s := by rw [x3, spk_end x4, List.take_length]
          refine ⟨⟨⟨⟨by omega, by omega⟩, by omega⟩, by omega⟩, ⟨by omega, by omega⟩, (s.length + 1, Lat.spk s, s.length + 1), by simp only; omega, .inr ⟨rfl, rfl⟩, ⟨by simp only; rw [wi64 (by omega)]; rfl, by simp only; rw [wi64 (by omega)]; rfl, by rw [h2]⟩, ?_⟩
          rw [← h2, List.length_append]
          rfl
        · have hi : i < s.length := by omega
          have hc : s.getD i 0 = 44 := by
            rw [← UInt8.toNat_inj]
            show _ = 44
            omega
          refine ⟨⟨⟨⟨by omega, by omega⟩, by omega⟩, by omega⟩, ⟨by omega, by omega⟩, (i + 1, N ++ [(s.take i).drop f], i + 1), by simp only; omega, .inl ⟨by simp only; omega, Nat.le_refl _, by simp only; rw [x3, spk_next x2 hi hc x4, List.append_assoc]; rfl, fun j h1 h2 => by simp only at h1 h2; omega⟩, ⟨by simp only; rw [wi64 (by omega)]; rfl, by simp only; rw [wi64 (by omega)]; rfl, rfl⟩, ?_⟩
          simp only [List.length_append]
          rfl
        · have hi : i < s.length := by omega
          refine ⟨(i + 1, N, f), by simp only; omega, .inl ⟨by simp only; omega, by simp only; omega, x3, fun j h1 h2 => ?_⟩, ⟨by simp only; rw [wi64 (by omega)]; rfl, rfl, rfl⟩, rfl⟩
          simp only at h1 h2
          by_cases e : j = i
          · subst e
            intro hc
            rw [hc] at e44
            exact e44 rfl
          · exact x4 j h1 (by omega)
      · simp only at x1 x2
        subst x2
        refine ⟨fun hle => absurd hle (by omega), fun _ => ⟨fun c64 => ?_, fun c64 => ?_⟩⟩
        · rw [dry_sl0, er, if_pos (by omega)]
        · rw [if_neg (by omega)] at er
          generalize Lat.spk s = L at hsp er
          refine w_loop' hs.hm (ι := Nat) (fun i => i ≤ L.length ∧ ∀ j, j < i → L.getD j [] ≠ []) (fun i => [(11, .int .i64 i), (8, lst AV.str (.tok 1 1) L), (2, .ptr 0 0)]) (fun i => [.box [lst AV.str .ro ns, lst u8 .ro up], .tok L.length]) (fun i => L.length - i) 0 ?_ fun i hi => ?_
          · simp only [go_sem, Nat.reduceMod, Nat.reduceBNe, Nat.reduceBEq, Nat.reduceEqDiff, Nat.reduceAdd, Int.reduceAdd, Nat.reduceMul, Nat.reduceSub, Int.reduceToNat, Int.reduceLE, Int.reduceLT, Int.reduceEq, Int.reduceNe, reduceCtorEq, Nat.reduceLT, Nat.reduceLeDiff]
            exact ⟨Nat.zero_le _, no_lt0⟩
          · obtain ⟨i1, i2⟩ := hi
            simp only [A_ref04_ReadL1, go_sem, Nat.reduceMod, Nat.reduceBNe, Nat.reduceBEq, Nat.reduceEqDiff, Nat.reduceAdd, Int.reduceAdd, Nat.reduceMul, Nat.reduceSub, Int.reduceToNat, Int.reduceLE, Int.reduceLT, Int.reduceEq, Int.reduceNe, reduceCtorEq, Nat.reduceLT, Nat.reduceLeDiff]
            refine ⟨fun ci => ⟨⟨by omega, ci⟩, fun e => ?_, fun e => ?_⟩, fun ci => ?_⟩
            · have e' : L.getD i [] = [] := e
              have hso : (Lat.findO L []).isSome = true := by
                cases hq : Lat.findO L [] with
                | some _ => rfl
                | none =>
                  have := Lat.ff_eq_none.1 hq i (by omega)
                  rw [e'] at this
                  simp at this
              rw [hso, if_pos rfl] at er
              rw [dry_sl0, er]
            · exact ⟨i + 1, by omega, ⟨by omega, lt1' i2 e⟩, by rw [wi64 (by omega)]; rfl⟩
            · obtain rfl : i = L.length := by omega
              have hno : (Lat.findO L []).isSome = false := by
                cases hq : Lat.findO L [] with
                | none => rfl
                | some a =>
                  obtain ⟨q1, q2, _⟩ := Lat.ff_eq_some.1 hq
                  exact absurd (by simpa using q2) (i2 a q1)
              rw [hno, if_neg Bool.false_ne_true] at er
              refine w_loop hs.hm (ι := Nat) (fun i => i ≤ L.length ∧ ∀ j, j < i → (Lat.findS ns up (L.getD j [])).2 = 0) (fun i => [(13, .int .i64 i), (12, lst (AV.int .i64) (.tok 2 1) (fdA ns up (L.take i))), (8, lst AV.str (.tok 1 1) L), (2, .ptr 0 0)]) (fun i => [.box [lst AV.str .ro ns, lst u8 .ro up], .tok L.length, .tok (fdA ns up (L.take i)).length]) (fun i => L.length - i) 0 ⟨⟨Nat.zero_le _, no_lt0⟩, _, _, wk_tok 12 1 rfl, ⟨by simp only [go_sem, Nat.reduceMod, Nat.reduceBNe, Nat.reduceBEq, Nat.reduceEqDiff, Nat.reduceAdd, Int.reduceAdd, Nat.reduceMul, Nat.reduceSub, Int.reduceToNat, Int.reduceLE, Int.reduceLT, Int.reduceEq, Int.reduceNe, reduceCtorEq, Nat.reduceLT, Nat.reduceLeDiff]; rfl, rfl⟩⟩ fun i hi => ?_
              obtain ⟨i3, i4⟩ := hi
              simp only [A_ref04_ReadL2, go_sem, Nat.reduceMod, Nat.reduceBNe, Nat.reduceBEq, Nat.reduceEqDiff, Nat.reduceAdd, Int.reduceAdd, Nat.reduceMul, Nat.reduceSub, Int.reduceToNat, Int.reduceLE, Int.reduceLT, Int.reduceEq, Int.reduceNe, reduceCtorEq, Nat.reduceLT, Nat.reduceLeDiff]
              refine ⟨fun ci => ⟨⟨by omega, ci⟩, ?_⟩, fun ci => ?_⟩
              · have hiL : i < L.length := by omega
                have hlen : (fdA ns up (L.take i)).length ≤ i := by rw [fdA_len, List.length_take]; omega
                refine callq_ev (ev_rFind hX hs ns up _) ?_
                by_cases hf : (Lat.findS ns up (L.getD i [])).2 = 0
                · have hf' : (Lat.findS ns up (L.getD i default)).2 = 0 := hf
                  have h2 := fdA_s ns up hiL
                  simp only [hf', go_sem, Nat.reduceMod, Nat.reduceBNe, Nat.reduceBEq, Nat.reduceEqDiff, Nat.reduceAdd, Int.reduceAdd, Nat.reduceMul, Nat.reduceSub, Int.reduceToNat, Int.reduceLE, Int.reduceLT, Int.reduceEq, Int.reduceNe, reduceCtorEq, Nat.reduceLT, Nat.reduceLeDiff]
                  refine ⟨⟨by omega, by omega⟩, i + 1, by omega, ⟨by omega, lt1' i4 hf⟩, ⟨by rw [wi64 (by omega)]; rfl, by rw [h2]; rfl⟩, ?_⟩
                  rw [h2, List.length_append]
                  rfl
                · have hf' : ¬ (Lat.findS ns up (L.getD i default)).2 = 0 := hf
                  simp only [hf', go_sem, Nat.reduceMod, Nat.reduceBNe, Nat.reduceBEq, Nat.reduceEqDiff, Nat.reduceAdd, Int.reduceAdd, Nat.reduceMul, Nat.reduceSub, Int.reduceToNat, Int.reduceLE, Int.reduceLT, Int.reduceEq, Int.reduceNe, reduceCtorEq, Nat.reduceLT, Nat.reduceLeDiff]
                  rw [dry_sl0, er, fdL_no hiL i4 hf]
                  rfl
              · obtain rfl : i = L.length := by omega
                have hall : ∀ x ∈ L, (Lat.findS ns up x).2 = 0 := fun x hx => by
                  obtain ⟨j, hj, rfl⟩ := List.getElem_of_mem hx
                  have := i4 j hj
                  rwa [List.getD_eq_getElem?_getD, List.getElem?_eq_getElem hj] at this
                rw [List.take_length, er, fdL_ok hall, dry_tup]
  · simp only [h, go_sem, Nat.reduceMod, Nat.reduceBNe, Nat.reduceBEq, Nat.reduceEqDiff, Nat.reduceAdd, Int.reduceAdd, Nat.reduceMul, Nat.reduceSub, Int.reduceToNat, Int.reduceLE, Int.reduceLT, Int.reduceEq, Int.reduceNe, reduceCtorEq, Nat.reduceLT, Nat.reduceLeDiff, rdS]
    rfl
end
end Go.Avm

/- Labels: the law of texts. -/
namespace Go.Avm
open Go
theorem find_get {ns : List (List UInt8)} {up : List UInt8} (h1 : (Lat.checkS ns up).2 = 0) {a : Nat} (ha : a < ns.length) : Lat.findS ns up (ns.getD a []) = ((a : Int), 0) := by
  unfold Lat.findS
  rw [if_pos h1, Lat.find_nm (Lat.checkS_val h1).1 ha]
theorem find_back {ns : List (List UInt8)} {up : List UInt8} (h1 : (Lat.checkS ns up).2 = 0) {s : List UInt8} (hf : (Lat.findS ns up s).2 = 0) : ∃ a : Nat, (Lat.findS ns up s).1 = a ∧ a < ns.length ∧ ns.getD a [] = s := by
  unfold Lat.findS at hf ⊢
  rw [if_pos h1] at hf ⊢
  cases hq : Lat.findO ns s with
  | none => rw [hq] at hf; simp at hf
  | some a =>
    obtain ⟨q1, q2, _⟩ := Lat.ff_eq_some.1 hq
    exact ⟨a, rfl, q1, by simpa using q2⟩
theorem nmL_nm {ns : List (List UInt8)} {up : List UInt8} (h1 : (Lat.checkS ns up).2 = 0) {k : List Nat} (hk : ∀ x ∈ k, x < ns.length) : ∀ s ∈ nmL ns k, Lat.isNm s = true := fun s hs => by
  obtain ⟨a, ha, rfl⟩ := List.mem_map.1 hs
  exact Lat.names_nm (Lat.checkS_val h1).1 a (hk a ha)
theorem no_empty {L : List (List UInt8)} (h : ∀ s ∈ L, s ≠ []) : (Lat.findO L []).isSome = false := by
  cases hq : Lat.findO L [] with
  | none => rfl
  | some a =>
    obtain ⟨q1, q2, _⟩ := Lat.ff_eq_some.1 hq
    have e : L.getD a [] = [] := by simpa using q2
    rw [List.getD_eq_getElem?_getD, List.getElem?_eq_getElem q1] at e
    exact absurd e (h _ (List.getElem_mem _))
theorem rd_sh {ns : List (List UInt8)} {up : List UInt8} {l : List Int} (h : ckE ns up l = 0) : rdS ns up (shS ns up l) = (l, 0) := by
  obtain ⟨h1, h2, h3⟩ := ck_ok h
  obtain ⟨k, rfl, hk⟩ := nl_ex h3
  rw [nl_len] at h2
  by_cases hn : nl k = []
  · rw [shS, if_pos h, if_pos hn, rdS, if_pos h1, if_pos rfl, hn]
  · have hk0 : nmL ns k ≠ [] := fun e => by
      have := congrArg List.length e
      rw [nmL_len] at this
      have hk' : k = [] := List.length_eq_zero_iff.1 this
      rw [hk'] at hn
      exact hn rfl
    have hm := nmL_nm h1 hk
    have hsp : Lat.spk (Lib.join (nmL ns k) [44]) = nmL ns k := Lat.spk_join hk0 fun x hx => (Lat.nm_facts (hm x hx)).2.1
    have h45 : ¬ Lib.join (nmL ns k) [44] = [45] := fun e => by
      rw [e] at hsp
      have : [45] ∈ nmL ns k := by rw [← hsp]; exact List.mem_singleton.2 rfl
      exact (Lat.nm_facts (hm _ this)).2.2 rfl
    have hall : ∀ s ∈ nmL ns k, (Lat.findS ns up s).2 = 0 := fun s hs => by
      obtain ⟨a, ha, rfl⟩ := List.mem_map.1 hs
      rw [find_get h1 (hk a ha)]
    rw [shS, if_pos h, if_neg hn, nl_toNat, rdS, if_pos h1, if_neg h45, hsp, if_neg (by rw [nmL_len]; omega), no_empty fun s hs => (Lat.nm_facts (hm s hs)).1, if_neg Bool.false_ne_true, fdL_ok hall]
    congr 1
    rw [fdA, nmL, List.map_map, nl]
    exact List.map_congr_left fun a ha => by
      simp only [Function.comp_apply]
      rw [find_get h1 (hk a ha)]
theorem fdL_all {ns : List (List UInt8)} {up : List UInt8} : ∀ {L : List (List UInt8)}, (fdL ns up L).2 = 0 → ∀ s ∈ L, (Lat.findS ns up s).2 = 0
  | [], _, s, hs => by cases hs
  | x :: r, h, s, hs => by
    unfold fdL at h
    split at h
    · rename_i h1
      split at h
      · rename_i h2
        rcases List.mem_cons.1 hs with rfl | hs
        · exact h1
        · exact fdL_all h2 s hs
      · rename_i h2
        exact absurd h h2
    · rename_i h1
      exact absurd h h1
theorem sh_rd {ns : List (List UInt8)} {up : List UInt8} {s : List UInt8} (h : (rdS ns up s).2 = 0) : ckE ns up (rdS ns up s).1 = 0 ∧ shS ns up (rdS ns up s).1 = s := by
  unfold rdS at h ⊢
  by_cases h1 : (Lat.checkS ns up).2 = 0
  · rw [if_pos h1] at h ⊢
    by_cases h45 : s = [45]
    · rw [if_pos h45]
      have hc : ckE ns up [] = 0 := ckE_0 h1 (s := []) (by simp) (by simp)
      exact ⟨hc, by rw [shS, if_pos hc, if_pos rfl, h45]⟩
    · rw [if_neg h45] at h ⊢
      by_cases h64 : 64 < (Lat.spk s).length
      · rw [if_pos h64] at h
        exact absurd h (by decide)
      · rw [if_neg h64] at h ⊢
        cases he : (Lat.findO (Lat.spk s) []).isSome with
        | true =>
          rw [he, if_pos rfl] at h
          exact absurd h (by decide)
        | false =>
          rw [he, if_neg Bool.false_ne_true] at h
          rw [if_neg Bool.false_ne_true]
          have hall := fdL_all h
          rw [fdL_ok hall]
          let k : List Nat := (Lat.spk s).map fun x => (Lat.findS ns up x).1.toNat
          have ek : fdA ns up (Lat.spk s) = nl k := by
            simp only [fdA, k, nl, List.map_map]
            refine List.map_congr_left fun x hx => ?_
            obtain ⟨a, ea, _, _⟩ := find_back h1 (hall x hx)
            simp only [Function.comp_apply, ea, Int.toNat_natCast]
          have hk : ∀ x ∈ k, x < ns.length := fun x hx => by
            obtain ⟨y, hy, rfl⟩ := List.mem_map.1 hx
            obtain ⟨a, ea, ha, _⟩ := find_back h1 (hall y hy)
            rw [ea, Int.toNat_natCast]
            exact ha
          have hkl : k.length = (Lat.spk s).length := by simp [k]
          have hnm : nmL ns k = Lat.spk s := by
            simp only [nmL, k, List.map_map]
            refine (List.map_congr_left fun x hx => ?_).trans (List.map_id _)
            obtain ⟨a, ea, _, eb⟩ := find_back h1 (hall x hx)
            simp only [Function.comp_apply, ea, Int.toNat_natCast, eb, id]
          have hc : ckE ns up (nl k) = 0 := ckE_0 h1 (by omega) hk
          have hne : ¬ nl k = [] := fun e => by
            have := congrArg List.length e
            rw [nl_len, hkl] at this
            exact Lat.spk_ne s (List.length_eq_zero_iff.1 this)
          simp only [ek]
          exact ⟨hc, by rw [shS, if_pos hc, if_neg hne, nl_toNat, hnm, Lat.join_spk]⟩
  · rw [if_neg h1] at h
    exact absurd h h1
end Go.Avm
