/- Contracts of the functions that the statements reach. -/
import Derived.Test.YtpdhdilhlkpiaaaDoorT7
import Derived.Test.YtpdhdilhlkpiaaaDoorM9
import Derived.Test.YtpdhdilhlkpiaaaDoorR1
import Derived.Lib.IndexAny
set_option linter.unusedSectionVars false
set_option linter.unusedSimpArgs false
set_option linter.unusedVariables false

namespace Go.Avm
open Go
theorem encode_enc {r : Int} (h : valid r = true) : (Utf8.encode r).data.toList = enc r := by
  have hr := valid_rng h
  have hv := (valid_iff r).1 h
  have hu : Utf8.valid r = true := by simp [Utf8.valid]; omega
  rw [enc_eq h]
  simp only [Utf8.encode, hu, if_true, encI]
  have hb : ∀ x : Int, 0 ≤ x → byteI x = UInt8.ofNat x.toNat := fun x _ => rfl
  by_cases c1 : r < 128
  · rw [if_pos (by omega), if_pos c1]; rfl
  rw [if_neg (by omega), if_neg c1]
  by_cases c2 : r < 2048
  · rw [if_pos (by omega), if_pos c2]
    simp only [List.map_cons, List.map_nil, byteI, Array.toList]
    rw [show (192 + r / 64).toNat = 0xC0 + r.toNat / 64 by omega, show (128 + r % 64).toNat = 0x80 + r.toNat % 64 by omega]
  rw [if_neg (by omega), if_neg c2]
  by_cases c3 : r < 65536
  · rw [if_pos (by omega), if_pos c3]
    simp only [List.map_cons, List.map_nil, byteI, Array.toList]
    rw [show (224 + r / 4096).toNat = 0xE0 + r.toNat / 4096 by omega, show (128 + r / 64 % 64).toNat = 0x80 + r.toNat / 64 % 64 by omega, show (128 + r % 64).toNat = 0x80 + r.toNat % 64 by omega]
  rw [if_neg (by omega), if_neg c3]
  simp only [List.map_cons, List.map_nil, byteI, Array.toList]
  rw [show (240 + r / 262144).toNat = 0xF0 + r.toNat / 262144 by omega, show (128 + r / 4096 % 64).toNat = 0x80 + r.toNat / 4096 % 64 by omega, show (128 + r / 64 % 64).toNat = 0x80 + r.toNat / 64 % 64 by omega, show (128 + r % 64).toNat = 0x80 + r.toNat % 64 by omega]
def ixB (s : List UInt8) (c : UInt8) : Int := Lib.indexByte s c
set_option maxRecDepth 4000
section
variable {X : Cx} (hX : X.P = Go.Proofs.Tryd.prog) (hs : Std X)
include hX
theorem body56 : HasBody X 56 := by rw [HasBody, hX]; exact ⟨_, Go.Proofs.Tryd.func56, by decide, rfl⟩
theorem body53 : HasBody X 53 := by rw [HasBody, hX]; exact ⟨_, Go.Proofs.Tryd.func53, by decide, rfl⟩
theorem ev_indexByte (s : List UInt8) (c : UInt8) : Ev X 56 [.str s, .int .u8 (c.toNat : Int)] (.int .i64 (ixB s c)) := by
  refine ev_of_calls (body56 hX) fun g w vs hr => ?_
  simp only [RelL, Rel] at hr
  obtain ⟨_, _, rfl, ⟨b, rfl, hb⟩, ⟨_, _, rfl, rfl, rfl⟩⟩ := hr
  rw [hX]
  refine (Go.Proofs.Tryd.strings_IndexByte b (c.toNat : Int) w).mono fun e w' ⟨h1, h2⟩ => ⟨_, h1, fun g => ?_, .inl h2⟩
  simp only [Rel]
  rw [hb]
  simp [ixB]
theorem ev_indexRune_err (s : List UInt8) (ha : ∀ b ∈ s, b.toNat < 128) : Ev X 53 [.str s, .int .i32 65533] (.int .i64 (-1)) := by
  refine ev_of_calls (body53 hX) fun g w vs hr => ?_
  simp only [RelL, Rel] at hr
  obtain ⟨_, _, rfl, ⟨b, rfl, hb⟩, ⟨_, _, rfl, rfl, rfl⟩⟩ := hr
  rw [hX]
  refine (Go.Proofs.Tryd.strings_IndexRune_err b w fun j x hx => ha x (by rw [hb] at hx; exact List.mem_of_getElem? hx)).mono fun e w' ⟨h1, p, h2⟩ => ⟨_, h1, fun g => ?_, .inr ⟨_, h2⟩⟩
  simp only [Rel]
include hs
theorem ev_indexRune (s : List UInt8) (ha : ∀ b ∈ s, b.toNat < 128) (h2 : s.length ≤ 2) (r : Int) (hv : valid r = true) : Ev X 53 [.str s, .int .i32 r] (.int .i64 (if r < 128 then ixB s (byteI r) else -1)) := by
  have hr := valid_rng hv
  by_cases he : r = 65533
  · subst he
    exact ev_indexRune_err hX s ha
  refine ev_of_wpc hs (A53_ok hX) 0 ?_
  simp only [A53, go_sem, Nat.reduceBEq, Nat.reduceEqDiff, Nat.reduceAdd, Int.reduceAdd, Nat.reduceMul, Nat.reduceSub, Int.reduceToNat, Int.reduceLE, Int.reduceLT, Int.reduceEq, Int.reduceNe, reduceCtorEq, Nat.reduceLT, Nat.reduceLeDiff, he]
  refine ⟨fun c1 => ⟨fun c2 => ?_, fun c2 => ?_⟩, fun c1 => by omega⟩
  · have e : AV.int .u8 (IntKind.u8.wrap r) = .int .u8 ((byteI r).toNat : Int) := by rw [byteI_toNat (by omega), wu8 (by omega)]
    rw [e]
    refine call_ev (ev_indexByte hX s (byteI r)) ?_
    simp only [go_sem, Nat.reduceBEq, Nat.reduceEqDiff, Nat.reduceAdd, Int.reduceAdd, Nat.reduceMul, Nat.reduceSub, Int.reduceToNat, Int.reduceLE, Int.reduceLT, Int.reduceEq, Int.reduceNe, reduceCtorEq, Nat.reduceLT, Nat.reduceLeDiff, c2, if_true]
  · refine call_ev (ev_valid hX hs r) ?_
    simp only [go_sem, Nat.reduceBEq, Nat.reduceEqDiff, Nat.reduceAdd, Int.reduceAdd, Nat.reduceMul, Nat.reduceSub, Int.reduceToNat, Int.reduceLE, Int.reduceLT, Int.reduceEq, Int.reduceNe, reduceCtorEq, Nat.reduceLT, Nat.reduceLeDiff, hv, c2]
    rw [encode_enc hv]
    have hlen := enc_len hv
    rw [if_neg c2] at hlen
    have hl4 := enc_len_pos hv
    have hl2 : 2 ≤ (enc r).length := by rw [hlen]; split <;> (try split) <;> omega
    rw [wi64 (by omega)]
    refine w_loop' hs.hm (ι := Nat) (fun k => k = 0) (fun _ => [(0, .str s), (7, .str (enc r)), (8, .int .i64 ((enc r).length - 1)), (9, .int .i64 ((enc r).length - 1)), (10, .int .i64 0)]) (fun _ => []) (fun k => 1 - k) 0 ?_ fun k hk => ?_
    · simp only [go_sem, Nat.reduceBEq, Nat.reduceEqDiff, Nat.reduceAdd, Int.reduceAdd, Nat.reduceMul, Nat.reduceSub, Int.reduceToNat, Int.reduceLE, Int.reduceLT, Int.reduceEq, Int.reduceNe, reduceCtorEq, Nat.reduceLT, Nat.reduceLeDiff]
    · subst hk
      by_cases hq : (enc r).length = 2 ∧ s.length = 2
      · have hc := enc_rest hv 1 (by omega) (by omega)
        have hc : 128 ≤ (((enc r).getD 1 0).toNat : Int) := by
          have := hc; simp only [conB, decide_eq_true_eq] at this; exact this.1
        have hs1 : (s.getD 1 0).toNat < 128 := ha _ (by simp [List.getD, hq.2, List.getElem?_eq_getElem (show 1 < s.length by omega)])
        have hne : ¬ (((s.getD 1 0).toNat : Nat) : Int) = (((enc r).getD 1 0).toNat : Nat) := by omega
        have w2 : IntKind.i64.wrap 2 = 2 := by decide
        have i2 : ((2 : Nat) : Int) - 1 = 1 := by decide
        have hd : (List.take 2 s).drop 2 = [] := List.drop_eq_nil_of_le (by rw [List.length_take]; omega)
        simp only [A53L1, go_sem, Nat.reduceBEq, Nat.reduceEqDiff, Nat.reduceAdd, Int.reduceAdd, Nat.reduceMul, Nat.reduceSub, Int.reduceToNat, Int.reduceLE, Int.reduceLT, Int.reduceEq, Int.reduceNe, reduceCtorEq, Nat.reduceLT, Nat.reduceLeDiff, hq.1, hq.2, Int.reduceToNat, Int.reducePow, Int.fdiv_eq_ediv_of_nonneg, Int.reduceLE, Int.reduceLT, Int.reduceEq, Nat.reducePow, Int.reduceMul, Int.reduceSub, hne, w2, i2, hd]
        refine callq_ev (ev_indexByte hX [] _) ?_
        simp only [go_sem, Nat.reduceBEq, Nat.reduceEqDiff, Nat.reduceAdd, Int.reduceAdd, Nat.reduceMul, Nat.reduceSub, Int.reduceToNat, Int.reduceLE, Int.reduceLT, Int.reduceEq, Int.reduceNe, reduceCtorEq, Nat.reduceLT, Nat.reduceLeDiff, ixB, Lib.indexByte]

      · have hcc : ¬ ((enc r).length : Int) - 1 < s.length := by omega
        simp only [A53L1, go_sem, Nat.reduceBEq, Nat.reduceEqDiff, Nat.reduceAdd, Int.reduceAdd, Nat.reduceMul, Nat.reduceSub, Int.reduceToNat, Int.reduceLE, Int.reduceLT, Int.reduceEq, Int.reduceNe, reduceCtorEq, Nat.reduceLT, Nat.reduceLeDiff, hcc]
end
def hasR (s : List UInt8) (r : Int) : Bool := s.any fun b => decide ((b.toNat : Int) = r)
theorem has_ix (s : List UInt8) (ha : ∀ b ∈ s, b.toNat < 128) (r : Int) (h0 : 0 ≤ r) : decide (0 ≤ (if r < 128 then ixB s (byteI r) else -1)) = hasR s r := by
  by_cases h : r < 128
  · rw [if_pos h]
    have : s.contains (byteI r) = decide (0 ≤ ixB s (byteI r)) := Lib.contains_iff_indexByte s (byteI r)
    rw [← this, Bool.eq_iff_iff]
    simp only [hasR, List.contains_iff_mem, List.any_eq_true, decide_eq_true_eq]
    constructor
    · intro hm
      exact ⟨_, hm, byteI_toNat (by omega)⟩
    · rintro ⟨b, hb, rfl⟩
      rw [byteI_of]; exact hb
  · rw [if_neg h]
    have : hasR s r = false := by
      simp only [hasR, List.any_eq_false, decide_eq_true_eq]
      intro b hb he
      have := ha b hb; omega
    rw [this]; rfl
def clsS : List (List UInt8) := [[], [32], [10], [40, 91], [41, 93], [34], [], [45], [], [60, 61]]
def classI (r : Int) : Int :=
  if valid r then (if 48 ≤ r ∧ r ≤ 57 then 6 else if 97 ≤ r ∧ r ≤ 122 then 8 else if r = 32 then 1 else if r = 10 then 2 else if r = 40 ∨ r = 91 then 3 else if r = 41 ∨ r = 93 then 4 else if r = 34 then 5 else if r = 45 then 7 else if r = 60 ∨ r = 61 then 9 else 10) else 0
theorem clsS_ok (c : Nat) : (∀ b ∈ clsS.getD c [], b.toNat < 128) ∧ (clsS.getD c []).length ≤ 2 := by
  rcases Nat.lt_or_ge c 10 with h | h
  · have : ∀ c : Fin 10, (∀ b ∈ clsS.getD c.val [], b.toNat < 128) ∧ (clsS.getD c.val []).length ≤ 2 := by decide
    exact this ⟨c, h⟩
  · have : clsS.getD c [] = [] := by simp [List.getD, List.getElem?_eq_none (l := clsS) (i := c) (by simpa [clsS] using h)]
    rw [this]; simp
theorem cls_hit (r : Int) (hv : valid r = true) (h1 : ¬ (48 ≤ r ∧ r ≤ 57)) (h2 : ¬ (97 ≤ r ∧ r ≤ 122)) (c : Nat) (hc : c < 10) (h : hasR (clsS.getD c []) r = true) : classI r = c := by
  simp only [classI, hv, if_true]
  rw [if_neg h1, if_neg h2]
  rcases (by omega : c = 0 ∨ c = 1 ∨ c = 2 ∨ c = 3 ∨ c = 4 ∨ c = 5 ∨ c = 6 ∨ c = 7 ∨ c = 8 ∨ c = 9) with rfl | rfl | rfl | rfl | rfl | rfl | rfl | rfl | rfl | rfl <;> simp [hasR, clsS] at h
  · subst h; rfl
  · subst h; rfl
  · rcases h with h | h <;> subst h <;> rfl
  · rcases h with h | h <;> subst h <;> rfl
  · subst h; rfl
  · subst h; rfl
  · rcases h with h | h <;> subst h <;> rfl
theorem cls_miss (r : Int) (hv : valid r = true) (h1 : ¬ (48 ≤ r ∧ r ≤ 57)) (h2 : ¬ (97 ≤ r ∧ r ≤ 122)) (h : ∀ j, j < 10 → hasR (clsS.getD j []) r = false) : classI r = 10 := by
  have a1 := h 1 (by omega); have a2 := h 2 (by omega); have a3 := h 3 (by omega); have a4 := h 4 (by omega); have a5 := h 5 (by omega); have a7 := h 7 (by omega); have a9 := h 9 (by omega)
  simp [hasR, clsS] at a1 a2 a3 a4 a5 a7 a9
  simp only [classI, hv, if_true]
  grind
theorem cls_at (c : Nat) (h : c < 10) : List.getD [AV.str [], .str [32], .str [10], .str [40, 91], .str [41, 93], .str [34], .str [], .str [45], .str [], .str [60, 61]] (c * 1) .undef = .str (clsS.getD c []) := by
  rcases (by omega : c = 0 ∨ c = 1 ∨ c = 2 ∨ c = 3 ∨ c = 4 ∨ c = 5 ∨ c = 6 ∨ c = 7 ∨ c = 8 ∨ c = 9) with rfl | rfl | rfl | rfl | rfl | rfl | rfl | rfl | rfl | rfl <;> rfl
section
variable {X : Cx} (hX : X.P = Go.Proofs.Tryd.prog) (hs : Std X)
include hX hs
theorem ev_containsRune (s : List UInt8) (ha : ∀ b ∈ s, b.toNat < 128) (h2 : s.length ≤ 2) (r : Int) (hv : valid r = true) : Ev X 43 [.str s, .int .i32 r] (.bool (hasR s r)) := by
  refine ev_of_wpc hs (A43_ok hX) 0 ?_
  simp only [A43, go_sem, Nat.reduceBEq, Nat.reduceEqDiff, Nat.reduceAdd, Int.reduceAdd, Nat.reduceMul, Nat.reduceSub, Int.reduceToNat, Int.reduceLE, Int.reduceLT, Int.reduceEq, Int.reduceNe, reduceCtorEq, Nat.reduceLT, Nat.reduceLeDiff]
  refine call_ev (ev_indexRune hX hs s ha h2 r hv) ?_
  simp only [go_sem, Nat.reduceBEq, Nat.reduceEqDiff, Nat.reduceAdd, Int.reduceAdd, Nat.reduceMul, Nat.reduceSub, Int.reduceToNat, Int.reduceLE, Int.reduceLT, Int.reduceEq, Int.reduceNe, reduceCtorEq, Nat.reduceLT, Nat.reduceLeDiff]
  rw [← has_ix s ha r (valid_rng hv).1]
theorem ev_classes : Ev X 42 [] (.agg [.str [], .str [32], .str [10], .str [40, 91], .str [41, 93], .str [34], .str [], .str [45], .str [], .str [60, 61]]) := by
  refine ev_of_wpc hs (A42_ok hX) 2 ?_
  simp only [A42, go_sem, Nat.reduceBEq, Nat.reduceEqDiff, Nat.reduceAdd, Int.reduceAdd, Nat.reduceMul, Nat.reduceSub, Int.reduceToNat, Int.reduceLE, Int.reduceLT, Int.reduceEq, Int.reduceNe, reduceCtorEq, Nat.reduceLT, Nat.reduceLeDiff]
theorem ev_Class (r : Int) (hr : -9223372036854775808 ≤ r ∧ r < 9223372036854775808) : Ev X 16 [.int .i64 r] (.tuple [.int .i64 (classI r), .int .i64 (fault (valid r))]) := by
  refine ev_of_wpc hs (A16_ok hX) 2 ?_
  simp only [A16, go_sem, Nat.reduceBEq, Nat.reduceEqDiff, Nat.reduceAdd, Int.reduceAdd, Nat.reduceMul, Nat.reduceSub, Int.reduceToNat, Int.reduceLE, Int.reduceLT, Int.reduceEq, Int.reduceNe, reduceCtorEq, Nat.reduceLT, Nat.reduceLeDiff]
  refine call_ev (ev_is hX hs r hr) ?_
  cases hv : valid r with
  | false =>
    simp only [go_sem, Nat.reduceBEq, Nat.reduceEqDiff, Nat.reduceAdd, Int.reduceAdd, Nat.reduceMul, Nat.reduceSub, Int.reduceToNat, Int.reduceLE, Int.reduceLT, Int.reduceEq, Int.reduceNe, reduceCtorEq, Nat.reduceLT, Nat.reduceLeDiff, classI, hv, fault]
  | true =>
    have hrr := valid_rng hv
    rcases (by omega : (48 ≤ r ∧ r ≤ 57) ∨ (97 ≤ r ∧ r ≤ 122) ∨ (¬ 48 ≤ r ∧ ¬ 97 ≤ r) ∨ (48 ≤ r ∧ ¬ r ≤ 57 ∧ ¬ 97 ≤ r) ∨ (48 ≤ r ∧ ¬ r ≤ 57 ∧ 97 ≤ r ∧ ¬ r ≤ 122)) with d | d | d | d | d
    · simp only [go_sem, Nat.reduceBEq, Nat.reduceEqDiff, Nat.reduceAdd, Int.reduceAdd, Nat.reduceMul, Nat.reduceSub, Int.reduceToNat, Int.reduceLE, Int.reduceLT, Int.reduceEq, Int.reduceNe, reduceCtorEq, Nat.reduceLT, Nat.reduceLeDiff, fault, d.1, d.2]
      have : classI r = 6 := by simp only [classI, hv, if_true]; rw [if_pos d]
      rw [this]
    · simp only [go_sem, Nat.reduceBEq, Nat.reduceEqDiff, Nat.reduceAdd, Int.reduceAdd, Nat.reduceMul, Nat.reduceSub, Int.reduceToNat, Int.reduceLE, Int.reduceLT, Int.reduceEq, Int.reduceNe, reduceCtorEq, Nat.reduceLT, Nat.reduceLeDiff, fault, d.1, d.2, (show (48 : Int) ≤ r by omega), (show ¬ r ≤ 57 by omega)]
      have : classI r = 8 := by simp only [classI, hv, if_true]; rw [if_neg (by omega), if_pos d]
      rw [this]
    · simp only [go_sem, Nat.reduceBEq, Nat.reduceEqDiff, Nat.reduceAdd, Int.reduceAdd, Nat.reduceMul, Nat.reduceSub, Int.reduceToNat, Int.reduceLE, Int.reduceLT, Int.reduceEq, Int.reduceNe, reduceCtorEq, Nat.reduceLT, Nat.reduceLeDiff, fault, d.1, d.2]
      refine call_ev (ev_classes hX hs) ?_
      simp only [go_sem, Nat.reduceBEq, Nat.reduceEqDiff, Nat.reduceAdd, Int.reduceAdd, Nat.reduceMul, Nat.reduceSub, Int.reduceToNat, Int.reduceLE, Int.reduceLT, Int.reduceEq, Int.reduceNe, reduceCtorEq, Nat.reduceLT, Nat.reduceLeDiff]
      refine w_loop' hs.hm (ι := Nat) (fun c => c ≤ 10 ∧ ∀ j, j < c → hasR (clsS.getD j []) r = false) (fun c => [(0, .int .i64 r), (24, .agg [.str [], .str [32], .str [10], .str [40, 91], .str [41, 93], .str [34], .str [], .str [45], .str [], .str [60, 61]]), (25, .int .i64 c)]) (fun _ => []) (fun c => 10 - c) 0 ?_ fun c hc => ?_
      · simp only [go_sem, Nat.reduceBEq, Nat.reduceEqDiff, Nat.reduceAdd, Int.reduceAdd, Nat.reduceMul, Nat.reduceSub, Int.reduceToNat, Int.reduceLE, Int.reduceLT, Int.reduceEq, Int.reduceNe, reduceCtorEq, Nat.reduceLT, Nat.reduceLeDiff]
        exact fun j hj => by omega
      · obtain ⟨c1, c2⟩ := hc
        simp only [A16L0, go_sem, Nat.reduceBEq, Nat.reduceEqDiff, Nat.reduceAdd, Int.reduceAdd, Nat.reduceMul, Nat.reduceSub, Int.reduceToNat, Int.reduceLE, Int.reduceLT, Int.reduceEq, Int.reduceNe, reduceCtorEq, Nat.reduceLT, Nat.reduceLeDiff]
        refine ⟨fun h => ⟨⟨by omega, by omega⟩, ?_⟩, fun h => ?_⟩
        · have hcc : c < 10 := by omega
          have hok := clsS_ok c
          simp only [cls_at c hcc, go_sem, Nat.reduceBEq, Nat.reduceEqDiff, Nat.reduceAdd, Int.reduceAdd, Nat.reduceMul, Nat.reduceSub, Int.reduceToNat, Int.reduceLE, Int.reduceLT, Int.reduceEq, Int.reduceNe, reduceCtorEq, Nat.reduceLT, Nat.reduceLeDiff]
          rw [wi32 (by omega)]
          refine call_ev (ev_containsRune hX hs _ hok.1 hok.2 r hv) ?_
          cases hh : hasR (clsS.getD c []) r with
          | true =>
            simp only [go_sem, Nat.reduceBEq, Nat.reduceEqDiff, Nat.reduceAdd, Int.reduceAdd, Nat.reduceMul, Nat.reduceSub, Int.reduceToNat, Int.reduceLE, Int.reduceLT, Int.reduceEq, Int.reduceNe, reduceCtorEq, Nat.reduceLT, Nat.reduceLeDiff]
            rw [cls_hit r hv (by omega) (by omega) c hcc hh]
          | false =>
            simp only [go_sem, Nat.reduceBEq, Nat.reduceEqDiff, Nat.reduceAdd, Int.reduceAdd, Nat.reduceMul, Nat.reduceSub, Int.reduceToNat, Int.reduceLE, Int.reduceLT, Int.reduceEq, Int.reduceNe, reduceCtorEq, Nat.reduceLT, Nat.reduceLeDiff]
            refine ⟨c + 1, by omega, ⟨by omega, fun j hj => ?_⟩, by rw [wi64 (by omega)]; rfl⟩
            rcases (by omega : j = c ∨ j < c) with rfl | h'
            · exact hh
            · exact c2 j h'
        · rw [cls_miss r hv (by omega) (by omega) fun j hj => c2 j (by omega)]
    · simp only [go_sem, Nat.reduceBEq, Nat.reduceEqDiff, Nat.reduceAdd, Int.reduceAdd, Nat.reduceMul, Nat.reduceSub, Int.reduceToNat, Int.reduceLE, Int.reduceLT, Int.reduceEq, Int.reduceNe, reduceCtorEq, Nat.reduceLT, Nat.reduceLeDiff, fault, d.1, d.2.1, d.2.2]
      refine call_ev (ev_classes hX hs) ?_
      simp only [go_sem, Nat.reduceBEq, Nat.reduceEqDiff, Nat.reduceAdd, Int.reduceAdd, Nat.reduceMul, Nat.reduceSub, Int.reduceToNat, Int.reduceLE, Int.reduceLT, Int.reduceEq, Int.reduceNe, reduceCtorEq, Nat.reduceLT, Nat.reduceLeDiff]
      refine w_loop' hs.hm (ι := Nat) (fun c => c ≤ 10 ∧ ∀ j, j < c → hasR (clsS.getD j []) r = false) (fun c => [(0, .int .i64 r), (24, .agg [.str [], .str [32], .str [10], .str [40, 91], .str [41, 93], .str [34], .str [], .str [45], .str [], .str [60, 61]]), (25, .int .i64 c)]) (fun _ => []) (fun c => 10 - c) 0 ?_ fun c hc => ?_
      · simp only [go_sem, Nat.reduceBEq, Nat.reduceEqDiff, Nat.reduceAdd, Int.reduceAdd, Nat.reduceMul, Nat.reduceSub, Int.reduceToNat, Int.reduceLE, Int.reduceLT, Int.reduceEq, Int.reduceNe, reduceCtorEq, Nat.reduceLT, Nat.reduceLeDiff]
        exact fun j hj => by omega
      · obtain ⟨c1, c2⟩ := hc
        simp only [A16L0, go_sem, Nat.reduceBEq, Nat.reduceEqDiff, Nat.reduceAdd, Int.reduceAdd, Nat.reduceMul, Nat.reduceSub, Int.reduceToNat, Int.reduceLE, Int.reduceLT, Int.reduceEq, Int.reduceNe, reduceCtorEq, Nat.reduceLT, Nat.reduceLeDiff]
        refine ⟨fun h => ⟨⟨by omega, by omega⟩, ?_⟩, fun h => ?_⟩
        · have hcc : c < 10 := by omega
          have hok := clsS_ok c
          simp only [cls_at c hcc, go_sem, Nat.reduceBEq, Nat.reduceEqDiff, Nat.reduceAdd, Int.reduceAdd, Nat.reduceMul, Nat.reduceSub, Int.reduceToNat, Int.reduceLE, Int.reduceLT, Int.reduceEq, Int.reduceNe, reduceCtorEq, Nat.reduceLT, Nat.reduceLeDiff]
          rw [wi32 (by omega)]
          refine call_ev (ev_containsRune hX hs _ hok.1 hok.2 r hv) ?_
          cases hh : hasR (clsS.getD c []) r with
          | true =>
            simp only [go_sem, Nat.reduceBEq, Nat.reduceEqDiff, Nat.reduceAdd, Int.reduceAdd, Nat.reduceMul, Nat.reduceSub, Int.reduceToNat, Int.reduceLE, Int.reduceLT, Int.reduceEq, Int.reduceNe, reduceCtorEq, Nat.reduceLT, Nat.reduceLeDiff]
            rw [cls_hit r hv (by omega) (by omega) c hcc hh]
          | false =>
            simp only [go_sem, Nat.reduceBEq, Nat.reduceEqDiff, Nat.reduceAdd, Int.reduceAdd, Nat.reduceMul, Nat.reduceSub, Int.reduceToNat, Int.reduceLE, Int.reduceLT, Int.reduceEq, Int.reduceNe, reduceCtorEq, Nat.reduceLT, Nat.reduceLeDiff]
            refine ⟨c + 1, by omega, ⟨by omega, fun j hj => ?_⟩, by rw [wi64 (by omega)]; rfl⟩
            rcases (by omega : j = c ∨ j < c) with rfl | h'
            · exact hh
            · exact c2 j h'
        · rw [cls_miss r hv (by omega) (by omega) fun j hj => c2 j (by omega)]
    · simp only [go_sem, Nat.reduceBEq, Nat.reduceEqDiff, Nat.reduceAdd, Int.reduceAdd, Nat.reduceMul, Nat.reduceSub, Int.reduceToNat, Int.reduceLE, Int.reduceLT, Int.reduceEq, Int.reduceNe, reduceCtorEq, Nat.reduceLT, Nat.reduceLeDiff, fault, d.1, d.2.1, d.2.2.1, d.2.2.2]
      refine call_ev (ev_classes hX hs) ?_
      simp only [go_sem, Nat.reduceBEq, Nat.reduceEqDiff, Nat.reduceAdd, Int.reduceAdd, Nat.reduceMul, Nat.reduceSub, Int.reduceToNat, Int.reduceLE, Int.reduceLT, Int.reduceEq, Int.reduceNe, reduceCtorEq, Nat.reduceLT, Nat.reduceLeDiff]
      refine w_loop' hs.hm (ι := Nat) (fun c => c ≤ 10 ∧ ∀ j, j < c → hasR (clsS.getD j []) r = false) (fun c => [(0, .int .i64 r), (24, .agg [.str [], .str [32], .str [10], .str [40, 91], .str [41, 93], .str [34], .str [], .str [45], .str [], .str [60, 61]]), (25, .int .i64 c)]) (fun _ => []) (fun c => 10 - c) 0 ?_ fun c hc => ?_
      · simp only [go_sem, Nat.reduceBEq, Nat.reduceEqDiff, Nat.reduceAdd, Int.reduceAdd, Nat.reduceMul, Nat.reduceSub, Int.reduceToNat, Int.reduceLE, Int.reduceLT, Int.reduceEq, Int.reduceNe, reduceCtorEq, Nat.reduceLT, Nat.reduceLeDiff]
        exact fun j hj => by omega
      · obtain ⟨c1, c2⟩ := hc
        simp only [A16L0, go_sem, Nat.reduceBEq, Nat.reduceEqDiff, Nat.reduceAdd, Int.reduceAdd, Nat.reduceMul, Nat.reduceSub, Int.reduceToNat, Int.reduceLE, Int.reduceLT, Int.reduceEq, Int.reduceNe, reduceCtorEq, Nat.reduceLT, Nat.reduceLeDiff]
        refine ⟨fun h => ⟨⟨by omega, by omega⟩, ?_⟩, fun h => ?_⟩
        · have hcc : c < 10 := by omega
          have hok := clsS_ok c
          simp only [cls_at c hcc, go_sem, Nat.reduceBEq, Nat.reduceEqDiff, Nat.reduceAdd, Int.reduceAdd, Nat.reduceMul, Nat.reduceSub, Int.reduceToNat, Int.reduceLE, Int.reduceLT, Int.reduceEq, Int.reduceNe, reduceCtorEq, Nat.reduceLT, Nat.reduceLeDiff]
          rw [wi32 (by omega)]
          refine call_ev (ev_containsRune hX hs _ hok.1 hok.2 r hv) ?_
          cases hh : hasR (clsS.getD c []) r with
          | true =>
            simp only [go_sem, Nat.reduceBEq, Nat.reduceEqDiff, Nat.reduceAdd, Int.reduceAdd, Nat.reduceMul, Nat.reduceSub, Int.reduceToNat, Int.reduceLE, Int.reduceLT, Int.reduceEq, Int.reduceNe, reduceCtorEq, Nat.reduceLT, Nat.reduceLeDiff]
            rw [cls_hit r hv (by omega) (by omega) c hcc hh]
          | false =>
            simp only [go_sem, Nat.reduceBEq, Nat.reduceEqDiff, Nat.reduceAdd, Int.reduceAdd, Nat.reduceMul, Nat.reduceSub, Int.reduceToNat, Int.reduceLE, Int.reduceLT, Int.reduceEq, Int.reduceNe, reduceCtorEq, Nat.reduceLT, Nat.reduceLeDiff]
            refine ⟨c + 1, by omega, ⟨by omega, fun j hj => ?_⟩, by rw [wi64 (by omega)]; rfl⟩
            rcases (by omega : j = c ∨ j < c) with rfl | h'
            · exact hh
            · exact c2 j h'
        · rw [cls_miss r hv (by omega) (by omega) fun j hj => c2 j (by omega)]
theorem ev_refClass (r : Int) : Ev X 17 [.int .i64 r] (.tuple [.int .i64 (classI r), .int .i64 (fault (valid r))]) := by
  refine ev_of_wpc hs (A17_ok hX) 0 ?_
  simp only [A17, go_sem, Nat.reduceBEq, Nat.reduceEqDiff, Nat.reduceAdd, Int.reduceAdd, Nat.reduceMul, Nat.reduceSub, Int.reduceToNat, Int.reduceLE, Int.reduceLT, Int.reduceEq, Int.reduceNe, reduceCtorEq, Nat.reduceLT, Nat.reduceLeDiff]
  refine call_ev (ev_refIs hX hs r) ?_
  cases hv : valid r with
  | false => simp only [go_sem, Nat.reduceBEq, Nat.reduceEqDiff, Nat.reduceAdd, Int.reduceAdd, Nat.reduceMul, Nat.reduceSub, Int.reduceToNat, Int.reduceLE, Int.reduceLT, Int.reduceEq, Int.reduceNe, reduceCtorEq, Nat.reduceLT, Nat.reduceLeDiff, classI, hv, fault]
  | true =>
    have hone : ∀ s : List UInt8, s.length < 9223372036854775807 → Ev X 44 [.int .i64 r, .str s] (.bool (hasR s r)) := fun s hl => ev_one hX hs r s hl
    simp only [go_sem, Nat.reduceBEq, Nat.reduceEqDiff, Nat.reduceAdd, Int.reduceAdd, Nat.reduceMul, Nat.reduceSub, Int.reduceToNat, Int.reduceLE, Int.reduceLT, Int.reduceEq, Int.reduceNe, reduceCtorEq, Nat.reduceLT, Nat.reduceLeDiff, fault]
    have hc : classI r = if 48 ≤ r ∧ r ≤ 57 then 6 else if 97 ≤ r ∧ r ≤ 122 then 8 else if r = 32 then 1 else if r = 10 then 2 else if r = 40 ∨ r = 91 then 3 else if r = 41 ∨ r = 93 then 4 else if r = 34 then 5 else if r = 45 then 7 else if r = 60 ∨ r = 61 then 9 else 10 := by simp only [classI, hv, if_true]
    have h2 : ∀ a b : UInt8, hasR [a, b] r = decide (r = (a.toNat : Int) ∨ r = (b.toNat : Int)) := fun a b => by
      simp only [hasR, List.any_cons, List.any_nil, Bool.or_false]
      rw [Bool.eq_iff_iff]
      simp only [Bool.or_eq_true, decide_eq_true_eq]; omega
    have e40 : hasR [40, 91] r = decide (r = 40 ∨ r = 91) := h2 40 91
    have e41 : hasR [41, 93] r = decide (r = 41 ∨ r = 93) := h2 41 93
    have e60 : hasR [60, 61] r = decide (r = 60 ∨ r = 61) := h2 60 61
    refine ⟨fun c => by rw [hc]; subst c; rfl, fun c1 => ⟨fun c => by rw [hc]; subst c; rfl, fun c2 => ?_⟩⟩
    refine call_ev (hone _ (by decide)) ?_
    by_cases c3 : r = 40 ∨ r = 91
    · rw [e40, decide_eq_true c3]
      simp only [go_sem, Nat.reduceBEq, Nat.reduceEqDiff, Nat.reduceAdd, Int.reduceAdd, Nat.reduceMul, Nat.reduceSub, Int.reduceToNat, Int.reduceLE, Int.reduceLT, Int.reduceEq, Int.reduceNe, reduceCtorEq, Nat.reduceLT, Nat.reduceLeDiff]
      rw [hc]; rcases c3 with c | c <;> subst c <;> rfl
    rw [e40, decide_eq_false c3]
    simp only [go_sem, Nat.reduceBEq, Nat.reduceEqDiff, Nat.reduceAdd, Int.reduceAdd, Nat.reduceMul, Nat.reduceSub, Int.reduceToNat, Int.reduceLE, Int.reduceLT, Int.reduceEq, Int.reduceNe, reduceCtorEq, Nat.reduceLT, Nat.reduceLeDiff]
    refine call_ev (hone _ (by decide)) ?_
    by_cases c4 : r = 41 ∨ r = 93
    · rw [e41, decide_eq_true c4]
      simp only [go_sem, Nat.reduceBEq, Nat.reduceEqDiff, Nat.reduceAdd, Int.reduceAdd, Nat.reduceMul, Nat.reduceSub, Int.reduceToNat, Int.reduceLE, Int.reduceLT, Int.reduceEq, Int.reduceNe, reduceCtorEq, Nat.reduceLT, Nat.reduceLeDiff]
      rw [hc]; rcases c4 with c | c <;> subst c <;> rfl
    rw [e41, decide_eq_false c4]
    simp only [go_sem, Nat.reduceBEq, Nat.reduceEqDiff, Nat.reduceAdd, Int.reduceAdd, Nat.reduceMul, Nat.reduceSub, Int.reduceToNat, Int.reduceLE, Int.reduceLT, Int.reduceEq, Int.reduceNe, reduceCtorEq, Nat.reduceLT, Nat.reduceLeDiff]
    by_cases c5 : r = 34
    · subst c5
      simp only [go_sem, Nat.reduceBEq, Nat.reduceEqDiff, Nat.reduceAdd, Int.reduceAdd, Nat.reduceMul, Nat.reduceSub, Int.reduceToNat, Int.reduceLE, Int.reduceLT, Int.reduceEq, Int.reduceNe, reduceCtorEq, Nat.reduceLT, Nat.reduceLeDiff]
      rw [hc]; rfl
    by_cases c6 : 48 ≤ r ∧ r ≤ 57
    · simp only [go_sem, Nat.reduceBEq, Nat.reduceEqDiff, Nat.reduceAdd, Int.reduceAdd, Nat.reduceMul, Nat.reduceSub, Int.reduceToNat, Int.reduceLE, Int.reduceLT, Int.reduceEq, Int.reduceNe, reduceCtorEq, Nat.reduceLT, Nat.reduceLeDiff, c5, c6.1, c6.2]
      rw [hc, if_pos c6]
    rw [if_neg c6] at hc
    by_cases c7 : r = 45
    · subst c7
      simp only [go_sem, Nat.reduceBEq, Nat.reduceEqDiff, Nat.reduceAdd, Int.reduceAdd, Nat.reduceMul, Nat.reduceSub, Int.reduceToNat, Int.reduceLE, Int.reduceLT, Int.reduceEq, Int.reduceNe, reduceCtorEq, Nat.reduceLT, Nat.reduceLeDiff]
      rw [hc]; rfl
    by_cases c8 : 97 ≤ r ∧ r ≤ 122
    · simp only [go_sem, Nat.reduceBEq, Nat.reduceEqDiff, Nat.reduceAdd, Int.reduceAdd, Nat.reduceMul, Nat.reduceSub, Int.reduceToNat, Int.reduceLE, Int.reduceLT, Int.reduceEq, Int.reduceNe, reduceCtorEq, Nat.reduceLT, Nat.reduceLeDiff, c5, c7, c8.1, c8.2, (show (48 : Int) ≤ r by omega), (show ¬ r ≤ 57 by omega)]
      rw [hc, if_pos c8]
    rw [if_neg c8] at hc
    have hcl : ∀ x : Int, classI r = x → (if r = 60 ∨ r = 61 then 9 else 10) = x := fun x hx => by
      rw [← hx, hc, if_neg c1, if_neg c2, if_neg c3, if_neg c4, if_neg c5, if_neg c7]
    have hcl2 := hcl _ rfl
    rw [← hcl2]
    by_cases c9 : r = 60 ∨ r = 61
    · rw [if_pos c9]
      have e9 : hasR [60, 61] r = true := by rw [e60, decide_eq_true c9]
      rcases (by omega : (48 ≤ r ∧ ¬ r ≤ 57 ∧ 97 ≤ r ∧ ¬ r ≤ 122) ∨ (48 ≤ r ∧ ¬ r ≤ 57 ∧ ¬ 97 ≤ r) ∨ (¬ 48 ≤ r ∧ ¬ 97 ≤ r)) with d | d | d
      · omega
      · simp only [go_sem, Nat.reduceBEq, Nat.reduceEqDiff, Nat.reduceAdd, Int.reduceAdd, Nat.reduceMul, Nat.reduceSub, Int.reduceToNat, Int.reduceLE, Int.reduceLT, Int.reduceEq, Int.reduceNe, reduceCtorEq, Nat.reduceLT, Nat.reduceLeDiff, c5, c7, d.1, d.2.1, d.2.2]
        refine call_ev (hone _ (by decide)) ?_
        rw [e9]
        simp only [go_sem, Nat.reduceBEq, Nat.reduceEqDiff, Nat.reduceAdd, Int.reduceAdd, Nat.reduceMul, Nat.reduceSub, Int.reduceToNat, Int.reduceLE, Int.reduceLT, Int.reduceEq, Int.reduceNe, reduceCtorEq, Nat.reduceLT, Nat.reduceLeDiff]
      · omega
    · rw [if_neg c9]
      have e9 : hasR [60, 61] r = false := by rw [e60, decide_eq_false c9]
      rcases (by omega : (48 ≤ r ∧ ¬ r ≤ 57 ∧ 97 ≤ r ∧ ¬ r ≤ 122) ∨ (48 ≤ r ∧ ¬ r ≤ 57 ∧ ¬ 97 ≤ r) ∨ (¬ 48 ≤ r ∧ ¬ 97 ≤ r)) with d | d | d
      · simp only [go_sem, Nat.reduceBEq, Nat.reduceEqDiff, Nat.reduceAdd, Int.reduceAdd, Nat.reduceMul, Nat.reduceSub, Int.reduceToNat, Int.reduceLE, Int.reduceLT, Int.reduceEq, Int.reduceNe, reduceCtorEq, Nat.reduceLT, Nat.reduceLeDiff, c5, c7, d.1, d.2.1, d.2.2.1, d.2.2.2]
        refine call_ev (hone _ (by decide)) ?_
        rw [e9]
        simp only [go_sem, Nat.reduceBEq, Nat.reduceEqDiff, Nat.reduceAdd, Int.reduceAdd, Nat.reduceMul, Nat.reduceSub, Int.reduceToNat, Int.reduceLE, Int.reduceLT, Int.reduceEq, Int.reduceNe, reduceCtorEq, Nat.reduceLT, Nat.reduceLeDiff]
      · simp only [go_sem, Nat.reduceBEq, Nat.reduceEqDiff, Nat.reduceAdd, Int.reduceAdd, Nat.reduceMul, Nat.reduceSub, Int.reduceToNat, Int.reduceLE, Int.reduceLT, Int.reduceEq, Int.reduceNe, reduceCtorEq, Nat.reduceLT, Nat.reduceLeDiff, c5, c7, d.1, d.2.1, d.2.2]
        refine call_ev (hone _ (by decide)) ?_
        rw [e9]
        simp only [go_sem, Nat.reduceBEq, Nat.reduceEqDiff, Nat.reduceAdd, Int.reduceAdd, Nat.reduceMul, Nat.reduceSub, Int.reduceToNat, Int.reduceLE, Int.reduceLT, Int.reduceEq, Int.reduceNe, reduceCtorEq, Nat.reduceLT, Nat.reduceLeDiff]
      · simp only [go_sem, Nat.reduceBEq, Nat.reduceEqDiff, Nat.reduceAdd, Int.reduceAdd, Nat.reduceMul, Nat.reduceSub, Int.reduceToNat, Int.reduceLE, Int.reduceLT, Int.reduceEq, Int.reduceNe, reduceCtorEq, Nat.reduceLT, Nat.reduceLeDiff, c5, c7, d.1, d.2]
        refine call_ev (hone _ (by decide)) ?_
        rw [e9]
        simp only [go_sem, Nat.reduceBEq, Nat.reduceEqDiff, Nat.reduceAdd, Int.reduceAdd, Nat.reduceMul, Nat.reduceSub, Int.reduceToNat, Int.reduceLE, Int.reduceLT, Int.reduceEq, Int.reduceNe, reduceCtorEq, Nat.reduceLT, Nat.reduceLeDiff]
end
end Go.Avm
