/- Plain bytes, the table of escapes, forms of bytes. -/
import Derived.Test.YtpichdklbnkhfaaGreatDoorZS
import Derived.Test.YtpichdklbnkhfaaGreatDoorN2
set_option linter.unusedSectionVars false
set_option linter.unusedSimpArgs false
set_option linter.unusedVariables false

/- Plain bytes, the table of escapes, forms of bytes. -/
namespace Go.Avm
open Go
theorem plain_i (c : UInt8) : Wo.plainB c = (decide (32 ≤ (c.toNat : Int)) && decide ((c.toNat : Int) ≤ 126) && !decide ((c.toNat : Int) = 34) && !decide ((c.toNat : Int) = 92)) := by
  simp only [Wo.plainB]
  congr 1
  · congr 1
    · congr 1 <;> · rw [Bool.eq_iff_iff, decide_eq_true_eq, decide_eq_true_eq]; omega
    · rw [Bool.eq_iff_iff, Bool.not_eq_true', Bool.not_eq_true', decide_eq_false_iff_not, decide_eq_false_iff_not]; omega
  · rw [Bool.eq_iff_iff, Bool.not_eq_true', Bool.not_eq_true', decide_eq_false_iff_not, decide_eq_false_iff_not]; omega
theorem u8_eq {a b : UInt8} : ((a.toNat : Int) = (b.toNat : Int)) ↔ a = b := ⟨fun h => UInt8.toNat_inj.1 (by omega), fun h => by rw [h]⟩
theorem u8_lit {a b : UInt8} {n : Int} (h : n = (b.toNat : Int)) : ((a.toNat : Int) = n) ↔ a = b := by rw [h]; exact u8_eq
/-- the table of escapes -/
def tabE : List AV := [.int .u8 34, .int .u8 34, .int .u8 92, .int .u8 92, .int .u8 10, .int .u8 110, .int .u8 13, .int .u8 114, .int .u8 9, .int .u8 116]
def eK (i : Nat) : UInt8 := [34, 92, 10, 13, 9].getD i 0
def eL (i : Nat) : UInt8 := [34, 92, 110, 114, 116].getD i 0
theorem tabE_at {i : Nat} (h : i < 5) : (tabE.drop (i * 2)).take 2 = [.int .u8 ((eK i).toNat : Int), .int .u8 ((eL i).toNat : Int)] := by
  match i, h with
  | 0, _ | 1, _ | 2, _ | 3, _ | 4, _ => rfl
theorem letB_tab {i : Nat} (h : i < 5) : Wo.letB (eK i) = eL i ∧ Wo.unl (eL i) = some (eK i) := by
  match i, h with
  | 0, _ | 1, _ | 2, _ | 3, _ | 4, _ => decide
theorem letB_no {c : UInt8} (h : ∀ k, k < 5 → c ≠ eK k) : Wo.letB c = 0 := by
  have h0 : c ≠ 34 := h 0 (by decide)
  have h1 : c ≠ 92 := h 1 (by decide)
  have h2 : c ≠ 10 := h 2 (by decide)
  have h3 : c ≠ 13 := h 3 (by decide)
  have h4 : c ≠ 9 := h 4 (by decide)
  rw [Wo.letB, if_neg h0, if_neg h1, if_neg h2, if_neg h3, if_neg h4]
theorem unl_no {c : UInt8} (h : ∀ k, k < 5 → c ≠ eL k) : Wo.unl c = none := by
  have h0 : c ≠ 34 := h 0 (by decide)
  have h1 : c ≠ 92 := h 1 (by decide)
  have h2 : c ≠ 110 := h 2 (by decide)
  have h3 : c ≠ 114 := h 3 (by decide)
  have h4 : c ≠ 116 := h 4 (by decide)
  rw [Wo.unl, if_neg h0, if_neg h1, if_neg h2, if_neg h3, if_neg h4]
theorem ne_step {f : Nat → UInt8} {c : UInt8} {i : Nat} (h : ∀ k, k < i → c ≠ f k) (h2 : c ≠ f i) : ∀ k, k < i + 1 → c ≠ f k := fun k hk => by
  rcases Nat.lt_or_ge k i with h' | h'
  · exact h k h'
  · rw [show k = i by omega]; exact h2
/-- digits of base 16 -/
def hexs : List UInt8 := [48, 49, 50, 51, 52, 53, 54, 55, 56, 57, 97, 98, 99, 100, 101, 102]
theorem hexs_at {n : Nat} (h : n < 16) : hexs.getD n 0 = Wo.hexd n := by
  have : ∀ n, n < 16 → hexs.getD n 0 = Wo.hexd n := by decide
  exact this n h
theorem hexs_idx (c : UInt8) : Lib.indexByte hexs c = match Wo.hexv c with | some n => (n : Int) | none => -1 := by
  have : ∀ n, n < 256 → Lib.indexByte hexs (UInt8.ofNat n) = match Wo.hexv (UInt8.ofNat n) with | some n => (n : Int) | none => -1 := by decide +kernel
  have := this c.toNat c.toNat_lt
  simpa using this
theorem bs_1 (p : Perm) (a : UInt8) : b2sX (.sl p [.int .u8 (a.toNat : Int)]) = some (true, .str [a], none) := bs_l p [a]
theorem bs_2 (p : Perm) (a b : UInt8) : b2sX (.sl p [.int .u8 (a.toNat : Int), .int .u8 (b.toNat : Int)]) = some (true, .str [a, b], none) := bs_l p [a, b]
def bareC (c : UInt8) : Bool := Wo.plainB c && !decide (c = 32)
theorem bare_no {s : List UInt8} {i : Nat} (hi : i < s.length) (h : bareC (s.getD i 0) = false) : Wo.bareB s = false := by
  rw [Wo.bareB, Bool.and_eq_false_iff]
  right
  rw [List.all_eq_false]
  refine ⟨s[i], List.getElem_mem _, ?_⟩
  rw [List.getD_eq_getElem?_getD, List.getElem?_eq_getElem hi] at h
  simpa [bareC] using h
theorem bare_all {s : List UInt8} (h : ∀ k, k < s.length → bareC (s.getD k 0) = true) : Wo.bareB s = !s.isEmpty := by
  have : (s.all fun c => Wo.plainB c && !decide (c = 32)) = true := by
    rw [List.all_eq_true]
    intro x hx
    obtain ⟨k, hk, e⟩ := List.getElem_of_mem hx
    have := h k hk
    rw [List.getD_eq_getElem?_getD, List.getElem?_eq_getElem hk] at this
    simpa [bareC, e] using this
  rw [Wo.bareB, this, Bool.and_true]
def gEsc : Nat := 0
set_option maxRecDepth 10000
section
variable {X : Cx} (hX : X.P = Go.Proofs.Tryz.prog) (hs : Std X)
include hX hs
theorem ev_isPlain (c : UInt8) : Ev X F_words_isPlain [u8 c] (.bool (Wo.plainB c)) := by
  refine ev_of_wpc hs (A_words_isPlain_ok hX) 0 ?_
  rw [plain_i]
  simp only [A_words_isPlain, go_sem, Nat.reduceMod, Nat.reduceBNe, Nat.reduceBEq, Nat.reduceEqDiff, Nat.reduceAdd, Int.reduceAdd, Nat.reduceMul, Nat.reduceSub, Int.reduceToNat, Int.reduceLE, Int.reduceLT, Int.reduceEq, Int.reduceNe, reduceCtorEq, Nat.reduceLT, Nat.reduceLeDiff]
  grind
theorem ev_letterOf (hE : X.G gEsc = some tabE) (c : UInt8) : Ev X F_words_letterOf [u8 c] (u8 (Wo.letB c)) := by
  refine ev_of_wpc hs (A_words_letterOf_ok hX) 0 ?_
  have e10 : tabE.take 10 = tabE := rfl
  have l10 : tabE.length = 10 := rfl
  unfold gEsc at hE
  simp only [A_words_letterOf, go_sem, Nat.reduceMod, Nat.reduceBNe, Nat.reduceBEq, Nat.reduceEqDiff, Nat.reduceAdd, Int.reduceAdd, Nat.reduceMul, Nat.reduceSub, Int.reduceToNat, Int.reduceLE, Int.reduceLT, Int.reduceEq, Int.reduceNe, reduceCtorEq, Nat.reduceLT, Nat.reduceLeDiff, hE, e10, l10]
  refine w_loop' hs.hm (ι := Nat × List Blk) (fun x => x.1 ≤ 5 ∧ ∀ k, k < x.1 → c ≠ eK k) (fun x => [(6, .int .i64 x.1), (5, .agg tabE), (0, u8 c)]) (fun x => x.2) (fun x => 5 - x.1) (0, []) ?_ fun x hx => ?_
  · simp only [go_sem, Nat.reduceMod, Nat.reduceBNe, Nat.reduceBEq, Nat.reduceEqDiff, Nat.reduceAdd, Int.reduceAdd, Nat.reduceMul, Nat.reduceSub, Int.reduceToNat, Int.reduceLE, Int.reduceLT, Int.reduceEq, Int.reduceNe, reduceCtorEq, Nat.reduceLT, Nat.reduceLeDiff]
    exact no_lt0
  obtain ⟨i, R⟩ := x
  obtain ⟨i1, i2⟩ := hx
  simp only at i1 i2
  simp only [A_words_letterOfL0, go_sem, Nat.reduceMod, Nat.reduceBNe, Nat.reduceBEq, Nat.reduceEqDiff, Nat.reduceAdd, Int.reduceAdd, Nat.reduceMul, Nat.reduceSub, Int.reduceToNat, Int.reduceLE, Int.reduceLT, Int.reduceEq, Int.reduceNe, reduceCtorEq, Nat.reduceLT, Nat.reduceLeDiff]
  refine ⟨fun hc => ?_, fun hc => ?_⟩
  · have hi : i < 5 := by omega
    simp only [tabE_at hi, go_sem, Nat.reduceMod, Nat.reduceBNe, Nat.reduceBEq, Nat.reduceEqDiff, Nat.reduceAdd, Int.reduceAdd, Nat.reduceMul, Nat.reduceSub, Int.reduceToNat, Int.reduceLE, Int.reduceLT, Int.reduceEq, Int.reduceNe, reduceCtorEq, Nat.reduceLT, Nat.reduceLeDiff]
    refine ⟨⟨by omega, hc⟩, fun e => ?_, fun e => ?_⟩
    · have : c = eK i := (u8_eq.1 e).symm
      rw [this, (letB_tab hi).1]
    · have : c ≠ eK i := fun h => e (by rw [h])
      exact ⟨(i + 1, _), by simp only; omega, ⟨by simp only; omega, ne_step i2 this⟩, by rw [wi64 (by omega)]; rfl, rfl⟩
  · rw [letB_no (fun k hk => i2 k (by omega))]
    rfl
theorem ev_isBare (s : List UInt8) (hl : s.length < 1000000) : Ev X F_words_isBare [.str s] (.bool (Wo.bareB s)) := by
  refine ev_of_wpc hs (A_words_isBare_ok hX) 0 ?_
  simp only [A_words_isBare, go_sem, Nat.reduceMod, Nat.reduceBNe, Nat.reduceBEq, Nat.reduceEqDiff, Nat.reduceAdd, Int.reduceAdd, Nat.reduceMul, Nat.reduceSub, Int.reduceToNat, Int.reduceLE, Int.reduceLT, Int.reduceEq, Int.reduceNe, reduceCtorEq, Nat.reduceLT, Nat.reduceLeDiff]
  refine w_loop' hs.hm (ι := Nat) (fun i => i ≤ s.length ∧ ∀ k, k < i → bareC (s.getD k 0) = true) (fun i => [(6, .int .i64 i), (5, .int .i64 s.length), (0, .str s)]) (fun _ => []) (fun i => s.length - i) 0 ?_ fun i hi => ?_
  · simp only [go_sem, Nat.reduceMod, Nat.reduceBNe, Nat.reduceBEq, Nat.reduceEqDiff, Nat.reduceAdd, Int.reduceAdd, Nat.reduceMul, Nat.reduceSub, Int.reduceToNat, Int.reduceLE, Int.reduceLT, Int.reduceEq, Int.reduceNe, reduceCtorEq, Nat.reduceLT, Nat.reduceLeDiff]
    exact ⟨Nat.zero_le _, no_lt0⟩
  obtain ⟨i1, i2⟩ := hi
  simp only [A_words_isBareL0, go_sem, Nat.reduceMod, Nat.reduceBNe, Nat.reduceBEq, Nat.reduceEqDiff, Nat.reduceAdd, Int.reduceAdd, Nat.reduceMul, Nat.reduceSub, Int.reduceToNat, Int.reduceLE, Int.reduceLT, Int.reduceEq, Int.reduceNe, reduceCtorEq, Nat.reduceLT, Nat.reduceLeDiff]
  refine ⟨fun c => ⟨by omega, call_ev (ev_isPlain hX hs (s.getD i 0)) ?_⟩, fun c => ?_⟩
  · cases hp : Wo.plainB (s.getD i 0) with
    | false =>
      simp only [go_sem, Nat.reduceMod, Nat.reduceBNe, Nat.reduceBEq, Nat.reduceEqDiff, Nat.reduceAdd, Int.reduceAdd, Nat.reduceMul, Nat.reduceSub, Int.reduceToNat, Int.reduceLE, Int.reduceLT, Int.reduceEq, Int.reduceNe, reduceCtorEq, Nat.reduceLT, Nat.reduceLeDiff]
      rw [bare_no (i := i) (by omega) (by simp only [bareC, hp, Bool.false_and])]
    | true =>
      simp only [go_sem, Nat.reduceMod, Nat.reduceBNe, Nat.reduceBEq, Nat.reduceEqDiff, Nat.reduceAdd, Int.reduceAdd, Nat.reduceMul, Nat.reduceSub, Int.reduceToNat, Int.reduceLE, Int.reduceLT, Int.reduceEq, Int.reduceNe, reduceCtorEq, Nat.reduceLT, Nat.reduceLeDiff]
      refine ⟨by omega, fun e => ?_, fun e => ?_⟩
      · rw [bare_no (i := i) (by omega) (by simp only [bareC, hp, (u8_lit (b := 32) rfl).1 e]; rfl)]
      · exact nxt1 (by omega) i2 (by simp only [bareC, hp, decide_eq_false (fun h => e ((u8_lit (b := 32) rfl).2 h))]; rfl) (by omega)
  · rw [bare_all (fun k hk => i2 k (by omega))]
    cases s <;> simp
end
end Go.Avm

/- Quoted forms: what is read. -/
namespace Go.Avm
open Go
theorem or_hex {x y : Nat} (hx : x < 16) (hy : y < 16) : bits .or .i64 (IntKind.i64.wrap ((x : Int) * 2 ^ (min 4 64))) (y : Int) = ((16 * x + y : Nat) : Int) := by
  have : ∀ x : Nat, x < 16 → ∀ y : Nat, y < 16 → bits .or .i64 (IntKind.i64.wrap ((x : Int) * 2 ^ (min 4 64))) (y : Int) = ((16 * x + y : Nat) : Int) := by decide +kernel
  exact this x hx y hy
set_option maxRecDepth 10000
section
variable {X : Cx} (hX : X.P = Go.Proofs.Tryz.prog) (hs : Std X) (hE : X.G gEsc = some tabE)
include hX hs hE
theorem ev_unescape (s : List UInt8) : Ev X F_words_unescape [.str s] (.tuple [u8 (Wo.une s).1, .int .i64 (Wo.une s).2]) := by
  refine ev_of_wpc hs (A_words_unescape_ok hX) 0 ?_
  have e10 : tabE.take 10 = tabE := rfl
  have l10 : tabE.length = 10 := rfl
  have hE' := hE
  unfold gEsc at hE'
  cases s with
  | nil => simp only [A_words_unescape, go_sem, Nat.reduceMod, Nat.reduceBNe, Nat.reduceBEq, Nat.reduceEqDiff, Nat.reduceAdd, Int.reduceAdd, Nat.reduceMul, Nat.reduceSub, Int.reduceToNat, Int.reduceLE, Int.reduceLT, Int.reduceEq, Int.reduceNe, reduceCtorEq, Nat.reduceLT, Nat.reduceLeDiff]; rfl
  | cons b r =>
  simp only [A_words_unescape, go_sem, Nat.reduceMod, Nat.reduceBNe, Nat.reduceBEq, Nat.reduceEqDiff, Nat.reduceAdd, Int.reduceAdd, Nat.reduceMul, Nat.reduceSub, Int.reduceToNat, Int.reduceLE, Int.reduceLT, Int.reduceEq, Int.reduceNe, reduceCtorEq, Nat.reduceLT, Nat.reduceLeDiff, hE', e10, l10]
  refine w_loop' hs.hm (ι := Nat × List Blk) (fun x => x.1 ≤ 5 ∧ ∀ k, k < x.1 → b ≠ eL k) (fun x => [(12, .int .i64 x.1), (11, .agg tabE), (0, .str (b :: r))]) (fun x => x.2) (fun x => 5 - x.1) (0, []) ?_ fun x hx => ?_
  · simp only [go_sem, Nat.reduceMod, Nat.reduceBNe, Nat.reduceBEq, Nat.reduceEqDiff, Nat.reduceAdd, Int.reduceAdd, Nat.reduceMul, Nat.reduceSub, Int.reduceToNat, Int.reduceLE, Int.reduceLT, Int.reduceEq, Int.reduceNe, reduceCtorEq, Nat.reduceLT, Nat.reduceLeDiff]
    exact no_lt0
  obtain ⟨i, R⟩ := x
  obtain ⟨i1, i2⟩ := hx
  simp only at i1 i2
  simp only [A_words_unescapeL0, go_sem, Nat.reduceMod, Nat.reduceBNe, Nat.reduceBEq, Nat.reduceEqDiff, Nat.reduceAdd, Int.reduceAdd, Nat.reduceMul, Nat.reduceSub, Int.reduceToNat, Int.reduceLE, Int.reduceLT, Int.reduceEq, Int.reduceNe, reduceCtorEq, Nat.reduceLT, Nat.reduceLeDiff]
  refine ⟨fun hc => ?_, fun hc => ?_⟩
  · have hi : i < 5 := by omega
    simp only [tabE_at hi, go_sem, Nat.reduceMod, Nat.reduceBNe, Nat.reduceBEq, Nat.reduceEqDiff, Nat.reduceAdd, Int.reduceAdd, Nat.reduceMul, Nat.reduceSub, Int.reduceToNat, Int.reduceLE, Int.reduceLT, Int.reduceEq, Int.reduceNe, reduceCtorEq, Nat.reduceLT, Nat.reduceLeDiff]
    refine ⟨⟨by omega, hc⟩, by simp, fun e => ?_, fun e => ?_⟩
    · have hb : b = eL i := (u8_eq.1 e).symm
      simp only [Wo.une, hb, (letB_tab hi).2]
      rfl
    · have : b ≠ eL i := fun h => e (by rw [h])
      exact ⟨(i + 1, _), by simp only; omega, ⟨by simp only; omega, ne_step i2 this⟩, by rw [wi64 (by omega)]; rfl, rfl⟩
  · have hu : Wo.unl b = none := unl_no (fun k hk => i2 k (by omega))
    refine ⟨by omega, fun e => ?_, fun e => ⟨fun e2 => ?_, fun e2 => ?_⟩⟩
    · have hb : ¬ b = 120 := fun h => e ((u8_lit (b := 120) rfl).2 h)
      simp only [Wo.une, hu, if_neg hb]
      rfl
    · have hb : b = 120 := (u8_lit (b := 120) rfl).1 e
      simp only [Wo.une, hu, if_pos hb]
      match r, e2 with
      | [], _ => rfl
      | [_], _ => rfl
      | _ :: _ :: _, e2 => simp at e2; omega
    · have hb : b = 120 := (u8_lit (b := 120) rfl).1 e
      simp only [Wo.une, hu, if_pos hb]
      match r, e2 with
      | [], e2 => simp at e2
      | [_], e2 => simp at e2
      | h :: l :: t, _ =>
        have hi1 : Lib.indexByte [48, 49, 50, 51, 52, 53, 54, 55, 56, 57, 97, 98, 99, 100, 101, 102] h = match Wo.hexv h with | some n => (n : Int) | none => -1 := hexs_idx h
        have hi2 : Lib.indexByte [48, 49, 50, 51, 52, 53, 54, 55, 56, 57, 97, 98, 99, 100, 101, 102] l = match Wo.hexv l with | some n => (n : Int) | none => -1 := hexs_idx l
        refine ⟨by simp; omega, callq_ev (ev_IndexByte hX hs _ h) ?_⟩
        simp only [go_sem, Nat.reduceMod, Nat.reduceBNe, Nat.reduceBEq, Nat.reduceEqDiff, Nat.reduceAdd, Int.reduceAdd, Nat.reduceMul, Nat.reduceSub, Int.reduceToNat, Int.reduceLE, Int.reduceLT, Int.reduceEq, Int.reduceNe, reduceCtorEq, Nat.reduceLT, Nat.reduceLeDiff]
        refine ⟨by simp; omega, callq_ev (ev_IndexByte hX hs _ l) ?_⟩
        rw [hi1, hi2]
        cases h1 : Wo.hexv h with
        | none => simp only [go_sem, Nat.reduceMod, Nat.reduceBNe, Nat.reduceBEq, Nat.reduceEqDiff, Nat.reduceAdd, Int.reduceAdd, Nat.reduceMul, Nat.reduceSub, Int.reduceToNat, Int.reduceLE, Int.reduceLT, Int.reduceEq, Int.reduceNe, reduceCtorEq, Nat.reduceLT, Nat.reduceLeDiff, Wo.hx2, h1]; rfl
        | some x =>
          cases h2 : Wo.hexv l with
          | none =>
            simp only [go_sem, Nat.reduceMod, Nat.reduceBNe, Nat.reduceBEq, Nat.reduceEqDiff, Nat.reduceAdd, Int.reduceAdd, Nat.reduceMul, Nat.reduceSub, Int.reduceToNat, Int.reduceLE, Int.reduceLT, Int.reduceEq, Int.reduceNe, reduceCtorEq, Nat.reduceLT, Nat.reduceLeDiff, Wo.hx2, h1, h2]
            exact ⟨fun _ => rfl, fun _ => rfl⟩
          | some y =>
            have hx := (Wo.hexd_hexv h1).1
            have hy := (Wo.hexd_hexv h2).1
            have ew : IntKind.u8.wrap ((16 * x + y : Nat) : Int) = (((UInt8.ofNat (16 * x + y)).toNat : Nat) : Int) := by rw [wu8 (by omega), UInt8.toNat_ofNat', Nat.mod_eq_of_lt (by omega)]
            simp only [go_sem, Nat.reduceMod, Nat.reduceBNe, Nat.reduceBEq, Nat.reduceEqDiff, Nat.reduceAdd, Int.reduceAdd, Nat.reduceMul, Nat.reduceSub, Int.reduceToNat, Int.reduceLE, Int.reduceLT, Int.reduceEq, Int.reduceNe, reduceCtorEq, Nat.reduceLT, Nat.reduceLeDiff, or_hex hx hy, ew]
            refine ⟨fun h => by omega, fun _ => ⟨fun h => by omega, fun _ => ?_⟩⟩
            have e3 : Wo.hx2 (h :: l :: t) = if Wo.plainB (UInt8.ofNat (16 * x + y)) || decide (Wo.letB (UInt8.ofNat (16 * x + y)) ≠ 0) then (0, 0) else (UInt8.ofNat (16 * x + y), 3) := by simp only [Wo.hx2, h1, h2]
            rw [e3]
            generalize UInt8.ofNat (16 * x + y) = c at *
            refine call_ev (ev_isPlain hX hs c) ?_
            cases hp : Wo.plainB c with
            | true =>
              simp only [go_sem, Nat.reduceMod, Nat.reduceBNe, Nat.reduceBEq, Nat.reduceEqDiff, Nat.reduceAdd, Int.reduceAdd, Nat.reduceMul, Nat.reduceSub, Int.reduceToNat, Int.reduceLE, Int.reduceLT, Int.reduceEq, Int.reduceNe, reduceCtorEq, Nat.reduceLT, Nat.reduceLeDiff]
              rfl
            | false =>
              simp only [go_sem, Nat.reduceMod, Nat.reduceBNe, Nat.reduceBEq, Nat.reduceEqDiff, Nat.reduceAdd, Int.reduceAdd, Nat.reduceMul, Nat.reduceSub, Int.reduceToNat, Int.reduceLE, Int.reduceLT, Int.reduceEq, Int.reduceNe, reduceCtorEq, Nat.reduceLT, Nat.reduceLeDiff]
              refine call_ev (ev_letterOf hX hs hE c) ?_
              simp only [go_sem, Nat.reduceMod, Nat.reduceBNe, Nat.reduceBEq, Nat.reduceEqDiff, Nat.reduceAdd, Int.reduceAdd, Nat.reduceMul, Nat.reduceSub, Int.reduceToNat, Int.reduceLE, Int.reduceLT, Int.reduceEq, Int.reduceNe, reduceCtorEq, Nat.reduceLT, Nat.reduceLeDiff]
              refine ⟨fun h => ?_, fun h => ?_⟩
              · have : Wo.letB c ≠ 0 := fun h' => h (by rw [h']; rfl)
                rw [if_pos this]
                rfl
              · have : Wo.letB c = 0 := (u8_lit (b := 0) rfl).1 h
                rw [if_neg (fun h' => h' this)]
                rfl
theorem ev_unquote (s : List UInt8) (hl : s.length < 1000000) : Ev X F_words_unquote [.str s] (.tuple [.str (Wo.unqS s).1, .int .i64 (Wo.unqS s).2]) := by
  refine ev_of_wpc hs (A_words_unquote_ok hX) 0 ?_
  by_cases h0 : s = []
  · subst h0
    simp only [A_words_unquote, go_sem, Nat.reduceMod, Nat.reduceBNe, Nat.reduceBEq, Nat.reduceEqDiff, Nat.reduceAdd, Int.reduceAdd, Nat.reduceMul, Nat.reduceSub, Int.reduceToNat, Int.reduceLE, Int.reduceLT, Int.reduceEq, Int.reduceNe, reduceCtorEq, Nat.reduceLT, Nat.reduceLeDiff]
    rfl
  have hp : 0 < s.length := List.length_pos_iff.2 h0
  simp only [A_words_unquote, go_sem, Nat.reduceMod, Nat.reduceBNe, Nat.reduceBEq, Nat.reduceEqDiff, Nat.reduceAdd, Int.reduceAdd, Nat.reduceMul, Nat.reduceSub, Int.reduceToNat, Int.reduceLE, Int.reduceLT, Int.reduceEq, Int.reduceNe, reduceCtorEq, Nat.reduceLT, Nat.reduceLeDiff, h0]
  refine ⟨by omega, fun e => ?_, fun e => ?_⟩
  · rw [Wo.unqS_no (fun h => e ((u8_lit (b := 34) rfl).2 h))]
    rfl
  have h34 : s.getD 0 0 = 34 := (u8_lit (b := 34) rfl).1 e
  refine w_loop hs.hm (ι := Nat × Nat × List UInt8) (fun x => x.2.1 ≤ s.length ∧ 0 < x.1 ∧ s.length - x.2.1 < x.1 ∧ x.2.2.length < x.2.1 ∧ Wo.unqS s = Wo.cmb x.2.2 x.2.1 (Wo.unqL x.1 (s.drop x.2.1))) (fun x => [(5, .int .i64 x.2.1), (4, lst u8 (.tok 0 1) x.2.2), (0, .str s)]) (fun x => [.tok x.2.2.length]) (fun x => s.length - x.2.1) (s.length + 1, 1, []) ⟨⟨by simp only; omega, by simp only; omega, by simp only; omega, by simp, Wo.unqS_cmb h34⟩, _, _, wk_tok 4 1 rfl, ⟨by simp only [go_sem, Nat.reduceMod, Nat.reduceBNe, Nat.reduceBEq, Nat.reduceEqDiff, Nat.reduceAdd, Int.reduceAdd, Nat.reduceMul, Nat.reduceSub, Int.reduceToNat, Int.reduceLE, Int.reduceLT, Int.reduceEq, Int.reduceNe, reduceCtorEq, Nat.reduceLT, Nat.reduceLeDiff]; rfl, rfl⟩⟩ fun x hx => ?_
  obtain ⟨F, i, b⟩ := x
  obtain ⟨c1, c2, c3, c4, c5⟩ := hx
  simp only at c1 c2 c3 c4 c5
  obtain ⟨F, rfl⟩ : ∃ G, F = G + 1 := ⟨F - 1, by omega⟩
  simp only [A_words_unquoteL0, go_sem, Nat.reduceMod, Nat.reduceBNe, Nat.reduceBEq, Nat.reduceEqDiff, Nat.reduceAdd, Int.reduceAdd, Nat.reduceMul, Nat.reduceSub, Int.reduceToNat, Int.reduceLE, Int.reduceLT, Int.reduceEq, Int.reduceNe, reduceCtorEq, Nat.reduceLT, Nat.reduceLeDiff]
  refine ⟨fun c => ?_, fun c => ?_⟩
  · have hi : i < s.length := by omega
    have hst := Wo.step_at hi
    refine ⟨by omega, fun e => ?_, fun e => ?_⟩
    · rw [c5, Wo.unq_end hi ((u8_lit (b := 34) rfl).1 e), wi64 (by omega)]
      rfl
    have n34 : ¬ s.getD i 0 = 34 := fun h => e ((u8_lit (b := 34) rfl).2 h)
    refine ⟨fun e2 => ?_, fun e2 => ?_⟩
    · rw [if_pos ((u8_lit (b := 92) rfl).1 e2)] at hst
      rw [wi64 (by omega)]
      refine ⟨by omega, ?_⟩
      rw [List.take_length, show ((i : Int) + 1).toNat = i + 1 by omega]
      refine call_ev (ev_unescape hX hs hE (s.drop (i + 1))) ?_
      simp only [go_sem, Nat.reduceMod, Nat.reduceBNe, Nat.reduceBEq, Nat.reduceEqDiff, Nat.reduceAdd, Int.reduceAdd, Nat.reduceMul, Nat.reduceSub, Int.reduceToNat, Int.reduceLE, Int.reduceLT, Int.reduceEq, Int.reduceNe, reduceCtorEq, Nat.reduceLT, Nat.reduceLeDiff]
      refine ⟨fun e3 => ?_, fun e3 => ?_⟩
      · rw [if_pos (by omega)] at hst
        rw [c5, Wo.unq_bad hi n34 hst]
        rfl
      · rw [if_neg (by omega)] at hst
        have hk := (Wo.step_le hst).2.2
        rw [List.length_drop] at hk
        refine ⟨by omega, (F, i + ((Wo.une (s.drop (i + 1))).2 + 1), b ++ [(Wo.une (s.drop (i + 1))).1]), by simp only; omega, ⟨by simp only; omega, by simp only; omega, by simp only; omega, by simp only [List.length_append, List.length_singleton]; omega, by rw [c5, Wo.unq_next hi n34 hst]⟩, ⟨?_, rfl⟩, by simp only [List.length_append, List.length_singleton]⟩
        simp only
        congr 1
        rw [wi64 (n := (i : Int) + _) (by omega), wi64 (by omega)]
        omega
    · rw [if_neg (fun h => e2 ((u8_lit (b := 92) rfl).2 h))] at hst
      refine call_ev (ev_isPlain hX hs (s.getD i 0)) ?_
      cases hp : Wo.plainB (s.getD i 0) with
      | true =>
        rw [if_pos hp] at hst
        simp only [go_sem, Nat.reduceMod, Nat.reduceBNe, Nat.reduceBEq, Nat.reduceEqDiff, Nat.reduceAdd, Int.reduceAdd, Nat.reduceMul, Nat.reduceSub, Int.reduceToNat, Int.reduceLE, Int.reduceLT, Int.reduceEq, Int.reduceNe, reduceCtorEq, Nat.reduceLT, Nat.reduceLeDiff]
        refine ⟨by omega, (F, i + (1), b ++ [s.getD i 0]), by simp only; omega, ⟨by simp only; omega, by simp only; omega, by simp only; omega, by simp only [List.length_append, List.length_singleton]; omega, by rw [c5, Wo.unq_next hi n34 hst]⟩, ⟨?_, rfl⟩, by simp only [List.length_append, List.length_singleton]⟩
        simp only
        congr 1
        rw [wi64 (by omega)]
        omega
      | false =>
        rw [if_neg (by rw [hp]; decide)] at hst
        simp only [go_sem, Nat.reduceMod, Nat.reduceBNe, Nat.reduceBEq, Nat.reduceEqDiff, Nat.reduceAdd, Int.reduceAdd, Nat.reduceMul, Nat.reduceSub, Int.reduceToNat, Int.reduceLE, Int.reduceLT, Int.reduceEq, Int.reduceNe, reduceCtorEq, Nat.reduceLT, Nat.reduceLeDiff]
        rw [c5, Wo.unq_bad hi n34 hst]
        rfl
  · rw [c5, Wo.unq_out (by omega)]
    rfl
theorem ev_Unquote (s : List UInt8) (hl : s.length < 1000000) : Ev X F_words_Unquote [.str s] (.tuple [.str (Wo.unqV s).1, .int .i64 (Wo.unqV s).2]) := by
  refine ev_of_wpc hs (A_words_Unquote_ok hX) 0 ?_
  simp only [A_words_Unquote, go_sem, Nat.reduceMod, Nat.reduceBNe, Nat.reduceBEq, Nat.reduceEqDiff, Nat.reduceAdd, Int.reduceAdd, Nat.reduceMul, Nat.reduceSub, Int.reduceToNat, Int.reduceLE, Int.reduceLT, Int.reduceEq, Int.reduceNe, reduceCtorEq, Nat.reduceLT, Nat.reduceLeDiff]
  refine call_ev (ev_unquote hX hs hE s hl) ?_
  simp only [go_sem, Nat.reduceMod, Nat.reduceBNe, Nat.reduceBEq, Nat.reduceEqDiff, Nat.reduceAdd, Int.reduceAdd, Nat.reduceMul, Nat.reduceSub, Int.reduceToNat, Int.reduceLE, Int.reduceLT, Int.reduceEq, Int.reduceNe, reduceCtorEq, Nat.reduceLT, Nat.reduceLeDiff]
  unfold Wo.unqV
  refine ⟨fun h => ?_, fun h => ⟨fun h2 => ?_, fun h2 => ?_⟩⟩
  · rw [if_pos (.inl (by omega))]
  · rw [if_pos (.inr (by omega))]
  · rw [if_neg (by omega)]
end
end Go.Avm

/- Names, cutting, decimal forms. -/
namespace Go.Avm
open Go
theorem ev_of_wpcd {X : Cx} (hs : Std X) {f : FuncId} {hint : Nat → Bool} {af : AFun} (hc : compileFun X.P f hint = some af) {args : List AV} {r : AV} (k : Nat)
    (h : wpc X af.n af.code (kq X af.n (RetIs af.res fun r' H' => dry (fin H' k r') = r) []) (FL.get (args.zipIdx.map fun p => (p.2, p.1))) []) : Ev X f args r := by
  have h0 := (evM_of_wpc hs hc h).evF
  exact ⟨h0.1, fun g w vs h1 h2 h3 => (h0.2 g w vs h1 h2 h3).mono fun e w' ⟨v, r', g', H', k1, k2, k3, k4, k5, k6⟩ => by
    subst k6
    exact ⟨v, _, finG g' w', [], k1, finG_flat ▸ dry_rel _ (fin_rel k4 k r' k2), finG_wf k3, hr_nil (fun _ => rfl) (fun _ => rfl) (fun _ => rfl), k5.trans finG_ext, rfl, rfl⟩⟩
theorem lt1 {P : Nat → Prop} {i : Nat} (h : ∀ j, j < i → P j) (hi : P i) : ∀ j, j < i + 1 → P j := fun j hj => by
  by_cases e : j = i
  · rw [e]; exact hi
  · exact h j (by omega)
theorem ev_eqr {X : Cx} {f : Nat} {args : List AV} {r r' : AV} (h : Ev X f args r) (e : r = r') : Ev X f args r' := e ▸ h
theorem ixB (s : List UInt8) (c : UInt8) : Lib.indexByte s c = if Lat.idx c s < s.length then (Lat.idx c s : Int) else -1 := by
  induction s with
  | nil => rfl
  | cons b r ih =>
    have hle := Lat.idx_le c r
    simp only [Lib.indexByte, Lat.idx, ih, beq_iff_eq, List.length_cons]
    by_cases h : b = c
    · simp only [if_pos h]; simp
    · simp only [if_neg h]
      by_cases h2 : Lat.idx c r < r.length
      · rw [if_pos h2, if_neg (by omega), if_pos (by omega)]; rfl
      · rw [if_neg h2, if_pos rfl, if_neg (by omega)]
theorem any_take {s : List UInt8} {i : Nat} (hi : i < s.length) (k : Nat) : Lat.inB (s.take (i + 1)) k = (Lat.inB (s.take i) k || ((s.getD i 0).toNat == k)) := by
  rw [List.take_succ_eq_append_getElem hi]
  simp only [Lat.inB, List.any_append, List.any_cons, List.any_nil, Bool.or_false]
  rw [List.getD_eq_getElem?_getD, List.getElem?_eq_getElem hi]; rfl
def digCs : List UInt8 := [48, 49, 50, 51, 52, 53, 54, 55, 56, 57]
theorem digCs_in : ∀ n : Nat, n < 256 → Lat.inB digCs n = (decide (48 ≤ n) && decide (n ≤ 57)) := by decide +kernel
theorem digB_lat (c : UInt8) : Lat.digB c = Wo.digB c := rfl
theorem mg_cons (c : UInt8) (r : List UInt8) : Wo.mg (c :: r) = if c = 45 then r else c :: r := rfl
theorem decS_ne {s : List UInt8} (h : Wo.mg s = []) : Wo.decS s = false := by rw [Wo.decS, h]; rfl
set_option maxRecDepth 10000
section
variable {X : Cx} (hX : X.P = Go.Proofs.Tryz.prog) (hs : Std X)
include hX hs
theorem ev_digit (c : UInt8) : Ev X F_ref01_digit [u8 c] (.bool (Lat.digB c)) := by
  refine ev_of_wpc hs (A_ref01_digit_ok hX) 0 ?_
  simp only [A_ref01_digit, go_sem, Nat.reduceMod, Nat.reduceBNe, Nat.reduceBEq, Nat.reduceEqDiff, Nat.reduceAdd, Int.reduceAdd, Nat.reduceMul, Nat.reduceSub, Int.reduceToNat, Int.reduceLE, Int.reduceLT, Int.reduceEq, Int.reduceNe, reduceCtorEq, Nat.reduceLT, Nat.reduceLeDiff, Lat.digB]
  refine ⟨fun h => ?_, fun h => ?_⟩
  · simp [show 48 ≤ c.toNat by omega]; omega
  · simp [show ¬ 48 ≤ c.toNat by omega]
theorem ev_contains (f : Nat → Bool) (c : UInt8) : Ev X F_strings_asciiSet_contains [.vp (tb 256 fun k => .bool (f k)), u8 c] (.bool (f c.toNat)) := by
  have hc := c.toNat_lt
  refine ev_of_wpc hs (A_strings_asciiSet_contains_ok hX) 0 ?_
  simp only [A_strings_asciiSet_contains, go_sem, Nat.reduceMod, Nat.reduceBNe, Nat.reduceBEq, Nat.reduceEqDiff, Nat.reduceAdd, Int.reduceAdd, Nat.reduceMul, Nat.reduceSub, Int.reduceToNat, Int.reduceLE, Int.reduceLT, Int.reduceEq, Int.reduceNe, reduceCtorEq, Nat.reduceLT, Nat.reduceLeDiff, Nat.mul_one, ld_tb _ hc]
  omega
theorem ev_makeSet (cs : List UInt8) (h : ∀ c ∈ cs, c.toNat < 128) (hl : cs.length < 1000000) : Ev X F_strings_makeASCIISet [.str cs] (.tuple [.agg (tb 256 fun k => .bool (Lat.inB cs k)), .bool true]) := by
  refine ev_of_wpc hs (A_strings_makeASCIISet_ok hX) 0 ?_
  simp only [A_strings_makeASCIISet, tb_rep, go_sem, Nat.reduceMod, Nat.reduceBNe, Nat.reduceBEq, Nat.reduceEqDiff, Nat.reduceAdd, Int.reduceAdd, Nat.reduceMul, Nat.reduceSub, Int.reduceToNat, Int.reduceLE, Int.reduceLT, Int.reduceEq, Int.reduceNe, reduceCtorEq, Nat.reduceLT, Nat.reduceLeDiff]
  refine w_loop' hs.hm (ι := Nat) (fun i => i ≤ cs.length) (fun i => [(4, .int .i64 i), (2, .ptr 0 0), (0, .str cs)]) (fun i => [.box (tb 256 fun k => .bool (Lat.inB (cs.take i) k))]) (fun i => cs.length - i) 0 ?_ fun i hi => ?_
  · simp only [go_sem, Nat.reduceMod, Nat.reduceBNe, Nat.reduceBEq, Nat.reduceEqDiff, Nat.reduceAdd, Int.reduceAdd, Nat.reduceMul, Nat.reduceSub, Int.reduceToNat, Int.reduceLE, Int.reduceLT, Int.reduceEq, Int.reduceNe, reduceCtorEq, Nat.reduceLT, Nat.reduceLeDiff]
    exact ⟨Nat.zero_le _, rfl⟩
  · simp only [A_strings_makeASCIISetL0, go_sem, Nat.reduceMod, Nat.reduceBNe, Nat.reduceBEq, Nat.reduceEqDiff, Nat.reduceAdd, Int.reduceAdd, Nat.reduceMul, Nat.reduceSub, Int.reduceToNat, Int.reduceLE, Int.reduceLT, Int.reduceEq, Int.reduceNe, reduceCtorEq, Nat.reduceLT, Nat.reduceLeDiff, Nat.mul_one]
    refine ⟨fun c => ⟨⟨by omega, c⟩, fun e => ?_, fun e => ⟨by omega, by omega, i + 1, by omega, by omega, by rw [wi64 (by omega)]; rfl, ?_⟩⟩, fun c => ?_⟩
    · have hi' : i < cs.length := by omega
      have := h (cs[i]) (List.getElem_mem _)
      have e2 : cs.getD i 0 = cs[i] := by rw [List.getD_eq_getElem?_getD, List.getElem?_eq_getElem hi']; rfl
      rw [e2] at e
      omega
    · rw [tb_set]
      rw [tb_congr fun k hk => ?_]
      rw [any_take (by omega) k]
      by_cases ek : k = (cs.getD i 0).toNat
      · subst ek; simp
      · have : ((cs.getD i 0).toNat == k) = false := by rw [beq_eq_false_iff_ne]; exact fun e => ek e.symm
        rw [if_neg ek, this, Bool.or_false]
    · rw [List.take_of_length_le (by omega)]
theorem ev_ltrim (cs s : List UInt8) : Ev X F_strings_trimLeftASCII [.str s, .vp (tb 256 fun k => .bool (Lat.inB cs k))] (.str (Lat.ltrim cs s)) := by
  refine ev_of_wpc hs (A_strings_trimLeftASCII_ok hX) 0 ?_
  simp only [A_strings_trimLeftASCII, go_sem, Nat.reduceMod, Nat.reduceBNe, Nat.reduceBEq, Nat.reduceEqDiff, Nat.reduceAdd, Int.reduceAdd, Nat.reduceMul, Nat.reduceSub, Int.reduceToNat, Int.reduceLE, Int.reduceLT, Int.reduceEq, Int.reduceNe, reduceCtorEq, Nat.reduceLT, Nat.reduceLeDiff]
  refine w_loop' hs.hm (ι := List UInt8) (fun t => Lat.ltrim cs s = Lat.ltrim cs t) (fun t => [(0, .str t), (1, .vp (tb 256 fun k => .bool (Lat.inB cs k)))]) (fun _ => []) (fun t => t.length) s ?_ fun t ht => ?_
  · simp only [go_sem, Nat.reduceMod, Nat.reduceBNe, Nat.reduceBEq, Nat.reduceEqDiff, Nat.reduceAdd, Int.reduceAdd, Nat.reduceMul, Nat.reduceSub, Int.reduceToNat, Int.reduceLE, Int.reduceLT, Int.reduceEq, Int.reduceNe, reduceCtorEq, Nat.reduceLT, Nat.reduceLeDiff]
  · simp only [A_strings_trimLeftASCIIL0, go_sem, Nat.reduceMod, Nat.reduceBNe, Nat.reduceBEq, Nat.reduceEqDiff, Nat.reduceAdd, Int.reduceAdd, Nat.reduceMul, Nat.reduceSub, Int.reduceToNat, Int.reduceLE, Int.reduceLT, Int.reduceEq, Int.reduceNe, reduceCtorEq, Nat.reduceLT, Nat.reduceLeDiff]
    refine ⟨fun c => ⟨c, call_ev (ev_contains hX hs (Lat.inB cs) (t.getD 0 0)) ?_⟩, fun c => ?_⟩
    · cases hc : Lat.inB cs (t.getD 0 0).toNat with
      | true =>
        simp only [go_sem, Nat.reduceMod, Nat.reduceBNe, Nat.reduceBEq, Nat.reduceEqDiff, Nat.reduceAdd, Int.reduceAdd, Nat.reduceMul, Nat.reduceSub, Int.reduceToNat, Int.reduceLE, Int.reduceLT, Int.reduceEq, Int.reduceNe, reduceCtorEq, Nat.reduceLT, Nat.reduceLeDiff]
        refine ⟨by omega, t.drop 1, by rw [List.length_drop]; omega, ?_, ?_⟩
        · rw [ht, Lat.ltrim_t (by omega) hc]
        · rw [List.take_length]
      | false =>
        simp only [go_sem, Nat.reduceMod, Nat.reduceBNe, Nat.reduceBEq, Nat.reduceEqDiff, Nat.reduceAdd, Int.reduceAdd, Nat.reduceMul, Nat.reduceSub, Int.reduceToNat, Int.reduceLE, Int.reduceLT, Int.reduceEq, Int.reduceNe, reduceCtorEq, Nat.reduceLT, Nat.reduceLeDiff]
        rw [ht, Lat.ltrim_f (by omega) hc]
    · have : t = [] := List.length_eq_zero_iff.1 (by omega)
      rw [ht, this]; rfl
theorem ev_rtrim (cs s : List UInt8) (hl : s.length < 9223372036854775807) : Ev X F_strings_trimRightASCII [.str s, .vp (tb 256 fun k => .bool (Lat.inB cs k))] (.str (Lat.rtrim cs s)) := by
  refine ev_of_wpc hs (A_strings_trimRightASCII_ok hX) 0 ?_
  simp only [A_strings_trimRightASCII, go_sem, Nat.reduceMod, Nat.reduceBNe, Nat.reduceBEq, Nat.reduceEqDiff, Nat.reduceAdd, Int.reduceAdd, Nat.reduceMul, Nat.reduceSub, Int.reduceToNat, Int.reduceLE, Int.reduceLT, Int.reduceEq, Int.reduceNe, reduceCtorEq, Nat.reduceLT, Nat.reduceLeDiff]
  refine w_loop' hs.hm (ι := List UInt8) (fun t => t.length ≤ s.length ∧ Lat.rtrim cs s = Lat.rtrim cs t) (fun t => [(0, .str t), (1, .vp (tb 256 fun k => .bool (Lat.inB cs k)))]) (fun _ => []) (fun t => t.length) s ?_ fun t ht => ?_
  · simp only [go_sem, Nat.reduceMod, Nat.reduceBNe, Nat.reduceBEq, Nat.reduceEqDiff, Nat.reduceAdd, Int.reduceAdd, Nat.reduceMul, Nat.reduceSub, Int.reduceToNat, Int.reduceLE, Int.reduceLT, Int.reduceEq, Int.reduceNe, reduceCtorEq, Nat.reduceLT, Nat.reduceLeDiff]
  · obtain ⟨t1, t2⟩ := ht
    simp only [A_strings_trimRightASCIIL0, go_sem, Nat.reduceMod, Nat.reduceBNe, Nat.reduceBEq, Nat.reduceEqDiff, Nat.reduceAdd, Int.reduceAdd, Nat.reduceMul, Nat.reduceSub, Int.reduceToNat, Int.reduceLE, Int.reduceLT, Int.reduceEq, Int.reduceNe, reduceCtorEq, Nat.reduceLT, Nat.reduceLeDiff]
    refine ⟨fun c => ?_, fun c => ?_⟩
    · have e1 : IntKind.i64.wrap ((t.length : Int) - 1) = ((t.length - 1 : Nat) : Int) := by rw [wi64 (by omega)]; omega
      rw [e1]
      simp only [go_sem, Nat.reduceMod, Nat.reduceBNe, Nat.reduceBEq, Nat.reduceEqDiff, Nat.reduceAdd, Int.reduceAdd, Nat.reduceMul, Nat.reduceSub, Int.reduceToNat, Int.reduceLE, Int.reduceLT, Int.reduceEq, Int.reduceNe, reduceCtorEq, Nat.reduceLT, Nat.reduceLeDiff]
      refine ⟨by omega, call_ev (ev_contains hX hs (Lat.inB cs) (t.getD (t.length - 1) 0)) ?_⟩
      cases hc : Lat.inB cs (t.getD (t.length - 1) 0).toNat with
      | true =>
        simp only [go_sem, Nat.reduceMod, Nat.reduceBNe, Nat.reduceBEq, Nat.reduceEqDiff, Nat.reduceAdd, Int.reduceAdd, Nat.reduceMul, Nat.reduceSub, Int.reduceToNat, Int.reduceLE, Int.reduceLT, Int.reduceEq, Int.reduceNe, reduceCtorEq, Nat.reduceLT, Nat.reduceLeDiff]
        rw [e1]
        refine ⟨by omega, t.take (t.length - 1), by rw [List.length_take]; omega, ⟨by rw [List.length_take]; omega, ?_⟩, rfl⟩
        rw [t2, Lat.rtrim_t (by omega) hc]
      | false =>
        simp only [go_sem, Nat.reduceMod, Nat.reduceBNe, Nat.reduceBEq, Nat.reduceEqDiff, Nat.reduceAdd, Int.reduceAdd, Nat.reduceMul, Nat.reduceSub, Int.reduceToNat, Int.reduceLE, Int.reduceLT, Int.reduceEq, Int.reduceNe, reduceCtorEq, Nat.reduceLT, Nat.reduceLeDiff]
        rw [t2, Lat.rtrim_f (by omega) hc]
    · have : t = [] := List.length_eq_zero_iff.1 (by omega)
      rw [t2, this]; rfl
theorem ev_Trim (cs s : List UInt8) (h : ∀ c ∈ cs, c.toNat < 128) (hl : cs.length < 1000000) (h2 : 2 ≤ cs.length) (hs2 : s.length < 9223372036854775807) : Ev X F_strings_Trim [.str s, .str cs] (.str (Lat.trimS cs s)) := by
  by_cases h0 : s = []
  · subst h0
    refine ev_of_wpc hs (A_strings_Trim_ok hX) 0 ?_
    simp only [A_strings_Trim, tb_rep, go_sem, Nat.reduceMod, Nat.reduceBNe, Nat.reduceBEq, Nat.reduceEqDiff, Nat.reduceAdd, Int.reduceAdd, Nat.reduceMul, Nat.reduceSub, Int.reduceToNat, Int.reduceLE, Int.reduceLT, Int.reduceEq, Int.reduceNe, reduceCtorEq, Nat.reduceLT, Nat.reduceLeDiff]
    rfl
  · have hc0 : cs ≠ [] := fun e => by rw [e] at h2; simp at h2
    have h1 : ¬ (cs.length : Int) = 1 := by omega
    refine ev_of_wpc hs (A_strings_Trim_ok hX) 0 ?_
    simp only [A_strings_Trim, tb_rep, go_sem, Nat.reduceMod, Nat.reduceBNe, Nat.reduceBEq, Nat.reduceEqDiff, Nat.reduceAdd, Int.reduceAdd, Nat.reduceMul, Nat.reduceSub, Int.reduceToNat, Int.reduceLE, Int.reduceLT, Int.reduceEq, Int.reduceNe, reduceCtorEq, Nat.reduceLT, Nat.reduceLeDiff, h0, hc0, h1]
    refine call_ev (ev_makeSet hX hs cs h hl) ?_
    simp only [go_sem, Nat.reduceMod, Nat.reduceBNe, Nat.reduceBEq, Nat.reduceEqDiff, Nat.reduceAdd, Int.reduceAdd, Nat.reduceMul, Nat.reduceSub, Int.reduceToNat, Int.reduceLE, Int.reduceLT, Int.reduceEq, Int.reduceNe, reduceCtorEq, Nat.reduceLT, Nat.reduceLeDiff]
    refine call_lend (r := .str (Lat.rtrim cs s)) ?_ rfl ?_
    · have := ev_rtrim hX hs cs s hs2
      simpa only [lendL, lend, List.getElem?_cons_zero, List.drop_zero, tb_dryb] using this
    · simp only [go_sem, Nat.reduceMod, Nat.reduceBNe, Nat.reduceBEq, Nat.reduceEqDiff, Nat.reduceAdd, Int.reduceAdd, Nat.reduceMul, Nat.reduceSub, Int.reduceToNat, Int.reduceLE, Int.reduceLT, Int.reduceEq, Int.reduceNe, reduceCtorEq, Nat.reduceLT, Nat.reduceLeDiff]
      refine call_lend (r := .str (Lat.ltrim cs (Lat.rtrim cs s))) ?_ rfl ?_
      · have := ev_ltrim hX hs cs (Lat.rtrim cs s)
        simpa only [lendL, lend, List.getElem?_cons_zero, List.drop_zero, tb_dryb] using this
      · simp only [go_sem, Nat.reduceMod, Nat.reduceBNe, Nat.reduceBEq, Nat.reduceEqDiff, Nat.reduceAdd, Int.reduceAdd, Nat.reduceMul, Nat.reduceSub, Int.reduceToNat, Int.reduceLE, Int.reduceLT, Int.reduceEq, Int.reduceNe, reduceCtorEq, Nat.reduceLT, Nat.reduceLeDiff]
        rfl
theorem ev_Name (s : List UInt8) : Ev X F_words_Name [.str s] (.bool (Lat.isNm s)) := by
  have hlow : Lat.lowB (s.getD 0 0) = (decide (97 ≤ (s.getD 0 0).toNat) && decide ((s.getD 0 0).toNat ≤ 122)) := rfl
  by_cases h0 : s = []
  · subst h0
    refine ev_of_wpc hs (A_words_Name_ok hX) 0 ?_
    simp only [A_words_Name, go_sem, Nat.reduceMod, Nat.reduceBNe, Nat.reduceBEq, Nat.reduceEqDiff, Nat.reduceAdd, Int.reduceAdd, Nat.reduceMul, Nat.reduceSub, Int.reduceToNat, Int.reduceLE, Int.reduceLT, Int.reduceEq, Int.reduceNe, reduceCtorEq, Nat.reduceLT, Nat.reduceLeDiff]
    rfl
  · have hl : 0 < s.length := List.length_pos_iff.2 h0
    refine ev_of_wpc hs (A_words_Name_ok hX) 0 ?_
    simp only [A_words_Name, go_sem, Nat.reduceMod, Nat.reduceBNe, Nat.reduceBEq, Nat.reduceEqDiff, Nat.reduceAdd, Int.reduceAdd, Nat.reduceMul, Nat.reduceSub, Int.reduceToNat, Int.reduceLE, Int.reduceLT, Int.reduceEq, Int.reduceNe, reduceCtorEq, Nat.reduceLT, Nat.reduceLeDiff, h0]
    refine ⟨fun h => ?_, fun h1 => ⟨by omega, fun h => ?_, fun h2 => ⟨by omega, fun h => ?_, fun h3 => ?_⟩⟩⟩
    · simp only [Lat.isNm, show ¬ s.length ≤ 16 by omega, decide_false, Bool.and_false, Bool.false_and]
    · simp only [Lat.isNm, hlow, show ¬ 97 ≤ (s.getD 0 0).toNat by omega, decide_false, Bool.and_false, Bool.false_and]
    · simp only [Lat.isNm, hlow, show ¬ (s.getD 0 0).toNat ≤ 122 by omega, decide_false, Bool.and_false, Bool.false_and]
    · refine call_ev (ev_Trim hX hs Lat.nameCs s (by decide) (by decide) (by decide) (by omega)) ?_
      simp only [go_sem, Nat.reduceMod, Nat.reduceBNe, Nat.reduceBEq, Nat.reduceEqDiff, Nat.reduceAdd, Int.reduceAdd, Nat.reduceMul, Nat.reduceSub, Int.reduceToNat, Int.reduceLE, Int.reduceLT, Int.reduceEq, Int.reduceNe, reduceCtorEq, Nat.reduceLT, Nat.reduceLeDiff]
      rw [Lat.trim_name]
      simp only [Lat.isNm, hlow, show 1 ≤ s.length by omega, show s.length ≤ 16 by omega, show 97 ≤ (s.getD 0 0).toNat by omega, show (s.getD 0 0).toNat ≤ 122 by omega, decide_true, Bool.and_self, Bool.true_and]
theorem ev_Cut (s : List UInt8) (c : UInt8) (hl : s.length < 1000000) : Ev X F_strings_Cut [.str s, .str [c]] (.tuple [.str (if Lat.idx c s < s.length then s.take (Lat.idx c s) else s), .str (if Lat.idx c s < s.length then s.drop (Lat.idx c s + 1) else []), .bool (decide (Lat.idx c s < s.length))]) := by
  have hc : Ev X F_stringslite_Cut [.str s, .str [c]] (.tuple [.str (if Lat.idx c s < s.length then s.take (Lat.idx c s) else s), .str (if Lat.idx c s < s.length then s.drop (Lat.idx c s + 1) else []), .bool (decide (Lat.idx c s < s.length))]) := by
    refine ev_of_wpc hs (A_stringslite_Cut_ok hX) 1 ?_
    simp only [A_stringslite_Cut, go_sem, Nat.reduceMod, Nat.reduceBNe, Nat.reduceBEq, Nat.reduceEqDiff, Nat.reduceAdd, Int.reduceAdd, Nat.reduceMul, Nat.reduceSub, Int.reduceToNat, Int.reduceLE, Int.reduceLT, Int.reduceEq, Int.reduceNe, reduceCtorEq, Nat.reduceLT, Nat.reduceLeDiff]
    refine call_ev (ev_IndexB hX s c) ?_
    rw [ixB]
    by_cases h : Lat.idx c s < s.length
    · simp only [h, go_sem, Nat.reduceMod, Nat.reduceBNe, Nat.reduceBEq, Nat.reduceEqDiff, Nat.reduceAdd, Int.reduceAdd, Nat.reduceMul, Nat.reduceSub, Int.reduceToNat, Int.reduceLE, Int.reduceLT, Int.reduceEq, Int.reduceNe, reduceCtorEq, Nat.reduceLT, Nat.reduceLeDiff]
      refine ⟨fun h0 => ⟨by omega, ?_⟩, fun h0 => by omega⟩
      rw [wi64 (by omega)]
      refine ⟨by omega, ?_⟩
      rw [List.take_length, show ((Lat.idx c s : Int) + 1).toNat = Lat.idx c s + 1 by omega]
    · simp only [h, go_sem, Nat.reduceMod, Nat.reduceBNe, Nat.reduceBEq, Nat.reduceEqDiff, Nat.reduceAdd, Int.reduceAdd, Nat.reduceMul, Nat.reduceSub, Int.reduceToNat, Int.reduceLE, Int.reduceLT, Int.reduceEq, Int.reduceNe, reduceCtorEq, Nat.reduceLT, Nat.reduceLeDiff]
  refine ev_of_wpc hs (A_strings_Cut_ok hX) 1 ?_
  simp only [A_strings_Cut, go_sem, Nat.reduceMod, Nat.reduceBNe, Nat.reduceBEq, Nat.reduceEqDiff, Nat.reduceAdd, Int.reduceAdd, Nat.reduceMul, Nat.reduceSub, Int.reduceToNat, Int.reduceLE, Int.reduceLT, Int.reduceEq, Int.reduceNe, reduceCtorEq, Nat.reduceLT, Nat.reduceLeDiff]
  refine call_ev hc ?_
  simp only [go_sem, Nat.reduceMod, Nat.reduceBNe, Nat.reduceBEq, Nat.reduceEqDiff, Nat.reduceAdd, Int.reduceAdd, Nat.reduceMul, Nat.reduceSub, Int.reduceToNat, Int.reduceLE, Int.reduceLT, Int.reduceEq, Int.reduceNe, reduceCtorEq, Nat.reduceLT, Nat.reduceLeDiff]
theorem ev_HasPrefix1 (s : List UInt8) (c : UInt8) : Ev X F_stringslite_HasPrefix [.str s, .str [c]] (.bool (decide (s.take 1 = [c]))) := by
  refine ev_of_wpc hs (A_stringslite_HasPrefix_ok hX) 0 ?_
  simp only [A_stringslite_HasPrefix, go_sem, Nat.reduceMod, Nat.reduceBNe, Nat.reduceBEq, Nat.reduceEqDiff, Nat.reduceAdd, Int.reduceAdd, Nat.reduceMul, Nat.reduceSub, Int.reduceToNat, Int.reduceLE, Int.reduceLT, Int.reduceEq, Int.reduceNe, reduceCtorEq, Nat.reduceLT, Nat.reduceLeDiff]
  refine ⟨fun h => by omega, fun h => ?_⟩
  · have : s = [] := List.length_eq_zero_iff.1 (by omega)
    subst this
    rfl
theorem ev_TrimPrefix (s : List UInt8) : Ev X F_strings_TrimPrefix [.str s, .str [45]] (.str (Wo.mg s)) := by
  have h : Ev X F_stringslite_TrimPrefix [.str s, .str [45]] (.str (Wo.mg s)) := by
    refine ev_of_wpc hs (A_stringslite_TrimPrefix_ok hX) 0 ?_
    simp only [A_stringslite_TrimPrefix, go_sem, Nat.reduceMod, Nat.reduceBNe, Nat.reduceBEq, Nat.reduceEqDiff, Nat.reduceAdd, Int.reduceAdd, Nat.reduceMul, Nat.reduceSub, Int.reduceToNat, Int.reduceLE, Int.reduceLT, Int.reduceEq, Int.reduceNe, reduceCtorEq, Nat.reduceLT, Nat.reduceLeDiff]
    refine call_ev (ev_HasPrefix1 hX hs s 45) ?_
    by_cases e : s.take 1 = [45]
    · have e2 : s.getD 0 0 = 45 ∧ 1 ≤ s.length := by
        cases s with
        | nil => simp at e
        | cons a r => simp at e; simp [e]
      simp only [e, go_sem, Nat.reduceMod, Nat.reduceBNe, Nat.reduceBEq, Nat.reduceEqDiff, Nat.reduceAdd, Int.reduceAdd, Nat.reduceMul, Nat.reduceSub, Int.reduceToNat, Int.reduceLE, Int.reduceLT, Int.reduceEq, Int.reduceNe, reduceCtorEq, Nat.reduceLT, Nat.reduceLeDiff]
      refine ⟨by omega, ?_⟩
      rw [Wo.mg, if_pos e2.1, List.take_length]
    · have e2 : ¬ s.getD 0 0 = 45 := fun h => e (by
        cases s with
        | nil => simp at h
        | cons a r => simp at h; simp [h])
      simp only [e, go_sem, Nat.reduceMod, Nat.reduceBNe, Nat.reduceBEq, Nat.reduceEqDiff, Nat.reduceAdd, Int.reduceAdd, Nat.reduceMul, Nat.reduceSub, Int.reduceToNat, Int.reduceLE, Int.reduceLT, Int.reduceEq, Int.reduceNe, reduceCtorEq, Nat.reduceLT, Nat.reduceLeDiff]
      rw [Wo.mg, if_neg e2]
  refine ev_of_wpc hs (A_strings_TrimPrefix_ok hX) 0 ?_
  simp only [A_strings_TrimPrefix, go_sem, Nat.reduceMod, Nat.reduceBNe, Nat.reduceBEq, Nat.reduceEqDiff, Nat.reduceAdd, Int.reduceAdd, Nat.reduceMul, Nat.reduceSub, Int.reduceToNat, Int.reduceLE, Int.reduceLT, Int.reduceEq, Int.reduceNe, reduceCtorEq, Nat.reduceLT, Nat.reduceLeDiff]
  refine call_ev h ?_
  simp only [go_sem, Nat.reduceMod, Nat.reduceBNe, Nat.reduceBEq, Nat.reduceEqDiff, Nat.reduceAdd, Int.reduceAdd, Nat.reduceMul, Nat.reduceSub, Int.reduceToNat, Int.reduceLE, Int.reduceLT, Int.reduceEq, Int.reduceNe, reduceCtorEq, Nat.reduceLT, Nat.reduceLeDiff]
theorem ev_isDecimal (s : List UInt8) (hl : s.length < 1000000) : Ev X F_words_isDecimal [.str s] (.bool (Wo.decS s)) := by
  refine ev_of_wpc hs (A_words_isDecimal_ok hX) 0 ?_
  simp only [A_words_isDecimal, go_sem, Nat.reduceMod, Nat.reduceBNe, Nat.reduceBEq, Nat.reduceEqDiff, Nat.reduceAdd, Int.reduceAdd, Nat.reduceMul, Nat.reduceSub, Int.reduceToNat, Int.reduceLE, Int.reduceLT, Int.reduceEq, Int.reduceNe, reduceCtorEq, Nat.reduceLT, Nat.reduceLeDiff]
  refine call_ev (ev_TrimPrefix hX hs s) ?_
  by_cases h0 : Wo.mg s = []
  · simp only [h0, go_sem, Nat.reduceMod, Nat.reduceBNe, Nat.reduceBEq, Nat.reduceEqDiff, Nat.reduceAdd, Int.reduceAdd, Nat.reduceMul, Nat.reduceSub, Int.reduceToNat, Int.reduceLE, Int.reduceLT, Int.reduceEq, Int.reduceNe, reduceCtorEq, Nat.reduceLT, Nat.reduceLeDiff]
    rw [decS_ne h0]
  have hml : (Wo.mg s).length < 1000000 := by
    unfold Wo.mg
    split
    · rw [List.length_drop]; omega
    · exact hl
  have hp : 0 < (Wo.mg s).length := List.length_pos_iff.2 h0
  simp only [h0, go_sem, Nat.reduceMod, Nat.reduceBNe, Nat.reduceBEq, Nat.reduceEqDiff, Nat.reduceAdd, Int.reduceAdd, Nat.reduceMul, Nat.reduceSub, Int.reduceToNat, Int.reduceLE, Int.reduceLT, Int.reduceEq, Int.reduceNe, reduceCtorEq, Nat.reduceLT, Nat.reduceLeDiff]
  refine call_ev (ev_Trim hX hs digCs (Wo.mg s) (by decide) (by decide) (by decide) (by omega)) ?_
  have hd := Wo.digs_trim digCs_in (Wo.mg s)
  have hem : (Wo.mg s).isEmpty = false := by
    cases h : Wo.mg s with
    | nil => exact absurd h h0
    | cons => rfl
  simp only [Wo.decS, hem, ← hd]
  by_cases h1 : Lat.trimS digCs (Wo.mg s) = []
  · simp only [h1, go_sem, Nat.reduceMod, Nat.reduceBNe, Nat.reduceBEq, Nat.reduceEqDiff, Nat.reduceAdd, Int.reduceAdd, Nat.reduceMul, Nat.reduceSub, Int.reduceToNat, Int.reduceLE, Int.reduceLT, Int.reduceEq, Int.reduceNe, reduceCtorEq, Nat.reduceLT, Nat.reduceLeDiff]
    refine ⟨by omega, fun e => ?_, fun e => ?_⟩
    · rw [decide_eq_false (fun h => e ((u8_lit (b := 48) rfl).2 h))]
      rfl
    · rw [show (Wo.mg s).getD 0 0 = 48 from (u8_lit (b := 48) rfl).1 e]
      rfl
  · simp only [h1, go_sem, Nat.reduceMod, Nat.reduceBNe, Nat.reduceBEq, Nat.reduceEqDiff, Nat.reduceAdd, Int.reduceAdd, Nat.reduceMul, Nat.reduceSub, Int.reduceToNat, Int.reduceLE, Int.reduceLT, Int.reduceEq, Int.reduceNe, reduceCtorEq, Nat.reduceLT, Nat.reduceLeDiff]
end
end Go.Avm
