/- What the shelf's contracts say, at this seat's numbers. -/
import Derived.Test.YtbhdhlkjchgddaaGreatDoorAG2
import Derived.Test.YtbhdhlkjchgddaaGreatDoorAQ6
import Derived.Test.YtbhdhlkjchgddaaGreatDoorAB
import Derived.Test.YtbhdhlkjchgddaaGreatDoorA8
import Derived.Test.YtbhdhlkjchgddaaGreatDoorM2
import Derived.Shelf.Strings.Search1
import Derived.Shelf.Strings.Search2
import Derived.Shelf.Strings.Search3
import Derived.Shelf.Strconv.ParseIntPublic10
import Derived.Test.YtbhdhlkjchgddaaGreatDoorAW
set_option linter.unusedSectionVars false
set_option linter.unusedSimpArgs false
set_option linter.unusedVariables false

/- What the shelf's contracts say, at this seat's numbers. -/
namespace Go.Avm
open Go Go.Proofs Go.Shelf
def sRen : Ren where
  f := fun x => match x with | 129 => 138 | 171 => 38 | 174 => 75 | 205 => 153 | 217 => 156 | 219 => 144 | 224 => 158 | 225 => 157 | 243 => 71 | 245 => 104 | 246 => 96 | 247 => 103 | 266 => 163 | 267 => 159 | 279 => 132 | 280 => 133 | 281 => 134 | 282 => 135 | 283 => 116 | 284 => 117 | 285 => 118 | 286 => 119 | 287 => 131 | 314 => 164 | 316 => 152 | 317 => 137 | 318 => 139 | 319 => 140 | 320 => 141 | 321 => 150 | 322 => 151 | 337 => 154 | 338 => 155 | n => n
  t := fun x => match x with | 0 => 0 | 2 => 2 | 3 => 3 | 4 => 4 | 5 => 5 | 9 => 9 | 20 => 20 | 21 => 21 | 31 => 22 | 37 => 23 | 46 => 160 | 51 => 167 | 53 => 143 | 75 => 108 | 80 => 196 | 85 => 109 | 127 => 184 | 143 => 185 | 145 => 187 | 146 => 190 | 164 => 210 | 167 => 157 | 168 => 161 | 171 => 142 | 173 => 146 | 175 => 158 | 210 => 180 | 212 => 166 | 213 => 168 | 232 => 188 | 233 => 189 | n => n
  g := fun x => match x with | 1 => 4 | 15 => 2 | 16 => 3 | 17 => 0 | 18 => 5 | 19 => 6 | n => n
theorem sn217 : Lays.n217 Go.Proofs.Tryz.prog sRen := by
  constructor <;> first | kernel_rfl | (intro w; kernel_rfl) | (constructor <;> first | kernel_rfl | (intro w; kernel_rfl) | (constructor <;> first | kernel_rfl | (intro w; kernel_rfl)))
theorem sn219 : Lays.n219 Go.Proofs.Tryz.prog sRen := by
  constructor <;> first | kernel_rfl | (intro w; kernel_rfl) | (constructor <;> first | kernel_rfl | (intro w; kernel_rfl) | (constructor <;> first | kernel_rfl | (intro w; kernel_rfl)))
theorem sn174 : LaysC.n174 Go.Proofs.Tryz.prog sRen := by
  constructor <;> first | kernel_rfl | (intro w; kernel_rfl) | (constructor <;> first | kernel_rfl | (intro w; kernel_rfl) | (constructor <;> first | kernel_rfl | (intro w; kernel_rfl)))


theorem one_str {s : ByteArray} {c : UInt8} (h : s.data.toList = [c]) : s = ⟨#[c]⟩ := by
  cases s with
  | mk d =>
    congr
    exact Array.toList_inj.1 h
theorem tu8 (c : UInt8) : ((c.toNat : Int)).toNat.toUInt8 = c := by simp
section
variable {X : Cx} (hX : X.P = Go.Proofs.Tryz.prog)
include hX
theorem ev_IndexB (s : List UInt8) (c : UInt8) : Ev X F_stringslite_Index [.str s, .str [c]] (.int .i64 (Lib.indexByte s c)) := by
  refine ⟨⟨Go.Proofs.Tryz.f144, by rw [hX]; exact Go.Proofs.Tryz.func144, by decide, by kernel_rfl⟩, fun g w vs hwf hhr hvs => ?_⟩
  simp only [RelL, Rel] at hvs
  obtain ⟨v1, r1, rfl, ⟨s1, rfl, h1⟩, v2, r2, rfl, ⟨s2, rfl, h2⟩, rfl⟩ := hvs
  have e2 := one_str h2
  subst e2
  rw [hX]
  refine (Any.stringslite_Index_one sn219 s1 c w).mono ?_
  rintro e w' ⟨rfl, rfl⟩
  exact ⟨_, _, g, [], rfl, by simp only [Rel, h1], hwf, hhr, Ext.refl _ _, rfl, rfl⟩
theorem ev_sIndexByte (s : List UInt8) (c : UInt8) : Ev X F_stringslite_IndexByte [.str s, u8 c] (.int .i64 (Lib.indexByte s c)) := by
  refine ⟨⟨Go.Proofs.Tryz.f156, by rw [hX]; exact Go.Proofs.Tryz.func156, by decide, by kernel_rfl⟩, fun g w vs hwf hhr hvs => ?_⟩
  simp only [u8, RelL, Rel] at hvs
  obtain ⟨v1, r1, rfl, ⟨s1, rfl, h1⟩, v2, r2, rfl, rfl, rfl⟩ := hvs
  rw [hX]
  refine (Any.stringslite_IndexByte sn217 s1 (c.toNat : Int) w).mono ?_
  rintro e w' ⟨rfl, rfl⟩
  exact ⟨_, _, g, [], rfl, by simp only [Rel, h1, tu8], hwf, hhr, Ext.refl _ _, rfl, rfl⟩
theorem ev_IndexByte (hs : Std X) (s : List UInt8) (c : UInt8) : Ev X F_strings_IndexByte [.str s, u8 c] (.int .i64 (Lib.indexByte s c)) := by
  refine ev_of_wpc hs (A_strings_IndexByte_ok hX) 0 ?_
  simp only [A_strings_IndexByte, go_sem, Nat.reduceMod, Nat.reduceBNe, Nat.reduceBEq, Nat.reduceEqDiff, Nat.reduceAdd, Int.reduceAdd, Nat.reduceMul, Nat.reduceSub, Int.reduceToNat, Int.reduceLE, Int.reduceLT, Int.reduceEq, Int.reduceNe, reduceCtorEq, Nat.reduceLT, Nat.reduceLeDiff]
  refine call_ev (ev_sIndexByte hX s c) ?_
  simp only [go_sem, Nat.reduceMod, Nat.reduceBNe, Nat.reduceBEq, Nat.reduceEqDiff, Nat.reduceAdd, Int.reduceAdd, Nat.reduceMul, Nat.reduceSub, Int.reduceToNat, Int.reduceLE, Int.reduceLT, Int.reduceEq, Int.reduceNe, reduceCtorEq, Nat.reduceLT, Nat.reduceLeDiff]
/-- what ParseInt returns -/
def prsI (s : List UInt8) : AV := if -9223372036854775808 ≤ Wo.valS s ∧ Wo.valS s ≤ 9223372036854775807 then .tuple [.int .i64 (Wo.valS s), .nilI] else .tuple [.int .i64 (Lib.intSat 64 s), .ifc (sRen.t 168) .undef]
theorem ev_ParseInt {te : Nat} (hR : X.G (sRen.g 16) = some [.ifc te .undef]) (s : List UInt8) (hd : Wo.decS s = true) (hl : s.length < 1000000) : Ev X F_strconv_ParseInt [.str s, .int .i64 10, .int .i64 64] (prsI s) := by
  refine ev_below ⟨Go.Proofs.Tryz.f75, by rw [hX]; exact Go.Proofs.Tryz.func75, by decide, by kernel_rfl⟩ fun g w vs hwf hvs => ?_
  simp only [RelL, Rel] at hvs
  obtain ⟨v1, r1, rfl, ⟨s1, rfl, h1⟩, v2, r2, rfl, rfl, v3, r3, rfl, rfl, rfl⟩ := hvs
  rw [hX]
  have hp := Wo.parseI hd
  rw [← h1] at hp hl
  have hsz : s1.size < 1000000 := by
    have : s1.size = s1.data.toList.length := by simp
    omega
  unfold prsI
  rw [← h1]
  by_cases hv : -9223372036854775808 ≤ Wo.valS s1.data.toList ∧ Wo.valS s1.data.toList ≤ 9223372036854775807
  · rw [if_pos hv] at hp ⊢
    refine (Any.strconv_ParseInt_10_at64_ok sn174 s1 (by omega) _ hp w).mono ?_
    rintro e w' ⟨rfl, hw⟩
    refine ⟨_, rfl, fun g => ?_, ?_⟩
    · simp only [Rel, RelL]
      exact ⟨_, rfl, _, _, rfl, rfl, _, _, rfl, rfl, rfl⟩
    · rcases hw with rfl | ⟨t, rfl⟩
      · exact RowKit.Below.refl _ _
      · exact Lib.bytesWorld_below _ _ _
  · rw [if_neg hv] at hp ⊢
    have hl := hwf.laid _ _ hR
    simp only [Rel] at hl
    obtain ⟨b, o, vs, e1, e2, e3⟩ := hl
    simp only [RelL, Rel] at e2
    obtain ⟨v, vr, rfl, ⟨u, rfl, _⟩, rfl⟩ := e2
    simp only [Value.pointer.injEq, Option.some.injEq, Addr.mk.injEq, and_true] at e1
    obtain ⟨rfl, rfl⟩ := e1
    have hc := (e3 0 _ rfl).2
    refine (Any.strconv_ParseInt_10_at64_range sn174 s1 (by omega) hp _ w hc (.inr ⟨_, _, rfl⟩)).mono ?_
    rintro e w' ⟨M, rfl, _, _, hw⟩
    refine ⟨_, rfl, fun g => ?_, hw⟩
    simp only [Rel, RelL]
    exact ⟨_, rfl, _, _, rfl, rfl, _, _, rfl, ⟨_, rfl, trivial⟩, rfl⟩
end
end Go.Avm

/- Numerals and joined strings here. -/
namespace Go.Avm
open Go Go.Proofs Go.Shelf
/-- the table of powers of ten -/
def tabP : List AV := Lib.pow10Tab.map (AV.int .u64)
theorem st171 : LaysM.n171 Go.Proofs.Tryz.prog sRen := by
  constructor <;> first | kernel_rfl | (intro w; kernel_rfl) | (constructor <;> first | kernel_rfl | (intro w; kernel_rfl) | (constructor <;> first | kernel_rfl | (intro w; kernel_rfl)))
section
variable {X : Cx} (hX : X.P = Go.Proofs.Tryz.prog)
include hX
theorem ev_Itoa (hP : X.G (sRen.g 17) = some tabP) (n : Int) (h : -9223372036854775808 ≤ n ∧ n ≤ 9223372036854775807) : Ev X F_strconv_Itoa [.int .i64 n] (.str (Lib.itoa n)) :=
  ev_s_Itoa (X := X) (ρ := sRen) (by rw [hX]; exact st171) (by rw [hX]; kernel_rfl) hP n h
end
end Go.Avm

/- Plain bytes, the table of escapes, forms of bytes. -/
namespace Go.Avm
open Go
theorem plain_i (c : UInt8) : Wo.plainB c = (decide (32 ≤ (c.toNat : Int)) && decide ((c.toNat : Int) ≤ 126) && !decide ((c.toNat : Int) = 34) && !decide ((c.toNat : Int) = 92)) := by
  simp only [Wo.plainB]
  congr 1
  · congr 1
    · congr 1 <;> · rw [Bool.eq_iff_iff, decide_eq_true_eq, decide_eq_true_eq]; omega
    · rw [Bool.eq_iff_iff, Bool.not_eq_true', Bool.not_eq_true', decide_eq_false_iff_not, decide_eq_false_iff_not]; omega
  · rw [Bool.eq_iff_iff, Bool.not_eq_true', Bool.not_eq_true', decide_eq_false_iff_not, decide_eq_false_iff_not]; omega
theorem u8_eq {a b : UInt8} : ((a.toNat : Int) = (b.toNat : Int)) ↔ a = b := ⟨fun h => UInt8.toNat_inj.1 (by omega), fun h => by rw [h]⟩
theorem u8_lit {a b : UInt8} {n : Int} (h : n = (b.toNat : Int)) : ((a.toNat : Int) = n) ↔ a = b := by rw [h]; exact u8_eq
/-- the table of escapes -/
def tabE : List AV := [.int .u8 34, .int .u8 34, .int .u8 92, .int .u8 92, .int .u8 10, .int .u8 110, .int .u8 13, .int .u8 114, .int .u8 9, .int .u8 116]
def eK (i : Nat) : UInt8 := [34, 92, 10, 13, 9].getD i 0
def eL (i : Nat) : UInt8 := [34, 92, 110, 114, 116].getD i 0
theorem tabE_at {i : Nat} (h : i < 5) : (tabE.drop (i * 2)).take 2 = [.int .u8 ((eK i).toNat : Int), .int .u8 ((eL i).toNat : Int)] := by
  match i, h with
  | 0, _ | 1, _ | 2, _ | 3, _ | 4, _ => rfl
theorem letB_tab {i : Nat} (h : i < 5) : Wo.letB (eK i) = eL i ∧ Wo.unl (eL i) = some (eK i) := by
  match i, h with
  | 0, _ | 1, _ | 2, _ | 3, _ | 4, _ => decide
theorem letB_no {c : UInt8} (h : ∀ k, k < 5 → c ≠ eK k) : Wo.letB c = 0 := by
  have h0 : c ≠ 34 := h 0 (by decide)
  have h1 : c ≠ 92 := h 1 (by decide)
  have h2 : c ≠ 10 := h 2 (by decide)
  have h3 : c ≠ 13 := h 3 (by decide)
  have h4 : c ≠ 9 := h 4 (by decide)
  rw [Wo.letB, if_neg h0, if_neg h1, if_neg h2, if_neg h3, if_neg h4]
theorem unl_no {c : UInt8} (h : ∀ k, k < 5 → c ≠ eL k) : Wo.unl c = none := by
  have h0 : c ≠ 34 := h 0 (by decide)
  have h1 : c ≠ 92 := h 1 (by decide)
  have h2 : c ≠ 110 := h 2 (by decide)
  have h3 : c ≠ 114 := h 3 (by decide)
  have h4 : c ≠ 116 := h 4 (by decide)
  rw [Wo.unl, if_neg h0, if_neg h1, if_neg h2, if_neg h3, if_neg h4]
theorem ne_step {f : Nat → UInt8} {c : UInt8} {i : Nat} (h : ∀ k, k < i → c ≠ f k) (h2 : c ≠ f i) : ∀ k, k < i + 1 → c ≠ f k := fun k hk => by
  rcases Nat.lt_or_ge k i with h' | h'
  · exact h k h'
  · rw [show k = i by omega]; exact h2
/-- digits of base 16 -/
def hexs : List UInt8 := [48, 49, 50, 51, 52, 53, 54, 55, 56, 57, 97, 98, 99, 100, 101, 102]
theorem hexs_at {n : Nat} (h : n < 16) : hexs.getD n 0 = Wo.hexd n := by
  have : ∀ n, n < 16 → hexs.getD n 0 = Wo.hexd n := by decide
  exact this n h
theorem hexs_idx (c : UInt8) : Lib.indexByte hexs c = match Wo.hexv c with | some n => (n : Int) | none => -1 := by
  have : ∀ n, n < 256 → Lib.indexByte hexs (UInt8.ofNat n) = match Wo.hexv (UInt8.ofNat n) with | some n => (n : Int) | none => -1 := by decide +kernel
  have := this c.toNat c.toNat_lt
  simpa using this
theorem bs_1 (p : Perm) (a : UInt8) : b2sX (.sl p [.int .u8 (a.toNat : Int)]) = some (true, .str [a], none) := bs_l p [a]
theorem bs_2 (p : Perm) (a b : UInt8) : b2sX (.sl p [.int .u8 (a.toNat : Int), .int .u8 (b.toNat : Int)]) = some (true, .str [a, b], none) := bs_l p [a, b]
def bareC (c : UInt8) : Bool := Wo.plainB c && !decide (c = 32)
theorem bare_no {s : List UInt8} {i : Nat} (hi : i < s.length) (h : bareC (s.getD i 0) = false) : Wo.bareB s = false := by
  rw [Wo.bareB, Bool.and_eq_false_iff]
  right
  rw [List.all_eq_false]
  refine ⟨s[i], List.getElem_mem _, ?_⟩
  rw [List.getD_eq_getElem?_getD, List.getElem?_eq_getElem hi] at h
  simpa [bareC] using h
theorem bare_all {s : List UInt8} (h : ∀ k, k < s.length → bareC (s.getD k 0) = true) : Wo.bareB s = !s.isEmpty := by
  have : (s.all fun c => Wo.plainB c && !decide (c = 32)) = true := by
    rw [List.all_eq_true]
    intro x hx
    obtain ⟨k, hk, e⟩ := List.getElem_of_mem hx
    have := h k hk
    rw [List.getD_eq_getElem?_getD, List.getElem?_eq_getElem hk] at this
    simpa [bareC, e] using this
  rw [Wo.bareB, this, Bool.and_true]
def gEsc : Nat := 1
set_option maxRecDepth 10000
section
variable {X : Cx} (hX : X.P = Go.Proofs.Tryz.prog) (hs : Std X)
include hX hs
theorem ev_isPlain (c : UInt8) : Ev X F_words_isPlain [u8 c] (.bool (Wo.plainB c)) := by
  refine ev_of_wpc hs (A_words_isPlain_ok hX) 0 ?_
  rw [plain_i]
  simp only [A_words_isPlain, go_sem, Nat.reduceMod, Nat.reduceBNe, Nat.reduceBEq, Nat.reduceEqDiff, Nat.reduceAdd, Int.reduceAdd, Nat.reduceMul, Nat.reduceSub, Int.reduceToNat, Int.reduceLE, Int.reduceLT, Int.reduceEq, Int.reduceNe, reduceCtorEq, Nat.reduceLT, Nat.reduceLeDiff]
  grind
theorem ev_letterOf (hE : X.G gEsc = some tabE) (c : UInt8) : Ev X F_words_letterOf [u8 c] (u8 (Wo.letB c)) := by
  refine ev_of_wpc hs (A_words_letterOf_ok hX) 0 ?_
  have e10 : tabE.take 10 = tabE := rfl
  have l10 : tabE.length = 10 := rfl
  unfold gEsc at hE
  simp only [A_words_letterOf, go_sem, Nat.reduceMod, Nat.reduceBNe, Nat.reduceBEq, Nat.reduceEqDiff, Nat.reduceAdd, Int.reduceAdd, Nat.reduceMul, Nat.reduceSub, Int.reduceToNat, Int.reduceLE, Int.reduceLT, Int.reduceEq, Int.reduceNe, reduceCtorEq, Nat.reduceLT, Nat.reduceLeDiff, hE, e10, l10]
  refine w_loop' hs.hm (ι := Nat × List Blk) (fun x => x.1 ≤ 5 ∧ ∀ k, k < x.1 → c ≠ eK k) (fun x => [(6, .int .i64 x.1), (5, .agg tabE), (0, u8 c)]) (fun x => x.2) (fun x => 5 - x.1) (0, []) ?_ fun x hx => ?_
  · simp only [go_sem, Nat.reduceMod, Nat.reduceBNe, Nat.reduceBEq, Nat.reduceEqDiff, Nat.reduceAdd, Int.reduceAdd, Nat.reduceMul, Nat.reduceSub, Int.reduceToNat, Int.reduceLE, Int.reduceLT, Int.reduceEq, Int.reduceNe, reduceCtorEq, Nat.reduceLT, Nat.reduceLeDiff]
    exact no_lt0
  obtain ⟨i, R⟩ := x
  obtain ⟨i1, i2⟩ := hx
  simp only at i1 i2
  simp only [A_words_letterOfL0, go_sem, Nat.reduceMod, Nat.reduceBNe, Nat.reduceBEq, Nat.reduceEqDiff, Nat.reduceAdd, Int.reduceAdd, Nat.reduceMul, Nat.reduceSub, Int.reduceToNat, Int.reduceLE, Int.reduceLT, Int.reduceEq, Int.reduceNe, reduceCtorEq, Nat.reduceLT, Nat.reduceLeDiff]
  refine ⟨fun hc => ?_, fun hc => ?_⟩
  · have hi : i < 5 := by omega
    simp only [tabE_at hi, go_sem, Nat.reduceMod, Nat.reduceBNe, Nat.reduceBEq, Nat.reduceEqDiff, Nat.reduceAdd, Int.reduceAdd, Nat.reduceMul, Nat.reduceSub, Int.reduceToNat, Int.reduceLE, Int.reduceLT, Int.reduceEq, Int.reduceNe, reduceCtorEq, Nat.reduceLT, Nat.reduceLeDiff]
    refine ⟨⟨by omega, hc⟩, fun e => ?_, fun e => ?_⟩
    · have : c = eK i := (u8_eq.1 e).symm
      rw [this, (letB_tab hi).1]
    · have : c ≠ eK i := fun h => e (by rw [h])
      exact ⟨(i + 1, _), by simp only; omega, ⟨by simp only; omega, ne_step i2 this⟩, by rw [wi64 (by omega)]; rfl, rfl⟩
  · rw [letB_no (fun k hk => i2 k (by omega))]
    rfl
theorem ev_isBare (s : List UInt8) (hl : s.length < 1000000) : Ev X F_words_isBare [.str s] (.bool (Wo.bareB s)) := by
  refine ev_of_wpc hs (A_words_isBare_ok hX) 0 ?_
  simp only [A_words_isBare, go_sem, Nat.reduceMod, Nat.reduceBNe, Nat.reduceBEq, Nat.reduceEqDiff, Nat.reduceAdd, Int.reduceAdd, Nat.reduceMul, Nat.reduceSub, Int.reduceToNat, Int.reduceLE, Int.reduceLT, Int.reduceEq, Int.reduceNe, reduceCtorEq, Nat.reduceLT, Nat.reduceLeDiff]
  refine w_loop' hs.hm (ι := Nat) (fun i => i ≤ s.length ∧ ∀ k, k < i → bareC (s.getD k 0) = true) (fun i => [(6, .int .i64 i), (5, .int .i64 s.length), (0, .str s)]) (fun _ => []) (fun i => s.length - i) 0 ?_ fun i hi => ?_
  · simp only [go_sem, Nat.reduceMod, Nat.reduceBNe, Nat.reduceBEq, Nat.reduceEqDiff, Nat.reduceAdd, Int.reduceAdd, Nat.reduceMul, Nat.reduceSub, Int.reduceToNat, Int.reduceLE, Int.reduceLT, Int.reduceEq, Int.reduceNe, reduceCtorEq, Nat.reduceLT, Nat.reduceLeDiff]
    exact ⟨Nat.zero_le _, no_lt0⟩
  obtain ⟨i1, i2⟩ := hi
  simp only [A_words_isBareL0, go_sem, Nat.reduceMod, Nat.reduceBNe, Nat.reduceBEq, Nat.reduceEqDiff, Nat.reduceAdd, Int.reduceAdd, Nat.reduceMul, Nat.reduceSub, Int.reduceToNat, Int.reduceLE, Int.reduceLT, Int.reduceEq, Int.reduceNe, reduceCtorEq, Nat.reduceLT, Nat.reduceLeDiff]
  refine ⟨fun c => ⟨by omega, call_ev (ev_isPlain hX hs (s.getD i 0)) ?_⟩, fun c => ?_⟩
  · cases hp : Wo.plainB (s.getD i 0) with
    | false =>
      simp only [go_sem, Nat.reduceMod, Nat.reduceBNe, Nat.reduceBEq, Nat.reduceEqDiff, Nat.reduceAdd, Int.reduceAdd, Nat.reduceMul, Nat.reduceSub, Int.reduceToNat, Int.reduceLE, Int.reduceLT, Int.reduceEq, Int.reduceNe, reduceCtorEq, Nat.reduceLT, Nat.reduceLeDiff]
      rw [bare_no (i := i) (by omega) (by simp only [bareC, hp, Bool.false_and])]
    | true =>
      simp only [go_sem, Nat.reduceMod, Nat.reduceBNe, Nat.reduceBEq, Nat.reduceEqDiff, Nat.reduceAdd, Int.reduceAdd, Nat.reduceMul, Nat.reduceSub, Int.reduceToNat, Int.reduceLE, Int.reduceLT, Int.reduceEq, Int.reduceNe, reduceCtorEq, Nat.reduceLT, Nat.reduceLeDiff]
      refine ⟨by omega, fun e => ?_, fun e => ?_⟩
      · rw [bare_no (i := i) (by omega) (by simp only [bareC, hp, (u8_lit (b := 32) rfl).1 e]; rfl)]
      · exact nxt1 (by omega) i2 (by simp only [bareC, hp, decide_eq_false (fun h => e ((u8_lit (b := 32) rfl).2 h))]; rfl) (by omega)
  · rw [bare_all (fun k hk => i2 k (by omega))]
    cases s <;> simp
end
end Go.Avm

/- Quoted forms: what is read. -/
namespace Go.Avm
open Go
theorem or_hex {x y : Nat} (hx : x < 16) (hy : y < 16) : bits .or .i64 (IntKind.i64.wrap ((x : Int) * 2 ^ (min 4 64))) (y : Int) = ((16 * x + y : Nat) : Int) := by
  have : ∀ x : Nat, x < 16 → ∀ y : Nat, y < 16 → bits .or .i64 (IntKind.i64.wrap ((x : Int) * 2 ^ (min 4 64))) (y : Int) = ((16 * x + y : Nat) : Int) := by decide +kernel
  exact this x hx y hy
set_option maxRecDepth 10000
section
variable {X : Cx} (hX : X.P = Go.Proofs.Tryz.prog) (hs : Std X) (hE : X.G gEsc = some tabE)
include hX hs hE
theorem ev_unescape (s : List UInt8) : Ev X F_words_unescape [.str s] (.tuple [u8 (Wo.une s).1, .int .i64 (Wo.une s).2]) := by
  refine ev_of_wpc hs (A_words_unescape_ok hX) 0 ?_
  have e10 : tabE.take 10 = tabE := rfl
  have l10 : tabE.length = 10 := rfl
  have hE' := hE
  unfold gEsc at hE'
  cases s with
  | nil => simp only [A_words_unescape, go_sem, Nat.reduceMod, Nat.reduceBNe, Nat.reduceBEq, Nat.reduceEqDiff, Nat.reduceAdd, Int.reduceAdd, Nat.reduceMul, Nat.reduceSub, Int.reduceToNat, Int.reduceLE, Int.reduceLT, Int.reduceEq, Int.reduceNe, reduceCtorEq, Nat.reduceLT, Nat.reduceLeDiff]; rfl
  | cons b r =>
  simp only [A_words_unescape, go_sem, Nat.reduceMod, Nat.reduceBNe, Nat.reduceBEq, Nat.reduceEqDiff, Nat.reduceAdd, Int.reduceAdd, Nat.reduceMul, Nat.reduceSub, Int.reduceToNat, Int.reduceLE, Int.reduceLT, Int.reduceEq, Int.reduceNe, reduceCtorEq, Nat.reduceLT, Nat.reduceLeDiff, hE', e10, l10]
  refine w_loop' hs.hm (ι := Nat × List Blk) (fun x => x.1 ≤ 5 ∧ ∀ k, k < x.1 → b ≠ eL k) (fun x => [(12, .int .i64 x.1), (11, .agg tabE), (0, .str (b :: r))]) (fun x => x.2) (fun x => 5 - x.1) (0, []) ?_ fun x hx => ?_
  · simp only [go_sem, Nat.reduceMod, Nat.reduceBNe, Nat.reduceBEq, Nat.reduceEqDiff, Nat.reduceAdd, Int.reduceAdd, Nat.reduceMul, Nat.reduceSub, Int.reduceToNat, Int.reduceLE, Int.reduceLT, Int.reduceEq, Int.reduceNe, reduceCtorEq, Nat.reduceLT, Nat.reduceLeDiff]
    exact no_lt0
  obtain ⟨i, R⟩ := x
  obtain ⟨i1, i2⟩ := hx
  simp only at i1 i2
  simp only [A_words_unescapeL0, go_sem, Nat.reduceMod, Nat.reduceBNe, Nat.reduceBEq, Nat.reduceEqDiff, Nat.reduceAdd, Int.reduceAdd, Nat.reduceMul, Nat.reduceSub, Int.reduceToNat, Int.reduceLE, Int.reduceLT, Int.reduceEq, Int.reduceNe, reduceCtorEq, Nat.reduceLT, Nat.reduceLeDiff]
  refine ⟨fun hc => ?_, fun hc => ?_⟩
  · have hi : i < 5 := by omega
    simp only [tabE_at hi, go_sem, Nat.reduceMod, Nat.reduceBNe, Nat.reduceBEq, Nat.reduceEqDiff, Nat.reduceAdd, Int.reduceAdd, Nat.reduceMul, Nat.reduceSub, Int.reduceToNat, Int.reduceLE, Int.reduceLT, Int.reduceEq, Int.reduceNe, reduceCtorEq, Nat.reduceLT, Nat.reduceLeDiff]
    refine ⟨⟨by omega, hc⟩, by simp, fun e => ?_, fun e => ?_⟩
    · have hb : b = eL i := (u8_eq.1 e).symm
      simp only [Wo.une, hb, (letB_tab hi).2]
      rfl
    · have : b ≠ eL i := fun h => e (by rw [h])
      exact ⟨(i + 1, _), by simp only; omega, ⟨by simp only; omega, ne_step i2 this⟩, by rw [wi64 (by omega)]; rfl, rfl⟩
  · have hu : Wo.unl b = none := unl_no (fun k hk => i2 k (by omega))
    refine ⟨by omega, fun e => ?_, fun e => ⟨fun e2 => ?_, fun e2 => ?_⟩⟩
    · have hb : ¬ b = 120 := fun h => e ((u8_lit (b := 120) rfl).2 h)
      simp only [Wo.une, hu, if_neg hb]
      rfl
    · have hb : b = 120 := (u8_lit (b := 120) rfl).1 e
      simp only [Wo.une, hu, if_pos hb]
      match r, e2 with
      | [], _ => rfl
      | [_], _ => rfl
      | _ :: _ :: _, e2 => simp at e2; omega
    · have hb : b = 120 := (u8_lit (b := 120) rfl).1 e
      simp only [Wo.une, hu, if_pos hb]
      match r, e2 with
      | [], e2 => simp at e2
      | [_], e2 => simp at e2
      | h :: l :: t, _ =>
        have hi1 : Lib.indexByte [48, 49, 50, 51, 52, 53, 54, 55, 56, 57, 97, 98, 99, 100, 101, 102] h = match Wo.hexv h with | some n => (n : Int) | none => -1 := hexs_idx h
        have hi2 : Lib.indexByte [48, 49, 50, 51, 52, 53, 54, 55, 56, 57, 97, 98, 99, 100, 101, 102] l = match Wo.hexv l with | some n => (n : Int) | none => -1 := hexs_idx l
        refine ⟨by simp; omega, callq_ev (ev_IndexByte hX hs _ h) ?_⟩
        simp only [go_sem, Nat.reduceMod, Nat.reduceBNe, Nat.reduceBEq, Nat.reduceEqDiff, Nat.reduceAdd, Int.reduceAdd, Nat.reduceMul, Nat.reduceSub, Int.reduceToNat, Int.reduceLE, Int.reduceLT, Int.reduceEq, Int.reduceNe, reduceCtorEq, Nat.reduceLT, Nat.reduceLeDiff]
        refine ⟨by simp; omega, callq_ev (ev_IndexByte hX hs _ l) ?_⟩
        rw [hi1, hi2]
        cases h1 : Wo.hexv h with
        | none => simp only [go_sem, Nat.reduceMod, Nat.reduceBNe, Nat.reduceBEq, Nat.reduceEqDiff, Nat.reduceAdd, Int.reduceAdd, Nat.reduceMul, Nat.reduceSub, Int.reduceToNat, Int.reduceLE, Int.reduceLT, Int.reduceEq, Int.reduceNe, reduceCtorEq, Nat.reduceLT, Nat.reduceLeDiff, Wo.hx2, h1]; rfl
        | some x =>
          cases h2 : Wo.hexv l with
          | none =>
            simp only [go_sem, Nat.reduceMod, Nat.reduceBNe, Nat.reduceBEq, Nat.reduceEqDiff, Nat.reduceAdd, Int.reduceAdd, Nat.reduceMul, Nat.reduceSub, Int.reduceToNat, Int.reduceLE, Int.reduceLT, Int.reduceEq, Int.reduceNe, reduceCtorEq, Nat.reduceLT, Nat.reduceLeDiff, Wo.hx2, h1, h2]
            exact ⟨fun _ => rfl, fun _ => rfl⟩
          | some y =>
            have hx := (Wo.hexd_hexv h1).1
            have hy := (Wo.hexd_hexv h2).1
            have ew : IntKind.u8.wrap ((16 * x + y : Nat) : Int) = (((UInt8.ofNat (16 * x + y)).toNat : Nat) : Int) := by rw [wu8 (by omega), UInt8.toNat_ofNat', Nat.mod_eq_of_lt (by omega)]
            simp only [go_sem, Nat.reduceMod, Nat.reduceBNe, Nat.reduceBEq, Nat.reduceEqDiff, Nat.reduceAdd, Int.reduceAdd, Nat.reduceMul, Nat.reduceSub, Int.reduceToNat, Int.reduceLE, Int.reduceLT, Int.reduceEq, Int.reduceNe, reduceCtorEq, Nat.reduceLT, Nat.reduceLeDiff, or_hex hx hy, ew]
            refine ⟨fun h => by omega, fun _ => ⟨fun h => by omega, fun _ => ?_⟩⟩
            have e3 : Wo.hx2 (h :: l :: t) = if Wo.plainB (UInt8.ofNat (16 * x + y)) || decide (Wo.letB (UInt8.ofNat (16 * x + y)) ≠ 0) then (0, 0) else (UInt8.ofNat (16 * x + y), 3) := by simp only [Wo.hx2, h1, h2]
            rw [e3]
            generalize UInt8.ofNat (16 * x + y) = c at *
            refine call_ev (ev_isPlain hX hs c) ?_
            cases hp : Wo.plainB c with
            | true =>
              simp only [go_sem, Nat.reduceMod, Nat.reduceBNe, Nat.reduceBEq, Nat.reduceEqDiff, Nat.reduceAdd, Int.reduceAdd, Nat.reduceMul, Nat.reduceSub, Int.reduceToNat, Int.reduceLE, Int.reduceLT, Int.reduceEq, Int.reduceNe, reduceCtorEq, Nat.reduceLT, Nat.reduceLeDiff]
              rfl
            | false =>
              simp only [go_sem, Nat.reduceMod, Nat.reduceBNe, Nat.reduceBEq, Nat.reduceEqDiff, Nat.reduceAdd, Int.reduceAdd, Nat.reduceMul, Nat.reduceSub, Int.reduceToNat, Int.reduceLE, Int.reduceLT, Int.reduceEq, Int.reduceNe, reduceCtorEq, Nat.reduceLT, Nat.reduceLeDiff]
              refine call_ev (ev_letterOf hX hs hE c) ?_
              simp only [go_sem, Nat.reduceMod, Nat.reduceBNe, Nat.reduceBEq, Nat.reduceEqDiff, Nat.reduceAdd, Int.reduceAdd, Nat.reduceMul, Nat.reduceSub, Int.reduceToNat, Int.reduceLE, Int.reduceLT, Int.reduceEq, Int.reduceNe, reduceCtorEq, Nat.reduceLT, Nat.reduceLeDiff]
              refine ⟨fun h => ?_, fun h => ?_⟩
              · have : Wo.letB c ≠ 0 := fun h' => h (by rw [h']; rfl)
                rw [if_pos this]
                rfl
              · have : Wo.letB c = 0 := (u8_lit (b := 0) rfl).1 h
                rw [if_neg (fun h' => h' this)]
                rfl
theorem ev_unquote (s : List UInt8) (hl : s.length < 1000000) : Ev X F_words_unquote [.str s] (.tuple [.str (Wo.unqS s).1, .int .i64 (Wo.unqS s).2]) := by
  refine ev_of_wpc hs (A_words_unquote_ok hX) 0 ?_
  by_cases h0 : s = []
  · subst h0
    simp only [A_words_unquote, go_sem, Nat.reduceMod, Nat.reduceBNe, Nat.reduceBEq, Nat.reduceEqDiff, Nat.reduceAdd, Int.reduceAdd, Nat.reduceMul, Nat.reduceSub, Int.reduceToNat, Int.reduceLE, Int.reduceLT, Int.reduceEq, Int.reduceNe, reduceCtorEq, Nat.reduceLT, Nat.reduceLeDiff]
    rfl
  have hp : 0 < s.length := List.length_pos_iff.2 h0
  simp only [A_words_unquote, go_sem, Nat.reduceMod, Nat.reduceBNe, Nat.reduceBEq, Nat.reduceEqDiff, Nat.reduceAdd, Int.reduceAdd, Nat.reduceMul, Nat.reduceSub, Int.reduceToNat, Int.reduceLE, Int.reduceLT, Int.reduceEq, Int.reduceNe, reduceCtorEq, Nat.reduceLT, Nat.reduceLeDiff, h0]
  refine ⟨by omega, fun e => ?_, fun e => ?_⟩
  · rw [Wo.unqS_no (fun h => e ((u8_lit (b := 34) rfl).2 h))]
    rfl
  have h34 : s.getD 0 0 = 34 := (u8_lit (b := 34) rfl).1 e
  refine w_loop hs.hm (ι := Nat × Nat × List UInt8) (fun x => x.2.1 ≤ s.length ∧ 0 < x.1 ∧ s.length - x.2.1 < x.1 ∧ x.2.2.length < x.2.1 ∧ Wo.unqS s = Wo.cmb x.2.2 x.2.1 (Wo.unqL x.1 (s.drop x.2.1))) (fun x => [(5, .int .i64 x.2.1), (4, lst u8 (.tok 0 1) x.2.2), (0, .str s)]) (fun x => [.tok x.2.2.length]) (fun x => s.length - x.2.1) (s.length + 1, 1, []) ⟨⟨by simp only; omega, by simp only; omega, by simp only; omega, by simp, Wo.unqS_cmb h34⟩, _, _, wk_tok 4 1 rfl, ⟨by simp only [go_sem, Nat.reduceMod, Nat.reduceBNe, Nat.reduceBEq, Nat.reduceEqDiff, Nat.reduceAdd, Int.reduceAdd, Nat.reduceMul, Nat.reduceSub, Int.reduceToNat, Int.reduceLE, Int.reduceLT, Int.reduceEq, Int.reduceNe, reduceCtorEq, Nat.reduceLT, Nat.reduceLeDiff]; rfl, rfl⟩⟩ fun x hx => ?_
  obtain ⟨F, i, b⟩ := x
  obtain ⟨c1, c2, c3, c4, c5⟩ := hx
  simp only at c1 c2 c3 c4 c5
  obtain ⟨F, rfl⟩ : ∃ G, F = G + 1 := ⟨F - 1, by omega⟩
  simp only [A_words_unquoteL0, go_sem, Nat.reduceMod, Nat.reduceBNe, Nat.reduceBEq, Nat.reduceEqDiff, Nat.reduceAdd, Int.reduceAdd, Nat.reduceMul, Nat.reduceSub, Int.reduceToNat, Int.reduceLE, Int.reduceLT, Int.reduceEq, Int.reduceNe, reduceCtorEq, Nat.reduceLT, Nat.reduceLeDiff]
  refine ⟨fun c => ?_, fun c => ?_⟩
  · have hi : i < s.length := by omega
    have hst := Wo.step_at hi
    refine ⟨by omega, fun e => ?_, fun e => ?_⟩
    · rw [c5, Wo.unq_end hi ((u8_lit (b := 34) rfl).1 e), wi64 (by omega)]
      rfl
    have n34 : ¬ s.getD i 0 = 34 := fun h => e ((u8_lit (b := 34) rfl).2 h)
    refine ⟨fun e2 => ?_, fun e2 => ?_⟩
    · rw [if_pos ((u8_lit (b := 92) rfl).1 e2)] at hst
      rw [wi64 (by omega)]
      refine ⟨by omega, ?_⟩
      rw [List.take_length, show ((i : Int) + 1).toNat = i + 1 by omega]
      refine call_ev (ev_unescape hX hs hE (s.drop (i + 1))) ?_
      simp only [go_sem, Nat.reduceMod, Nat.reduceBNe, Nat.reduceBEq, Nat.reduceEqDiff, Nat.reduceAdd, Int.reduceAdd, Nat.reduceMul, Nat.reduceSub, Int.reduceToNat, Int.reduceLE, Int.reduceLT, Int.reduceEq, Int.reduceNe, reduceCtorEq, Nat.reduceLT, Nat.reduceLeDiff]
      refine ⟨fun e3 => ?_, fun e3 => ?_⟩
      · rw [if_pos (by omega)] at hst
        rw [c5, Wo.unq_bad hi n34 hst]
        rfl
      · rw [if_neg (by omega)] at hst
        have hk := (Wo.step_le hst).2.2
        rw [List.length_drop] at hk
        refine ⟨by omega, (F, i + ((Wo.une (s.drop (i + 1))).2 + 1), b ++ [(Wo.une (s.drop (i + 1))).1]), by simp only; omega, ⟨by simp only; omega, by simp only; omega, by simp only; omega, by simp only [List.length_append, List.length_singleton]; omega, by rw [c5, Wo.unq_next hi n34 hst]⟩, ⟨?_, rfl⟩, by simp only [List.length_append, List.length_singleton]⟩
        simp only
        congr 1
        rw [wi64 (n := (i : Int) + _) (by omega), wi64 (by omega)]
        omega
    · rw [if_neg (fun h => e2 ((u8_lit (b := 92) rfl).2 h))] at hst
      refine call_ev (ev_isPlain hX hs (s.getD i 0)) ?_
      cases hp : Wo.plainB (s.getD i 0) with
      | true =>
        rw [if_pos hp] at hst
        simp only [go_sem, Nat.reduceMod, Nat.reduceBNe, Nat.reduceBEq, Nat.reduceEqDiff, Nat.reduceAdd, Int.reduceAdd, Nat.reduceMul, Nat.reduceSub, Int.reduceToNat, Int.reduceLE, Int.reduceLT, Int.reduceEq, Int.reduceNe, reduceCtorEq, Nat.reduceLT, Nat.reduceLeDiff]
        refine ⟨by omega, (F, i + (1), b ++ [s.getD i 0]), by simp only; omega, ⟨by simp only; omega, by simp only; omega, by simp only; omega, by simp only [List.length_append, List.length_singleton]; omega, by rw [c5, Wo.unq_next hi n34 hst]⟩, ⟨?_, rfl⟩, by simp only [List.length_append, List.length_singleton]⟩
        simp only
        congr 1
        rw [wi64 (by omega)]
        omega
      | false =>
        rw [if_neg (by rw [hp]; decide)] at hst
        simp only [go_sem, Nat.reduceMod, Nat.reduceBNe, Nat.reduceBEq, Nat.reduceEqDiff, Nat.reduceAdd, Int.reduceAdd, Nat.reduceMul, Nat.reduceSub, Int.reduceToNat, Int.reduceLE, Int.reduceLT, Int.reduceEq, Int.reduceNe, reduceCtorEq, Nat.reduceLT, Nat.reduceLeDiff]
        rw [c5, Wo.unq_bad hi n34 hst]
        rfl
  · rw [c5, Wo.unq_out (by omega)]
    rfl
end
end Go.Avm

/- Names, cutting, decimal forms. -/
namespace Go.Avm
open Go
theorem ixB (s : List UInt8) (c : UInt8) : Lib.indexByte s c = if Lat.idx c s < s.length then (Lat.idx c s : Int) else -1 := by
  induction s with
  | nil => rfl
  | cons b r ih =>
    have hle := Lat.idx_le c r
    simp only [Lib.indexByte, Lat.idx, ih, beq_iff_eq, List.length_cons]
    by_cases h : b = c
    · simp only [if_pos h]; simp
    · simp only [if_neg h]
      by_cases h2 : Lat.idx c r < r.length
      · rw [if_pos h2, if_neg (by omega), if_pos (by omega)]; rfl
      · rw [if_neg h2, if_pos rfl, if_neg (by omega)]
def digCs : List UInt8 := [48, 49, 50, 51, 52, 53, 54, 55, 56, 57]
theorem digCs_in : ∀ n : Nat, n < 256 → Lat.inB digCs n = (decide (48 ≤ n) && decide (n ≤ 57)) := by decide +kernel
theorem digB_lat (c : UInt8) : Lat.digB c = Wo.digB c := rfl
theorem decS_ne {s : List UInt8} (h : Wo.mg s = []) : Wo.decS s = false := by rw [Wo.decS, h]; rfl
set_option maxRecDepth 10000
section
variable {X : Cx} (hX : X.P = Go.Proofs.Tryz.prog) (hs : Std X)
include hX hs
theorem ev_Cut (s : List UInt8) (c : UInt8) (hl : s.length < 1000000) : Ev X F_strings_Cut [.str s, .str [c]] (.tuple [.str (if Lat.idx c s < s.length then s.take (Lat.idx c s) else s), .str (if Lat.idx c s < s.length then s.drop (Lat.idx c s + 1) else []), .bool (decide (Lat.idx c s < s.length))]) := by
  have hc : Ev X F_stringslite_Cut [.str s, .str [c]] (.tuple [.str (if Lat.idx c s < s.length then s.take (Lat.idx c s) else s), .str (if Lat.idx c s < s.length then s.drop (Lat.idx c s + 1) else []), .bool (decide (Lat.idx c s < s.length))]) := by
    refine ev_of_wpc hs (A_stringslite_Cut_ok hX) 1 ?_
    simp only [A_stringslite_Cut, go_sem, Nat.reduceMod, Nat.reduceBNe, Nat.reduceBEq, Nat.reduceEqDiff, Nat.reduceAdd, Int.reduceAdd, Nat.reduceMul, Nat.reduceSub, Int.reduceToNat, Int.reduceLE, Int.reduceLT, Int.reduceEq, Int.reduceNe, reduceCtorEq, Nat.reduceLT, Nat.reduceLeDiff]
    refine call_ev (ev_IndexB hX s c) ?_
    rw [ixB]
    by_cases h : Lat.idx c s < s.length
    · simp only [h, go_sem, Nat.reduceMod, Nat.reduceBNe, Nat.reduceBEq, Nat.reduceEqDiff, Nat.reduceAdd, Int.reduceAdd, Nat.reduceMul, Nat.reduceSub, Int.reduceToNat, Int.reduceLE, Int.reduceLT, Int.reduceEq, Int.reduceNe, reduceCtorEq, Nat.reduceLT, Nat.reduceLeDiff]
      refine ⟨fun h0 => ⟨by omega, ?_⟩, fun h0 => by omega⟩
      rw [wi64 (by omega)]
      refine ⟨by omega, ?_⟩
      rw [List.take_length, show ((Lat.idx c s : Int) + 1).toNat = Lat.idx c s + 1 by omega]
    · simp only [h, go_sem, Nat.reduceMod, Nat.reduceBNe, Nat.reduceBEq, Nat.reduceEqDiff, Nat.reduceAdd, Int.reduceAdd, Nat.reduceMul, Nat.reduceSub, Int.reduceToNat, Int.reduceLE, Int.reduceLT, Int.reduceEq, Int.reduceNe, reduceCtorEq, Nat.reduceLT, Nat.reduceLeDiff]
  refine ev_of_wpc hs (A_strings_Cut_ok hX) 1 ?_
  simp only [A_strings_Cut, go_sem, Nat.reduceMod, Nat.reduceBNe, Nat.reduceBEq, Nat.reduceEqDiff, Nat.reduceAdd, Int.reduceAdd, Nat.reduceMul, Nat.reduceSub, Int.reduceToNat, Int.reduceLE, Int.reduceLT, Int.reduceEq, Int.reduceNe, reduceCtorEq, Nat.reduceLT, Nat.reduceLeDiff]
  refine call_ev hc ?_
  simp only [go_sem, Nat.reduceMod, Nat.reduceBNe, Nat.reduceBEq, Nat.reduceEqDiff, Nat.reduceAdd, Int.reduceAdd, Nat.reduceMul, Nat.reduceSub, Int.reduceToNat, Int.reduceLE, Int.reduceLT, Int.reduceEq, Int.reduceNe, reduceCtorEq, Nat.reduceLT, Nat.reduceLeDiff]
theorem ev_HasPrefix1 (s : List UInt8) (c : UInt8) : Ev X F_stringslite_HasPrefix [.str s, .str [c]] (.bool (decide (s.take 1 = [c]))) := by
  refine ev_of_wpc hs (A_stringslite_HasPrefix_ok hX) 0 ?_
  simp only [A_stringslite_HasPrefix, go_sem, Nat.reduceMod, Nat.reduceBNe, Nat.reduceBEq, Nat.reduceEqDiff, Nat.reduceAdd, Int.reduceAdd, Nat.reduceMul, Nat.reduceSub, Int.reduceToNat, Int.reduceLE, Int.reduceLT, Int.reduceEq, Int.reduceNe, reduceCtorEq, Nat.reduceLT, Nat.reduceLeDiff]
  refine ⟨fun h => by omega, fun h => ?_⟩
  · have : s = [] := List.length_eq_zero_iff.1 (by omega)
    subst this
    rfl
theorem ev_TrimPrefix (s : List UInt8) : Ev X F_strings_TrimPrefix [.str s, .str [45]] (.str (Wo.mg s)) := by
  have h : Ev X F_stringslite_TrimPrefix [.str s, .str [45]] (.str (Wo.mg s)) := by
    refine ev_of_wpc hs (A_stringslite_TrimPrefix_ok hX) 0 ?_
    simp only [A_stringslite_TrimPrefix, go_sem, Nat.reduceMod, Nat.reduceBNe, Nat.reduceBEq, Nat.reduceEqDiff, Nat.reduceAdd, Int.reduceAdd, Nat.reduceMul, Nat.reduceSub, Int.reduceToNat, Int.reduceLE, Int.reduceLT, Int.reduceEq, Int.reduceNe, reduceCtorEq, Nat.reduceLT, Nat.reduceLeDiff]
    refine call_ev (ev_HasPrefix1 hX hs s 45) ?_
    by_cases e : s.take 1 = [45]
    · have e2 : s.getD 0 0 = 45 ∧ 1 ≤ s.length := by
        cases s with
        | nil => simp at e
        | cons a r => simp at e; simp [e]
      simp only [e, go_sem, Nat.reduceMod, Nat.reduceBNe, Nat.reduceBEq, Nat.reduceEqDiff, Nat.reduceAdd, Int.reduceAdd, Nat.reduceMul, Nat.reduceSub, Int.reduceToNat, Int.reduceLE, Int.reduceLT, Int.reduceEq, Int.reduceNe, reduceCtorEq, Nat.reduceLT, Nat.reduceLeDiff]
      refine ⟨by omega, ?_⟩
      rw [Wo.mg, if_pos e2.1, List.take_length]
    · have e2 : ¬ s.getD 0 0 = 45 := fun h => e (by
        cases s with
        | nil => simp at h
        | cons a r => simp at h; simp [h])
      simp only [e, go_sem, Nat.reduceMod, Nat.reduceBNe, Nat.reduceBEq, Nat.reduceEqDiff, Nat.reduceAdd, Int.reduceAdd, Nat.reduceMul, Nat.reduceSub, Int.reduceToNat, Int.reduceLE, Int.reduceLT, Int.reduceEq, Int.reduceNe, reduceCtorEq, Nat.reduceLT, Nat.reduceLeDiff]
      rw [Wo.mg, if_neg e2]
  refine ev_of_wpc hs (A_strings_TrimPrefix_ok hX) 0 ?_
  simp only [A_strings_TrimPrefix, go_sem, Nat.reduceMod, Nat.reduceBNe, Nat.reduceBEq, Nat.reduceEqDiff, Nat.reduceAdd, Int.reduceAdd, Nat.reduceMul, Nat.reduceSub, Int.reduceToNat, Int.reduceLE, Int.reduceLT, Int.reduceEq, Int.reduceNe, reduceCtorEq, Nat.reduceLT, Nat.reduceLeDiff]
  refine call_ev h ?_
  simp only [go_sem, Nat.reduceMod, Nat.reduceBNe, Nat.reduceBEq, Nat.reduceEqDiff, Nat.reduceAdd, Int.reduceAdd, Nat.reduceMul, Nat.reduceSub, Int.reduceToNat, Int.reduceLE, Int.reduceLT, Int.reduceEq, Int.reduceNe, reduceCtorEq, Nat.reduceLT, Nat.reduceLeDiff]
theorem ev_isDecimal (s : List UInt8) (hl : s.length < 1000000) : Ev X F_words_isDecimal [.str s] (.bool (Wo.decS s)) := by
  refine ev_of_wpc hs (A_words_isDecimal_ok hX) 0 ?_
  simp only [A_words_isDecimal, go_sem, Nat.reduceMod, Nat.reduceBNe, Nat.reduceBEq, Nat.reduceEqDiff, Nat.reduceAdd, Int.reduceAdd, Nat.reduceMul, Nat.reduceSub, Int.reduceToNat, Int.reduceLE, Int.reduceLT, Int.reduceEq, Int.reduceNe, reduceCtorEq, Nat.reduceLT, Nat.reduceLeDiff]
  refine call_ev (ev_TrimPrefix hX hs s) ?_
  by_cases h0 : Wo.mg s = []
  · simp only [h0, go_sem, Nat.reduceMod, Nat.reduceBNe, Nat.reduceBEq, Nat.reduceEqDiff, Nat.reduceAdd, Int.reduceAdd, Nat.reduceMul, Nat.reduceSub, Int.reduceToNat, Int.reduceLE, Int.reduceLT, Int.reduceEq, Int.reduceNe, reduceCtorEq, Nat.reduceLT, Nat.reduceLeDiff]
    rw [decS_ne h0]
  have hml : (Wo.mg s).length < 1000000 := by
    unfold Wo.mg
    split
    · rw [List.length_drop]; omega
    · exact hl
  have hp : 0 < (Wo.mg s).length := List.length_pos_iff.2 h0
  simp only [h0, go_sem, Nat.reduceMod, Nat.reduceBNe, Nat.reduceBEq, Nat.reduceEqDiff, Nat.reduceAdd, Int.reduceAdd, Nat.reduceMul, Nat.reduceSub, Int.reduceToNat, Int.reduceLE, Int.reduceLT, Int.reduceEq, Int.reduceNe, reduceCtorEq, Nat.reduceLT, Nat.reduceLeDiff]
  refine call_ev (ev_Trim hX hs digCs (Wo.mg s) (by decide) (by decide) (by decide) (by omega)) ?_
  have hd := Wo.digs_trim digCs_in (Wo.mg s)
  have hem : (Wo.mg s).isEmpty = false := by
    cases h : Wo.mg s with
    | nil => exact absurd h h0
    | cons => rfl
  simp only [Wo.decS, hem, ← hd]
  by_cases h1 : Lat.trimS digCs (Wo.mg s) = []
  · simp only [h1, go_sem, Nat.reduceMod, Nat.reduceBNe, Nat.reduceBEq, Nat.reduceEqDiff, Nat.reduceAdd, Int.reduceAdd, Nat.reduceMul, Nat.reduceSub, Int.reduceToNat, Int.reduceLE, Int.reduceLT, Int.reduceEq, Int.reduceNe, reduceCtorEq, Nat.reduceLT, Nat.reduceLeDiff]
    refine ⟨by omega, fun e => ?_, fun e => ?_⟩
    · rw [decide_eq_false (fun h => e ((u8_lit (b := 48) rfl).2 h))]
      rfl
    · rw [show (Wo.mg s).getD 0 0 = 48 from (u8_lit (b := 48) rfl).1 e]
      rfl
  · simp only [h1, go_sem, Nat.reduceMod, Nat.reduceBNe, Nat.reduceBEq, Nat.reduceEqDiff, Nat.reduceAdd, Int.reduceAdd, Nat.reduceMul, Nat.reduceSub, Int.reduceToNat, Int.reduceLE, Int.reduceLT, Int.reduceEq, Int.reduceNe, reduceCtorEq, Nat.reduceLT, Nat.reduceLeDiff]
end
end Go.Avm
