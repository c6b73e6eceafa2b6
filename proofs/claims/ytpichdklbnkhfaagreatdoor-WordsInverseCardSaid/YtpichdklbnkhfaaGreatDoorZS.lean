/- What the shelf's contracts say, at this seat's numbers. -/
import Derived.Test.YtpichdklbnkhfaaGreatDoorZG
import Derived.Test.YtpichdklbnkhfaaGreatDoorZB
import Derived.Test.YtpichdklbnkhfaaGreatDoorZ8
import Derived.Test.YtpichdklbnkhfaaGreatDoorN2
import Derived.Shelf.Strings.Search1
import Derived.Shelf.Strings.Search2
import Derived.Shelf.Strings.Search3
import Derived.Shelf.Strings.Count
import Derived.Shelf.Strconv.ParseIntPublic10
import Derived.Test.YtpichdklbnkhfaaGreatDoorZW
set_option linter.unusedSectionVars false
set_option linter.unusedSimpArgs false
set_option linter.unusedVariables false

/- What the shelf's contracts say, at this seat's numbers. -/
namespace Go.Avm
open Go Go.Proofs Go.Shelf
def sRen : Ren where
  f := fun x => match x with | 99 => 80 | 105 => 55 | 106 => 52 | 129 => 115 | 138 => 73 | 143 => 74 | 156 => 43 | 165 => 69 | 166 => 23 | 167 => 22 | 169 => 25 | 170 => 21 | 171 => 24 | 172 => 32 | 173 => 46 | 174 => 38 | 195 => 96 | 205 => 107 | 206 => 102 | 212 => 79 | 213 => 77 | 217 => 98 | 218 => 97 | 219 => 75 | 224 => 100 | 225 => 99 | 240 => 47 | 241 => 91 | 243 => 48 | 244 => 56 | 245 => 57 | 246 => 70 | 247 => 59 | 263 => 104 | 264 => 105 | 265 => 103 | 266 => 119 | 267 => 101 | 276 => 71 | 277 => 113 | 279 => 81 | 280 => 82 | 281 => 83 | 282 => 84 | 283 => 92 | 284 => 93 | 285 => 94 | 286 => 95 | 287 => 85 | 314 => 120 | 316 => 106 | 317 => 114 | 318 => 116 | 319 => 117 | 320 => 118 | 321 => 108 | 322 => 109 | 337 => 122 | 338 => 123 | n => n
  t := fun x => match x with | 0 => 0 | 2 => 2 | 3 => 3 | 4 => 4 | 5 => 5 | 9 => 9 | 20 => 20 | 21 => 21 | 31 => 61 | 37 => 49 | 46 => 80 | 51 => 125 | 53 => 111 | 70 => 48 | 72 => 51 | 75 => 54 | 76 => 56 | 80 => 59 | 85 => 69 | 109 => 105 | 127 => 82 | 143 => 141 | 145 => 143 | 146 => 126 | 148 => 128 | 164 => 101 | 167 => 107 | 168 => 108 | 171 => 118 | 173 => 121 | 175 => 112 | 210 => 131 | 212 => 136 | 213 => 137 | 232 => 149 | 233 => 150 | n => n
  g := fun x => match x with | 1 => 1 | 15 => 2 | 16 => 3 | 17 => 4 | 18 => 7 | 19 => 8 | n => n
theorem sn217 : Lays.n217 Go.Proofs.Tryz.prog sRen := by
  constructor <;> first | kernel_rfl | (intro w; kernel_rfl) | (constructor <;> first | kernel_rfl | (intro w; kernel_rfl) | (constructor <;> first | kernel_rfl | (intro w; kernel_rfl)))
theorem sn219 : Lays.n219 Go.Proofs.Tryz.prog sRen := by
  constructor <;> first | kernel_rfl | (intro w; kernel_rfl) | (constructor <;> first | kernel_rfl | (intro w; kernel_rfl) | (constructor <;> first | kernel_rfl | (intro w; kernel_rfl)))
theorem sn138 : Lays.n138 Go.Proofs.Tryz.prog sRen := by
  constructor <;> first | kernel_rfl | (intro w; kernel_rfl) | (constructor <;> first | kernel_rfl | (intro w; kernel_rfl) | (constructor <;> first | kernel_rfl | (intro w; kernel_rfl)))
theorem sn174 : LaysC.n174 Go.Proofs.Tryz.prog sRen := by
  constructor <;> first | kernel_rfl | (intro w; kernel_rfl) | (constructor <;> first | kernel_rfl | (intro w; kernel_rfl) | (constructor <;> first | kernel_rfl | (intro w; kernel_rfl)))


theorem one_str {s : ByteArray} {c : UInt8} (h : s.data.toList = [c]) : s = ⟨#[c]⟩ := by
  cases s with
  | mk d =>
    congr
    exact Array.toList_inj.1 h
theorem tu8 (c : UInt8) : ((c.toNat : Int)).toNat.toUInt8 = c := by simp
section
variable {X : Cx} (hX : X.P = Go.Proofs.Tryz.prog)
include hX
theorem ev_CountB (s : List UInt8) (c : UInt8) : Ev X F_strings_Count [.str s, .str [c]] (.int .i64 (s.count c : Nat)) := by
  refine ⟨⟨Go.Proofs.Tryz.f73, by rw [hX]; exact Go.Proofs.Tryz.func73, by decide, by kernel_rfl⟩, fun g w vs hwf hhr hvs => ?_⟩
  simp only [RelL, Rel] at hvs
  obtain ⟨v1, r1, rfl, ⟨s1, rfl, h1⟩, v2, r2, rfl, ⟨s2, rfl, h2⟩, rfl⟩ := hvs
  have e2 := one_str h2
  subst e2
  rw [hX]
  refine (Any.strings_Count_one sn138 s1 c w).mono ?_
  rintro e w' ⟨rfl, rfl⟩
  exact ⟨_, _, g, [], rfl, by simp only [Rel, Lib.countByte, h1], hwf, hhr, Ext.refl _ _, rfl, rfl⟩
theorem ev_IndexB (s : List UInt8) (c : UInt8) : Ev X F_stringslite_Index [.str s, .str [c]] (.int .i64 (Lib.indexByte s c)) := by
  refine ⟨⟨Go.Proofs.Tryz.f75, by rw [hX]; exact Go.Proofs.Tryz.func75, by decide, by kernel_rfl⟩, fun g w vs hwf hhr hvs => ?_⟩
  simp only [RelL, Rel] at hvs
  obtain ⟨v1, r1, rfl, ⟨s1, rfl, h1⟩, v2, r2, rfl, ⟨s2, rfl, h2⟩, rfl⟩ := hvs
  have e2 := one_str h2
  subst e2
  rw [hX]
  refine (Any.stringslite_Index_one sn219 s1 c w).mono ?_
  rintro e w' ⟨rfl, rfl⟩
  exact ⟨_, _, g, [], rfl, by simp only [Rel, h1], hwf, hhr, Ext.refl _ _, rfl, rfl⟩
theorem ev_sIndexByte (s : List UInt8) (c : UInt8) : Ev X F_stringslite_IndexByte [.str s, u8 c] (.int .i64 (Lib.indexByte s c)) := by
  refine ⟨⟨Go.Proofs.Tryz.f98, by rw [hX]; exact Go.Proofs.Tryz.func98, by decide, by kernel_rfl⟩, fun g w vs hwf hhr hvs => ?_⟩
  simp only [u8, RelL, Rel] at hvs
  obtain ⟨v1, r1, rfl, ⟨s1, rfl, h1⟩, v2, r2, rfl, rfl, rfl⟩ := hvs
  rw [hX]
  refine (Any.stringslite_IndexByte sn217 s1 (c.toNat : Int) w).mono ?_
  rintro e w' ⟨rfl, rfl⟩
  exact ⟨_, _, g, [], rfl, by simp only [Rel, h1, tu8], hwf, hhr, Ext.refl _ _, rfl, rfl⟩
theorem ev_IndexByte (hs : Std X) (s : List UInt8) (c : UInt8) : Ev X F_strings_IndexByte [.str s, u8 c] (.int .i64 (Lib.indexByte s c)) := by
  refine ev_of_wpc hs (A_strings_IndexByte_ok hX) 0 ?_
  simp only [A_strings_IndexByte, go_sem, Nat.reduceMod, Nat.reduceBNe, Nat.reduceBEq, Nat.reduceEqDiff, Nat.reduceAdd, Int.reduceAdd, Nat.reduceMul, Nat.reduceSub, Int.reduceToNat, Int.reduceLE, Int.reduceLT, Int.reduceEq, Int.reduceNe, reduceCtorEq, Nat.reduceLT, Nat.reduceLeDiff]
  refine call_ev (ev_sIndexByte hX s c) ?_
  simp only [go_sem, Nat.reduceMod, Nat.reduceBNe, Nat.reduceBEq, Nat.reduceEqDiff, Nat.reduceAdd, Int.reduceAdd, Nat.reduceMul, Nat.reduceSub, Int.reduceToNat, Int.reduceLE, Int.reduceLT, Int.reduceEq, Int.reduceNe, reduceCtorEq, Nat.reduceLT, Nat.reduceLeDiff]
/-- what ParseInt returns -/
def prsI (s : List UInt8) : AV := if -9223372036854775808 ≤ Wo.valS s ∧ Wo.valS s ≤ 9223372036854775807 then .tuple [.int .i64 (Wo.valS s), .nilI] else .tuple [.int .i64 (Lib.intSat 64 s), .ifc (sRen.t 168) .undef]
theorem ev_ParseInt {te : Nat} (hR : X.G (sRen.g 16) = some [.ifc te .undef]) (s : List UInt8) (hd : Wo.decS s = true) (hl : s.length < 1000000) : Ev X F_strconv_ParseInt [.str s, .int .i64 10, .int .i64 64] (prsI s) := by
  refine ev_below ⟨Go.Proofs.Tryz.f38, by rw [hX]; exact Go.Proofs.Tryz.func38, by decide, by kernel_rfl⟩ fun g w vs hwf hvs => ?_
  simp only [RelL, Rel] at hvs
  obtain ⟨v1, r1, rfl, ⟨s1, rfl, h1⟩, v2, r2, rfl, rfl, v3, r3, rfl, rfl, rfl⟩ := hvs
  rw [hX]
  have hp := Wo.parseI hd
  rw [← h1] at hp hl
  have hsz : s1.size < 1000000 := by
    have : s1.size = s1.data.toList.length := by simp
    omega
  unfold prsI
  rw [← h1]
  by_cases hv : -9223372036854775808 ≤ Wo.valS s1.data.toList ∧ Wo.valS s1.data.toList ≤ 9223372036854775807
  · rw [if_pos hv] at hp ⊢
    refine (Any.strconv_ParseInt_10_at64_ok sn174 s1 (by omega) _ hp w).mono ?_
    rintro e w' ⟨rfl, hw⟩
    refine ⟨_, rfl, fun g => ?_, ?_⟩
    · simp only [Rel, RelL]
      exact ⟨_, rfl, _, _, rfl, rfl, _, _, rfl, rfl, rfl⟩
    · rcases hw with rfl | ⟨t, rfl⟩
      · exact RowKit.Below.refl _ _
      · exact Lib.bytesWorld_below _ _ _
  · rw [if_neg hv] at hp ⊢
    have hl := hwf.laid _ _ hR
    simp only [Rel] at hl
    obtain ⟨b, o, vs, e1, e2, e3⟩ := hl
    simp only [RelL, Rel] at e2
    obtain ⟨v, vr, rfl, ⟨u, rfl, _⟩, rfl⟩ := e2
    simp only [Value.pointer.injEq, Option.some.injEq, Addr.mk.injEq, and_true] at e1
    obtain ⟨rfl, rfl⟩ := e1
    have hc := (e3 0 _ rfl).2
    refine (Any.strconv_ParseInt_10_at64_range sn174 s1 (by omega) hp _ w hc (.inr ⟨_, _, rfl⟩)).mono ?_
    rintro e w' ⟨M, rfl, _, _, hw⟩
    refine ⟨_, rfl, fun g => ?_, hw⟩
    simp only [Rel, RelL]
    exact ⟨_, rfl, _, _, rfl, rfl, _, _, rfl, ⟨_, rfl, trivial⟩, rfl⟩
end
end Go.Avm

/- The builder's methods here. -/
namespace Go.Avm
open Go Go.Proofs Go.Shelf
theorem bLays166 : Lays.n166 Go.Proofs.Tryz.prog sRen := by
  constructor <;> first | kernel_rfl | (intro w; kernel_rfl)
theorem bLays167 : Lays.n167 Go.Proofs.Tryz.prog sRen := by
  constructor <;> first | kernel_rfl | (intro w; kernel_rfl)
theorem bLays169 : Lays.n169 Go.Proofs.Tryz.prog sRen := by
  constructor <;> first | kernel_rfl | (intro w; kernel_rfl)
theorem bLays170 : Lays.n170 Go.Proofs.Tryz.prog sRen := by
  constructor <;> first | kernel_rfl | (intro w; kernel_rfl)
theorem bExtra : Builder.Extra Go.Proofs.Tryz.prog sRen where
  sizeBuilder := by kernel_rfl
  liesBuilder := by kernel_rfl
  t5 := by kernel_rfl
  a5 := by intro w; kernel_rfl
  z5 := by intro w; kernel_rfl
  v5 := by intro w; kernel_rfl
  infoByte := by kernel_rfl
  cellsByte := by kernel_rfl
  sizeByte := by kernel_rfl
  neB5 := by decide
section
variable {X : Cx} (hX : X.P = Go.Proofs.Tryz.prog) (hs : Std X) {H : Heap}
include hX
theorem ev_bWS {i : Nat} {l : List UInt8} (s : List UInt8) (hH : H[i]? = some (.bld 51 5 l)) (hlen : l.length + s.length ≤ 140737488355328) :
    EvM X F_strings_Builder_WriteString [.ptr i 0, .str s] H fun r H' => r = .tuple [.int .i64 s.length, .nilI] ∧ H' = H.set i (.bld 51 5 (l ++ s)) := by
  refine evM_bpost ⟨Go.Proofs.Tryz.f23, by rw [hX]; exact Go.Proofs.Tryz.func23, by decide, by kernel_rfl⟩ (by decide) hH fun g w vs b p v hwf hhr hvs hbx hb hp hv => ?_
  simp only [RelL, Rel] at hvs
  obtain ⟨v1, r1, rfl, ⟨b', rfl, h2⟩, v2, r2, rfl, ⟨sb, rfl, h3⟩, rfl⟩ := hvs
  rw [hbx] at h2
  cases h2
  subst h3
  rw [hX]
  refine (b_WriteString (C := X) hX bLays166 bExtra sb hb hp hv (by simpa using hlen)).mono ?_
  rintro e w' ⟨rfl, h⟩
  exact ⟨_, rfl, fun g' => by simp [Rel, RelL], h⟩
theorem ev_bWB {i : Nat} {l : List UInt8} (c : UInt8) (hH : H[i]? = some (.bld 51 5 l)) (hlen : l.length + 1 ≤ 140737488355328) :
    EvM X F_strings_Builder_WriteByte [.ptr i 0, u8 c] H fun r H' => r = .nilI ∧ H' = H.set i (.bld 51 5 (l ++ [c])) := by
  refine evM_bpost ⟨Go.Proofs.Tryz.f22, by rw [hX]; exact Go.Proofs.Tryz.func22, by decide, by kernel_rfl⟩ (by decide) hH fun g w vs b p v hwf hhr hvs hbx hb hp hv => ?_
  simp only [RelL, Rel, u8] at hvs
  obtain ⟨v1, r1, rfl, ⟨b', rfl, h2⟩, v2, r2, rfl, rfl, rfl⟩ := hvs
  rw [hbx] at h2
  cases h2
  rw [hX]
  refine (b_WriteByte (C := X) hX bLays167 bExtra c hb hp hv hlen).mono ?_
  rintro e w' ⟨rfl, h⟩
  exact ⟨_, rfl, fun g' => by simp [Rel], h⟩
theorem ev_bString {i : Nat} {l : List UInt8} (hH : H[i]? = some (.bld 51 5 l)) (h0 : l ≠ []) :
    EvM X F_strings_Builder_String [.ptr i 0] H fun r H' => r = .str l ∧ H' = H.set i .dead := by
  refine evM_spost ⟨Go.Proofs.Tryz.f25, by rw [hX]; exact Go.Proofs.Tryz.func25, by decide, by kernel_rfl⟩ (T := 51) (e := 5) (by decide) hH fun w b p v hb hv => ?_
  rw [hX]
  exact b_String bLays169 bExtra hb hv h0
theorem ev_bLen {i : Nat} {l : List UInt8} (hH : H[i]? = some (.bld 51 5 l)) :
    EvM X F_strings_Builder_Len [.ptr i 0] H fun r H' => r = .int .i64 l.length ∧ H' = H := by
  refine evM_lpost ⟨Go.Proofs.Tryz.f21, by rw [hX]; exact Go.Proofs.Tryz.func21, by decide, by kernel_rfl⟩ hH fun w b p v hb hv => ?_
  rw [hX]
  exact b_Len bLays170 hb hv
end
end Go.Avm

/- Numerals and joined strings here. -/
namespace Go.Avm
open Go Go.Proofs Go.Shelf
/-- the table of powers of ten -/
def tabP : List AV := Lib.pow10Tab.map (AV.int .u64)
theorem st173 : LaysM.n173 Go.Proofs.Tryz.prog sRen := by
  constructor <;> first | kernel_rfl | (intro w; kernel_rfl) | (constructor <;> first | kernel_rfl | (intro w; kernel_rfl) | (constructor <;> first | kernel_rfl | (intro w; kernel_rfl)))
theorem st171 : LaysM.n171 Go.Proofs.Tryz.prog sRen := by
  constructor <;> first | kernel_rfl | (intro w; kernel_rfl) | (constructor <;> first | kernel_rfl | (intro w; kernel_rfl) | (constructor <;> first | kernel_rfl | (intro w; kernel_rfl)))
theorem st156 : Lays.n156 Go.Proofs.Tryz.prog sRen := by
  constructor <;> first | kernel_rfl | (intro w; kernel_rfl) | (constructor <;> first | kernel_rfl | (intro w; kernel_rfl) | (constructor <;> first | kernel_rfl | (intro w; kernel_rfl)))
theorem st106 : Lays.n106 Go.Proofs.Tryz.prog sRen := by
  constructor <;> first | kernel_rfl | (intro w; kernel_rfl) | (constructor <;> first | kernel_rfl | (intro w; kernel_rfl) | (constructor <;> first | kernel_rfl | (intro w; kernel_rfl)))
theorem st105 : Lays.n105 Go.Proofs.Tryz.prog sRen := by
  constructor <;> first | kernel_rfl | (intro w; kernel_rfl) | (constructor <;> first | kernel_rfl | (intro w; kernel_rfl) | (constructor <;> first | kernel_rfl | (intro w; kernel_rfl)))
theorem st172 : Lays.n172 Go.Proofs.Tryz.prog sRen := by
  constructor <;> first | kernel_rfl | (intro w; kernel_rfl) | (constructor <;> first | kernel_rfl | (intro w; kernel_rfl) | (constructor <;> first | kernel_rfl | (intro w; kernel_rfl)))
section
variable {X : Cx} (hX : X.P = Go.Proofs.Tryz.prog)
include hX
theorem ev_FormatInt (hP : X.G (sRen.g 17) = some tabP) (n : Int) (h : -9223372036854775808 ≤ n ∧ n ≤ 9223372036854775807) : Ev X F_strconv_FormatInt [.int .i64 n, .int .i64 10] (.str (Lib.itoa n)) :=
  ev_s_FormatInt (X := X) (ρ := sRen) (by rw [hX]; exact st173) (by rw [hX]; kernel_rfl) hP n h
theorem ev_Itoa (hP : X.G (sRen.g 17) = some tabP) (n : Int) (h : -9223372036854775808 ≤ n ∧ n ≤ 9223372036854775807) : Ev X F_strconv_Itoa [.int .i64 n] (.str (Lib.itoa n)) :=
  ev_s_Itoa (X := X) (ρ := sRen) (by rw [hX]; exact st171) (by rw [hX]; kernel_rfl) hP n h
theorem ev_sJoin (l : List (List UInt8)) (sep : List UInt8) (hl : l.length ≤ 140737488355328) (hlen : (Lib.join l sep).length ≤ 140737488355328) : Ev X F_strings_Join [lst AV.str .ro l, .str sep] (.str (Lib.join l sep)) :=
  ev_s_Join (X := X) (ρ := sRen) (by rw [hX]; exact st156) (by rw [hX]; exact bExtra) l sep hl hlen
theorem ev_Compare (a b : List UInt8) : Ev X F_strings_Compare [.str a, .str b] (.int .i64 (Lib.compareBytes a b)) :=
  ev_s_Compare (X := X) (ρ := sRen) (by rw [hX]; exact st106) a b
theorem ev_Repeat (s : List UInt8) (c : Nat) (hc : c ≤ 9223372036854775807) (hl : s.length * c ≤ 140737488355328) : Ev X F_strings_Repeat [.str s, .int .i64 c] (.str (Lib.repeatL s c)) :=
  ev_s_Repeat (X := X) (ρ := sRen) (by rw [hX]; exact st105) (by rw [hX]; exact bExtra) s c hc hl
theorem ev_Atoi (s : List UInt8) (n : Int) (hl : s.length ≤ 18) (h : Lib.atoi s = some n) : Ev X F_strconv_Atoi [.str s] (.tuple [.int .i64 n, .nilI]) :=
  ev_s_Atoi (X := X) (ρ := sRen) (by rw [hX]; exact st172) s n hl h
end
end Go.Avm
