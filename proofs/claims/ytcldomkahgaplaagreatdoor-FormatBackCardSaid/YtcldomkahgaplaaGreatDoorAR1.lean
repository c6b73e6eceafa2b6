/- Runes: what is one, its bytes. -/
import Derived.Test.YtcldomkahgaplaaGreatDoorAV2
import Derived.Test.YtcldomkahgaplaaGreatDoorML
import Derived.Lib.IndexAny
set_option linter.all false
namespace Go.Avm
open Go Go.Rn
set_option maxRecDepth 4000
section
variable {X : Cx} (hX : X.P = Go.Proofs.Tryz.prog) (hs : Std X)
include hX hs
theorem ev_valid (n : Int) : Ev X F_u_ValidRune [.int .i32 n] (.bool (valid n)) := by
 refine ev_of_wpc hs (A_u_ValidRune_ok hX) 0 ?_
 simp only [A_u_ValidRune, go_sem, Nat.reduceEqDiff, reduceCtorEq, valid, AV.bool.injEq]
 grind
theorem ev_is (n : Int) (hn : -9223372036854775808 ≤ n ∧ n < 9223372036854775808) : Ev X F_ru_is [.int .i64 n] (.bool (valid n)) := by
 refine ev_of_wpc hs (A_ru_is_ok hX) 0 ?_
 simp only [A_ru_is, go_sem, Nat.reduceEqDiff, reduceCtorEq]
 have h32 : -2147483648 ≤ IntKind.i32.wrap n ∧ IntKind.i32.wrap n < 2147483648 := by rw [w_i32]; split <;> omega
 have e : IntKind.i64.wrap (IntKind.i32.wrap n) = IntKind.i32.wrap n := wi64 (by omega)
 refine ⟨fun h => call_ev (ev_valid hX hs _) ?_, fun h => ?_⟩
 ·rw [e] at h
  simp only [go_sem, Nat.reduceEqDiff, reduceCtorEq, ← h]
 ·simp only [AV.bool.injEq, valid]
  rw [e] at h
  by_cases hr : 0 ≤ n ∧ n < 2147483648
  ·exact absurd (wi32 (by omega)).symm h
  ·grind
end
section
variable {X : Cx} (hX : X.P = Go.Proofs.Tryz.prog) (hs : Std X)
include hX hs
def rlen (n : Int) : Int := if n < 0 then -1 else if n ≤ 127 then 1 else if n ≤ 2047 then 2 else if 55296 ≤ n ∧ n ≤ 57343 then -1 else if n ≤ 65535 then 3 else if n ≤ 1114111 then 4 else -1
theorem ev_runeLen (n : Int) : Ev X F_u_RuneLen [.int .i32 n] (.int .i64 (rlen n)) := by
 refine ev_of_wpc hs (A_u_RuneLen_ok hX) 0 ?_
 simp only [A_u_RuneLen, go_sem, Nat.reduceEqDiff, reduceCtorEq, AV.int.injEq, rlen]
 grind
end
section
variable {X : Cx} (hX : X.P = Go.Proofs.Tryz.prog) (hs : Std X)
include hX hs
end
end Go.Avm
namespace Go.Avm
open Go Go.Rn
set_option maxRecDepth 4000
section
variable {X : Cx} (hX : X.P = Go.Proofs.Tryz.prog) (hs : Std X)
include hX hs
end
theorem encode_enc {r : Int} (h : valid r = true) : (Utf8.encode r).data.toList = enc r := by
 have hr := valid_rng h
 have hv := (valid_iff r).1 h
 have hu : Utf8.valid r = true := by simp [Utf8.valid]; omega
 rw [enc_eq h]
 simp only [Utf8.encode, hu, if_true, encI]
 have hb : ∀ x : Int, 0 ≤ x → byteI x = UInt8.ofNat x.toNat := fun x _ => rfl
 by_cases c1 : r < 128
 ·rw [if_pos (by omega), if_pos c1]; rfl
 rw [if_neg (by omega), if_neg c1]
 by_cases c2 : r < 2048
 ·rw [if_pos (by omega), if_pos c2]
  simp only [List.map_cons, List.map_nil, byteI]
  rw [show (192 + r / 64).toNat = 0xC0 + r.toNat / 64 by omega, show (128 + r % 64).toNat = 0x80 + r.toNat % 64 by omega]
 rw [if_neg (by omega), if_neg c2]
 by_cases c3 : r < 65536
 ·rw [if_pos (by omega), if_pos c3]
  simp only [List.map_cons, List.map_nil, byteI]
  rw [show (224 + r / 4096).toNat = 0xE0 + r.toNat / 4096 by omega, show (128 + r / 64 % 64).toNat = 0x80 + r.toNat / 64 % 64 by omega, show (128 + r % 64).toNat = 0x80 + r.toNat % 64 by omega]
 rw [if_neg (by omega), if_neg c3]
 simp only [List.map_cons, List.map_nil, byteI]
 rw [show (240 + r / 262144).toNat = 0xF0 + r.toNat / 262144 by omega, show (128 + r / 4096 % 64).toNat = 0x80 + r.toNat / 4096 % 64 by omega, show (128 + r / 64 % 64).toNat = 0x80 + r.toNat / 64 % 64 by omega, show (128 + r % 64).toNat = 0x80 + r.toNat % 64 by omega]
def conB (x : Int) : Bool := decide (128 ≤ x ∧ x < 192)
theorem bt_enc {r : Int} (h : valid r = true) (i : Nat) : bt (enc r) i = (encI r).getD i 0 := by
 rw [enc_eq h]
 simp only [bt, List.getD, List.getElem?_map]
 cases hi : (encI r)[i]? with
 | none => rfl
 | some x =>
  have hx := encI_rng h x (List.mem_of_getElem? hi)
  simp only [Option.map_some, Option.getD_some]
  exact byteI_toNat hx
theorem enc_rest {r : Int} (h : valid r = true) (i : Nat) (h1 : 1 ≤ i) (h2 : i < (enc r).length) : conB (bt (enc r) i) = true := by
 have hr := valid_rng h
 rw [bt_enc h]
 have : 128 ≤ (encI r).getD i 0 ∧ (encI r).getD i 0 < 192 := by
  rw [enc_len h] at h2
  simp only [encI]
  split
  ·rename_i c; rw [if_pos c] at h2; omega
  rename_i c1
  rw [if_neg c1] at h2
  split
  ·rename_i c; rw [if_pos c] at h2; rcases (by omega : i = 1) with rfl
   simp; omega
  rename_i c2
  rw [if_neg c2] at h2
  split
  ·rename_i c; rw [if_pos c] at h2; rcases (by omega : i = 1 ∨ i = 2) with rfl | rfl <;> simp <;> omega
  rename_i c3
  rw [if_neg c3] at h2
  rcases (by omega : i = 1 ∨ i = 2 ∨ i = 3) with rfl | rfl | rfl <;> simp <;> omega
 simp only [conB, decide_eq_true_eq]; omega
def ixR (s : List UInt8) (c : UInt8) : Int := Lib.indexByte s c
section
variable {X : Cx} (hX : X.P = Go.Proofs.Tryz.prog) (hs : Std X)
include hX hs
theorem ev_indexRune (s : List UInt8) (ha : ∀ b ∈ s, b.toNat < 128) (h2 : s.length ≤ 2) (r : Int) (hv : valid r = true) (he : r ≠ 65533) : Ev X F_st_IndexRune [.str s, .int .i32 r] (.int .i64 (if r < 128 then ixR s (byteI r) else -1)) := by
 have hr := valid_rng hv
 refine ev_of_wpc hs (A_st_IndexRune_ok hX) 0 ?_
 simp only [A_st_IndexRune, go_sem, Nat.reduceEqDiff, Nat.reduceAdd, reduceCtorEq, he]
 refine ⟨fun c1 => ⟨fun c2 => ?_, fun c2 => ?_⟩, fun c1 => by omega⟩
 ·have e : AV.int .u8 (IntKind.u8.wrap r) = .int .u8 ((byteI r).toNat : Int) := by rw [byteI_toNat (by omega), wu8 (by omega)]
  rw [e]
  refine call_ev (ev_IndexByte hX hs s (byteI r)) ?_
  simp only [go_sem, Nat.reduceEqDiff, reduceCtorEq, c2, if_true, ixR]
 ·refine call_ev (ev_valid hX hs r) ?_
  simp only [go_sem, Nat.reduceEqDiff, reduceCtorEq, hv, c2]
  refine w_scopeJ hs.hm (ι := Unit) (fun _ => 0) (fun _ => False) (fun _ => []) (fun _ => []) (fun _ => 0) ?_ (fun _ h => h.elim)
  simp only [go_sem, Nat.reduceEqDiff, reduceCtorEq, A_st_IndexRuneJ1]
  rw [encode_enc hv]
  have hlen := enc_len hv
  rw [if_neg c2] at hlen
  have hl4 := enc_len_pos hv
  have hl2 : 2 ≤ (enc r).length := by rw [hlen]; split <;> (try split) <;> omega
  rw [wi64 (by omega)]
  refine w_loop' hs.hm (ι := Nat) (fun k => k = 0) (fun _ => [(0, .str s), (7, .str (enc r)), (8, .int .i64 ((enc r).length - 1)), (9, .int .i64 ((enc r).length - 1)), (10, .int .i64 0)]) (fun _ => []) (fun k => 1 - k) 0 ?_ fun k hk => ?_
  ·simp only [go_sem, Nat.reduceEqDiff, reduceCtorEq]
  ·subst hk
   by_cases hq : (enc r).length = 2 ∧ s.length = 2
   ·have hc := enc_rest hv 1 (by omega) (by omega)
    have hc : 128 ≤ (((enc r).getD 1 0).toNat : Int) := by
     have := hc; simp only [conB, decide_eq_true_eq] at this; exact this.1
    have hs1 : (s.getD 1 0).toNat < 128 := ha _ (by simp [List.getD, hq.2])
    have hne : ¬ (((s.getD 1 0).toNat : Nat) : Int) = (((enc r).getD 1 0).toNat : Nat) := by omega
    have w2 : IntKind.i64.wrap 2 = 2 := by decide
    have i2 : ((2 : Nat) : Int) - 1 = 1 := by decide
    have hd : (List.take 2 s).drop 2 = [] := List.drop_eq_nil_of_le (by rw [List.length_take]; omega)
    simp only [A_st_IndexRuneL2, go_sem, Nat.reduceEqDiff, Int.reduceLT, reduceCtorEq, hq.1, hq.2, Int.reduceLT, Int.reduceSub]
    refine w_scopeJ hs.hm (ι := Unit) (fun _ => 0) (fun _ => False) (fun _ => []) (fun _ => []) (fun _ => 0) ?_ (fun _ h => h.elim)
    simp only [A_st_IndexRuneJ3, go_sem, Nat.reduceEqDiff, Int.reduceAdd, Int.reduceToNat, Int.reduceLE, Int.reduceLT, reduceCtorEq, hq.1, hq.2, Int.reduceToNat, Int.reduceLE, Int.reduceLT, hne, w2, hd]
    refine callq_ev (ev_IndexByte hX hs [] _) ?_
    simp only [go_sem, Nat.reduceEqDiff, Int.reduceLT, reduceCtorEq, Lib.indexByte]
   ·have hcc : ¬ ((enc r).length : Int) - 1 < s.length := by omega
    simp only [A_st_IndexRuneL2, A_st_IndexRuneJ3, go_sem, Nat.reduceEqDiff, reduceCtorEq, hcc]
end
def hasR (s : List UInt8) (r : Int) : Bool := s.any fun b => decide ((b.toNat : Int) = r)
theorem has_ix (s : List UInt8) (ha : ∀ b ∈ s, b.toNat < 128) (r : Int) (h0 : 0 ≤ r) : decide (0 ≤ (if r < 128 then ixR s (byteI r) else -1)) = hasR s r := by
 by_cases h : r < 128
 ·rw [if_pos h]
  have : s.contains (byteI r) = decide (0 ≤ ixR s (byteI r)) := Lib.contains_iff_indexByte s (byteI r)
  rw [← this, Bool.eq_iff_iff]
  simp only [hasR, List.contains_iff_mem, List.any_eq_true, decide_eq_true_eq]
  constructor
  ·intro hm
   exact ⟨_, hm, byteI_toNat (by omega)⟩
  ·rintro ⟨b, hb, rfl⟩
   rw [byteI_of]; exact hb
 ·rw [if_neg h]
  have : hasR s r = false := by
   simp only [hasR, List.any_eq_false, decide_eq_true_eq]
   intro b hb he
   have := ha b hb; omega
  rw [this]; rfl
def clsS : List (List UInt8) := [[], [32], [10], [40, 91], [41, 93], [34], [], [45], [], [60, 61]]
def classI (r : Int) : Int :=
 if valid r then (if 48 ≤ r ∧ r ≤ 57 then 6 else if 97 ≤ r ∧ r ≤ 122 then 8 else if r = 32 then 1 else if r = 10 then 2 else if r = 40 ∨ r = 91 then 3 else if r = 41 ∨ r = 93 then 4 else if r = 34 then 5 else if r = 45 then 7 else if r = 60 ∨ r = 61 then 9 else 10) else 0
theorem clsS_ok (c : Nat) : (∀ b ∈ clsS.getD c [], b.toNat < 128) ∧ (clsS.getD c []).length ≤ 2 := by
 rcases Nat.lt_or_ge c 10 with h | h
 ·have : ∀ c : Fin 10, (∀ b ∈ clsS.getD c.val [], b.toNat < 128) ∧ (clsS.getD c.val []).length ≤ 2 := by decide
  exact this ⟨c, h⟩
 ·have : clsS.getD c [] = [] := by simp [List.getD, List.getElem?_eq_none (l := clsS) (i := c) (by simpa [clsS] using h)]
  rw [this]; simp
theorem cls_hit (r : Int) (hv : valid r = true) (h1 : ¬ (48 ≤ r ∧ r ≤ 57)) (h2 : ¬ (97 ≤ r ∧ r ≤ 122)) (c : Nat) (hc : c < 10) (h : hasR (clsS.getD c []) r = true) : classI r = c := by
 simp only [classI, hv, if_true]
 rw [if_neg h1, if_neg h2]
 rcases (by omega : c = 0 ∨ c = 1 ∨ c = 2 ∨ c = 3 ∨ c = 4 ∨ c = 5 ∨ c = 6 ∨ c = 7 ∨ c = 8 ∨ c = 9) with rfl | rfl | rfl | rfl | rfl | rfl | rfl | rfl | rfl | rfl <;> simp [hasR, clsS] at h
 ·subst h; rfl
 ·subst h; rfl
 ·rcases h with h | h <;> subst h <;> rfl
 ·rcases h with h | h <;> subst h <;> rfl
 ·subst h; rfl
 ·subst h; rfl
 ·rcases h with h | h <;> subst h <;> rfl
theorem cls_miss (r : Int) (hv : valid r = true) (h1 : ¬ (48 ≤ r ∧ r ≤ 57)) (h2 : ¬ (97 ≤ r ∧ r ≤ 122)) (h : ∀ j, j < 10 → hasR (clsS.getD j []) r = false) : classI r = 10 := by
 have a1 := h 1 (by omega); have a2 := h 2 (by omega); have a3 := h 3 (by omega); have a4 := h 4 (by omega); have a5 := h 5 (by omega); have a7 := h 7 (by omega); have a9 := h 9 (by omega)
 simp [hasR, clsS] at a1 a2 a3 a4 a5 a7 a9
 simp only [classI, hv, if_true]
 grind
theorem cls_at (c : Nat) (h : c < 10) : List.getD [AV.str [], .str [32], .str [10], .str [40, 91], .str [41, 93], .str [34], .str [], .str [45], .str [], .str [60, 61]] (c * 1) .undef = .str (clsS.getD c []) := by
 rcases (by omega : c = 0 ∨ c = 1 ∨ c = 2 ∨ c = 3 ∨ c = 4 ∨ c = 5 ∨ c = 6 ∨ c = 7 ∨ c = 8 ∨ c = 9) with rfl | rfl | rfl | rfl | rfl | rfl | rfl | rfl | rfl | rfl <;> rfl
section
variable {X : Cx} (hX : X.P = Go.Proofs.Tryz.prog) (hs : Std X)
include hX hs
theorem ev_containsRune (s : List UInt8) (ha : ∀ b ∈ s, b.toNat < 128) (h2 : s.length ≤ 2) (r : Int) (hv : valid r = true) (he : r ≠ 65533) : Ev X F_st_ContainsRune [.str s, .int .i32 r] (.bool (hasR s r)) := by
 refine ev_of_wpc hs (A_st_ContainsRune_ok hX) 0 ?_
 simp only [A_st_ContainsRune, go_sem, Nat.reduceEqDiff, Nat.reduceAdd, reduceCtorEq]
 refine call_ev (ev_indexRune hX hs s ha h2 r hv he) ?_
 simp only [go_sem, Nat.reduceEqDiff, reduceCtorEq]
 rw [← has_ix s ha r (valid_rng hv).1]
theorem ev_classes : Ev X F_ru_classes [] (.agg [.str [], .str [32], .str [10], .str [40, 91], .str [41, 93], .str [34], .str [], .str [45], .str [], .str [60, 61]]) := by
 refine ev_of_wpc hs (A_ru_classes_ok hX) 2 ?_
 simp only [A_ru_classes, go_sem, Nat.reduceAdd, reduceCtorEq, Nat.reduceLeDiff]
theorem ev_Class (r : Int) (hr : -9223372036854775808 ≤ r ∧ r < 9223372036854775808) (he : r ≠ 65533) : Ev X F_ru_Class [.int .i64 r] (.tuple [.int .i64 (classI r), .int .i64 (fault (valid r))]) := by
 refine ev_of_wpc hs (A_ru_Class_ok hX) 2 ?_
 simp only [A_ru_Class, go_sem, Nat.reduceEqDiff, reduceCtorEq]
 refine call_ev (ev_is hX hs r hr) ?_
 cases hv : valid r with
 | false =>
  simp only [go_sem, Nat.reduceEqDiff, reduceCtorEq, classI, hv, fault]
 | true =>
  have hrr := valid_rng hv
  rcases (by omega : (48 ≤ r ∧ r ≤ 57) ∨ (97 ≤ r ∧ r ≤ 122) ∨ (¬ 48 ≤ r ∧ ¬ 97 ≤ r) ∨ (48 ≤ r ∧ ¬ r ≤ 57 ∧ ¬ 97 ≤ r) ∨ (48 ≤ r ∧ ¬ r ≤ 57 ∧ 97 ≤ r ∧ ¬ r ≤ 122)) with d | d | d | d | d
  ·simp only [go_sem, Nat.reduceEqDiff, reduceCtorEq, fault, d.1, d.2]
   have : classI r = 6 := by simp only [classI, hv, if_true]; rw [if_pos d]
   rw [this]
  ·simp only [go_sem, Nat.reduceEqDiff, reduceCtorEq, fault, d.1, d.2, (show (48 : Int) ≤ r by omega), (show ¬ r ≤ 57 by omega)]
   have : classI r = 8 := by simp only [classI, hv, if_true]; rw [if_neg (by omega), if_pos d]
   rw [this]
  ·simp only [go_sem, Nat.reduceEqDiff, reduceCtorEq, fault, d.1, d.2]
   refine call_ev (ev_classes hX hs) ?_
   simp only [go_sem]
   refine w_loop' hs.hm (ι := Nat) (fun c => c ≤ 10 ∧ ∀ j, j < c → hasR (clsS.getD j []) r = false) (fun c => [(0, .int .i64 r), (24, .agg [.str [], .str [32], .str [10], .str [40, 91], .str [41, 93], .str [34], .str [], .str [45], .str [], .str [60, 61]]), (25, .int .i64 c)]) (fun _ => []) (fun c => 10 - c) 0 ?_ fun c hc => ?_
   ·simp only [go_sem, Nat.reduceEqDiff, reduceCtorEq, Nat.reduceLeDiff]
    exact fun j hj => by omega
   ·obtain ⟨c1, c2⟩ := hc
    simp only [A_ru_ClassL0, go_sem, Nat.reduceEqDiff, Nat.reduceAdd, reduceCtorEq]
    refine ⟨fun h => ⟨⟨by omega, by omega⟩, ?_⟩, fun h => ?_⟩
    ·have hcc : c < 10 := by omega
     have hok := clsS_ok c
     simp only [cls_at c hcc, go_sem]
     rw [wi32 (by omega)]
     refine call_ev (ev_containsRune hX hs _ hok.1 hok.2 r hv he) ?_
     cases hh : hasR (clsS.getD c []) r with
     | true =>
      simp only [go_sem, Nat.reduceEqDiff, reduceCtorEq]
      rw [cls_hit r hv (by omega) (by omega) c hcc hh]
     | false =>
      simp only [go_sem, Nat.reduceEqDiff, reduceCtorEq]
      refine ⟨c + 1, by omega, ⟨by omega, fun j hj => ?_⟩, by rw [wi64 (by omega)]; rfl⟩
      rcases (by omega : j = c ∨ j < c) with rfl | h'
      ·exact hh
      ·exact c2 j h'
    ·rw [cls_miss r hv (by omega) (by omega) fun j hj => c2 j (by omega)]
  ·simp only [go_sem, Nat.reduceEqDiff, reduceCtorEq, fault, d.1, d.2.1, d.2.2]
   refine call_ev (ev_classes hX hs) ?_
   simp only [go_sem]
   refine w_loop' hs.hm (ι := Nat) (fun c => c ≤ 10 ∧ ∀ j, j < c → hasR (clsS.getD j []) r = false) (fun c => [(0, .int .i64 r), (24, .agg [.str [], .str [32], .str [10], .str [40, 91], .str [41, 93], .str [34], .str [], .str [45], .str [], .str [60, 61]]), (25, .int .i64 c)]) (fun _ => []) (fun c => 10 - c) 0 ?_ fun c hc => ?_
   ·simp only [go_sem, Nat.reduceEqDiff, reduceCtorEq, Nat.reduceLeDiff]
    exact fun j hj => by omega
   ·obtain ⟨c1, c2⟩ := hc
    simp only [A_ru_ClassL0, go_sem, Nat.reduceEqDiff, Nat.reduceAdd, reduceCtorEq]
    refine ⟨fun h => ⟨⟨by omega, by omega⟩, ?_⟩, fun h => ?_⟩
    ·have hcc : c < 10 := by omega
     have hok := clsS_ok c
     simp only [cls_at c hcc, go_sem]
     rw [wi32 (by omega)]
     refine call_ev (ev_containsRune hX hs _ hok.1 hok.2 r hv he) ?_
     cases hh : hasR (clsS.getD c []) r with
     | true =>
      simp only [go_sem, Nat.reduceEqDiff, reduceCtorEq]
      rw [cls_hit r hv (by omega) (by omega) c hcc hh]
     | false =>
      simp only [go_sem, Nat.reduceEqDiff, reduceCtorEq]
      refine ⟨c + 1, by omega, ⟨by omega, fun j hj => ?_⟩, by rw [wi64 (by omega)]; rfl⟩
      rcases (by omega : j = c ∨ j < c) with rfl | h'
      ·exact hh
      ·exact c2 j h'
    ·rw [cls_miss r hv (by omega) (by omega) fun j hj => c2 j (by omega)]
  ·simp only [go_sem, Nat.reduceEqDiff, reduceCtorEq, fault, d.1, d.2.1, d.2.2.1, d.2.2.2]
   refine call_ev (ev_classes hX hs) ?_
   simp only [go_sem]
   refine w_loop' hs.hm (ι := Nat) (fun c => c ≤ 10 ∧ ∀ j, j < c → hasR (clsS.getD j []) r = false) (fun c => [(0, .int .i64 r), (24, .agg [.str [], .str [32], .str [10], .str [40, 91], .str [41, 93], .str [34], .str [], .str [45], .str [], .str [60, 61]]), (25, .int .i64 c)]) (fun _ => []) (fun c => 10 - c) 0 ?_ fun c hc => ?_
   ·simp only [go_sem, Nat.reduceEqDiff, reduceCtorEq, Nat.reduceLeDiff]
    exact fun j hj => by omega
   ·obtain ⟨c1, c2⟩ := hc
    simp only [A_ru_ClassL0, go_sem, Nat.reduceEqDiff, Nat.reduceAdd, reduceCtorEq]
    refine ⟨fun h => ⟨⟨by omega, by omega⟩, ?_⟩, fun h => ?_⟩
    ·have hcc : c < 10 := by omega
     have hok := clsS_ok c
     simp only [cls_at c hcc, go_sem]
     rw [wi32 (by omega)]
     refine call_ev (ev_containsRune hX hs _ hok.1 hok.2 r hv he) ?_
     cases hh : hasR (clsS.getD c []) r with
     | true =>
      simp only [go_sem, Nat.reduceEqDiff, reduceCtorEq]
      rw [cls_hit r hv (by omega) (by omega) c hcc hh]
     | false =>
      simp only [go_sem, Nat.reduceEqDiff, reduceCtorEq]
      refine ⟨c + 1, by omega, ⟨by omega, fun j hj => ?_⟩, by rw [wi64 (by omega)]; rfl⟩
      rcases (by omega : j = c ∨ j < c) with rfl | h'
      ·exact hh
      ·exact c2 j h'
    ·rw [cls_miss r hv (by omega) (by omega) fun j hj => c2 j (by omega)]
end
end Go.Avm
namespace Go.Avm
open Go Go.Rn
theorem bt_def (l : List UInt8) (i : Nat) : (((l.getD i default).toNat : Nat) : Int) = bt l i := rfl
set_option maxRecDepth 4000
section
variable {X : Cx} (hX : X.P = Go.Proofs.Tryz.prog) (hs : Std X)
include hX hs
end
end Go.Avm
namespace Go.Avm
open Go Go.Rn
set_option maxRecDepth 4000
section
variable {X : Cx} (hX : X.P = Go.Proofs.Tryz.prog) (hs : Std X)
include hX hs
end
end Go.Avm
namespace Go.Avm
open Go Go.Rn
def dcv (l : List UInt8) : AV := match dcO l with
  | some (r, n) => .tuple [.int .i64 r, .int .i64 n, .int .i64 0]
  | none => .tuple [.int .i64 0, .int .i64 0, .int .i64 (if more l then 370 else 6)]
theorem dec_rng {l : List UInt8} {r : Int} {n : Nat} (h : dcO l = some (r, n)) : 0 ≤ r ∧ r ≤ 1114111 ∧ 1 ≤ n ∧ n ≤ 4 ∧ n ≤ l.length := by
  have := dec_some h
  have h1 := valid_rng this.1; have h2 := enc_len_pos this.1
  omega
set_option maxRecDepth 4000
section
variable {X : Cx} (hX : X.P = Go.Proofs.Tryz.prog) (hs : Std X)
include hX hs
end
end Go.Avm
