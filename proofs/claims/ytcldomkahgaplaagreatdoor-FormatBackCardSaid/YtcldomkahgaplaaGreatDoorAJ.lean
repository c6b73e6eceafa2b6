/- Texts of arrays and arrays of texts, plain. -/
import Derived.Test.YtcldomkahgaplaaGreatDoorAI
import Derived.Test.YtcldomkahgaplaaGreatDoorAF7
import Derived.Test.YtcldomkahgaplaaGreatDoorM1
import Derived.Test.YtcldomkahgaplaaGreatDoorM2
set_option linter.all false
namespace Go.Avm
open Go Go.Fm Go.Rn Go.Lx
set_option maxRecDepth 10000
def runeOk (r : Int) : Bool := Lat.runeI r
theorem runeI_valid {r : Int} (h : runeOk r = true) : valid r = true := by
 unfold runeOk Lat.runeI at h
 simp only [Bool.and_eq_true, Bool.or_eq_true, decide_eq_true_eq] at h
 exact (valid_iff r).2 (by omega)
theorem arr_valid {a : Lat.Arr} (h : Lat.arrE a = 0) (hk : a.k ≠ 1) : ∀ r ∈ a.c, valid r = true := fun r hr => by
 have h0 := (Lat.arrE_0 h).1
 unfold Lat.arrE at h
 split at h
 ·omega
 ·split at h
  ·omega
  ·split at h
   ·omega
   ·split at h
    ·omega
    ·rename_i h5
     refine runeI_valid (Decidable.byContradiction fun hc => h5 ⟨by omega, List.any_eq_true.2 ⟨r, hr, ?_⟩⟩)
     unfold runeOk at hc
     simpa using hc
theorem hx_ne {c : UInt8} (h : hxB c = true) : c ≠ 10 := fun e => by
 rw [e] at h
 revert h
 decide
theorem enc_small10 {r : Int} (h : 32 ≤ r ∧ r ≤ 126) : (10 : UInt8) ∉ enc r := fun hm => by
 have hv : valid r = true := (valid_iff r).2 (.inl (by omega))
 rw [enc_eq hv, encI, if_pos (by omega)] at hm
 simp only [List.map_cons, List.map_nil, List.mem_cons, List.not_mem_nil, or_false] at hm
 have h1 := byteI_toNat (x := r) (by omega)
 rw [← hm] at h1
 have : ((10 : UInt8).toNat : Int) = 10 := rfl
 omega
theorem escR_10 (r : Int) : (10 : UInt8) ∉ escR r := fun hm => by
 unfold escR at hm
 split at hm
 ·rename_i h
  rcases List.mem_cons.1 hm with h1 | h1
  ·exact absurd h1 (by decide)
  ·exact enc_small10 (by omega) h1
 ·split at hm
  ·exact absurd hm (by decide)
  ·split at hm
   ·rename_i h
    exact enc_small10 h hm
   ·simp only [List.mem_cons, List.mem_append, List.not_mem_nil, or_false] at hm
    rcases hm with h | h | h | h
    ·exact absurd h (by decide)
    ·exact absurd h (by decide)
    ·exact hx_ne (List.all_eq_true.1 (hexs_all _).1 _ h) rfl
    ·exact absurd h (by decide)
theorem qt_10 (s : List UInt8) : (10 : UInt8) ∉ qt s := fun hm => by
 unfold qt at hm
 simp only [List.mem_cons, List.mem_append, List.not_mem_nil, or_false, List.mem_flatMap] at hm
 rcases hm with h | ⟨r, _, h⟩ | h
 ·exact absurd h (by decide)
 ·exact escR_10 r h
 ·exact absurd h (by decide)
theorem nums_10 (l : List Int) : (10 : UInt8) ∉ nums l := fun hm => by
 unfold nums at hm
 rcases join_mem hm with ⟨x, hx, hb⟩ | hb
 ·obtain ⟨v, _, rfl⟩ := List.mem_map.1 hx
  exact itoa_no (by decide) (.inl (by decide)) hb
 ·exact absurd hb (by decide)
theorem pcK_10 (k : Int) (l : List Int) : (10 : UInt8) ∉ pcK k l := by
 unfold pcK
 split
 ·exact nums_10 l
 ·exact qt_10 _
theorem spl_nums {l : List Int} (h : l ≠ []) : Wo.splC 32 (nums l) = l.map Lib.itoa := by
 unfold nums
 exact Wo.splC_join (by simpa using h) fun x hx => by
  obtain ⟨v, _, rfl⟩ := List.mem_map.1 hx
  exact itoa_no (by decide) (.inl (by decide))
theorem wI_itoa {high v : Int} (h64 : -9223372036854775808 ≤ v ∧ v ≤ 9223372036854775807) (h : -1 - high ≤ v ∧ v ≤ high) : wI high (Lib.itoa v) = (v, 0) := by
 have h1 := Wo.int_itoa v h64
 unfold Wo.intS at h1
 unfold wI Wo.intS
 split at h1
 ·simp at h1
 ·rename_i hd
  rw [if_neg hd]
  split at h1
  ·simp at h1
  ·have e : Wo.valS (Lib.itoa v) = v := (Prod.mk.inj h1).1
   rw [e, if_neg (by omega)]
theorem whole_nums {high : Int} {l : List Int} (h64 : R64 l) (h : ∀ v ∈ l, -1 - high ≤ v ∧ v ≤ high ∧ (high < 9223372036854775807 → 0 ≤ v)) : wholeR high (l.map Lib.itoa) = (l, true) := by
 have ha : (l.map Lib.itoa).all (wOk high) = true := by
  rw [List.all_eq_true]
  intro f hf
  obtain ⟨v, hv, rfl⟩ := List.mem_map.1 hf
  have h1 := h v hv
  unfold wOk
  rw [wI_itoa (h64 v hv) ⟨h1.1, h1.2.1⟩]
  simp only [decide_true, Bool.true_and, Bool.not_eq_true', Bool.and_eq_false_iff, decide_eq_false_iff_not]
  by_cases h2 : high < 9223372036854775807
  ·have := h1.2.2 h2
   exact .inr (by omega)
  ·exact .inl h2
 unfold wholeR
 rw [if_pos ha]
 congr 1
 unfold wN
 rw [List.map_map]
 conv => rhs; rw [← List.map_id l]
 refine List.map_congr_left fun v hv => ?_
 show (wI high (Lib.itoa v)).1 = v
 rw [wI_itoa (h64 v hv) ⟨(h v hv).1, (h v hv).2.1⟩]
theorem cellI_nums {l : List Int} (h : R64 l) (h0 : l ≠ []) : cellI (nums l) l.length = (l, true) := by
 unfold cellI
 rw [spl_nums h0, whole_nums h fun v hv => by have := h v hv; omega]
 simp
theorem lnC_qt {l : List Int} (h : ∀ r ∈ l, valid r = true) (hl : l.length ≤ 20) : lnC (qt (byB l)) = l := by
 have hb := byB_rns l h hl
 have hok := byB_ok l
 have hle := byB_len l
 have hql := qt_len (byB l)
 have ht := text_qt hok []
 rw [List.append_nil] at ht
 obtain ⟨w, hw⟩ : ∃ w, qt (byB l) = 34 :: w := ⟨_, rfl⟩
 have hL : Lx 0 (qt (byB l)) [(⟨3, 0, byB l⟩, 0, 0 + (qt (byB l)).length)] := by
  rw [hw] at ht ⊢
  refine .tok (by decide) ht ?_
  rw [List.drop_length]
  exact .nil _
 have e := lineR_ok (by omega) hL
 unfold lnC
 rw [e, if_pos ⟨rfl, rfl⟩]
 show rnsL (byB l) = l
 have hst : stop (byB l) = (byB l).length := of_decide_eq_true hok
 have hck : ckE (byB l) = 0 := by
  unfold ckE stopE
  rw [if_neg (by omega), if_neg (by omega)]
 unfold rnsL
 rw [if_pos hck, hb]
 exact runeL_encs l h
theorem cellC_qt {l : List Int} (h : ∀ r ∈ l, valid r = true) (hl : l.length ≤ 20) : cellC (qt (byB l)) l.length = (l, true) := by
 unfold cellC
 rw [lnC_qt h hl]
 simp
theorem cfK_pcK {k : Int} {l : List Int} (h : R64 l) (h0 : l ≠ []) (hl : l.length ≤ 20) (hr : k ≠ 1 → ∀ r ∈ l, valid r = true) : cfK k (pcK k l) l.length = (l, true) := by
 unfold cfK pcK
 by_cases hk : k = 1
 ·rw [if_pos hk, if_pos hk]
  exact cellI_nums h h0
 ·rw [if_neg hk, if_neg hk]
  exact cellC_qt (hr hk) hl
theorem pcK_cfK {k : Int} {s : List UInt8} {m : Nat} (h : (cfK k s m).2 = true) : pcK k (cfK k s m).1 = s := by
 unfold cfK pcK at *
 by_cases hk : k = 1
 ·rw [if_pos hk] at h ⊢
  rw [if_pos hk]
  unfold cellI at h ⊢
  simp only [Bool.and_eq_true, decide_eq_true_eq] at h
  exact h.2
 ·rw [if_neg hk] at h ⊢
  rw [if_neg hk]
  unfold cellC at h ⊢
  simp only [Bool.and_eq_true, decide_eq_true_eq] at h
  exact h.2
end Go.Avm
