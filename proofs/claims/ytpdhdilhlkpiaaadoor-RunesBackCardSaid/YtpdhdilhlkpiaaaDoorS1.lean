/- Contracts of the functions that the statements reach. -/
import Derived.Test.YtpdhdilhlkpiaaaDoorM9
set_option linter.unusedSectionVars false
set_option linter.unusedSimpArgs false
set_option linter.unusedVariables false

namespace Go.Avm
open Go
def valid (n : Int) : Bool := (decide (0 ≤ n) && decide (n < 55296)) || (decide (57343 < n) && decide (n ≤ 1114111))
def encI (n : Int) : List Int :=
  if n < 128 then [n] else if n < 2048 then [192 + n / 64, 128 + n % 64] else if n < 65536 then [224 + n / 4096, 128 + n / 64 % 64, 128 + n % 64]
  else [240 + n / 262144, 128 + n / 4096 % 64, 128 + n / 64 % 64, 128 + n % 64]
def byteI (x : Int) : UInt8 := UInt8.ofNat x.toNat
def enc (n : Int) : List UInt8 := if valid n then (encI n).map byteI else []
def fault (b : Bool) : Int := if b then 0 else 7

theorem u8_byteI {x : Int} (h : 0 ≤ x ∧ x < 256) : u8 (byteI x) = .int .u8 x := by
  simp only [u8, byteI, AV.int.injEq, true_and]
  have : (UInt8.ofNat x.toNat).toNat = x.toNat := by simp; omega
  rw [this]; omega

theorem u8_wrap (x : Int) : AV.int .u8 (IntKind.u8.wrap x) = u8 (byteI (x % 256)) := by
  rw [u8_byteI (by omega), w_u8]

/-- the i-th byte as a number -/
def bt (l : List UInt8) (i : Nat) : Int := ((l.getD i 0).toNat : Int)
theorem bt_rng (l : List UInt8) (i : Nat) : 0 ≤ bt l i ∧ bt l i < 256 := by
  have := (l.getD i 0).toNat_lt; simp only [bt]; omega
theorem bt_zero (a : UInt8) (l : List UInt8) : bt (a :: l) 0 = (a.toNat : Int) := rfl
theorem bt_succ (a : UInt8) (l : List UInt8) (i : Nat) : bt (a :: l) (i + 1) = bt l i := rfl
theorem byteI_toNat {x : Int} (h : 0 ≤ x ∧ x < 256) : ((byteI x).toNat : Int) = x := by
  simp only [byteI]
  have : (UInt8.ofNat x.toNat).toNat = x.toNat := by simp; omega
  rw [this]; omega
theorem byteI_of (b : UInt8) : byteI (b.toNat : Int) = b := by simp [byteI]
theorem byteI_bt (l : List UInt8) (i : Nat) : byteI (bt l i) = l.getD i 0 := by simp [byteI, bt]

def lo (a : Int) : Int := if a = 224 then 160 else if a = 240 then 144 else 128
def hi (a : Int) : Int := if a = 237 then 159 else if a = 244 then 143 else 191
theorem lohi (a : Int) : 128 ≤ lo a ∧ lo a ≤ 160 ∧ 143 ≤ hi a ∧ hi a ≤ 191 ∧ (a = 224 → lo a = 160) ∧ (a = 240 → lo a = 144) ∧ (a = 237 → hi a = 159) ∧ (a = 244 → hi a = 143) ∧ (a ≠ 224 → a ≠ 240 → lo a = 128) ∧ (a ≠ 237 → a ≠ 244 → hi a = 191) := by
  simp only [lo, hi]; grind
def decI (n a b c d : Int) : Option (Int × Nat) :=
  if n < 1 then none
  else if a < 128 then some (a, 1)
  else if 194 ≤ a ∧ a < 224 ∧ 2 ≤ n ∧ 128 ≤ b ∧ b < 192 then some (64 * (a - 192) + (b - 128), 2)
  else if 224 ≤ a ∧ a < 240 ∧ 3 ≤ n ∧ lo a ≤ b ∧ b ≤ hi a ∧ 128 ≤ c ∧ c < 192 then some (4096 * (a - 224) + 64 * (b - 128) + (c - 128), 3)
  else if 240 ≤ a ∧ a < 245 ∧ 4 ≤ n ∧ lo a ≤ b ∧ b ≤ hi a ∧ 128 ≤ c ∧ c < 192 ∧ 128 ≤ d ∧ d < 192 then some (262144 * (a - 240) + 4096 * (b - 128) + 64 * (c - 128) + (d - 128), 4)
  else none
/-- the first rune of some bytes, and how many bytes it has -/
def dec (l : List UInt8) : Option (Int × Nat) := decI l.length (bt l 0) (bt l 1) (bt l 2) (bt l 3)
def moreI (n a b c : Int) : Bool :=
  decide (194 ≤ a ∧ a < 224 ∧ n = 1) || decide (224 ≤ a ∧ a < 240 ∧ 1 ≤ n ∧ n < 3 ∧ (n = 1 ∨ lo a ≤ b ∧ b ≤ hi a)) ||
  decide (240 ≤ a ∧ a < 245 ∧ 1 ≤ n ∧ n < 4 ∧ (n = 1 ∨ lo a ≤ b ∧ b ≤ hi a) ∧ (n ≤ 2 ∨ 128 ≤ c ∧ c < 192))
/-- a beginning of a rune's bytes, but not all of them -/
def more (l : List UInt8) : Bool := moreI l.length (bt l 0) (bt l 1) (bt l 2)

theorem valid_iff (n : Int) : valid n = true ↔ (0 ≤ n ∧ n < 55296) ∨ (57343 < n ∧ n ≤ 1114111) := by simp [valid]
theorem valid_rng {n : Int} (h : valid n = true) : 0 ≤ n ∧ n ≤ 1114111 := by rw [valid_iff] at h; omega
theorem encI_rng {n : Int} (h : valid n = true) : ∀ x ∈ encI n, 0 ≤ x ∧ x < 256 := by
  have := valid_rng h
  simp only [encI]; split
  · simp; omega
  split
  · simp; omega
  split <;> · simp; omega
theorem encI_len (n : Int) : (encI n).length = if n < 128 then 1 else if n < 2048 then 2 else if n < 65536 then 3 else 4 := by
  simp only [encI]; split
  · rfl
  split
  · rfl
  split <;> rfl
theorem enc_eq {n : Int} (h : valid n = true) : enc n = (encI n).map byteI := by simp [enc, h]
theorem enc_len {n : Int} (h : valid n = true) : (enc n).length = if n < 128 then 1 else if n < 2048 then 2 else if n < 65536 then 3 else 4 := by
  rw [enc_eq h, List.length_map, encI_len]
theorem enc_len_pos {n : Int} (h : valid n = true) : 1 ≤ (enc n).length ∧ (enc n).length ≤ 4 := by
  rw [enc_len h]; split
  · omega
  split
  · omega
  split <;> omega
theorem dec_enc {n : Int} (h : valid n = true) (t : List UInt8) : dec (enc n ++ t) = some (n, (enc n).length) := by
  have hr := valid_rng h
  have hv := (valid_iff n).1 h
  rw [enc_len h, enc_eq h]
  simp only [encI, dec]
  by_cases h1 : n < 128
  · simp only [h1, if_true, List.map_cons, List.map_nil, List.cons_append, List.nil_append, List.length_cons, bt_zero]
    rw [byteI_toNat (by omega)]
    simp only [decI, h1, if_true]
    rw [if_neg (by omega)]
  by_cases h2 : n < 2048
  · simp only [h1, h2, if_true, if_false, List.map_cons, List.map_nil, List.cons_append, List.nil_append, List.length_cons, bt_zero, bt_succ]
    rw [byteI_toNat (by omega), byteI_toNat (by omega)]
    simp only [decI]
    rw [if_neg (by omega), if_neg (by omega), if_pos (by omega)]
    simp only [Option.some.injEq, Prod.mk.injEq, and_true]; omega
  by_cases h3 : n < 65536
  · simp only [h1, h2, h3, if_true, if_false, List.map_cons, List.map_nil, List.cons_append, List.nil_append, List.length_cons, bt_zero, bt_succ]
    rw [byteI_toNat (by omega), byteI_toNat (by omega), byteI_toNat (by omega)]
    simp only [decI]
    rw [if_neg (by omega), if_neg (by omega), if_neg (by omega), if_pos (by have := lohi (224 + n / 4096); have := lohi (240 + n / 262144); omega)]
    simp only [Option.some.injEq, Prod.mk.injEq, and_true]; omega
  · simp only [h1, h2, h3, if_false, List.map_cons, List.map_nil, List.cons_append, List.nil_append, List.length_cons, bt_zero, bt_succ]
    rw [byteI_toNat (by omega), byteI_toNat (by omega), byteI_toNat (by omega), byteI_toNat (by omega)]
    simp only [decI]
    rw [if_neg (by omega), if_neg (by omega), if_neg (by omega), if_neg (by omega), if_pos (by have := lohi (224 + n / 4096); have := lohi (240 + n / 262144); omega)]
    simp only [Option.some.injEq, Prod.mk.injEq, and_true]; omega
theorem dec_some {l : List UInt8} {r : Int} {n : Nat} (h : dec l = some (r, n)) : valid r = true ∧ n ≤ l.length ∧ l.take n = enc r ∧ n = (enc r).length := by
  have b0 := bt_rng l 0; have b1 := bt_rng l 1; have b2 := bt_rng l 2; have b3 := bt_rng l 3
  simp only [dec, decI] at h
  rw [valid_iff]
  have key : ∀ hv : valid r = true, n = (encI r).length → n ≤ l.length → (∀ i < n, bt l i = (encI r).getD i 0) → valid r = true ∧ n ≤ l.length ∧ l.take n = enc r ∧ n = (enc r).length := fun hv hn hl hi => by
    refine ⟨hv, hl, ?_, by rw [enc_eq hv, List.length_map]; exact hn⟩
    rw [enc_eq hv]
    refine List.ext_getElem (by simp; omega) fun i h1 h2 => ?_
    simp only [List.length_take, List.length_map] at h1 h2
    have := hi i (by omega)
    rw [List.getElem_take, List.getElem_map]
    have e1 : l.getD i 0 = l[i]'(by omega) := by simp [List.getD, (show i < l.length by omega)]
    have e2 : (encI r).getD i 0 = (encI r)[i]'(by omega) := by simp [List.getD, h2]
    rw [e2] at this
    rw [← this, byteI_bt, e1]
  rw [valid_iff] at key
  have s1 : ∀ P : Nat → Prop, P 0 → ∀ i < 1, P i := fun P h0 i hi => by have : i = 0 := by omega
                                                                        subst this; exact h0
  have s2 : ∀ P : Nat → Prop, P 0 → P 1 → ∀ i < 2, P i := fun P h0 h1 i hi => by match i, hi with | 0, _ => exact h0 | 1, _ => exact h1
  have s3 : ∀ P : Nat → Prop, P 0 → P 1 → P 2 → ∀ i < 3, P i := fun P h0 h1 h2 i hi => by match i, hi with | 0, _ => exact h0 | 1, _ => exact h1 | 2, _ => exact h2
  have s4 : ∀ P : Nat → Prop, P 0 → P 1 → P 2 → P 3 → ∀ i < 4, P i := fun P h0 h1 h2 h3 i hi => by match i, hi with | 0, _ => exact h0 | 1, _ => exact h1 | 2, _ => exact h2 | 3, _ => exact h3
  split at h
  · exact absurd h (by simp)
  split at h
  · simp only [Option.some.injEq, Prod.mk.injEq] at h; obtain ⟨rfl, rfl⟩ := h
    have e : encI (bt l 0) = [bt l 0] := by simp only [encI]; rw [if_pos (by omega)]
    rw [e] at key
    exact key (by omega) (by simp) (by omega) (s1 _ (by simp))
  split at h
  · simp only [Option.some.injEq, Prod.mk.injEq] at h; obtain ⟨rfl, rfl⟩ := h
    have e : encI (64 * (bt l 0 - 192) + (bt l 1 - 128)) = [bt l 0, bt l 1] := by
      simp only [encI]; rw [if_neg (by omega), if_pos (by omega)]; congr 1
      · omega
      · congr 1; omega
    rw [e] at key
    exact key (by omega) (by simp) (by omega) (s2 _ (by simp) (by simp))
  split at h
  · simp only [Option.some.injEq, Prod.mk.injEq] at h; obtain ⟨rfl, rfl⟩ := h
    have hh : 2048 ≤ 4096 * (bt l 0 - 224) + 64 * (bt l 1 - 128) + (bt l 2 - 128) ∧ (4096 * (bt l 0 - 224) + 64 * (bt l 1 - 128) + (bt l 2 - 128) < 55296 ∨ 57343 < 4096 * (bt l 0 - 224) + 64 * (bt l 1 - 128) + (bt l 2 - 128)) ∧ 4096 * (bt l 0 - 224) + 64 * (bt l 1 - 128) + (bt l 2 - 128) < 65536 ∧ 128 ≤ bt l 1 ∧ bt l 1 < 192 := by have := lohi (bt l 0); omega
    have e : encI (4096 * (bt l 0 - 224) + 64 * (bt l 1 - 128) + (bt l 2 - 128)) = [bt l 0, bt l 1, bt l 2] := by
      simp only [encI]; rw [if_neg (by omega), if_neg (by omega), if_pos (by omega)]; congr 1
      · omega
      · congr 1
        · omega
        · congr 1; omega
    rw [e] at key
    exact key (by omega) (by simp) (by omega) (s3 _ (by simp) (by simp) (by simp))
  split at h
  · simp only [Option.some.injEq, Prod.mk.injEq] at h; obtain ⟨rfl, rfl⟩ := h
    have hh : 65536 ≤ 262144 * (bt l 0 - 240) + 4096 * (bt l 1 - 128) + 64 * (bt l 2 - 128) + (bt l 3 - 128) ∧ 262144 * (bt l 0 - 240) + 4096 * (bt l 1 - 128) + 64 * (bt l 2 - 128) + (bt l 3 - 128) ≤ 1114111 ∧ 128 ≤ bt l 1 ∧ bt l 1 < 192 := by have := lohi (bt l 0); omega
    have e : encI (262144 * (bt l 0 - 240) + 4096 * (bt l 1 - 128) + 64 * (bt l 2 - 128) + (bt l 3 - 128)) = [bt l 0, bt l 1, bt l 2, bt l 3] := by
      simp only [encI]; rw [if_neg (by omega), if_neg (by omega), if_neg (by omega)]; congr 1
      · omega
      · congr 1
        · omega
        · congr 1
          · omega
          · congr 1; omega
    rw [e] at key
    exact key (by omega) (by simp) (by omega) (s4 _ (by simp) (by simp) (by simp) (by simp))
  · exact absurd h (by simp)
end Go.Avm

namespace Go.Avm
open Go
/-- the number of the table -/
def numI (l : List UInt8) : Int :=
  if l.length = 1 then (if bt l 0 < 128 then bt l 0 else -1)
  else if l.length = 2 then (if 192 ≤ bt l 0 ∧ bt l 0 < 224 ∧ 128 ≤ bt l 1 ∧ bt l 1 < 192 then 64 * (bt l 0 - 192) + bt l 1 - 128 else -1)
  else if l.length = 3 then (if 224 ≤ bt l 0 ∧ bt l 0 < 240 ∧ 128 ≤ bt l 1 ∧ bt l 1 < 192 ∧ 128 ≤ bt l 2 ∧ bt l 2 < 192 then 64 * (64 * (bt l 0 - 224) + bt l 1 - 128) + bt l 2 - 128 else -1)
  else if l.length = 4 then (if 240 ≤ bt l 0 ∧ bt l 0 < 248 ∧ 128 ≤ bt l 1 ∧ bt l 1 < 192 ∧ 128 ≤ bt l 2 ∧ bt l 2 < 192 ∧ 128 ≤ bt l 3 ∧ bt l 3 < 192 then 64 * (64 * (64 * (bt l 0 - 240) + bt l 1 - 128) + bt l 2 - 128) + bt l 3 - 128 else -1)
  else -1
theorem numI_rng (l : List UInt8) : -1 ≤ numI l ∧ numI l < 2097152 := by
  have b0 := bt_rng l 0; have b1 := bt_rng l 1; have b2 := bt_rng l 2; have b3 := bt_rng l 3
  simp only [numI]
  split
  · split <;> omega
  split
  · split <;> omega
  split
  · split <;> omega
  split
  · split <;> omega
  · omega
/-- are these the bytes of one rune -/
def sb (l : List UInt8) : Bool := decide ((dec l).map (·.2) = some l.length)
theorem dec_num {l : List UInt8} {r : Int} (h : dec l = some (r, l.length)) : numI l = r := by
  have hL := lohi (bt l 0)
  simp only [dec, decI] at h
  split at h
  · cases h
  split at h
  · simp only [Option.some.injEq, Prod.mk.injEq] at h
    simp only [numI, if_pos h.2.symm]; rw [if_pos (by assumption)]; exact h.1
  split at h
  · simp only [Option.some.injEq, Prod.mk.injEq] at h
    simp only [numI]; rw [if_neg (by omega), if_pos (by omega), if_pos (by omega)]; omega
  split at h
  · simp only [Option.some.injEq, Prod.mk.injEq] at h
    simp only [numI]; rw [if_neg (by omega), if_neg (by omega), if_pos (by omega), if_pos (by omega)]; omega
  split at h
  · simp only [Option.some.injEq, Prod.mk.injEq] at h
    simp only [numI]; rw [if_neg (by omega), if_neg (by omega), if_neg (by omega), if_pos (by omega), if_pos (by omega)]; omega
  · cases h
theorem sb_iff (l : List UInt8) : sb l = true ↔ valid (numI l) = true ∧ enc (numI l) = l := by
  simp only [sb, decide_eq_true_eq]
  constructor
  · intro h
    cases hd : dec l with
    | none => simp [hd] at h
    | some x =>
      obtain ⟨r, n⟩ := x
      simp [hd] at h
      subst h
      have h2 := dec_some hd
      rw [dec_num hd]
      exact ⟨h2.1, by rw [← h2.2.2.1, List.take_length]⟩
  · rintro ⟨h1, h2⟩
    have := dec_enc h1 []
    rw [List.append_nil, h2] at this
    simp [this]
theorem sb_num {l : List UInt8} (h : sb l = true) : dec l = some (numI l, l.length) := by
  have h' := (sb_iff l).1 h
  have := dec_enc h'.1 []
  rw [List.append_nil, h'.2] at this
  exact this
/-- the first bytes are those of a rune, if they are so alone -/
theorem dec_take {t : List UInt8} {r : Int} {k : Nat} : dec t = some (r, k) ↔ k ≤ t.length ∧ dec (t.take k) = some (r, k) := by
  constructor
  · intro h
    have h2 := dec_some h
    refine ⟨h2.2.1, ?_⟩
    rw [h2.2.2.1]
    have := dec_enc h2.1 []
    rw [List.append_nil] at this
    rw [this, ← h2.2.2.2]
  · rintro ⟨hk, h⟩
    have h2 := dec_some h
    have : t = enc r ++ t.drop k := by
      rw [← h2.2.2.1, List.take_take, Nat.min_self, List.take_append_drop]
    rw [this, dec_enc h2.1, ← h2.2.2.2]
theorem sb_take {t : List UInt8} {k : Nat} (hk : k ≤ t.length) : sb (t.take k) = true ↔ (dec t).map (·.2) = some k := by
  have hl : (t.take k).length = k := by rw [List.length_take]; omega
  constructor
  · intro h
    have := sb_num h
    rw [hl] at this
    rw [dec_take.2 ⟨hk, this⟩]; rfl
  · intro h
    cases hd : dec t with
    | none => simp [hd] at h
    | some x =>
      obtain ⟨r, n⟩ := x
      simp [hd] at h
      subst h
      simp only [sb, (dec_take.1 hd).2, hl]; simp
def many (a : Int) : Nat := if 192 ≤ a ∧ a < 224 then 2 else if 224 ≤ a ∧ a < 240 then 3 else if 240 ≤ a ∧ a < 248 then 4 else 0
theorem bt_ap (l t : List UInt8) (i : Nat) : bt (l ++ t) i = if i < l.length then bt l i else bt t (i - l.length) := by
  simp only [bt, List.getD]
  split
  · rw [List.getElem?_append_left (by assumption)]
  · rw [List.getElem?_append_right (by omega)]
theorem bt_rep (k : Nat) (b : UInt8) (i : Nat) (h : i < k) : bt (List.replicate k b) i = b.toNat := by
  simp [bt, List.getD, List.getElem?_replicate, h]
theorem dec_full_iff (l : List UInt8) : (dec l).map (·.2) = some l.length ↔
    (l.length = 1 ∧ bt l 0 < 128) ∨ (l.length = 2 ∧ 194 ≤ bt l 0 ∧ bt l 0 < 224 ∧ 128 ≤ bt l 1 ∧ bt l 1 < 192) ∨
    (l.length = 3 ∧ 224 ≤ bt l 0 ∧ bt l 0 < 240 ∧ lo (bt l 0) ≤ bt l 1 ∧ bt l 1 ≤ hi (bt l 0) ∧ 128 ≤ bt l 2 ∧ bt l 2 < 192) ∨
    (l.length = 4 ∧ 240 ≤ bt l 0 ∧ bt l 0 < 245 ∧ lo (bt l 0) ≤ bt l 1 ∧ bt l 1 ≤ hi (bt l 0) ∧ 128 ≤ bt l 2 ∧ bt l 2 < 192 ∧ 128 ≤ bt l 3 ∧ bt l 3 < 192) := by
  have b0 := bt_rng l 0
  simp only [dec, decI]
  split
  · simp; omega
  split
  · simp; omega
  split
  · simp; omega
  split
  · simp; omega
  split
  · simp; omega
  · simp; omega
theorem more_rep (l : List UInt8) (h1 : 1 ≤ l.length) (h2 : l.length < many (bt l 0)) :
    more l = (sb (l ++ List.replicate (many (bt l 0) - l.length) (byteI 128)) || sb (l ++ List.replicate (many (bt l 0) - l.length) (byteI 191))) := by
  have b0 := bt_rng l 0
  have hL := lohi (bt l 0)
  have e1 : ((byteI 128).toNat : Int) = 128 := by decide
  have e2 : ((byteI 191).toNat : Int) = 191 := by decide
  rw [Bool.eq_iff_iff]
  simp only [Bool.or_eq_true, sb, decide_eq_true_eq]
  rw [dec_full_iff, dec_full_iff]
  simp only [List.length_append, List.length_replicate, bt_ap]
  simp only [more, moreI, Bool.or_eq_true, decide_eq_true_eq]
  have hm : (192 ≤ bt l 0 ∧ bt l 0 < 224 ∧ many (bt l 0) = 2) ∨ (224 ≤ bt l 0 ∧ bt l 0 < 240 ∧ many (bt l 0) = 3) ∨ (240 ≤ bt l 0 ∧ bt l 0 < 248 ∧ many (bt l 0) = 4) := by
    simp only [many] at h2 ⊢; grind
  rcases hm with ⟨g1, g2, hm⟩ | ⟨g1, g2, hm⟩ | ⟨g1, g2, hm⟩ <;> rw [hm] at h2 ⊢
  · have h : l.length = 1 := by omega
    simp [h, bt_rep, e1, e2, bt_zero, bt_succ]
    omega
  · rcases (by omega : l.length = 1 ∨ l.length = 2) with h | h
    · simp [h, bt_rep, e1, e2, bt_zero, bt_succ]
      omega
    · simp [h, bt_rep, e1, e2, bt_zero, bt_succ]
      omega
  · rcases (by omega : l.length = 1 ∨ l.length = 2 ∨ l.length = 3) with h | h | h
    · simp [h, bt_rep, e1, e2, bt_zero, bt_succ]
      omega
    · simp [h, bt_rep, e1, e2, bt_zero, bt_succ]
      omega
    · simp [h, bt_rep, e1, e2, bt_zero, bt_succ]
      omega
theorem more_many (l : List UInt8) (h : more l = true) : 1 ≤ l.length ∧ l.length < many (bt l 0) := by
  simp only [more, moreI, Bool.or_eq_true, decide_eq_true_eq] at h
  simp only [many]
  grind
end Go.Avm

namespace Go.Avm
open Go
theorem dec_rng' {l : List UInt8} {r : Int} {n : Nat} (h : dec l = some (r, n)) : 1 ≤ n ∧ n ≤ 4 ∧ n ≤ l.length := by
  have := dec_some h
  have h2 := enc_len_pos this.1
  omega
/-- the runes of a text and how many bytes each has, until one is at fault -/
def runsF : Nat → List UInt8 → List (Int × Nat)
  | 0, _ => []
  | k + 1, t => match dec t with | some (r, n) => (r, n) :: runsF k (t.drop n) | none => []
def runs (t : List UInt8) : List (Int × Nat) := runsF t.length t
theorem runsF_fuel : ∀ (k : Nat) (t : List UInt8), t.length ≤ k → runsF k t = runs t
  | 0, t, h => by rw [show t = [] from List.length_eq_zero_iff.1 (by omega)]; rfl
  | k + 1, t, h => by
    simp only [runsF]
    cases hd : dec t with
    | none =>
      simp only [runs]
      cases ht : t.length with
      | zero => rfl
      | succ m => simp only [runsF, hd]
    | some x =>
      obtain ⟨r, n⟩ := x
      have hr := dec_rng' hd
      simp only [runs]
      cases ht : t.length with
      | zero => omega
      | succ m =>
        simp only [runsF, hd]
        rw [runsF_fuel k (t.drop n) (by rw [List.length_drop]; omega)]
        rw [show m = m from rfl]
        have : runsF m (t.drop n) = runs (t.drop n) := by
          by_cases hm : m ≤ k
          · by_cases hmk : m = k
            · subst hmk; exact runsF_fuel m _ (by rw [List.length_drop]; omega)
            · exact runsF_fuel m _ (by rw [List.length_drop]; omega)
          · omega
        rw [this]
termination_by k => k
theorem runs_some {t : List UInt8} {r : Int} {n : Nat} (h : dec t = some (r, n)) : runs t = (r, n) :: runs (t.drop n) := by
  have hr := dec_rng' h
  simp only [runs]
  cases ht : t.length with
  | zero => omega
  | succ m =>
    simp only [runsF, h]
    rw [runsF_fuel m _ (by rw [List.length_drop]; omega)]
    rfl
theorem runs_none {t : List UInt8} (h : dec t = none) : runs t = [] := by
  simp only [runs]
  cases ht : t.length with
  | zero => rfl
  | succ m => simp only [runsF, h]
theorem runs_nil : runs [] = [] := rfl
def runeL (t : List UInt8) : List Int := (runs t).map (·.1)
def stop (t : List UInt8) : Nat := ((runs t).map (·.2)).sum
def startsF (p : Nat) : List (Int × Nat) → List Int
  | [] => []
  | (_, n) :: t => (p : Int) :: startsF (p + n) t
/-- what is at fault where it stops -/
def stopE (t : List UInt8) : Int := if stop t < t.length then (if more (t.drop (stop t)) then 370 else 6) else 0
theorem stop_some {t : List UInt8} {r : Int} {n : Nat} (h : dec t = some (r, n)) : stop t = n + stop (t.drop n) := by
  simp only [stop, runs_some h, List.map_cons, List.sum_cons]
theorem stop_none {t : List UInt8} (h : dec t = none) : stop t = 0 := by simp [stop, runs_none h]
theorem runeL_some {t : List UInt8} {r : Int} {n : Nat} (h : dec t = some (r, n)) : runeL t = r :: runeL (t.drop n) := by
  simp only [runeL, runs_some h, List.map_cons]
theorem runeL_none {t : List UInt8} (h : dec t = none) : runeL t = [] := by simp [runeL, runs_none h]
theorem dec_nil' : dec [] = none := rfl
/-- by induction over the runes of a text -/
theorem runs_ind {P : List UInt8 → Prop} (h0 : ∀ t, dec t = none → P t) (h1 : ∀ t r n, dec t = some (r, n) → P (t.drop n) → P t) : ∀ t, P t := by
  intro t
  generalize hk : t.length = k
  induction k using Nat.strongRecOn generalizing t with
  | ind k ih =>
    cases hd : dec t with
    | none => exact h0 t hd
    | some x =>
      obtain ⟨r, n⟩ := x
      have hr := dec_rng' hd
      exact h1 t r n hd (ih (t.drop n).length (by rw [List.length_drop]; omega) _ rfl)
theorem stop_le (t : List UInt8) : stop t ≤ t.length := by
  refine runs_ind (P := fun t => stop t ≤ t.length) (fun t h => by rw [stop_none h]; omega) (fun t r n h ih => ?_) t
  have := dec_rng' h
  rw [stop_some h]; rw [List.length_drop] at ih; omega
theorem dec_stop (t : List UInt8) : dec (t.drop (stop t)) = none := by
  refine runs_ind (P := fun t => dec (t.drop (stop t)) = none) (fun t h => by rw [stop_none h]; exact h) (fun t r n h ih => ?_) t
  rw [stop_some h, ← List.drop_drop]; exact ih
theorem take_stop (t : List UInt8) : t.take (stop t) = ((runeL t).map enc).flatten := by
  refine runs_ind (P := fun t => t.take (stop t) = ((runeL t).map enc).flatten) (fun t h => by rw [stop_none h, runeL_none h]; rfl) (fun t r n h ih => ?_) t
  rw [stop_some h, runeL_some h, List.map_cons, List.flatten_cons, ← ih, ← (dec_some h).2.2.1]
  rw [List.take_add]
theorem runeL_valid (t : List UInt8) : ∀ r ∈ runeL t, valid r = true := by
  refine runs_ind (P := fun t => ∀ r ∈ runeL t, valid r = true) (fun t h => by rw [runeL_none h]; simp) (fun t r n h ih => ?_) t
  rw [runeL_some h]
  intro x hx
  rcases List.mem_cons.1 hx with rfl | hx
  · exact (dec_some h).1
  · exact ih x hx
theorem runs_append {a : List UInt8} (h : stop a = a.length) (b : List UInt8) : runs (a ++ b) = runs a ++ runs b := by
  revert h
  refine runs_ind (P := fun a => stop a = a.length → runs (a ++ b) = runs a ++ runs b) (fun t h hs => ?_) (fun t r n h ih hs => ?_) a
  · rw [stop_none h] at hs
    rw [List.length_eq_zero_iff.1 hs.symm]; rfl
  · have hn := dec_rng' h
    have h2 : dec (t ++ b) = some (r, n) := dec_take.2 ⟨by rw [List.length_append]; omega, by rw [List.take_append_of_le_length hn.2.2]; exact (dec_take.1 h).2⟩
    rw [runs_some h, runs_some h2, List.cons_append, List.drop_append_of_le_length hn.2.2, ih]
    rw [stop_some h] at hs; rw [List.length_drop]; omega
theorem runs_enc {r : Int} (h : valid r = true) : runs (enc r) = [(r, (enc r).length)] := by
  have h2 := dec_enc h []
  rw [List.append_nil] at h2
  rw [runs_some h2, List.drop_length]; rfl
theorem stop_enc {r : Int} (h : valid r = true) : stop (enc r) = (enc r).length := by
  simp [stop, runs_enc h]
theorem runs_encs : ∀ (l : List Int), (∀ r ∈ l, valid r = true) → runs (l.map enc).flatten = l.map fun r => (r, (enc r).length)
  | [], _ => rfl
  | r :: t, h => by
    rw [List.map_cons, List.flatten_cons, runs_append (stop_enc (h r (by simp))), runs_enc (h r (by simp)), runs_encs t (fun x hx => h x (by simp [hx]))]
    rfl
theorem stop_append {a : List UInt8} (h : stop a = a.length) (b : List UInt8) : stop (a ++ b) = a.length + stop b := by
  simp only [stop, runs_append h, List.map_append, List.sum_append]; rw [← h]; rfl
theorem stop_encs (l : List Int) (h : ∀ r ∈ l, valid r = true) : stop (l.map enc).flatten = (l.map enc).flatten.length := by
  simp only [stop, runs_encs l h, List.length_flatten, List.map_map]; rfl
theorem runeL_encs (l : List Int) (h : ∀ r ∈ l, valid r = true) : runeL (l.map enc).flatten = l := by
  simp only [runeL, runs_encs l h, List.map_map]; exact List.map_id l
end Go.Avm

namespace Go.Avm
open Go
def startL (b : List UInt8) : List Int := startsF 0 (runs b) ++ [(b.length : Int)]
/-- the last start that is at or before i -/
def backV (b : List UInt8) (i : Int) : Int := (startL b).foldl (fun o s => if s ≤ i then s else o) 0
def conB (x : Int) : Bool := decide (128 ≤ x ∧ x < 192)
theorem bt_enc {r : Int} (h : valid r = true) (i : Nat) : bt (enc r) i = (encI r).getD i 0 := by
  rw [enc_eq h]
  simp only [bt, List.getD, List.getElem?_map]
  cases hi : (encI r)[i]? with
  | none => rfl
  | some x =>
    have hx := encI_rng h x (List.mem_of_getElem? hi)
    simp only [Option.map_some, Option.getD_some]
    exact byteI_toNat hx
theorem enc_first {r : Int} (h : valid r = true) : conB (bt (enc r) 0) = false := by
  have hr := valid_rng h
  rw [bt_enc h]
  have : (encI r).getD 0 0 < 128 ∨ 192 ≤ (encI r).getD 0 0 := by
    simp only [encI]
    split
    · simp; omega
    split
    · simp; omega
    split
    · simp; omega
    · simp; omega
  simp only [conB, decide_eq_false_iff_not]; omega
theorem enc_rest {r : Int} (h : valid r = true) (i : Nat) (h1 : 1 ≤ i) (h2 : i < (enc r).length) : conB (bt (enc r) i) = true := by
  have hr := valid_rng h
  rw [bt_enc h]
  have : 128 ≤ (encI r).getD i 0 ∧ (encI r).getD i 0 < 192 := by
    rw [enc_len h] at h2
    simp only [encI]
    split
    · rename_i c; rw [if_pos c] at h2; omega
    rename_i c1
    rw [if_neg c1] at h2
    split
    · rename_i c; rw [if_pos c] at h2; rcases (by omega : i = 1) with rfl
      simp; omega
    rename_i c2
    rw [if_neg c2] at h2
    split
    · rename_i c; rw [if_pos c] at h2; rcases (by omega : i = 1 ∨ i = 2) with rfl | rfl <;> simp <;> omega
    rename_i c3
    rw [if_neg c3] at h2
    rcases (by omega : i = 1 ∨ i = 2 ∨ i = 3) with rfl | rfl | rfl <;> simp <;> omega
  simp only [conB, decide_eq_true_eq]; omega
theorem bt_take (l : List UInt8) (k i : Nat) (h : i < k) : bt (l.take k) i = bt l i := by
  simp only [bt, List.getD, List.getElem?_take, if_pos h]
theorem bt_drop (l : List UInt8) (k i : Nat) : bt (l.drop k) i = bt l (k + i) := by
  simp only [bt, List.getD, List.getElem?_drop]
theorem startsF_ge : ∀ (rs : List (Int × Nat)) (p : Nat), ∀ s ∈ startsF p rs, (p : Int) ≤ s
  | [], p, s, h => by simp [startsF] at h
  | (_, n) :: t, p, s, h => by
    simp only [startsF, List.mem_cons] at h
    rcases h with rfl | h
    · omega
    · have := startsF_ge t (p + n) s h; omega
/-- where starts are -/
theorem starts_iff (t : List UInt8) : ∀ (q : Nat), stop t = t.length → ∀ p < t.length, (((q + p : Nat) : Int) ∈ startsF q (runs t) ↔ conB (bt t p) = false) := by
  refine runs_ind (P := fun t => ∀ (q : Nat), stop t = t.length → ∀ p < t.length, (((q + p : Nat) : Int) ∈ startsF q (runs t) ↔ conB (bt t p) = false)) (fun t h q hs p hp => ?_) (fun t r n h ih q hs p hp => ?_) t
  · rw [stop_none h] at hs; omega
  · have hn := dec_rng' h
    have hd := dec_some h
    rw [stop_some h] at hs
    rw [runs_some h]
    simp only [startsF, List.mem_cons]
    have ih' := ih (q + n) (by rw [List.length_drop]; omega)
    rcases Nat.lt_or_ge p n with hpn | hpn
    · have hno : ((q + p : Nat) : Int) ∉ startsF (q + n) (runs (t.drop n)) := fun hm => by
        have := startsF_ge _ _ _ hm; omega
      have hb : bt t p = bt (enc r) p := by rw [← hd.2.2.1, bt_take _ _ _ hpn]
      rw [hb]
      by_cases hp0 : p = 0
      · subst hp0
        simp [enc_first hd.1]
      · rw [enc_rest hd.1 p (by omega) (by omega)]
        simp only [hno, or_false, Bool.true_eq_false, iff_false]
        omega
    · have := ih' (p - n) (by rw [List.length_drop]; omega)
      rw [bt_drop, show n + (p - n) = p by omega, show q + n + (p - n) = q + p by omega] at this
      rw [← this]
      constructor
      · rintro (h1 | h1)
        · omega
        · exact h1
      · exact .inr
theorem startsF_lt (t : List UInt8) : ∀ (q : Nat), ∀ s ∈ startsF q (runs t), s < q + stop t := by
  refine runs_ind (P := fun t => ∀ (q : Nat), ∀ s ∈ startsF q (runs t), s < q + stop t) (fun t h q s hs => by rw [runs_none h] at hs; simp [startsF] at hs) (fun t r n h ih q s hs => ?_) t
  have hn := dec_rng' h
  rw [runs_some h] at hs
  rw [stop_some h]
  simp only [startsF, List.mem_cons] at hs
  rcases hs with rfl | hs
  · omega
  · have := ih (q + n) s hs; omega
theorem startsF_sorted (t : List UInt8) : ∀ (q : Nat), (startsF q (runs t)).Pairwise (· < ·) := by
  refine runs_ind (P := fun t => ∀ (q : Nat), (startsF q (runs t)).Pairwise (· < ·)) (fun t h q => by rw [runs_none h]; simp [startsF]) (fun t r n h ih q => ?_) t
  have hn := dec_rng' h
  rw [runs_some h]
  simp only [startsF, List.pairwise_cons]
  exact ⟨fun s hs => by have := startsF_ge _ _ _ hs; omega, ih (q + n)⟩
theorem startL_sorted {b : List UInt8} (h : stop b = b.length) : (startL b).Pairwise (· < ·) := by
  simp only [startL, List.pairwise_append]
  refine ⟨startsF_sorted b 0, by simp, fun s hs x hx => ?_⟩
  have := startsF_lt b 0 s hs
  simp only [List.mem_singleton] at hx
  omega
theorem fold_max (i : Int) : ∀ (l : List Int) (o : Int), l.Pairwise (· < ·) → let r := l.foldl (fun o s => if s ≤ i then s else o) o
    (r = o ∧ ∀ s ∈ l, ¬ s ≤ i) ∨ (r ∈ l ∧ r ≤ i ∧ ∀ s ∈ l, s ≤ i → s ≤ r)
  | [], o, _ => by simp
  | x :: t, o, h => by
    simp only [List.foldl_cons]
    rw [List.pairwise_cons] at h
    have ih := fold_max i t (if x ≤ i then x else o) h.2
    simp only at ih
    by_cases hx : x ≤ i
    · rw [if_pos hx] at ih ⊢
      rcases ih with ⟨h1, h2⟩ | ⟨h1, h2, h3⟩
      · right
        rw [h1]
        exact ⟨by simp, hx, fun s hs hi => by
          rcases List.mem_cons.1 hs with rfl | hs
          · omega
          · exact absurd hi (h2 s hs)⟩
      · right
        exact ⟨List.mem_cons_of_mem _ h1, h2, fun s hs hi => by
          rcases List.mem_cons.1 hs with rfl | hs
          · have := h.1 _ h1; omega
          · exact h3 s hs hi⟩
    · rw [if_neg hx] at ih ⊢
      rcases ih with ⟨h1, h2⟩ | ⟨h1, h2, h3⟩
      · left
        exact ⟨h1, fun s hs => by
          rcases List.mem_cons.1 hs with rfl | hs
          · exact hx
          · exact h2 s hs⟩
      · right
        exact ⟨List.mem_cons_of_mem _ h1, h2, fun s hs hi => by
          rcases List.mem_cons.1 hs with rfl | hs
          · exact absurd hi hx
          · exact h3 s hs hi⟩
theorem startL_zero (b : List UInt8) (h : stop b = b.length) : (0 : Int) ∈ startL b := by
  simp only [startL, List.mem_append, List.mem_singleton]
  cases hd : dec b with
  | none => rw [stop_none hd] at h; right; omega
  | some x =>
    obtain ⟨r, n⟩ := x
    left; rw [runs_some hd]; simp [startsF]
/-- It is the greatest start that is not greater. -/
theorem backV_is {b : List UInt8} (h : stop b = b.length) {i v : Int} (h0 : 0 ≤ i) (hm : v ∈ startL b) (hv : v ≤ i) (hmax : ∀ s ∈ startL b, s ≤ i → s ≤ v) : backV b i = v := by
  have := fold_max i (startL b) 0 (startL_sorted h)
  simp only at this
  simp only [backV]
  rcases this with ⟨h1, h2⟩ | ⟨h1, h2, h3⟩
  · exact absurd hv (h2 v hm)
  · have a1 := h3 v hm hv
    have a2 := hmax _ h1 h2
    omega
theorem startL_iff {b : List UInt8} (h : stop b = b.length) (p : Nat) (hp : p ≤ b.length) : (p : Int) ∈ startL b ↔ (p = b.length ∨ conB (bt b p) = false) := by
  simp only [startL, List.mem_append, List.mem_singleton]
  rcases Nat.lt_or_ge p b.length with h1 | h1
  · have := starts_iff b 0 h p h1
    rw [Nat.zero_add] at this
    rw [this]
    constructor
    · rintro (h2 | h2)
      · exact .inr h2
      · omega
    · rintro (h2 | h2)
      · omega
      · exact .inl h2
  · have : p = b.length := by omega
    simp [this]
end Go.Avm
