/- The plain law of lattices given as masks. -/
import Derived.Lib.ParseIntB
import Derived.Lib.ItoaNum
import Derived.Lib.Join
set_option linter.unusedSectionVars false
set_option linter.unusedSimpArgs false
set_option linter.unusedVariables false

/- The plain law of lattices given as masks. -/
namespace Go.Lat

def ff (n : Nat) (p : Nat → Bool) : Option Nat := (List.range n).find? p

theorem ff_eq_some {n : Nat} {p : Nat → Bool} {i : Nat} : ff n p = some i ↔ (i < n ∧ p i = true ∧ ∀ j, j < i → p j = false) := by
  unfold ff
  rw [List.find?_range_eq_some]
  simp only [List.mem_range]
  constructor
  · rintro ⟨a, b, c⟩
    exact ⟨b, a, fun j h => by simpa using c j h⟩
  · rintro ⟨a, b, c⟩
    exact ⟨b, a, fun j h => by simp [c j h]⟩

theorem ff_eq_none {n : Nat} {p : Nat → Bool} : ff n p = none ↔ ∀ j, j < n → p j = false := by
  unfold ff
  rw [List.find?_range_eq_none]
  constructor
  · intro a j h
    simpa using a j h
  · intro a j h
    simp [a j h]

def oi : Option Nat → Int
  | none => -1
  | some c => c

/-- the masks of a list of rows -/
def msk (up : List UInt8) (a : Nat) : Nat := (up.getD a 0).toNat
def le (up : List UInt8) (a b : Nat) : Bool := (msk up a).testBit b

/-- what is at or below b, among the first k -/
def dn (up : List UInt8) (b : Nat) : Nat → Nat
  | 0 => 0
  | k + 1 => dn up b k ||| (if le up k b then 1 <<< k else 0)

theorem dn_bit (up : List UInt8) (b k a : Nat) : (dn up b k).testBit a = (decide (a < k) && le up a b) := by
  induction k with
  | zero => simp [dn]
  | succ k ih =>
    simp only [dn, Nat.testBit_or, ih]
    by_cases h : a = k
    · subst h
      cases hl : le up a b <;> simp [Nat.one_shiftLeft]
    · have h1 : (if le up k b then 1 <<< k else 0 : Nat).testBit a = false := by
        split
        · rw [Nat.one_shiftLeft, Nat.testBit_two_pow]
          simp
          omega
        · simp
      rw [h1]
      have h2 : (decide (a < k + 1)) = decide (a < k) := by
        apply decide_eq_decide.2
        omega
      rw [h2]
      simp

theorem dn_lt (up : List UInt8) (b k : Nat) : dn up b k < 2 ^ k := by
  induction k with
  | zero => simp [dn]
  | succ k ih =>
    simp only [dn]
    apply Nat.or_lt_two_pow
    · exact Nat.lt_of_lt_of_le ih (Nat.pow_le_pow_right (by omega) (by omega))
    · split
      · rw [Nat.one_shiftLeft]
        exact Nat.pow_lt_pow_right (by omega) (by omega)
      · exact Nat.two_pow_pos _

/-- the label beyond which is just what is beyond both -/
def near (M : Nat → Nat) (n a b : Nat) : Option Nat := ff n fun c => M c == M a &&& M b

/-- the order is as stated for a label -/
def okRow (up : List UInt8) (n a : Nat) : Bool :=
  decide (msk up a < 2 ^ n) && le up a a &&
    (List.range n).all fun b => !le up a b || (!(b != a && le up b a) && ((msk up b &&& (2 ^ n - 1)) &&& msk up a == msk up b &&& (2 ^ n - 1)))

structure Val (n : Nat) (up : List UInt8) : Prop where
  pos : 0 < n
  le8 : n ≤ 8
  len : up.length = n
  lt : ∀ a, a < n → msk up a < 2 ^ n
  refl : ∀ a, a < n → le up a a = true
  anti : ∀ a b, a < n → b < n → le up a b = true → le up b a = true → a = b
  tra : ∀ a b c, a < n → b < n → c < n → le up a b = true → le up b c = true → le up a c = true
  eu : ∀ a b, a < n → b < n → ∃ c, c < n ∧ msk up c = msk up a &&& msk up b
  ed : ∀ a b, a < n → b < n → ∃ c, c < n ∧ dn up c n = dn up a n &&& dn up b n

theorem eq_of_bits {m k n : Nat} (hm : m < 2 ^ n) (hk : k < 2 ^ n) (h : ∀ i, i < n → m.testBit i = k.testBit i) : m = k := by
  apply Nat.eq_of_testBit_eq
  intro i
  by_cases hi : i < n
  · exact h i hi
  · rw [Nat.testBit_lt_two_pow (Nat.lt_of_lt_of_le hm (Nat.pow_le_pow_right (by omega) (by omega))),
      Nat.testBit_lt_two_pow (Nat.lt_of_lt_of_le hk (Nat.pow_le_pow_right (by omega) (by omega)))]

/-- an order, its rows, the other way's rows, all in one form -/
structure Ord (n : Nat) (M : Nat → Nat) : Prop where
  lt : ∀ a, a < n → M a < 2 ^ n
  refl : ∀ a, a < n → (M a).testBit a = true
  anti : ∀ a b, a < n → b < n → (M a).testBit b = true → (M b).testBit a = true → a = b
  tra : ∀ a b c, a < n → b < n → c < n → (M a).testBit b = true → (M b).testBit c = true → (M a).testBit c = true
  ex : ∀ a b, a < n → b < n → ∃ c, c < n ∧ M c = M a &&& M b

theorem Val.ou {n : Nat} {up : List UInt8} (h : Val n up) : Ord n (msk up) :=
  ⟨h.lt, h.refl, h.anti, h.tra, h.eu⟩

theorem dn_in {n : Nat} {up : List UInt8} {a b : Nat} (ha : a < n) : (dn up b n).testBit a = le up a b := by
  rw [dn_bit]
  simp [ha]

theorem Val.od {n : Nat} {up : List UInt8} (h : Val n up) : Ord n (fun b => Lat.dn up b n) where
  lt a _ := dn_lt up a n
  refl a ha := by rw [dn_in ha]; exact h.refl a ha
  anti a b ha hb h1 h2 := by
    rw [dn_in hb] at h1
    rw [dn_in ha] at h2
    exact h.anti a b ha hb h2 h1
  tra a b c ha hb hc h1 h2 := by
    rw [dn_in hb] at h1
    rw [dn_in hc] at h2 ⊢
    exact h.tra c b a hc hb ha h2 h1
  ex := h.ed

/-- join: the nearest label -/
def jn (M : Nat → Nat) (n a b : Nat) : Nat := (near M n a b).getD 0

namespace Ord
variable {n : Nat} {M : Nat → Nat} (h : Ord n M)
include h

theorem sub {a b : Nat} (ha : a < n) (hb : b < n) : (M a).testBit b = true ↔ ∀ x, x < n → (M b).testBit x = true → (M a).testBit x = true :=
  ⟨fun h1 x hx h2 => h.tra a b x ha hb hx h1 h2, fun h1 => h1 b hb (h.refl b hb)⟩

theorem inj {a b : Nat} (ha : a < n) (hb : b < n) (e : M a = M b) : a = b :=
  h.anti a b ha hb (by rw [e]; exact h.refl b hb) (by rw [← e]; exact h.refl a ha)

theorem near_some {a b : Nat} (ha : a < n) (hb : b < n) : near M n a b = some (jn M n a b) ∧ jn M n a b < n ∧ M (jn M n a b) = M a &&& M b := by
  obtain ⟨c, hc, e⟩ := h.ex a b ha hb
  cases hn : near M n a b with
  | none =>
    have := (ff_eq_none.1 hn) c hc
    simp [e] at this
  | some d =>
    obtain ⟨h1, h2, _⟩ := ff_eq_some.1 hn
    refine ⟨by simp [jn, hn], by simp [jn, hn, h1], ?_⟩
    simp only [jn, hn, Option.getD_some]
    simpa using h2

end Ord

end Go.Lat

/- The plain law of lattices: ends, covers, the other way, checks. -/
namespace Go.Lat

/-- the order the other way -/
def dual (up : List UInt8) (n : Nat) : List UInt8 := (List.range n).map fun b => UInt8.ofNat (dn up b n)

theorem dn_lt8 {n : Nat} (up : List UInt8) (b : Nat) (hn : n ≤ 8) : dn up b n < 256 :=
  Nat.lt_of_lt_of_le (dn_lt up b n) (Nat.le_trans (Nat.pow_le_pow_right (by omega) hn) (by decide))

theorem dual_msk {n : Nat} (up : List UInt8) (hn : n ≤ 8) {b : Nat} (hb : b < n) : msk (dual up n) b = dn up b n := by
  unfold msk dual
  rw [List.getD_eq_getElem?_getD, List.getElem?_map, List.getElem?_range hb]
  simp only [Option.map_some, Option.getD_some]
  rw [UInt8.toNat_ofNat', Nat.mod_eq_of_lt (dn_lt8 up b hn)]

theorem dual_le {n : Nat} (up : List UInt8) (hn : n ≤ 8) {a b : Nat} (hb : b < n) (ha : a < n) : le (dual up n) b a = le up a b := by
  unfold le
  rw [dual_msk up hn hb, dn_in ha]
  rfl

theorem Val.dual_dn {n : Nat} {up : List UInt8} (h : Val n up) {b : Nat} (hb : b < n) : Lat.dn (dual up n) b n = msk up b := by
  refine eq_of_bits (dn_lt _ _ _) (h.lt b hb) fun i hi => ?_
  rw [dn_in hi, dual_le up h.le8 hi hb]
  rfl

theorem Val.dual {n : Nat} {up : List UInt8} (h : Val n up) : Val n (dual up n) where
  pos := h.pos
  le8 := h.le8
  len := by simp [Lat.dual]
  lt a ha := by rw [dual_msk up h.le8 ha]; exact dn_lt _ _ _
  refl a ha := by rw [dual_le up h.le8 ha ha]; exact h.refl a ha
  anti a b ha hb h1 h2 := by
    rw [dual_le up h.le8 ha hb] at h1
    rw [dual_le up h.le8 hb ha] at h2
    exact h.anti a b ha hb h2 h1
  tra a b c ha hb hc h1 h2 := by
    rw [dual_le up h.le8 ha hb] at h1
    rw [dual_le up h.le8 hb hc] at h2
    rw [dual_le up h.le8 ha hc]
    exact h.tra c b a hc hb ha h2 h1
  eu a b ha hb := by
    obtain ⟨c, hc, e⟩ := h.ed a b ha hb
    exact ⟨c, hc, by rw [dual_msk up h.le8 hc, dual_msk up h.le8 ha, dual_msk up h.le8 hb, e]⟩
  ed a b ha hb := by
    obtain ⟨c, hc, e⟩ := h.eu a b ha hb
    exact ⟨c, hc, by rw [h.dual_dn hc, h.dual_dn ha, h.dual_dn hb, e]⟩

def digB (c : UInt8) : Bool := decide (48 ≤ c.toNat) && decide (c.toNat ≤ 57)
theorem all_no {s : List UInt8} {p : UInt8 → Bool} {i : Nat} (hi : i < s.length) (hp : p (s.getD i 0) = false) : s.all p = false := by
  rw [List.all_eq_false]
  exact ⟨s[i], List.getElem_mem _, by simpa [List.getD, hi] using hp⟩

def noNear (up : List UInt8) (n a : Nat) : Bool :=
  (List.range n).any fun b => (near (msk up) n a b).isNone || (near (fun c => dn up c n) n a b).isNone

def rowsS (n : Nat) (up : List UInt8) : Int × Int :=
  if up.length ≠ n then (-1, 6) else
    match ff n (fun a => !okRow up n a) with
    | some a => (a, 6)
    | none =>
      match ff n (noNear up n) with
      | some a => (a, 4)
      | none => (0, 0)

theorem okRow_iff {up : List UInt8} {n a : Nat} (hup : ∀ b, b < n → msk up b < 2 ^ n) (ha : a < n) : okRow up n a = true ↔
    (le up a a = true ∧ (∀ b, b < n → le up a b = true → (le up b a = true → a = b) ∧ ∀ x, x < n → le up b x = true → le up a x = true)) := by
  have hm : ∀ b, b < n → msk up b &&& (2 ^ n - 1) = msk up b := by
    intro b hb
    rw [Nat.and_two_pow_sub_one_eq_mod, Nat.mod_eq_of_lt (hup b hb)]
  unfold okRow
  simp only [Bool.and_eq_true, decide_eq_true_eq, List.all_eq_true, List.mem_range, Bool.or_eq_true, Bool.not_eq_true', Bool.and_eq_false_iff, bne_eq_false_iff_eq, beq_iff_eq]
  constructor
  · rintro ⟨⟨_, h1⟩, h2⟩
    refine ⟨h1, fun b hb hl => ?_⟩
    rcases h2 b hb with h3 | ⟨h3, h4⟩
    · rw [hl] at h3; exact absurd h3 (by simp)
    · refine ⟨fun h5 => ?_, fun x _ h6 => ?_⟩
      · rcases h3 with h3 | h3
        · exact h3.symm
        · rw [h5] at h3; exact absurd h3 (by simp)
      · rw [hm b hb] at h4
        have : (msk up b &&& msk up a).testBit x = true := by rw [h4]; exact h6
        rw [Nat.testBit_and] at this
        simp only [Bool.and_eq_true] at this
        exact this.2
  · rintro ⟨h1, h2⟩
    refine ⟨⟨hup a ha, h1⟩, fun b hb => ?_⟩
    cases hl : le up a b with
    | false => exact Or.inl rfl
    | true =>
      obtain ⟨h3, h4⟩ := h2 b hb hl
      refine Or.inr ⟨?_, ?_⟩
      · cases h5 : le up b a with
        | false => exact Or.inr rfl
        | true => exact Or.inl (h3 h5).symm
      · rw [hm b hb]
        refine eq_of_bits (Nat.lt_of_le_of_lt Nat.and_le_left (hup b hb)) (hup b hb) fun x hx => ?_
        rw [Nat.testBit_and]
        cases h6 : (msk up b).testBit x with
        | false => simp
        | true => simp; exact h4 x hx h6

theorem Val.rows {n : Nat} {up : List UInt8} (h : Val n up) : rowsS n up = (0, 0) := by
  have h1 : ff n (fun a => !okRow up n a) = none := by
    rw [ff_eq_none]
    intro a ha
    simp only [Bool.not_eq_false']
    refine (okRow_iff h.lt ha).2 ⟨h.refl a ha, fun b hb h1 => ⟨fun h2 => h.anti a b ha hb h1 h2, fun x hx h3 => h.tra a b x ha hb hx h1 h3⟩⟩
  have h2 : ff n (noNear up n) = none := by
    rw [ff_eq_none]
    intro a ha
    simp only [noNear, List.any_eq_false, List.mem_range]
    intro b hb
    have e1 := (h.ou.near_some ha hb).1
    have e2 := (h.od.near_some ha hb).1
    rw [e1, e2]
    simp
  simp [rowsS, h.len, h1, h2]

/-- the text of a lattice -/
def dg (t : Bool) : UInt8 := if t then 49 else 48
end Go.Lat

/- Lines, and the text of a lattice read back. -/
namespace Go.Lat
/-- where a byte is first -/
def idx (c : UInt8) : List UInt8 → Nat
  | [] => 0
  | b :: r => if b = c then 0 else idx c r + 1
theorem idx_le (c : UInt8) (s : List UInt8) : idx c s ≤ s.length := by
  induction s with
  | nil => exact Nat.le_refl _
  | cons b r ih => simp only [idx]; split <;> simp <;> omega
theorem idx_no {c : UInt8} {s : List UInt8} {k : Nat} (hk : k < idx c s) : s.getD k 0 ≠ c := by
  induction s generalizing k with
  | nil => simp [idx] at hk
  | cons b r ih =>
    simp only [idx] at hk
    split at hk
    · omega
    · rename_i hb
      cases k with
      | zero => simpa using hb
      | succ k => simpa using ih (k := k) (by omega)
theorem idx_at {c : UInt8} {s : List UInt8} (h : idx c s < s.length) : s.getD (idx c s) 0 = c := by
  induction s with
  | nil => simp at h
  | cons b r ih =>
    simp only [idx] at h ⊢
    split
    · rename_i hb; simpa using hb
    · rename_i hb
      rw [if_neg hb] at h
      simpa using ih (by simpa using h)
theorem idx_eq {c : UInt8} {s : List UInt8} {i : Nat} (hi : i < s.length) (h1 : s.getD i 0 = c) (h2 : ∀ k, k < i → s.getD k 0 ≠ c) : idx c s = i := by
  rcases Nat.lt_trichotomy (idx c s) i with h | h | h
  · exact absurd (idx_at (by omega)) (h2 _ h)
  · exact h
  · exact absurd h1 (idx_no h)
/-! the text of a lattice, as lines -/
end Go.Lat

/- Words: plain bytes, escapes, quoted forms. -/
namespace Go.Wo
/-- a byte that stands for itself between quotes -/
def plainB (c : UInt8) : Bool := decide (32 ≤ c.toNat) && decide (c.toNat ≤ 126) && !decide (c.toNat = 34) && !decide (c.toNat = 92)
/-- the letter of a byte's escape, or 0 -/
def letB (c : UInt8) : UInt8 := if c = 34 then 34 else if c = 92 then 92 else if c = 10 then 110 else if c = 13 then 114 else if c = 9 then 116 else 0
/-- the byte of a letter -/
def unl (b : UInt8) : Option UInt8 := if b = 34 then some 34 else if b = 92 then some 92 else if b = 110 then some 10 else if b = 114 then some 13 else if b = 116 then some 9 else none
def hexd (n : Nat) : UInt8 := if n < 10 then UInt8.ofNat (48 + n) else UInt8.ofNat (87 + n)
def hexv (b : UInt8) : Option Nat := if 48 ≤ b.toNat ∧ b.toNat ≤ 57 then some (b.toNat - 48) else if 97 ≤ b.toNat ∧ b.toNat ≤ 102 then some (b.toNat - 87) else none
/-- two digits of base 16, of a byte that has no shorter form -/
def hx2 : List UInt8 → UInt8 × Nat
  | h :: l :: _ => match hexv h, hexv l with
    | some x, some y => if plainB (UInt8.ofNat (16 * x + y)) || decide (letB (UInt8.ofNat (16 * x + y)) ≠ 0) then (0, 0) else (UInt8.ofNat (16 * x + y), 3)
    | _, _ => (0, 0)
  | _ => (0, 0)
/-- an escape, without its backslash -/
def une : List UInt8 → UInt8 × Nat
  | [] => (0, 0)
  | b :: r => match unl b with
    | some c => (c, 1)
    | none => if b = 120 then hx2 r else (0, 0)
/-- one byte between quotes: the byte, and its form's length -/
def step : List UInt8 → Option (UInt8 × Nat)
  | [] => none
  | c :: r => if c = 92 then (if (une r).2 = 0 then none else some ((une r).1, (une r).2 + 1)) else if plainB c then some (c, 1) else none

theorem hexv_hexd {n : Nat} (h : n < 16) : hexv (hexd n) = some n := by
  have : ∀ n, n < 16 → hexv (hexd n) = some n := by decide
  exact this n h
theorem hexd_hexv {b : UInt8} {n : Nat} (h : hexv b = some n) : n < 16 ∧ hexd n = b := by
  unfold hexv at h
  split at h
  · injection h with h
    refine ⟨by omega, ?_⟩
    rw [hexd, if_pos (by omega), ← h, show 48 + (b.toNat - 48) = b.toNat by omega]
    simp
  · split at h
    · injection h with h
      refine ⟨by omega, ?_⟩
      rw [hexd, if_neg (by omega), ← h, show 87 + (b.toNat - 87) = b.toNat by omega]
      simp
    · cases h
/-- what is between quotes, up to the closing one: the text, and how many bytes were read -/
def unqL : Nat → List UInt8 → Option (List UInt8 × Nat)
  | 0, _ => none
  | F + 1, s => if s = [] then none else if s.getD 0 0 = 34 then some ([], 1) else match step s with
    | none => none
    | some (x, k) => match unqL F (s.drop k) with
      | none => none
      | some (t, n) => some (x :: t, k + n)
/-- a quoted form at a text's beginning, and its length; 0: there is none -/
def unqS (s : List UInt8) : List UInt8 × Nat := if s.getD 0 0 = 34 then match unqL (s.length + 1) (s.drop 1) with
    | some (t, n) => (t, n + 1)
    | none => ([], 0)
  else ([], 0)
/-! ### fields -/
def bareB (s : List UInt8) : Bool := !s.isEmpty && s.all fun c => plainB c && !decide (c = 32)
abbrev Fd := List UInt8 × Bool
/-- the field at a line's beginning, and its length -/
def fld (s : List UInt8) : Option (Fd × Nat) := if 0 < (unqS s).2 then some (((unqS s).1, true), (unqS s).2)
  else if bareB (s.take (Lat.idx 32 s)) then some ((s.take (Lat.idx 32 s), false), Lat.idx 32 s) else none
def long (l : List Fd) : Bool := l.any fun f => decide (2000 < f.1.length)
end Go.Wo

/- Words: decimal forms of integers. -/
namespace Go.Wo
def digB (c : UInt8) : Bool := decide (48 ≤ c.toNat) && decide (c.toNat ≤ 57)
/-- without a sign -/
def mg (s : List UInt8) : List UInt8 := if s.getD 0 0 = 45 then s.drop 1 else s
/-- the decimal form of an integer -/
def decS (s : List UInt8) : Bool := !(mg s).isEmpty && (mg s).all digB && (!decide ((mg s).getD 0 0 = 48) || decide (s = [48]))
/-- what digits spell, behind others -/
def magL : Nat → List UInt8 → Nat
  | a, [] => a
  | a, c :: r => magL (a * 10 + (c.toNat - 48)) r
theorem magL_nil (a : Nat) : magL a [] = a := by unfold magL; rfl
theorem magL_cons (a : Nat) (c : UInt8) (r : List UInt8) : magL a (c :: r) = magL (a * 10 + (c.toNat - 48)) r := by conv => lhs; unfold magL
def valS (s : List UInt8) : Int := if s.getD 0 0 = 45 then -(magL 0 (mg s) : Int) else magL 0 (mg s)
theorem magL_app (a : Nat) (l r : List UInt8) : magL a (l ++ r) = magL (magL a l) r := by
  induction l generalizing a with
  | nil => rfl
  | cons c l ih => simp only [List.cons_append, magL_cons, ih]
theorem magL_ge (a : Nat) (r : List UInt8) : a ≤ magL a r := by
  induction r generalizing a with
  | nil => simp only [magL_cons, magL_nil]; omega
  | cons c l ih => have := ih (a * 10 + (c.toNat - 48)); simp only [magL_cons, magL_nil]; omega
theorem parseU {M : Nat} (hM : M = 18446744073709551615) : ∀ {l : List UInt8} {a : Nat}, (∀ c ∈ l, digB c = true) → a ≤ M → Lib.parseUintM M a l = if magL a l ≤ M then .ok (magL a l) else .range
  | [], a, _, ha => by simp [Lib.parseUintM, magL_nil, ha]
  | c :: r, a, h, ha => by
    have hc := h c (by simp)
    simp only [digB, Bool.and_eq_true, decide_eq_true_eq] at hc
    have hg := magL_ge (a * 10 + (c.toNat - 48)) r
    have em : magL a (c :: r) = magL (a * 10 + (c.toNat - 48)) r := by simp only [magL_cons, magL_nil]
    rw [em]
    simp only [Lib.parseUintM, if_pos hc]
    by_cases h1 : 1844674407370955162 ≤ a
    · rw [if_pos h1]
      split
      · omega
      · rfl
    · rw [if_neg h1]
      by_cases h2 : M < a * 10 + (c.toNat - 48)
      · rw [if_pos h2]
        split
        · omega
        · rfl
      · rw [if_neg h2]
        exact parseU hM (fun c hc => h c (by simp [hc])) (by omega)
theorem dec_ne {s : List UInt8} (h : decS s = true) : mg s ≠ [] ∧ ∀ c ∈ mg s, digB c = true := by
  unfold decS at h
  simp only [Bool.and_eq_true, List.all_eq_true] at h
  refine ⟨fun e => ?_, h.1.2⟩
  rw [e] at h
  simp at h
theorem parseI {s : List UInt8} (h : decS s = true) : Lib.parseIntB 64 s = if -9223372036854775808 ≤ valS s ∧ valS s ≤ 9223372036854775807 then .ok (valS s) else .range := by
  obtain ⟨h1, h2⟩ := dec_ne h
  cases s with
  | nil => exact absurd rfl h1
  | cons c r =>
    by_cases hc : c = 45
    · subst hc
      have em : mg (45 :: r) = r := rfl
      rw [em] at h1 h2
      have ev : valS (45 :: r) = -(magL 0 r : Int) := rfl
      rw [ev]
      have hu : Lib.parseUintB 64 r = if magL 0 r ≤ 18446744073709551615 then .ok (magL 0 r) else .range := by
        rw [Lib.parseUintB, if_neg h1]
        exact parseU rfl h2 (by decide)
      have e45 : (45 : UInt8).toNat = 45 := rfl
      simp only [Lib.parseIntB, e45, or_true, if_true, hu, true_and, not_true_eq_false, false_and, if_false]
      by_cases hm : magL 0 r ≤ 18446744073709551615
      · rw [if_pos hm]
        simp only
        by_cases hm2 : 2 ^ (64 - 1) < magL 0 r
        · rw [if_pos hm2, if_neg (by simp at hm2; omega)]
        · rw [if_neg hm2, if_pos (by simp at hm2; omega)]
      · rw [if_neg hm]
        simp only
        rw [if_neg (by omega)]
    · have hc0 : ¬ (c :: r).getD 0 0 = 45 := by simpa using hc
      have em : mg (c :: r) = c :: r := by rw [mg, if_neg hc0]
      rw [em] at h1 h2
      have ev : valS (c :: r) = (magL 0 (c :: r) : Int) := by rw [valS, if_neg hc0, em]
      rw [ev]
      have hd := h2 c (by simp)
      simp only [digB, Bool.and_eq_true, decide_eq_true_eq] at hd
      have hu : Lib.parseUintB 64 (c :: r) = if magL 0 (c :: r) ≤ 18446744073709551615 then .ok (magL 0 (c :: r)) else .range := by
        rw [Lib.parseUintB, if_neg h1]
        exact parseU rfl h2 (by decide)
      generalize hmm : magL 0 (c :: r) = m at hu ⊢
      have n43 : ¬ c.toNat = 43 := by omega
      have n45 : ¬ c.toNat = 45 := by omega
      simp only [Lib.parseIntB, n43, n45, or_self, if_false, hu, not_false_eq_true, true_and, false_and]
      by_cases hm : m ≤ 18446744073709551615
      · rw [if_pos hm]
        simp only
        by_cases hm2 : 2 ^ (64 - 1) ≤ m
        · rw [if_pos hm2, if_neg (by simp at hm2; omega)]
        · rw [if_neg hm2, if_pos (by simp at hm2; omega)]
      · rw [if_neg hm]
        simp only
        rw [if_neg (by omega)]
end Go.Wo

/- Words: lists of numbers, and their texts. -/
namespace Go.Wo
/-! ### pieces between bytes c -/
/-! ### List -/
/-- the runs of a list: first and last number -/
def runs : List Int → List (Int × Int)
  | [] => []
  | x :: r => match runs r with
    | [] => [(x, x)]
    | p :: t => if p.1 = x + 1 then (x, p.2) :: t else (x, x) :: p :: t
/-! ### digits -/
def DG (s : List UInt8) : Prop := ∀ c ∈ s, digB c = true
/-- the decimal form of a number from 0 on -/
def natS (s : List UInt8) : Bool := !s.isEmpty && s.all digB && (!decide (s.getD 0 0 = 48) || decide (s = [48]))
end Go.Wo

/- The plain law of Trim. -/
namespace Go.Lat
def inB (cs : List UInt8) (k : Nat) : Bool := cs.any fun x => x.toNat == k
def rtrim (cs s : List UInt8) : List UInt8 := (s.reverse.dropWhile fun c => inB cs c.toNat).reverse
def ltrim (cs s : List UInt8) : List UInt8 := s.dropWhile fun c => inB cs c.toNat
def trimS (cs s : List UInt8) : List UInt8 := ltrim cs (rtrim cs s)
theorem ltrim_t {cs s : List UInt8} (h : 0 < s.length) (hp : inB cs (s.getD 0 0).toNat = true) : ltrim cs s = ltrim cs (s.drop 1) := by
  cases s with
  | nil => simp at h
  | cons x t =>
    simp only [ltrim, List.drop_succ_cons, List.drop_zero]
    rw [List.dropWhile_cons_of_pos (by simpa using hp)]
theorem ltrim_f {cs s : List UInt8} (h : 0 < s.length) (hp : inB cs (s.getD 0 0).toNat = false) : ltrim cs s = s := by
  cases s with
  | nil => rfl
  | cons x t =>
    simp only [ltrim]
    rw [List.dropWhile_cons_of_neg (by simpa using hp)]
theorem snoc {s : List UInt8} (h : 0 < s.length) : s = s.take (s.length - 1) ++ [s.getD (s.length - 1) 0] := by
  have h1 : s.length - 1 < s.length := by omega
  have := List.take_succ_eq_append_getElem h1
  rw [show s.length - 1 + 1 = s.length by omega, List.take_length] at this
  simpa [List.getD, h1] using this
theorem rtrim_t {cs s : List UInt8} (h : 0 < s.length) (hp : inB cs (s.getD (s.length - 1) 0).toNat = true) : rtrim cs s = rtrim cs (s.take (s.length - 1)) := by
  conv => lhs; rw [snoc h]
  simp only [rtrim, List.reverse_append, List.reverse_cons, List.reverse_nil, List.nil_append, List.cons_append]
  rw [List.dropWhile_cons_of_pos (by simpa using hp)]
theorem rtrim_f {cs s : List UInt8} (h : 0 < s.length) (hp : inB cs (s.getD (s.length - 1) 0).toNat = false) : rtrim cs s = s := by
  have e := snoc h
  generalize s.take (s.length - 1) = t at e
  generalize s.getD (s.length - 1) 0 = x at e hp
  subst e
  simp only [rtrim, List.reverse_append, List.reverse_cons, List.reverse_nil, List.nil_append, List.cons_append]
  rw [List.dropWhile_cons_of_neg (by simpa using hp)]
  simp
theorem dw_nil {p : UInt8 → Bool} (l : List UInt8) : l.dropWhile p = [] ↔ l.all p = true := by
  induction l with
  | nil => simp
  | cons x t ih =>
    by_cases h : p x = true
    · rw [List.dropWhile_cons_of_pos h, ih]; simp [h]
    · rw [List.dropWhile_cons_of_neg h]; simp [h]
theorem trim_nil (cs s : List UInt8) : trimS cs s = [] ↔ s.all (fun c => inB cs c.toNat) = true := by
  have h1 : rtrim cs s = [] ↔ s.all (fun c => inB cs c.toNat) = true := by
    rw [rtrim, List.reverse_eq_nil_iff, dw_nil, List.all_reverse]
  unfold trimS ltrim
  constructor
  · intro h
    rw [dw_nil] at h
    -- what is left has its last byte outside
    by_cases h0 : rtrim cs s = []
    · exact h1.1 h0
    · exfalso
      have h2 : s.reverse.dropWhile (fun c => inB cs c.toNat) ≠ [] := fun e => h0 (by rw [rtrim, e]; rfl)
      have h3 := List.head_dropWhile_not (fun c : UInt8 => inB cs c.toNat) h2
      have h4 : (s.reverse.dropWhile fun c => inB cs c.toNat).head h2 ∈ rtrim cs s := by
        rw [rtrim, List.mem_reverse]; exact List.head_mem h2
      have h5 := (List.all_eq_true.1 h) _ h4
      rw [h3] at h5
      exact absurd h5 (by simp)
  · intro h
    rw [h1.2 h]; rfl
end Go.Lat

/- Words: the loops' states of quoted forms and of lines. -/
namespace Go.Wo
/-! ### lines -/
/-! ### decimal forms -/
end Go.Wo

/- Words: the reference's decimal forms. -/
namespace Go.Wo
/-! ### the digits read from the left -/
/-- where the digits begin -/
def sg (s : List UInt8) : Nat := if s.getD 0 0 = 45 then 1 else 0
end Go.Wo

/- Words: numerals, quoted forms, joined fields. -/
namespace Go.Wo
theorem dec_step {a : Nat} (h : 10 ≤ a) : Lib.decDigits a = Lib.decDigits (a / 10) ++ [UInt8.ofNat (48 + a % 10)] := by
  conv => lhs; rw [Lib.decDigits, dif_neg (by omega)]
theorem itoa_step {n : Int} (h : 9 < n ∨ n < -9) : Lib.itoa n = Lib.itoa (n.tdiv 10) ++ [UInt8.ofNat (48 + n.natAbs % 10)] := by
  have ha : 10 ≤ n.natAbs := by omega
  have hs := dec_step ha
  rcases Int.lt_or_le n 0 with h0 | h0
  · obtain ⟨m, rfl⟩ : ∃ m : Nat, n = -(m : Int) := ⟨n.natAbs, by omega⟩
    have e1 : (-(m : Int)).tdiv 10 = -((m / 10 : Nat) : Int) := by
      rw [Int.neg_tdiv, Int.tdiv_eq_ediv_of_nonneg (by omega)]; omega
    have e2 : (-(m : Int)).natAbs = m := by omega
    have e3 : (-((m / 10 : Nat) : Int)).natAbs = m / 10 := by omega
    rw [e2] at hs ha
    simp only [Lib.itoa, e1, e2, e3]
    rw [if_pos h0, if_pos (by omega), hs]
    rfl
  · obtain ⟨m, rfl⟩ : ∃ m : Nat, n = (m : Int) := ⟨n.toNat, by omega⟩
    have e1 : (m : Int).tdiv 10 = ((m / 10 : Nat) : Int) := by
      rw [Int.tdiv_eq_ediv_of_nonneg (by omega)]; omega
    have e2 : (m : Int).natAbs = m := by omega
    rw [e2] at hs ha
    simp only [Lib.itoa, e1, e2]
    rw [if_neg (by omega), if_neg (by omega)]
    exact hs
theorem itoa_one {n : Int} (h0 : 0 ≤ n) (h : n ≤ 9) : Lib.itoa n = [UInt8.ofNat (48 + n.natAbs)] := by
  simp only [Lib.itoa]
  rw [if_neg (by omega), Lib.decDigits, dif_pos (by omega)]
  congr 3
  omega
theorem itoa_neg {n : Int} (h : n < 0) : Lib.itoa n = 45 :: Lib.itoa (-n) := by
  simp only [Lib.itoa]
  rw [if_pos h, if_neg (by omega)]
  congr 2
  omega
theorem nDigits_le : ∀ (k u : Nat), u < 10 ^ (k + 1) → Lib.nDigits u ≤ k + 1
  | 0, u, h => by rw [Lib.nDigits_small (by simpa using h)]; exact Nat.le_refl _
  | k + 1, u, h => by
    by_cases h' : u < 10
    · rw [Lib.nDigits_small h']; omega
    · rw [Lib.nDigits_big h']
      have := nDigits_le k (u / 10) (by rw [Nat.pow_succ] at h; omega)
      omega
theorem itoa_len {n : Int} (h : -9223372036854775808 ≤ n ∧ n ≤ 9223372036854775807) : (Lib.itoa n).length ≤ 21 := by
  have h1 := nDigits_le 19 n.natAbs (by simp only [Nat.reducePow, Nat.reduceAdd]; omega)
  have h2 := nDigits_le 19 n.toNat (by simp only [Nat.reducePow, Nat.reduceAdd]; omega)
  unfold Lib.itoa
  split
  · rw [List.length_cons, Lib.decDigits_length]; omega
  · rw [Lib.decDigits_length]; omega
end Go.Wo

/- Words: joined fields. -/
namespace Go.Wo
theorem any_take {α : Type} [Inhabited α] (p : α → Bool) {l : List α} {i : Nat} (h : i < l.length) : (l.take (i + 1)).any p = ((l.take i).any p || p (l.getD i default)) := by
  rw [List.take_add_one, List.getElem?_eq_getElem h, List.getD_eq_getElem?_getD, List.getElem?_eq_getElem h, List.any_append]
  simp
end Go.Wo

/- Words: lines of a text. -/
namespace Go.Wo
end Go.Wo

/- Words: lists of numbers, read from the left. -/
namespace Go.Wo
end Go.Wo

/- Words: lines of fields, one after the other. -/
namespace Go.Wo
end Go.Wo

/- Words: decimal forms of numbers from 0 on, and the numbers themselves. -/
namespace Go.Wo
theorem dg_of {a : Nat} (h : a < 10) : (UInt8.ofNat (48 + a)).toNat = 48 + a := by
  simp only [UInt8.toNat_ofNat']
  omega
theorem dec_mag : ∀ (u : Nat), DG (Lib.decDigits u) ∧ magL 0 (Lib.decDigits u) = u ∧ (10 ≤ u → (Lib.decDigits u).getD 0 0 ≠ 48) := by
  intro u
  induction u using Nat.strongRecOn with
  | _ u ih =>
    by_cases h : u < 10
    · rw [Lib.decDigits, dif_pos h]
      refine ⟨fun c hc => ?_, ?_, fun h' => by omega⟩
      · simp only [List.mem_singleton] at hc
        subst hc
        simp only [digB, dg_of h, Bool.and_eq_true, decide_eq_true_eq]
        omega
      · rw [magL_cons, magL_nil, dg_of h]; omega
    · obtain ⟨h1, h2, h3⟩ := ih (u / 10) (by omega)
      rw [dec_step (by omega)]
      refine ⟨fun c hc => ?_, ?_, fun _ => ?_⟩
      · rcases List.mem_append.1 hc with hc | hc
        · exact h1 c hc
        · simp only [List.mem_singleton] at hc
          subst hc
          simp only [digB, dg_of (Nat.mod_lt u (by decide)), Bool.and_eq_true, decide_eq_true_eq]
          omega
      · rw [magL_app, h2, magL_cons, magL_nil, dg_of (Nat.mod_lt u (by decide))]; omega
      · have hp : 0 < (Lib.decDigits (u / 10)).length := by rw [Lib.decDigits_length]; exact Lib.nDigits_pos _
        rw [List.getD_eq_getElem?_getD, List.getElem?_append_left hp, ← List.getD_eq_getElem?_getD]
        by_cases h4 : 10 ≤ u / 10
        · exact h3 h4
        · rw [Lib.decDigits, dif_pos (by omega)]
          intro e
          have := congrArg UInt8.toNat e
          simp only [List.getD_cons_zero] at this
          rw [dg_of (by omega)] at this
          simp at this
          omega
theorem natS_itoa {n : Int} (h : 0 ≤ n) : natS (Lib.itoa n) = true ∧ magL 0 (Lib.itoa n) = n.toNat := by
  unfold Lib.itoa
  rw [if_neg (by omega)]
  obtain ⟨h1, h2, h3⟩ := dec_mag n.toNat
  refine ⟨?_, h2⟩
  have hp : 0 < (Lib.decDigits n.toNat).length := by rw [Lib.decDigits_length]; exact Lib.nDigits_pos _
  have he : (Lib.decDigits n.toNat).isEmpty = false := by
    cases h : Lib.decDigits n.toNat with
    | nil => rw [h] at hp; simp at hp
    | cons => rfl
  have ha : (Lib.decDigits n.toNat).all digB = true := List.all_eq_true.2 h1
  rw [natS, he, ha, Bool.not_false, Bool.true_and, Bool.true_and]
  by_cases h4 : 10 ≤ n.toNat
  · rw [decide_eq_false (h3 h4)]; rfl
  · rw [Lib.decDigits, dif_pos (by omega)]
    by_cases h5 : n.toNat = 0
    · rw [h5]; rfl
    · have : ¬ UInt8.ofNat (48 + n.toNat) = 48 := fun e => by
        have := congrArg UInt8.toNat e
        rw [dg_of (by omega)] at this
        simp at this
        omega
      simp only [List.getD_cons_zero, decide_eq_false this]; rfl
/-! ### the next number -/
end Go.Wo
