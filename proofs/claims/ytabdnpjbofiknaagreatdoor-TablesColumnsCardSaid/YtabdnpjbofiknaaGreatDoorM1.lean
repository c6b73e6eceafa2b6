/- The plain law of lattices given as masks. -/
import Derived.Lib.ItoaLen
set_option linter.all false
/- The plain law of lattices given as masks. -/
namespace Go.Lat

def ff (n : Nat) (p : Nat → Bool) : Option Nat := (List.range n).find? p

theorem ff_some {n : Nat} {p : Nat → Bool} {i : Nat} (hi : i < n) (h : p i = true) (hj : ∀ j, j < i → p j = false) : ff n p = some i := by
  unfold ff
  rw [List.find?_range_eq_some]
  refine ⟨h, List.mem_range.2 hi, fun j h1 => ?_⟩
  simp [hj j h1]

theorem ff_none {n : Nat} {p : Nat → Bool} (hj : ∀ j, j < n → p j = false) : ff n p = none := by
  unfold ff
  rw [List.find?_range_eq_none]
  intro j h1
  simp [hj j h1]

theorem ff_eq_some {n : Nat} {p : Nat → Bool} {i : Nat} : ff n p = some i ↔ (i < n ∧ p i = true ∧ ∀ j, j < i → p j = false) := by
  unfold ff
  rw [List.find?_range_eq_some]
  simp only [List.mem_range]
  constructor
  · rintro ⟨a, b, c⟩
    exact ⟨b, a, fun j h => by simpa using c j h⟩
  · rintro ⟨a, b, c⟩
    exact ⟨b, a, fun j h => by simp [c j h]⟩

theorem ff_eq_none {n : Nat} {p : Nat → Bool} : ff n p = none ↔ ∀ j, j < n → p j = false := by
  unfold ff
  rw [List.find?_range_eq_none]
  constructor
  · intro a j h
    simpa using a j h
  · intro a j h
    simp [a j h]

def oi : Option Nat → Int
  | none => -1
  | some c => c

/-- the masks of a list of rows -/
def msk (up : List UInt8) (a : Nat) : Nat := (up.getD a 0).toNat
def le (up : List UInt8) (a b : Nat) : Bool := (msk up a).testBit b

/-- what is at or below b, among the first k -/
def dn (up : List UInt8) (b : Nat) : Nat → Nat
  | 0 => 0
  | k + 1 => dn up b k ||| (if le up k b then 1 <<< k else 0)

theorem dn_bit (up : List UInt8) (b k a : Nat) : (dn up b k).testBit a = (decide (a < k) && le up a b) := by
  induction k with
  | zero => simp [dn]
  | succ k ih =>
    simp only [dn, Nat.testBit_or, ih]
    by_cases h : a = k
    · subst h
      cases hl : le up a b <;> simp [Nat.one_shiftLeft]
    · have h1 : (if le up k b then 1 <<< k else 0 : Nat).testBit a = false := by
        split
        · rw [Nat.one_shiftLeft, Nat.testBit_two_pow]
          simp
          omega
        · simp
      rw [h1]
      have h2 : (decide (a < k + 1)) = decide (a < k) := by
        apply decide_eq_decide.2
        omega
      rw [h2]
      simp

theorem dn_lt (up : List UInt8) (b k : Nat) : dn up b k < 2 ^ k := by
  induction k with
  | zero => simp [dn]
  | succ k ih =>
    simp only [dn]
    apply Nat.or_lt_two_pow
    · exact Nat.lt_of_lt_of_le ih (Nat.pow_le_pow_right (by omega) (by omega))
    · split
      · rw [Nat.one_shiftLeft]
        exact Nat.pow_lt_pow_right (by omega) (by omega)
      · exact Nat.two_pow_pos _

/-- the label beyond which is just what is beyond both -/
def near (M : Nat → Nat) (n a b : Nat) : Option Nat := ff n fun c => M c == M a &&& M b

/-- the order is as stated for a label -/
def okRow (up : List UInt8) (n a : Nat) : Bool :=
  decide (msk up a < 2 ^ n) && le up a a &&
    (List.range n).all fun b => !le up a b || (!(b != a && le up b a) && ((msk up b &&& (2 ^ n - 1)) &&& msk up a == msk up b &&& (2 ^ n - 1)))

structure Val (n : Nat) (up : List UInt8) : Prop where
  pos : 0 < n
  le8 : n ≤ 8
  len : up.length = n
  lt : ∀ a, a < n → msk up a < 2 ^ n
  refl : ∀ a, a < n → le up a a = true
  anti : ∀ a b, a < n → b < n → le up a b = true → le up b a = true → a = b
  tra : ∀ a b c, a < n → b < n → c < n → le up a b = true → le up b c = true → le up a c = true
  eu : ∀ a b, a < n → b < n → ∃ c, c < n ∧ msk up c = msk up a &&& msk up b
  ed : ∀ a b, a < n → b < n → ∃ c, c < n ∧ dn up c n = dn up a n &&& dn up b n

theorem eq_of_bits {m k n : Nat} (hm : m < 2 ^ n) (hk : k < 2 ^ n) (h : ∀ i, i < n → m.testBit i = k.testBit i) : m = k := by
  apply Nat.eq_of_testBit_eq
  intro i
  by_cases hi : i < n
  · exact h i hi
  · rw [Nat.testBit_lt_two_pow (Nat.lt_of_lt_of_le hm (Nat.pow_le_pow_right (by omega) (by omega))),
      Nat.testBit_lt_two_pow (Nat.lt_of_lt_of_le hk (Nat.pow_le_pow_right (by omega) (by omega)))]

/-- an order, its rows, the other way's rows, all in one form -/
structure Ord (n : Nat) (M : Nat → Nat) : Prop where
  lt : ∀ a, a < n → M a < 2 ^ n
  refl : ∀ a, a < n → (M a).testBit a = true
  anti : ∀ a b, a < n → b < n → (M a).testBit b = true → (M b).testBit a = true → a = b
  tra : ∀ a b c, a < n → b < n → c < n → (M a).testBit b = true → (M b).testBit c = true → (M a).testBit c = true
  ex : ∀ a b, a < n → b < n → ∃ c, c < n ∧ M c = M a &&& M b

theorem Val.ou {n : Nat} {up : List UInt8} (h : Val n up) : Ord n (msk up) :=
  ⟨h.lt, h.refl, h.anti, h.tra, h.eu⟩

theorem dn_in {n : Nat} {up : List UInt8} {a b : Nat} (ha : a < n) : (dn up b n).testBit a = le up a b := by
  rw [dn_bit]
  simp [ha]

theorem Val.od {n : Nat} {up : List UInt8} (h : Val n up) : Ord n (fun b => Lat.dn up b n) where
  lt a _ := dn_lt up a n
  refl a ha := by rw [dn_in ha]; exact h.refl a ha
  anti a b ha hb h1 h2 := by
    rw [dn_in hb] at h1
    rw [dn_in ha] at h2
    exact h.anti a b ha hb h2 h1
  tra a b c ha hb hc h1 h2 := by
    rw [dn_in hb] at h1
    rw [dn_in hc] at h2 ⊢
    exact h.tra c b a hc hb ha h2 h1
  ex := h.ed

/-- join: the nearest label -/
def jn (M : Nat → Nat) (n a b : Nat) : Nat := (near M n a b).getD 0

namespace Ord
variable {n : Nat} {M : Nat → Nat} (h : Ord n M)
include h

theorem sub {a b : Nat} (ha : a < n) (hb : b < n) : (M a).testBit b = true ↔ ∀ x, x < n → (M b).testBit x = true → (M a).testBit x = true :=
  ⟨fun h1 x hx h2 => h.tra a b x ha hb hx h1 h2, fun h1 => h1 b hb (h.refl b hb)⟩

theorem inj {a b : Nat} (ha : a < n) (hb : b < n) (e : M a = M b) : a = b :=
  h.anti a b ha hb (by rw [e]; exact h.refl b hb) (by rw [← e]; exact h.refl a ha)

theorem near_some {a b : Nat} (ha : a < n) (hb : b < n) : near M n a b = some (jn M n a b) ∧ jn M n a b < n ∧ M (jn M n a b) = M a &&& M b := by
  obtain ⟨c, hc, e⟩ := h.ex a b ha hb
  cases hn : near M n a b with
  | none =>
    have := (ff_eq_none.1 hn) c hc
    simp [e] at this
  | some d =>
    obtain ⟨h1, h2, _⟩ := ff_eq_some.1 hn
    refine ⟨by simp [jn, hn], by simp [jn, hn, h1], ?_⟩
    simp only [jn, hn, Option.getD_some]
    simpa using h2

end Ord

end Go.Lat

/- The plain law of lattices: ends, covers, the other way, checks. -/
namespace Go.Lat

/-- the join of all -/
def foldJ (M : Nat → Nat) (n : Nat) : Nat → Nat
  | 0 => 0
  | k + 1 => jn M n k (foldJ M n k)

/-- the order the other way -/
def dual (up : List UInt8) (n : Nat) : List UInt8 := (List.range n).map fun b => UInt8.ofNat (dn up b n)

theorem dn_lt8 {n : Nat} (up : List UInt8) (b : Nat) (hn : n ≤ 8) : dn up b n < 256 :=
  Nat.lt_of_lt_of_le (dn_lt up b n) (Nat.le_trans (Nat.pow_le_pow_right (by omega) hn) (by decide))

theorem dual_msk {n : Nat} (up : List UInt8) (hn : n ≤ 8) {b : Nat} (hb : b < n) : msk (dual up n) b = dn up b n := by
  unfold msk dual
  rw [List.getD_eq_getElem?_getD, List.getElem?_map, List.getElem?_range hb]
  simp only [Option.map_some, Option.getD_some]
  rw [UInt8.toNat_ofNat', Nat.mod_eq_of_lt (dn_lt8 up b hn)]

theorem dual_le {n : Nat} (up : List UInt8) (hn : n ≤ 8) {a b : Nat} (hb : b < n) (ha : a < n) : le (dual up n) b a = le up a b := by
  unfold le
  rw [dual_msk up hn hb, dn_in ha]
  rfl

theorem Val.dual_dn {n : Nat} {up : List UInt8} (h : Val n up) {b : Nat} (hb : b < n) : Lat.dn (dual up n) b n = msk up b := by
  refine eq_of_bits (dn_lt _ _ _) (h.lt b hb) fun i hi => ?_
  rw [dn_in hi, dual_le up h.le8 hi hb]
  rfl

theorem Val.dual {n : Nat} {up : List UInt8} (h : Val n up) : Val n (dual up n) where
  pos := h.pos
  le8 := h.le8
  len := by simp [Lat.dual]
  lt a ha := by rw [dual_msk up h.le8 ha]; exact dn_lt _ _ _
  refl a ha := by rw [dual_le up h.le8 ha ha]; exact h.refl a ha
  anti a b ha hb h1 h2 := by
    rw [dual_le up h.le8 ha hb] at h1
    rw [dual_le up h.le8 hb ha] at h2
    exact h.anti a b ha hb h2 h1
  tra a b c ha hb hc h1 h2 := by
    rw [dual_le up h.le8 ha hb] at h1
    rw [dual_le up h.le8 hb hc] at h2
    rw [dual_le up h.le8 ha hc]
    exact h.tra c b a hc hb ha h2 h1
  eu a b ha hb := by
    obtain ⟨c, hc, e⟩ := h.ed a b ha hb
    exact ⟨c, hc, by rw [dual_msk up h.le8 hc, dual_msk up h.le8 ha, dual_msk up h.le8 hb, e]⟩
  ed a b ha hb := by
    obtain ⟨c, hc, e⟩ := h.eu a b ha hb
    exact ⟨c, hc, by rw [h.dual_dn hc, h.dual_dn ha, h.dual_dn hb, e]⟩

/-- names -/
def lowB (c : UInt8) : Bool := decide (97 ≤ c.toNat) && decide (c.toNat ≤ 122)
def digB (c : UInt8) : Bool := decide (48 ≤ c.toNat) && decide (c.toNat ≤ 57)
def nmB (c : UInt8) : Bool := lowB c || digB c || decide (c.toNat = 45)
def isNm (s : List UInt8) : Bool := decide (1 ≤ s.length) && decide (s.length ≤ 16) && lowB (s.getD 0 0) && s.all nmB

theorem all_take {s : List UInt8} {p : UInt8 → Bool} {i : Nat} (h : (s.take i).all p = true) (hi : i < s.length) (hp : p (s.getD i 0) = true) : (s.take (i + 1)).all p = true := by
  rw [List.take_succ_eq_append_getElem hi, List.all_append, h]
  simpa [List.getD, hi] using hp

theorem all_no {s : List UInt8} {p : UInt8 → Bool} {i : Nat} (hi : i < s.length) (hp : p (s.getD i 0) = false) : s.all p = false := by
  rw [List.all_eq_false]
  exact ⟨s[i], List.getElem_mem _, by simpa [List.getD, hi] using hp⟩

def noNear (up : List UInt8) (n a : Nat) : Bool :=
  (List.range n).any fun b => (near (msk up) n a b).isNone || (near (fun c => dn up c n) n a b).isNone

def rowsS (n : Nat) (up : List UInt8) : Int × Int :=
  if up.length ≠ n then (-1, 6) else
    match ff n (fun a => !okRow up n a) with
    | some a => (a, 6)
    | none =>
      match ff n (noNear up n) with
      | some a => (a, 4)
      | none => (0, 0)

def rowB (up : List UInt8) (n a b : Nat) : Bool :=
  !le up a b || (!(b != a && le up b a) && ((msk up b &&& (2 ^ n - 1)) &&& msk up a == msk up b &&& (2 ^ n - 1)))
theorem okRow_iff {up : List UInt8} {n a : Nat} (hup : ∀ b, b < n → msk up b < 2 ^ n) (ha : a < n) : okRow up n a = true ↔
    (le up a a = true ∧ (∀ b, b < n → le up a b = true → (le up b a = true → a = b) ∧ ∀ x, x < n → le up b x = true → le up a x = true)) := by
  have hm : ∀ b, b < n → msk up b &&& (2 ^ n - 1) = msk up b := by
    intro b hb
    rw [Nat.and_two_pow_sub_one_eq_mod, Nat.mod_eq_of_lt (hup b hb)]
  unfold okRow
  simp only [Bool.and_eq_true, decide_eq_true_eq, List.all_eq_true, List.mem_range, Bool.or_eq_true, Bool.not_eq_true', Bool.and_eq_false_iff, bne_eq_false_iff_eq, beq_iff_eq]
  constructor
  · rintro ⟨⟨_, h1⟩, h2⟩
    refine ⟨h1, fun b hb hl => ?_⟩
    rcases h2 b hb with h3 | ⟨h3, h4⟩
    · rw [hl] at h3; exact absurd h3 (by simp)
    · refine ⟨fun h5 => ?_, fun x _ h6 => ?_⟩
      · rcases h3 with h3 | h3
        · exact h3.symm
        · rw [h5] at h3; exact absurd h3 (by simp)
      · rw [hm b hb] at h4
        have : (msk up b &&& msk up a).testBit x = true := by rw [h4]; exact h6
        rw [Nat.testBit_and] at this
        simp only [Bool.and_eq_true] at this
        exact this.2
  · rintro ⟨h1, h2⟩
    refine ⟨⟨hup a ha, h1⟩, fun b hb => ?_⟩
    cases hl : le up a b with
    | false => exact Or.inl rfl
    | true =>
      obtain ⟨h3, h4⟩ := h2 b hb hl
      refine Or.inr ⟨?_, ?_⟩
      · cases h5 : le up b a with
        | false => exact Or.inr rfl
        | true => exact Or.inl (h3 h5).symm
      · rw [hm b hb]
        refine eq_of_bits (Nat.lt_of_le_of_lt Nat.and_le_left (hup b hb)) (hup b hb) fun x hx => ?_
        rw [Nat.testBit_and]
        cases h6 : (msk up b).testBit x with
        | false => simp
        | true => simp; exact h4 x hx h6

theorem Val.rows {n : Nat} {up : List UInt8} (h : Val n up) : rowsS n up = (0, 0) := by
  have h1 : ff n (fun a => !okRow up n a) = none := by
    rw [ff_eq_none]
    intro a ha
    simp only [Bool.not_eq_false']
    refine (okRow_iff h.lt ha).2 ⟨h.refl a ha, fun b hb h1 => ⟨fun h2 => h.anti a b ha hb h1 h2, fun x hx h3 => h.tra a b x ha hb hx h1 h3⟩⟩
  have h2 : ff n (noNear up n) = none := by
    rw [ff_eq_none]
    intro a ha
    simp only [noNear, List.any_eq_false, List.mem_range]
    intro b hb
    have e1 := (h.ou.near_some ha hb).1
    have e2 := (h.od.near_some ha hb).1
    rw [e1, e2]
    simp
  simp [rowsS, h.len, h1, h2]

/-- what Find finds -/
def findO (l : List (List UInt8)) (s : List UInt8) : Option Nat := ff l.length fun a => l.getD a [] == s
theorem ext_getD {α : Type} {d : α} {l m : List α} (h : l.length = m.length) (hi : ∀ i, i < l.length → l.getD i d = m.getD i d) : l = m := by
  apply List.ext_getElem h
  intro i h1 h2
  have := hi i h1
  simpa [List.getD, h1, h2] using this

end Go.Lat

/- The plain law of Trim. -/
namespace Go.Lat
def inB (cs : List UInt8) (k : Nat) : Bool := cs.any fun x => x.toNat == k
def rtrim (cs s : List UInt8) : List UInt8 := (s.reverse.dropWhile fun c => inB cs c.toNat).reverse
def ltrim (cs s : List UInt8) : List UInt8 := s.dropWhile fun c => inB cs c.toNat
def trimS (cs s : List UInt8) : List UInt8 := ltrim cs (rtrim cs s)
theorem ltrim_t {cs s : List UInt8} (h : 0 < s.length) (hp : inB cs (s.getD 0 0).toNat = true) : ltrim cs s = ltrim cs (s.drop 1) := by
  cases s with
  | nil => simp at h
  | cons x t =>
    simp only [ltrim, List.drop_succ_cons, List.drop_zero]
    rw [List.dropWhile_cons_of_pos (by simpa using hp)]
theorem ltrim_f {cs s : List UInt8} (h : 0 < s.length) (hp : inB cs (s.getD 0 0).toNat = false) : ltrim cs s = s := by
  cases s with
  | nil => rfl
  | cons x t =>
    simp only [ltrim]
    rw [List.dropWhile_cons_of_neg (by simpa using hp)]
theorem snoc {s : List UInt8} (h : 0 < s.length) : s = s.take (s.length - 1) ++ [s.getD (s.length - 1) 0] := by
  have h1 : s.length - 1 < s.length := by omega
  have := List.take_succ_eq_append_getElem h1
  rw [show s.length - 1 + 1 = s.length by omega, List.take_length] at this
  simpa [List.getD, h1] using this
theorem rtrim_t {cs s : List UInt8} (h : 0 < s.length) (hp : inB cs (s.getD (s.length - 1) 0).toNat = true) : rtrim cs s = rtrim cs (s.take (s.length - 1)) := by
  conv => lhs; rw [snoc h]
  simp only [rtrim, List.reverse_append, List.reverse_cons, List.reverse_nil, List.nil_append, List.cons_append]
  rw [List.dropWhile_cons_of_pos (by simpa using hp)]
theorem rtrim_f {cs s : List UInt8} (h : 0 < s.length) (hp : inB cs (s.getD (s.length - 1) 0).toNat = false) : rtrim cs s = s := by
  have e := snoc h
  generalize s.take (s.length - 1) = t at e
  generalize s.getD (s.length - 1) 0 = x at e hp
  subst e
  simp only [rtrim, List.reverse_append, List.reverse_cons, List.reverse_nil, List.nil_append, List.cons_append]
  rw [List.dropWhile_cons_of_neg (by simpa using hp)]
  simp
theorem dw_nil {p : UInt8 → Bool} (l : List UInt8) : l.dropWhile p = [] ↔ l.all p = true := by
  induction l with
  | nil => simp
  | cons x t ih =>
    by_cases h : p x = true
    · rw [List.dropWhile_cons_of_pos h, ih]; simp [h]
    · rw [List.dropWhile_cons_of_neg h]; simp [h]
theorem trim_nil (cs s : List UInt8) : trimS cs s = [] ↔ s.all (fun c => inB cs c.toNat) = true := by
  have h1 : rtrim cs s = [] ↔ s.all (fun c => inB cs c.toNat) = true := by
    rw [rtrim, List.reverse_eq_nil_iff, dw_nil, List.all_reverse]
  unfold trimS ltrim
  constructor
  · intro h
    rw [dw_nil] at h
    -- what is left has its last byte outside
    by_cases h0 : rtrim cs s = []
    · exact h1.1 h0
    · exfalso
      have h2 : s.reverse.dropWhile (fun c => inB cs c.toNat) ≠ [] := fun e => h0 (by rw [rtrim, e]; rfl)
      have h3 := List.head_dropWhile_not (fun c : UInt8 => inB cs c.toNat) h2
      have h4 : (s.reverse.dropWhile fun c => inB cs c.toNat).head h2 ∈ rtrim cs s := by
        rw [rtrim, List.mem_reverse]; exact List.head_mem h2
      have h5 := (List.all_eq_true.1 h) _ h4
      rw [h3] at h5
      exact absurd h5 (by simp)
  · intro h
    rw [h1.2 h]; rfl
def nameCs : List UInt8 := [97, 98, 99, 100, 101, 102, 103, 104, 105, 106, 107, 108, 109, 110, 111, 112, 113, 114, 115, 116, 117, 118, 119, 120, 121, 122, 48, 49, 50, 51, 52, 53, 54, 55, 56, 57, 45]
theorem nameCs_in : ∀ n : Nat, n < 256 → inB nameCs n = ((decide (97 ≤ n) && decide (n ≤ 122)) || (decide (48 ≤ n) && decide (n ≤ 57)) || decide (n = 45)) := by
  decide +kernel
theorem nameCs_nm (c : UInt8) : inB nameCs c.toNat = nmB c := by
  rw [nameCs_in c.toNat c.toNat_lt]; rfl
theorem trim_name (s : List UInt8) : decide (trimS nameCs s = []) = s.all nmB := by
  have : (fun c : UInt8 => inB nameCs c.toNat) = nmB := funext nameCs_nm
  have h := trim_nil nameCs s
  rw [this] at h
  cases ha : s.all nmB with
  | true => simp [h.2 ha]
  | false => simp [h, ha]
end Go.Lat

/- The plain law of types over lattices. -/
namespace Go.Lat
/-- a type: kind, rank, the labels of the axes, that of the data -/
structure Ty where
  k : Int
  r : Int
  a0 : Int
  a1 : Int
  d : Int
  deriving DecidableEq
def bot (n : Nat) (up : List UInt8) : Nat := foldJ (fun c => dn up c n) n n
def lab (n : Nat) (a : Int) : Bool := decide (0 ≤ a) && decide (a < n)
def leI (up : List UInt8) (a b : Int) : Bool := le up a.toNat b.toNat
section
variable {n : Nat} {up : List UInt8} (hv : Val n up)
include hv
end
structure Good (n : Nat) (up : List UInt8) (t : Ty) : Prop where
  k : t.k = 1 ∨ t.k = 2
  r : 0 ≤ t.r ∧ t.r ≤ 2
  l0 : lab n t.a0 = true
  l1 : lab n t.a1 = true
  ld : lab n t.d = true
  b0 : t.r ≤ 0 → t.a0 = bot n up
  b1 : t.r ≤ 1 → t.a1 = bot n up
  f0 : leI up t.a0 t.d = true
  f1 : leI up t.a1 t.d = true
def zeroT : Ty := ⟨0, 0, 0, 0, 0⟩
section
variable {n : Nat} {up : List UInt8} (hv : Val n up)
include hv
end
end Go.Lat

/- The plain law of what is seen of arrays. -/
namespace Go.Lat
/-- an array: kind, rank, lengths, cells -/
structure Arr where
  k : Int
  r : Int
  l0 : Int
  l1 : Int
  c : List Int
def many (r l0 l1 : Int) : Int := if 2 ≤ r then l0 * l1 else if 1 ≤ r then l0 else 1
def shapeE (r l0 l1 : Int) : Int :=
  if r < 0 ∨ 2 < r then 7
  else if (1 ≤ r ∧ l0 < 0) ∨ (2 ≤ r ∧ l1 < 0) then 7
  else if (r ≤ 0 ∧ l0 ≠ 0) ∨ (r ≤ 1 ∧ l1 ≠ 0) then 6
  else if 400 < l0 ∨ 400 < l1 ∨ 400 < many r l0 l1 then 15
  else 0
def runeI (c : Int) : Bool := decide (0 ≤ c) && decide (c ≤ 1114111) && (decide (c < 55296) || decide (57343 < c))
def arrE (a : Arr) : Int :=
  if a.k ≠ 1 ∧ a.k ≠ 2 then 2
  else if shapeE a.r a.l0 a.l1 ≠ 0 then shapeE a.r a.l0 a.l1
  else if (a.c.length : Int) ≠ many a.r a.l0 a.l1 then 6
  else if a.k = 2 ∧ a.c.any (fun c => !runeI c) = true then 7
  else 0
theorem arrE_0 {a : Arr} (h : arrE a = 0) : (a.k = 1 ∨ a.k = 2) ∧ shapeE a.r a.l0 a.l1 = 0 ∧ (a.c.length : Int) = many a.r a.l0 a.l1 := by
  unfold arrE at h
  split at h
  · omega
  · split at h
    · exact absurd h (by assumption)
    · split at h
      · omega
      · exact ⟨by omega, by omega, by omega⟩
section
variable {n : Nat} {up : List UInt8} (hv : Val n up)
include hv
end
end Go.Lat

/- Stable sorting, plain: the order of rows by their cells. -/
namespace Go.Tb
/-- a row stands before another one -/
def ltc (c : Int → Int) (x y : Int) : Prop := c x < c y ∨ (c x = c y ∧ x < y)
theorem ltc_trans {c : Int → Int} {x y z : Int} (h1 : ltc c x y) (h2 : ltc c y z) : ltc c x z := by
  unfold ltc at *; omega
theorem ltc_asym {c : Int → Int} {x y : Int} (h : ltc c x y) : ¬ ltc c y x := by unfold ltc at *; omega
def cmpI (c : Int → Int) (x y : Int) : Int := if c x < c y then -1 else if c y < c x then 1 else 0
theorem cmp_lt (c : Int → Int) (x y : Int) : cmpI c x y < 0 ↔ c x < c y := by
  unfold cmpI; split
  · omega
  · split <;> omega
theorem pw_app {α : Type} {R : α → α → Prop} {l m : List α} : (l ++ m).Pairwise R ↔ l.Pairwise R ∧ m.Pairwise R ∧ ∀ a ∈ l, ∀ b ∈ m, R a b := List.pairwise_append
theorem pw_last {c : Int → Int} {Y : List Int} {z : Int} (h : (Y ++ [z]).Pairwise (ltc c)) : ∀ y ∈ Y, ltc c y z := fun y hy => (pw_app.1 h).2.2 y hy z (by simp)
/-- one more row is put where it belongs -/
theorem ins_sorted {c : Int → Int} {A B : List Int} {x : Int} (h : (A ++ B).Pairwise (ltc c)) (hx : ∀ z ∈ A ++ B, z < x) (hB : ∀ z ∈ B, c x < c z) (hA : A = [] ∨ ∃ Y z, A = Y ++ [z] ∧ ¬ c x < c z) : (A ++ x :: B).Pairwise (ltc c) := by
  obtain ⟨h1, h2, h3⟩ := pw_app.1 h
  have hAx : ∀ a ∈ A, ltc c a x := by
    rcases hA with rfl | ⟨Y, z, rfl, hz⟩
    · simp
    · have hzx : ltc c z x := by
        have := hx z (by simp)
        unfold ltc; omega
      intro a ha
      rcases List.mem_append.1 ha with ha | ha
      · exact ltc_trans (pw_last h1 a ha) hzx
      · rw [List.mem_singleton.1 ha]; exact hzx
  refine pw_app.2 ⟨h1, List.pairwise_cons.2 ⟨fun b hb => .inl (hB b hb), h2⟩, fun a ha b hb => ?_⟩
  rcases List.mem_cons.1 hb with rfl | hb
  · exact hAx a ha
  · exact h3 a ha b hb
/-- where two sorted runs may be cut so that what is left of the cuts stands before what is right of them -/
theorem cut_lt {c : Int → Int} {A1 A2 B1 B2 : List Int} (hA : (A1 ++ A2).Pairwise (ltc c)) (hB : (B1 ++ B2).Pairwise (ltc c)) (hAB : ∀ a ∈ A1 ++ A2, ∀ b ∈ B1 ++ B2, a < b)
    (h1 : A1 = [] ∨ B2 = [] ∨ ∃ Y z w R, A1 = Y ++ [z] ∧ B2 = w :: R ∧ ¬ c w < c z) (h2 : B1 = [] ∨ A2 = [] ∨ ∃ Y z w R, B1 = Y ++ [z] ∧ A2 = w :: R ∧ c z < c w) : ∀ x ∈ A1 ++ B1, ∀ y ∈ A2 ++ B2, ltc c x y := by
  obtain ⟨a1, a2, a3⟩ := pw_app.1 hA
  obtain ⟨b1, b2, b3⟩ := pw_app.1 hB
  have k1 : ∀ x ∈ A1, ∀ y ∈ B2, ltc c x y := by
    rcases h1 with rfl | rfl | ⟨Y, z, w, R, rfl, rfl, hzw⟩
    · simp
    · simp
    · have hz : ltc c z w := by
        have := hAB z (by simp) w (by simp)
        unfold ltc; omega
      intro x hx y hy
      have hxz : x = z ∨ ltc c x z := by
        rcases List.mem_append.1 hx with h | h
        · exact .inr (pw_last a1 x h)
        · exact .inl (List.mem_singleton.1 h)
      have hyw : y = w ∨ ltc c w y := by
        rcases List.mem_cons.1 hy with h | h
        · exact .inl h
        · exact .inr ((List.pairwise_cons.1 b2).1 y h)
      rcases hxz with rfl | hxz <;> rcases hyw with rfl | hyw
      · exact hz
      · exact ltc_trans hz hyw
      · exact ltc_trans hxz hz
      · exact ltc_trans (ltc_trans hxz hz) hyw
  have k2 : ∀ x ∈ B1, ∀ y ∈ A2, ltc c x y := by
    rcases h2 with rfl | rfl | ⟨Y, z, w, R, rfl, rfl, hzw⟩
    · simp
    · simp
    · have hz : ltc c z w := .inl hzw
      intro x hx y hy
      have hxz : x = z ∨ ltc c x z := by
        rcases List.mem_append.1 hx with h | h
        · exact .inr (pw_last b1 x h)
        · exact .inl (List.mem_singleton.1 h)
      have hyw : y = w ∨ ltc c w y := by
        rcases List.mem_cons.1 hy with h | h
        · exact .inl h
        · exact .inr ((List.pairwise_cons.1 a2).1 y h)
      rcases hxz with rfl | hxz <;> rcases hyw with rfl | hyw
      · exact hz
      · exact ltc_trans hz hyw
      · exact ltc_trans hxz hz
      · exact ltc_trans (ltc_trans hxz hz) hyw
  intro x hx y hy
  rcases List.mem_append.1 hx with hx | hx <;> rcases List.mem_append.1 hy with hy | hy
  · exact a3 x hx y hy
  · exact k1 x hx y hy
  · exact k2 x hx y hy
  · exact b3 x hx y hy
/-- a sorted list has no other order -/
theorem sorted_unique {c : Int → Int} : ∀ {l m : List Int}, l.Pairwise (ltc c) → m.Pairwise (ltc c) → l.Perm m → l = m
  | [], m, _, _, h => (List.nil_perm.1 h).symm ▸ rfl
  | x :: l, [], _, _, h => by simpa using h.length_eq
  | x :: l, y :: m, h1, h2, h => by
    have e : x = y := by
      have hx : x ∈ y :: m := h.subset (by simp)
      have hy : y ∈ x :: l := h.symm.subset (by simp)
      rcases List.mem_cons.1 hx with e | hx
      · exact e
      · rcases List.mem_cons.1 hy with e | hy
        · exact e.symm
        · exact absurd ((List.pairwise_cons.1 h1).1 y hy) (ltc_asym ((List.pairwise_cons.1 h2).1 x hx))
    subst e
    rw [sorted_unique (List.pairwise_cons.1 h1).2 (List.pairwise_cons.1 h2).2 (List.Perm.cons_inv h)]
end Go.Tb
namespace Go.Tb
/-- a row is put into a run of later ones -/
theorem merge1 {c : Int → Int} {x : Int} {B1 B2 : List Int} (hB : (B1 ++ B2).Pairwise (ltc c)) (hx : ∀ y ∈ B1 ++ B2, x < y) (h1 : B1 = [] ∨ ∃ Y z, B1 = Y ++ [z] ∧ c z < c x) (h2 : B2 = [] ∨ ∃ w R, B2 = w :: R ∧ ¬ c w < c x) : (B1 ++ x :: B2).Pairwise (ltc c) := by
  obtain ⟨b1, b2, b3⟩ := pw_app.1 hB
  have k1 : ∀ u ∈ B1, ltc c u x := by
    rcases h1 with rfl | ⟨Y, z, rfl, hz⟩
    · simp
    · intro u hu
      rcases List.mem_append.1 hu with h | h
      · exact ltc_trans (pw_last b1 u h) (.inl hz)
      · rw [List.mem_singleton.1 h]; exact .inl hz
  have k2 : ∀ u ∈ B2, ltc c x u := by
    rcases h2 with rfl | ⟨w, R, rfl, hw⟩
    · simp
    · have hxw : ltc c x w := by
        have := hx w (by simp)
        unfold ltc; omega
      intro u hu
      rcases List.mem_cons.1 hu with rfl | h
      · exact hxw
      · exact ltc_trans hxw ((List.pairwise_cons.1 b2).1 u h)
  refine pw_app.2 ⟨b1, List.pairwise_cons.2 ⟨k2, b2⟩, fun a ha b hb => ?_⟩
  rcases List.mem_cons.1 hb with rfl | hb
  · exact k1 a ha
  · exact b3 a ha b hb
/-- a row is put into a run of earlier ones -/
theorem merge2 {c : Int → Int} {y : Int} {A1 A2 : List Int} (hA : (A1 ++ A2).Pairwise (ltc c)) (hy : ∀ x ∈ A1 ++ A2, x < y) (h1 : A1 = [] ∨ ∃ Y z, A1 = Y ++ [z] ∧ ¬ c y < c z) (h2 : A2 = [] ∨ ∃ w R, A2 = w :: R ∧ c y < c w) : (A1 ++ y :: A2).Pairwise (ltc c) := by
  obtain ⟨a1, a2, a3⟩ := pw_app.1 hA
  have k1 : ∀ u ∈ A1, ltc c u y := by
    rcases h1 with rfl | ⟨Y, z, rfl, hz⟩
    · simp
    · have hzy : ltc c z y := by
        have := hy z (by simp)
        unfold ltc; omega
      intro u hu
      rcases List.mem_append.1 hu with h | h
      · exact ltc_trans (pw_last a1 u h) hzy
      · rw [List.mem_singleton.1 h]; exact hzy
  have k2 : ∀ u ∈ A2, ltc c y u := by
    rcases h2 with rfl | ⟨w, R, rfl, hw⟩
    · simp
    · intro u hu
      rcases List.mem_cons.1 hu with rfl | h
      · exact .inl hw
      · exact ltc_trans (.inl hw) ((List.pairwise_cons.1 a2).1 u h)
  refine pw_app.2 ⟨a1, List.pairwise_cons.2 ⟨k2, a2⟩, fun a ha b hb => ?_⟩
  rcases List.mem_cons.1 hb with rfl | hb
  · exact k1 a ha
  · exact a3 a ha b hb
theorem gdd (P L T : List Int) (x : Int) : (P ++ (L ++ x :: T)).getD (P.length + L.length) 0 = x := by
  have e1 : P ++ (L ++ x :: T) = (P ++ L) ++ x :: T := by simp
  rw [e1, ← List.length_append, List.getD_eq_getElem?_getD]; simp
end Go.Tb

/- Tables, plain: what Check says. -/
namespace Go.Tb
open Go
structure Tab where
  n : List (List UInt8)
  c : List Lat.Arr
instance : Inhabited Lat.Arr := ⟨⟨0, 0, 0, 0, []⟩⟩
def Tab.nm (t : Tab) (i : Nat) : List UInt8 := t.n.getD i []
def Tab.col (t : Tab) (i : Nat) : Lat.Arr := t.c.getD i default
/-- the fault of a column -/
def colE (t : Tab) (i : Nat) : Int :=
  if Lat.isNm (t.nm i) = false then 6
  else if (t.n.take i).contains (t.nm i) = true then 8
  else if Lat.arrE (t.col i) ≠ 0 then Lat.arrE (t.col i)
  else if (t.col i).r ≠ 1 then 22
  else if ¬ ((t.col i).l0 = (t.col 0).l0 ∧ (t.col i).l1 = (t.col 0).l1) then 11
  else 0
def chk (t : Tab) : Int × Int :=
  if 16 < t.n.length then (-1, 3)
  else if t.c.length ≠ t.n.length then (-1, 6)
  else match Lat.ff t.n.length fun i => !decide (colE t i = 0) with
    | some i => (i, colE t i)
    | none => (0, 0)
/-- a table that is good -/
structure Good (t : Tab) : Prop where
  len : t.n.length ≤ 16
  eq : t.c.length = t.n.length
  col : ∀ i, i < t.n.length → colE t i = 0
theorem chk_good {t : Tab} : (chk t).2 = 0 ↔ Good t := by
  unfold chk
  constructor
  · intro h
    split at h
    · simp at h
    split at h
    · simp at h
    rename_i h1 h2
    cases e : Lat.ff t.n.length fun i => !decide (colE t i = 0) with
    | some i =>
      rw [e] at h
      have := (Lat.ff_eq_some.1 e).2.1
      simp only [Bool.not_eq_true', decide_eq_false_iff_not] at this
      exact absurd h this
    | none =>
      refine ⟨by omega, by omega, fun i hi => ?_⟩
      have := Lat.ff_eq_none.1 e i hi
      simpa using this
  · intro h
    rw [if_neg (by have := h.len; omega), if_neg (by have := h.eq; omega), Lat.ff_none fun j hj => by rw [h.col j hj]; rfl]
theorem chk_ok {t : Tab} (h : Good t) : chk t = (0, 0) := by
  unfold chk
  rw [if_neg (by have := h.len; omega), if_neg (by have := h.eq; omega), Lat.ff_none fun j hj => by rw [h.col j hj]; rfl]
theorem chk_col {t : Tab} {i : Nat} (h1 : t.n.length ≤ 16) (h2 : t.c.length = t.n.length) (hi : i < t.n.length) (h3 : ∀ j, j < i → colE t j = 0) (h4 : colE t i ≠ 0) : chk t = ((i : Int), colE t i) := by
  unfold chk
  rw [if_neg (by omega), if_neg (by omega), Lat.ff_some hi (by simpa using h4) fun j hj => by rw [h3 j hj]; rfl]
/-- how many rows -/
def many (t : Tab) : Int := if t.c.length = 0 then 0 else (t.col 0).l0
end Go.Tb

/- Tables, plain: columns, rows, what is found, taken, ordered. -/
namespace Go.Tb
open Go
theorem colE_0 {t : Tab} {i : Nat} (h : colE t i = 0) : Lat.isNm (t.nm i) = true ∧ (t.n.take i).contains (t.nm i) = false ∧ Lat.arrE (t.col i) = 0 ∧ (t.col i).r = 1 ∧ (t.col i).l0 = (t.col 0).l0 ∧ (t.col i).l1 = (t.col 0).l1 := by
  unfold colE at h
  split at h
  · omega
  rename_i h1
  split at h
  · omega
  rename_i h2
  split at h
  · exact absurd h (by assumption)
  rename_i h3
  split at h
  · omega
  rename_i h4
  split at h
  · omega
  rename_i h5
  refine ⟨by simpa using h1, by simpa using h2, by omega, by omega, ?_⟩
  exact Decidable.byContradiction h5
theorem shape1 {l0 l1 : Int} (h : Lat.shapeE 1 l0 l1 = 0) : 0 ≤ l0 ∧ l0 ≤ 400 ∧ l1 = 0 := by
  unfold Lat.shapeE at h
  split at h
  · omega
  split at h
  · omega
  split at h
  · omega
  split at h
  · omega
  omega
theorem arr1 {a : Lat.Arr} (h : Lat.arrE a = 0) (hr : a.r = 1) : (a.c.length : Int) = a.l0 ∧ a.l1 = 0 ∧ a.c.length ≤ 400 ∧ (a.k = 1 ∨ a.k = 2) := by
  obtain ⟨h1, h2, h3⟩ := Lat.arrE_0 h
  rw [hr] at h2 h3
  have := shape1 h2
  have e : Lat.many 1 a.l0 a.l1 = a.l0 := by simp [Lat.many]
  rw [e] at h3
  exact ⟨h3, this.2.2, by omega, h1⟩
theorem Good.at {t : Tab} (h : Good t) {i : Nat} (hi : i < t.n.length) : Lat.arrE (t.col i) = 0 ∧ (t.col i).r = 1 ∧ ((t.col i).c.length : Int) = many t ∧ (t.col i).l0 = many t ∧ (t.col i).l1 = 0 ∧ (t.col i).c.length ≤ 400 ∧ ((t.col i).k = 1 ∨ (t.col i).k = 2) := by
  obtain ⟨_, _, h3, h4, h5, h6⟩ := colE_0 (h.col i hi)
  obtain ⟨a1, a2, a3, a4⟩ := arr1 h3 h4
  have e : many t = (t.col 0).l0 := by unfold many; rw [if_neg (by have := h.eq; omega)]
  exact ⟨h3, h4, by omega, by omega, a2, a3, a4⟩
theorem Good.many {t : Tab} (h : Good t) : 0 ≤ many t ∧ many t ≤ 400 := by
  by_cases h0 : t.n.length = 0
  · have : Tb.many t = 0 := by unfold Tb.many; rw [if_pos (by rw [h.eq, h0])]
    omega
  · have := h.at (i := 0) (by omega)
    omega
/-- the index of a column -/
def atI (t : Tab) (s : List UInt8) : Int × Int :=
  if (chk t).2 ≠ 0 then (0, (chk t).2)
  else match Lat.findO t.n s with
    | some i => ((i : Nat), 0)
    | none => (0, 4)
theorem atI_bad {t : Tab} {s : List UInt8} (h : (chk t).2 ≠ 0) : atI t s = (0, (chk t).2) := if_pos h
theorem atI_0 {t : Tab} {s : List UInt8} (h : (atI t s).2 = 0) : ∃ i : Nat, atI t s = ((i : Int), 0) ∧ i < t.n.length ∧ Good t ∧ t.nm i = s ∧ ∀ j, j < i → t.nm j ≠ s := by
  unfold atI at h ⊢
  split at h
  · exact absurd h (by assumption)
  rename_i h1
  have hg : Good t := chk_good.1 (by omega)
  cases e : Lat.findO t.n s with
  | none => rw [e] at h; simp at h
  | some i =>
    obtain ⟨h2, h3, h4⟩ := Lat.ff_eq_some.1 e
    refine ⟨i, by rw [if_neg h1], h2, hg, by simpa [Tab.nm] using h3, fun j hj => by simpa [Tab.nm] using h4 j hj⟩
/-- the first row with a number -/
def fndL (l : List Int) (v : Int) : Option Nat := Lat.ff l.length fun i => l.getD i 0 == v
def findR (t : Tab) (s : List UInt8) (v : Int) : Int × Int :=
  if (atI t s).2 ≠ 0 then (0, (atI t s).2)
  else match fndL (t.col (atI t s).1.toNat).c v with
    | some k => ((k : Nat), 0)
    | none => (0, 4)
def zeroT : Tab := ⟨[], []⟩
/-- the cells of some rows -/
def takenC (rows : List Int) (a : Lat.Arr) : Lat.Arr := ⟨a.k, 1, rows.length, 0, rows.map fun k => a.c.getD k.toNat 0⟩
def takenT (t : Tab) (rows : List Int) : Tab := ⟨t.n, t.c.map (takenC rows)⟩
end Go.Tb
namespace Go.Tb
theorem good_mem {t : Tab} (h : Good t) {a : Lat.Arr} (ha : a ∈ t.c) : (a.c.length : Int) = many t := by
  obtain ⟨i, hi, e⟩ := List.getElem_of_mem ha
  have h1 := (h.at (i := i) (by rw [← h.eq]; exact hi)).2.2.1
  have : t.col i = a := by unfold Tab.col; rw [List.getD_eq_getElem?_getD, List.getElem?_eq_getElem hi, ← e]; rfl
  rw [this] at h1
  exact h1
end Go.Tb

/- Tables, plain: the order of a column. -/
namespace Go.Tb
open Go
/-- the numbers from a on, before b -/
def rg (a b : Nat) : List Int := (List.range' a (b - a)).map fun k : Nat => (k : Int)
theorem rg_len (a b : Nat) : (rg a b).length = b - a := by simp [rg]
theorem rg_app {a b c : Nat} (h1 : a ≤ b) (h2 : b ≤ c) : rg a c = rg a b ++ rg b c := by
  unfold rg
  rw [← List.map_append]
  congr 1
  have := List.range'_append_1 (s := a) (m := b - a) (n := c - b)
  rw [show a + (b - a) = b by omega] at this
  rw [this]; congr 1; omega
theorem rg_mem {a b : Nat} {x : Int} : x ∈ rg a b ↔ (a : Int) ≤ x ∧ x < b := by
  unfold rg
  simp only [List.mem_map, List.mem_range'_1]
  constructor
  · rintro ⟨k, hk, rfl⟩; omega
  · intro h; exact ⟨x.toNat, by omega, by omega⟩
theorem rg_lt (a b : Nat) : (rg a b).Pairwise (· < ·) := by
  unfold rg
  rw [List.pairwise_map]
  exact (List.pairwise_lt_range' (s := a) (n := b - a)).imp fun h => by omega
/-- a row's cell -/
def cellA (l : List Int) (x : Int) : Int := l.getD x.toNat 0
def insL (c : Int → Int) (x : Int) : List Int → List Int
  | [] => [x]
  | y :: l => if c x < c y ∨ (c x = c y ∧ x < y) then x :: y :: l else y :: insL c x l
def sortL (c : Int → Int) : List Int → List Int
  | [] => []
  | x :: l => insL c x (sortL c l)
theorem insL_perm (c : Int → Int) (x : Int) : ∀ l : List Int, (insL c x l).Perm (x :: l)
  | [] => .refl _
  | y :: l => by
    simp only [insL]
    split
    · exact .refl _
    · exact (List.Perm.cons y (insL_perm c x l)).trans (.swap x y l)
theorem sortL_perm (c : Int → Int) : ∀ l : List Int, (sortL c l).Perm l
  | [] => .refl _
  | x :: l => (insL_perm c x _).trans (List.Perm.cons x (sortL_perm c l))
theorem insL_sorted {c : Int → Int} {x : Int} : ∀ {l : List Int}, l.Pairwise (ltc c) → (∀ y ∈ l, x ≠ y) → (insL c x l).Pairwise (ltc c)
  | [], _, _ => List.pairwise_singleton ..
  | y :: l, h, hx => by
    obtain ⟨h1, h2⟩ := List.pairwise_cons.1 h
    simp only [insL]
    split
    · rename_i hlt
      refine List.pairwise_cons.2 ⟨fun z hz => ?_, h⟩
      rcases List.mem_cons.1 hz with rfl | hz
      · exact hlt
      · exact ltc_trans hlt (h1 z hz)
    · rename_i hlt
      refine List.pairwise_cons.2 ⟨fun z hz => ?_, insL_sorted h2 fun z hz => hx z (by simp [hz])⟩
      rcases List.mem_cons.1 ((insL_perm c x l).subset hz) with rfl | hz
      · have := hx y (by simp)
        unfold ltc; omega
      · exact h1 z hz
theorem sortL_sorted {c : Int → Int} : ∀ {l : List Int}, l.Pairwise (· < ·) → (sortL c l).Pairwise (ltc c)
  | [], _ => .nil
  | x :: l, h => by
    obtain ⟨h1, h2⟩ := List.pairwise_cons.1 h
    exact insL_sorted (sortL_sorted h2) fun y hy e => by
      have := h1 y ((sortL_perm c l).subset hy)
      omega
/-- the order of a column -/
def ordL (l : List Int) : List Int := sortL (cellA l) (rg 0 l.length)
theorem ordL_len (l : List Int) : (ordL l).length = l.length := by
  rw [ordL, (sortL_perm _ _).length_eq, rg_len]; rfl
theorem ordL_rng {l : List Int} {k : Int} (h : k ∈ ordL l) : 0 ≤ k ∧ k < l.length := by
  have := rg_mem.1 ((sortL_perm _ _).subset h)
  omega
def orderR (t : Tab) (s : List UInt8) : List Int × Int :=
  if (atI t s).2 ≠ 0 then ([], (atI t s).2) else (ordL (t.col (atI t s).1.toNat).c, 0)
def sortR (t : Tab) (s : List UInt8) : Tab × Int :=
  if (orderR t s).2 ≠ 0 then (zeroT, (orderR t s).2) else (takenT t (orderR t s).1, 0)
def addR (t : Tab) (s : List UInt8) (a : Lat.Arr) : Tab × Int :=
  if (chk t).2 ≠ 0 then (zeroT, (chk t).2)
  else if (chk ⟨t.n ++ [s], t.c ++ [a]⟩).2 ≠ 0 then (zeroT, (chk ⟨t.n ++ [s], t.c ++ [a]⟩).2)
  else (⟨t.n ++ [s], t.c ++ [a]⟩, 0)
end Go.Tb

/- Tables, plain: equal ones; what is far. -/
namespace Go.Tb
open Go
def likeA (a b : Lat.Arr) : Bool := a.k == b.k && a.r == b.r && (a.l0 == b.l0 && a.l1 == b.l1)
def sameA (a b : Lat.Arr) : Bool := likeA a b && a.c == b.c
theorem likeA_iff {a b : Lat.Arr} : likeA a b = true ↔ a.k = b.k ∧ a.r = b.r ∧ a.l0 = b.l0 ∧ a.l1 = b.l1 := by
  simp only [likeA, Bool.and_eq_true, beq_iff_eq, and_assoc]
theorem sameA_iff {a b : Lat.Arr} : sameA a b = true ↔ a = b := by
  obtain ⟨k, r, l0, l1, c⟩ := a
  obtain ⟨k', r', l0', l1', c'⟩ := b
  simp only [sameA, Bool.and_eq_true, likeA_iff, beq_iff_eq, Lat.Arr.mk.injEq, and_assoc]
theorem sameA_refl (a : Lat.Arr) : sameA a a = true := sameA_iff.2 rfl
/-- two lists that have the same at all places are equal -/
theorem ext_getD {α : Type} (d : α) {l m : List α} (h : l.length = m.length) (hj : ∀ j, j < l.length → l.getD j d = m.getD j d) : l = m := by
  refine List.ext_getElem h fun j h1 h2 => ?_
  have := hj j h1
  rwa [List.getD_eq_getElem?_getD, List.getD_eq_getElem?_getD, List.getElem?_eq_getElem h1, List.getElem?_eq_getElem h2, Option.getD_some, Option.getD_some] at this
def sameT (a b : Tab) : Bool := a.n == b.n && a.c.length == b.c.length && (Lat.ff a.c.length fun i => !sameA (a.col i) (b.col i)).isNone
theorem sameT_iff {a b : Tab} : sameT a b = true ↔ a = b := by
  obtain ⟨n, c⟩ := a
  obtain ⟨n', c'⟩ := b
  simp only [sameT, Bool.and_eq_true, beq_iff_eq, Option.isNone_iff_eq_none, Lat.ff_eq_none, Bool.not_eq_false', Tab.mk.injEq, and_assoc]
  constructor
  · rintro ⟨h1, h2, h3⟩
    exact ⟨h1, ext_getD default h2 fun j hj => sameA_iff.1 (h3 j hj)⟩
  · rintro ⟨rfl, rfl⟩
    exact ⟨rfl, rfl, fun j _ => sameA_refl _⟩
theorem sameT_refl (a : Tab) : sameT a a = true := sameT_iff.2 rfl
theorem sameT_ne {a b : Tab} (h : a ≠ b) : sameT a b = false := by
  rw [Bool.eq_false_iff]; exact fun c => h (sameT_iff.1 c)
/-- how many cells the first columns have -/
def cellsN (t : Tab) (i : Nat) : Nat := ((t.c.take i).map fun a => a.c.length).sum
theorem cellsN_succ {t : Tab} {i : Nat} (h : i < t.c.length) : cellsN t (i + 1) = cellsN t i + (t.col i).c.length := by
  unfold cellsN
  rw [List.take_succ_eq_append_getElem h, List.map_append, List.sum_append]
  unfold Tab.col
  rw [List.getD_eq_getElem?_getD, List.getElem?_eq_getElem h]
  simp
def longN (t : Tab) (i : Nat) : Bool := decide (100 < (t.nm i).length)
/-- a table that is not looked at -/
def farT (t : Tab) : Bool := (Lat.ff (min t.n.length 30) (longN t)).isSome || (decide (1000 < cellsN t (min t.c.length 30)) || decide (20 < t.n.length) || decide (20 < t.c.length))
theorem farT_no {t : Tab} (h : farT t = false) : t.n.length ≤ 20 ∧ t.c.length ≤ 20 ∧ (∀ a ∈ t.c, a.c.length ≤ 1000) ∧ ∀ i, i < t.n.length → (t.nm i).length ≤ 100 := by
  simp only [farT, Bool.or_eq_false_iff, decide_eq_false_iff_not] at h
  obtain ⟨h1, ⟨h2, h3⟩, h4⟩ := h
  have h1 : Lat.ff (min t.n.length 30) (longN t) = none := by
    cases e : Lat.ff (min t.n.length 30) (longN t) with
    | none => rfl
    | some x => rw [e] at h1; cases h1
  refine ⟨by omega, by omega, fun a ha => ?_, fun i hi => ?_⟩
  · rw [Nat.min_eq_left (by omega)] at h2
    unfold cellsN at h2
    rw [List.take_length] at h2
    have : a.c.length ≤ (t.c.map fun a => a.c.length).sum := by
      generalize t.c = l at ha
      induction l with
      | nil => cases ha
      | cons x l ih =>
        simp only [List.map_cons, List.sum_cons]
        rcases List.mem_cons.1 ha with rfl | ha
        · omega
        · have := ih ha; omega
    omega
  · have := Lat.ff_eq_none.1 h1 i (by omega)
    simp only [longN, decide_eq_false_iff_not] at this
    omega
def vecA (k : Int) (l : List Int) : Lat.Arr := ⟨k, 1, l.length, 0, l⟩
/-- the table of the examples -/
def exT : Tab := ⟨[[109, 97, 114, 107], [110, 97, 109, 101]], [vecA 1 [3, 1, 3], vecA 2 [99, 97, 98]]⟩
end Go.Tb

/- Tables, plain: the text. -/
namespace Go.Tb
open Go
def prC (l : List Int) : List UInt8 := l.flatMap fun c => 32 :: Lib.itoa c
def kindS (k : Int) : List UInt8 := if k = 2 then [32, 99, 104, 97, 114] else [32, 105, 110, 116]
def prL (s : List UInt8) (a : Lat.Arr) : List UInt8 := s ++ kindS a.k ++ prC a.c ++ [10]
def prT (t : Tab) (i : Nat) : List UInt8 := (List.range i).flatMap fun j => prL (t.nm j) (t.col j)
def printR (t : Tab) : List UInt8 × Int := if (chk t).2 ≠ 0 then ([], (chk t).2) else (prT t t.n.length, 0)
theorem prT_succ (t : Tab) (i : Nat) : prT t (i + 1) = prT t i ++ prL (t.nm i) (t.col i) := by
  simp [prT, List.range_succ]
theorem prC_take {l : List Int} {k : Nat} (h : k < l.length) : prC (l.take (k + 1)) = prC (l.take k) ++ (32 :: Lib.itoa (l.getD k 0)) := by
  unfold prC
  rw [List.take_succ_eq_append_getElem h, List.flatMap_append, List.getD_eq_getElem?_getD, List.getElem?_eq_getElem h]
  simp
theorem nm_len {s : List UInt8} (h : Lat.isNm s = true) : s.length ≤ 16 ∧ 1 ≤ s.length := by
  simp only [Lat.isNm, Bool.and_eq_true, decide_eq_true_eq] at h
  omega
theorem kindS_len (k : Int) : (kindS k).length ≤ 5 := by unfold kindS; split <;> simp
theorem prC_len {l : List Int} (h : ∀ c ∈ l, -9223372036854775808 ≤ c ∧ c ≤ 9223372036854775807) : ∀ j, j ≤ l.length → (prC (l.take j)).length ≤ j * 22
  | 0, _ => by simp [prC]
  | j + 1, hj => by
    have ih := prC_len h j (by omega)
    have hd := h (l.getD j 0) (by rw [List.getD_eq_getElem?_getD, List.getElem?_eq_getElem hj]; exact List.getElem_mem _)
    have hdl := Lib.itoa_length_le _ hd.1 hd.2
    rw [prC_take hj]
    simp only [List.length_append, List.length_cons]
    omega
end Go.Tb

/- Tables, plain: what is taken. -/
namespace Go.Tb
open Go
end Go.Tb

/- Tables, plain: sorting. -/
namespace Go.Tb
open Go
end Go.Tb
namespace Go.Tb
end Go.Tb

/- Tables: a column is added, or dropped. -/
namespace Go.Tb
open Go
/-- What Drop returns. -/
def dropR (t : Tab) (s : List UInt8) : Tab × Int := if (atI t s).2 ≠ 0 then (zeroT, (atI t s).2) else (⟨t.n.eraseIdx (atI t s).1.toNat, t.c.eraseIdx (atI t s).1.toNat⟩, 0)
theorem take_no {l : List (List UInt8)} {i : Nat} {x : List UInt8} (hi : i ≤ l.length) : (l.take i).contains x = false ↔ ∀ k, k < i → l.getD k [] ≠ x := by
  rw [Bool.eq_false_iff]
  constructor
  · intro h k hk e
    refine h (by
      rw [List.contains_iff_mem, ← e, List.getD_eq_getElem?_getD, List.getElem?_eq_getElem (by omega)]
      exact List.mem_take_iff_getElem.2 ⟨k, by omega, rfl⟩)
  · intro h c
    rw [List.contains_iff_mem, List.mem_take_iff_getElem] at c
    obtain ⟨k, hk, e⟩ := c
    refine h k (by omega) ?_
    rw [List.getD_eq_getElem?_getD, List.getElem?_eq_getElem (by omega)]
    exact e
theorem Good.ne {t : Tab} (h : Good t) {k i : Nat} (hk : k < i) (hi : i < t.n.length) : t.nm k ≠ t.nm i := (take_no (Nat.le_of_lt hi)).1 (colE_0 (h.col i hi)).2.1 k hk
theorem colE_mk {t : Tab} {i : Nat} (hi : i ≤ t.n.length) (h1 : Lat.isNm (t.nm i) = true) (h2 : ∀ k, k < i → t.nm k ≠ t.nm i) (h3 : Lat.arrE (t.col i) = 0) (h4 : (t.col i).r = 1) (h5 : (t.col i).l0 = (t.col 0).l0) (h6 : (t.col i).l1 = (t.col 0).l1) : colE t i = 0 := by
  have h2' := (take_no hi).2 h2
  unfold colE
  rw [if_neg (by rw [h1]; simp), if_neg (by rw [h2']; simp), if_neg (by simp [h3]), if_neg (by simp [h4]), if_neg (by simp [h5, h6])]
/-! ### a column is added -/
section
variable {t : Tab} {s : List UInt8} {a : Lat.Arr}
def addT (t : Tab) (s : List UInt8) (a : Lat.Arr) : Tab := ⟨t.n ++ [s], t.c ++ [a]⟩
theorem addR_0 (h : (addR t s a).2 = 0) : addR t s a = (addT t s a, 0) ∧ Good t ∧ Good (addT t s a) := by
  unfold addR at h ⊢
  split at h
  · exact absurd h (by assumption)
  rename_i h1
  split at h
  · exact absurd h (by assumption)
  rename_i h2
  rw [if_neg h1, if_neg h2]
  exact ⟨rfl, chk_good.1 (by omega), chk_good.1 (by unfold addT; omega)⟩
end
/-! ### a column is dropped -/
def sh (j i : Nat) : Nat := if i < j then i else i + 1
section
variable {t : Tab} {j : Nat}
def dropT (t : Tab) (j : Nat) : Tab := ⟨t.n.eraseIdx j, t.c.eraseIdx j⟩
theorem getD_erase {α : Type} (l : List α) (j i : Nat) (d : α) : (l.eraseIdx j).getD i d = l.getD (sh j i) d := by
  rw [List.getD_eq_getElem?_getD, List.getD_eq_getElem?_getD, List.getElem?_eraseIdx]
  unfold sh
  split <;> rfl
theorem drop_nm (i : Nat) : (dropT t j).nm i = t.nm (sh j i) := getD_erase _ _ _ _
theorem drop_col (i : Nat) : (dropT t j).col i = t.col (sh j i) := getD_erase _ _ _ _
theorem drop_len (hj : j < t.n.length) : (dropT t j).n.length = t.n.length - 1 := List.length_eraseIdx_of_lt hj
theorem sh_lt {i n : Nat} (h : i < n - 1) : sh j i < n := by unfold sh; split <;> omega
theorem sh_mono {k i : Nat} (h : k < i) : sh j k < sh j i := by unfold sh; split <;> split <;> omega
theorem good_drop (hg : Good t) (hj : j < t.n.length) : Good (dropT t j) where
  len := by rw [drop_len hj]; have := hg.len; omega
  eq := by
    rw [drop_len hj, ← hg.eq]
    exact List.length_eraseIdx_of_lt (by rw [hg.eq]; exact hj)
  col i hi := by
    rw [drop_len hj] at hi
    have hs := sh_lt (j := j) hi
    have h0 : sh j 0 < t.n.length := sh_lt (by omega)
    obtain ⟨c1, c2, c3, c4, c5, c6⟩ := colE_0 (hg.col _ hs)
    obtain ⟨d1, d2, d3, d4, d5, d6⟩ := colE_0 (hg.col _ h0)
    refine colE_mk (by rw [drop_len hj]; omega) (by rw [drop_nm]; exact c1) (fun k hk => ?_) (by rw [drop_col]; exact c3) (by rw [drop_col]; exact c4) (by rw [drop_col, drop_col]; omega) (by rw [drop_col, drop_col]; omega)
    rw [drop_nm, drop_nm]
    exact hg.ne (sh_mono hk) hs
theorem dropR_0 {s : List UInt8} (h : (atI t s).2 = 0) : ∃ j : Nat, dropR t s = (dropT t j, 0) ∧ j < t.n.length ∧ Good t ∧ t.nm j = s := by
  obtain ⟨i, e, hi, hg, hn, _⟩ := atI_0 h
  exact ⟨i, by unfold dropR; rw [if_neg (by omega), e]; rfl, hi, hg, hn⟩
end
end Go.Tb
