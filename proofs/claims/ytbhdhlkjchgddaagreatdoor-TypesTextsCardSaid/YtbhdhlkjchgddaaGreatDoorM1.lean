/- The plain law of lattices given as masks. -/
set_option linter.unusedSectionVars false
set_option linter.unusedSimpArgs false
set_option linter.unusedVariables false

/- The plain law of lattices given as masks. -/
namespace Go.Lat

def ff (n : Nat) (p : Nat → Bool) : Option Nat := (List.range n).find? p

theorem ff_some {n : Nat} {p : Nat → Bool} {i : Nat} (hi : i < n) (h : p i = true) (hj : ∀ j, j < i → p j = false) : ff n p = some i := by
  unfold ff
  rw [List.find?_range_eq_some]
  refine ⟨h, List.mem_range.2 hi, fun j h1 => ?_⟩
  simp [hj j h1]

theorem ff_none {n : Nat} {p : Nat → Bool} (hj : ∀ j, j < n → p j = false) : ff n p = none := by
  unfold ff
  rw [List.find?_range_eq_none]
  intro j h1
  simp [hj j h1]

theorem ff_eq_some {n : Nat} {p : Nat → Bool} {i : Nat} : ff n p = some i ↔ (i < n ∧ p i = true ∧ ∀ j, j < i → p j = false) := by
  unfold ff
  rw [List.find?_range_eq_some]
  simp only [List.mem_range]
  constructor
  · rintro ⟨a, b, c⟩
    exact ⟨b, a, fun j h => by simpa using c j h⟩
  · rintro ⟨a, b, c⟩
    exact ⟨b, a, fun j h => by simp [c j h]⟩

theorem ff_eq_none {n : Nat} {p : Nat → Bool} : ff n p = none ↔ ∀ j, j < n → p j = false := by
  unfold ff
  rw [List.find?_range_eq_none]
  constructor
  · intro a j h
    simpa using a j h
  · intro a j h
    simp [a j h]

theorem ff_congr {n : Nat} {p q : Nat → Bool} (h : ∀ i, i < n → p i = q i) : ff n p = ff n q := by
  cases hq : ff n q with
  | none =>
    rw [ff_eq_none] at hq ⊢
    intro j hj
    rw [h j hj, hq j hj]
  | some i =>
    rw [ff_eq_some] at hq ⊢
    obtain ⟨a, b, c⟩ := hq
    refine ⟨a, by rw [h i a, b], fun j hj => ?_⟩
    rw [h j (by omega), c j hj]

def oi : Option Nat → Int
  | none => -1
  | some c => c

/-- the masks of a list of rows -/
def msk (up : List UInt8) (a : Nat) : Nat := (up.getD a 0).toNat
def le (up : List UInt8) (a b : Nat) : Bool := (msk up a).testBit b

theorem msk_lt (up : List UInt8) (a : Nat) : msk up a < 256 := (up.getD a 0).toNat_lt

/-- what is at or below b, among the first k -/
def dn (up : List UInt8) (b : Nat) : Nat → Nat
  | 0 => 0
  | k + 1 => dn up b k ||| (if le up k b then 1 <<< k else 0)

theorem dn_bit (up : List UInt8) (b k a : Nat) : (dn up b k).testBit a = (decide (a < k) && le up a b) := by
  induction k with
  | zero => simp [dn]
  | succ k ih =>
    simp only [dn, Nat.testBit_or, ih]
    by_cases h : a = k
    · subst h
      cases hl : le up a b <;> simp [Nat.one_shiftLeft]
    · have h1 : (if le up k b then 1 <<< k else 0 : Nat).testBit a = false := by
        split
        · rw [Nat.one_shiftLeft, Nat.testBit_two_pow]
          simp
          omega
        · simp
      rw [h1]
      have h2 : (decide (a < k + 1)) = decide (a < k) := by
        apply decide_eq_decide.2
        omega
      rw [h2]
      simp

theorem dn_lt (up : List UInt8) (b k : Nat) : dn up b k < 2 ^ k := by
  induction k with
  | zero => simp [dn]
  | succ k ih =>
    simp only [dn]
    apply Nat.or_lt_two_pow
    · exact Nat.lt_of_lt_of_le ih (Nat.pow_le_pow_right (by omega) (by omega))
    · split
      · rw [Nat.one_shiftLeft]
        exact Nat.pow_lt_pow_right (by omega) (by omega)
      · exact Nat.two_pow_pos _

/-- the label beyond which is just what is beyond both -/
def near (M : Nat → Nat) (n a b : Nat) : Option Nat := ff n fun c => M c == M a &&& M b

/-- the order is as stated for a label -/
def okRow (up : List UInt8) (n a : Nat) : Bool :=
  decide (msk up a < 2 ^ n) && le up a a &&
    (List.range n).all fun b => !le up a b || (!(b != a && le up b a) && ((msk up b &&& (2 ^ n - 1)) &&& msk up a == msk up b &&& (2 ^ n - 1)))

structure Val (n : Nat) (up : List UInt8) : Prop where
  pos : 0 < n
  le8 : n ≤ 8
  len : up.length = n
  lt : ∀ a, a < n → msk up a < 2 ^ n
  refl : ∀ a, a < n → le up a a = true
  anti : ∀ a b, a < n → b < n → le up a b = true → le up b a = true → a = b
  tra : ∀ a b c, a < n → b < n → c < n → le up a b = true → le up b c = true → le up a c = true
  eu : ∀ a b, a < n → b < n → ∃ c, c < n ∧ msk up c = msk up a &&& msk up b
  ed : ∀ a b, a < n → b < n → ∃ c, c < n ∧ dn up c n = dn up a n &&& dn up b n

theorem eq_of_bits {m k n : Nat} (hm : m < 2 ^ n) (hk : k < 2 ^ n) (h : ∀ i, i < n → m.testBit i = k.testBit i) : m = k := by
  apply Nat.eq_of_testBit_eq
  intro i
  by_cases hi : i < n
  · exact h i hi
  · rw [Nat.testBit_lt_two_pow (Nat.lt_of_lt_of_le hm (Nat.pow_le_pow_right (by omega) (by omega))),
      Nat.testBit_lt_two_pow (Nat.lt_of_lt_of_le hk (Nat.pow_le_pow_right (by omega) (by omega)))]

/-- an order, its rows, the other way's rows, all in one form -/
structure Ord (n : Nat) (M : Nat → Nat) : Prop where
  lt : ∀ a, a < n → M a < 2 ^ n
  refl : ∀ a, a < n → (M a).testBit a = true
  anti : ∀ a b, a < n → b < n → (M a).testBit b = true → (M b).testBit a = true → a = b
  tra : ∀ a b c, a < n → b < n → c < n → (M a).testBit b = true → (M b).testBit c = true → (M a).testBit c = true
  ex : ∀ a b, a < n → b < n → ∃ c, c < n ∧ M c = M a &&& M b

theorem Val.ou {n : Nat} {up : List UInt8} (h : Val n up) : Ord n (msk up) :=
  ⟨h.lt, h.refl, h.anti, h.tra, h.eu⟩

theorem dn_in {n : Nat} {up : List UInt8} {a b : Nat} (ha : a < n) : (dn up b n).testBit a = le up a b := by
  rw [dn_bit]
  simp [ha]

theorem Val.od {n : Nat} {up : List UInt8} (h : Val n up) : Ord n (fun b => Lat.dn up b n) where
  lt a _ := dn_lt up a n
  refl a ha := by rw [dn_in ha]; exact h.refl a ha
  anti a b ha hb h1 h2 := by
    rw [dn_in hb] at h1
    rw [dn_in ha] at h2
    exact h.anti a b ha hb h2 h1
  tra a b c ha hb hc h1 h2 := by
    rw [dn_in hb] at h1
    rw [dn_in hc] at h2 ⊢
    exact h.tra c b a hc hb ha h2 h1
  ex := h.ed

/-- join: the nearest label -/
def jn (M : Nat → Nat) (n a b : Nat) : Nat := (near M n a b).getD 0

namespace Ord
variable {n : Nat} {M : Nat → Nat} (h : Ord n M)
include h

theorem sub {a b : Nat} (ha : a < n) (hb : b < n) : (M a).testBit b = true ↔ ∀ x, x < n → (M b).testBit x = true → (M a).testBit x = true :=
  ⟨fun h1 x hx h2 => h.tra a b x ha hb hx h1 h2, fun h1 => h1 b hb (h.refl b hb)⟩

theorem inj {a b : Nat} (ha : a < n) (hb : b < n) (e : M a = M b) : a = b :=
  h.anti a b ha hb (by rw [e]; exact h.refl b hb) (by rw [← e]; exact h.refl a ha)

theorem near_some {a b : Nat} (ha : a < n) (hb : b < n) : near M n a b = some (jn M n a b) ∧ jn M n a b < n ∧ M (jn M n a b) = M a &&& M b := by
  obtain ⟨c, hc, e⟩ := h.ex a b ha hb
  cases hn : near M n a b with
  | none =>
    have := (ff_eq_none.1 hn) c hc
    simp [e] at this
  | some d =>
    obtain ⟨h1, h2, _⟩ := ff_eq_some.1 hn
    refine ⟨by simp [jn, hn], by simp [jn, hn, h1], ?_⟩
    simp only [jn, hn, Option.getD_some]
    simpa using h2

theorem jn_lt {a b : Nat} (ha : a < n) (hb : b < n) : jn M n a b < n := (h.near_some ha hb).2.1
theorem jn_M {a b : Nat} (ha : a < n) (hb : b < n) : M (jn M n a b) = M a &&& M b := (h.near_some ha hb).2.2

theorem jn_eq {a b c : Nat} (ha : a < n) (hb : b < n) (hc : c < n) (e : M c = M a &&& M b) : jn M n a b = c :=
  h.inj (h.jn_lt ha hb) hc (by rw [h.jn_M ha hb, e])

theorem jn_bit {a b x : Nat} (ha : a < n) (hb : b < n) : (M (jn M n a b)).testBit x = ((M a).testBit x && (M b).testBit x) := by
  rw [h.jn_M ha hb, Nat.testBit_and]

theorem jn_le {a b : Nat} (ha : a < n) (hb : b < n) : jn M n a b = b ↔ (M a).testBit b = true := by
  constructor
  · intro e
    have h1 := h.jn_bit (x := b) ha hb
    rw [e, h.refl b hb] at h1
    simpa using h1.symm
  · intro e
    refine h.jn_eq ha hb hb ?_
    refine eq_of_bits (h.lt b hb) (Nat.lt_of_le_of_lt Nat.and_le_left (h.lt a ha)) fun x hx => ?_
    rw [Nat.testBit_and]
    cases hb' : (M b).testBit x with
    | false => simp
    | true => simp [h.tra a b x ha hb hx e hb']

/-- what is first beyond two labels, or -1: as the program looks for it -/
def boundOf (M : Nat → Nat) (n a b : Nat) : Option Nat := ff n fun c => (M a &&& M b).testBit c && (M c == M a &&& M b)

end Ord

theorem bound_near {n : Nat} {M : Nat → Nat} (h : ∀ a, a < n → (M a).testBit a = true) (a b : Nat) : Ord.boundOf M n a b = near M n a b := by
  refine ff_congr fun c hc => ?_
  cases e : (M c == M a &&& M b) with
  | false => simp
  | true =>
    have e1 : M c = M a &&& M b := by simpa using e
    simp [← e1, h c hc]

end Go.Lat

/- The plain law of lattices: ends, covers, the other way, checks. -/
namespace Go.Lat

/-- the join of all -/
def foldJ (M : Nat → Nat) (n : Nat) : Nat → Nat
  | 0 => 0
  | k + 1 => jn M n k (foldJ M n k)

theorem Ord.fold {n : Nat} {M : Nat → Nat} (h : Ord n M) (hn : 0 < n) (k : Nat) (hk : k ≤ n) :
    foldJ M n k < n ∧ ∀ a, a < k → ∀ x, (M (foldJ M n k)).testBit x = true → (M a).testBit x = true := by
  induction k with
  | zero => exact ⟨hn, fun a ha => absurd ha (by omega)⟩
  | succ k ih =>
    obtain ⟨h1, h2⟩ := ih (by omega)
    refine ⟨h.jn_lt (by omega) h1, fun a ha x hx => ?_⟩
    simp only [foldJ] at hx
    rw [h.jn_bit (by omega) h1] at hx
    simp only [Bool.and_eq_true] at hx
    by_cases e : a = k
    · rw [e]; exact hx.1
    · exact h2 a (by omega) x hx.2

theorem Ord.fold_all {n : Nat} {M : Nat → Nat} (h : Ord n M) (hn : 0 < n) (a : Nat) (ha : a < n) :
    (M a).testBit (foldJ M n n) = true :=
  (h.fold hn n (Nat.le_refl n)).2 a ha _ (h.refl _ (h.fold hn n (Nat.le_refl n)).1)

/-- the label from which all are beyond -/
def endOf (M : Nat → Nat) (n : Nat) : Nat := (ff (n - 1) fun a => M a == 2 ^ n - 1).getD (n - 1)

theorem full_eq {m n : Nat} (hm : m < 2 ^ n) (h : ∀ i, i < n → m.testBit i = true) : m = 2 ^ n - 1 := by
  refine eq_of_bits hm (by have := Nat.two_pow_pos n; omega) fun i hi => ?_
  rw [h i hi, Nat.testBit_two_pow_sub_one]
  simp [hi]

theorem Ord.end_eq {n : Nat} {M : Nat → Nat} (h : Ord n M) {b : Nat} (hb : b < n) (hf : ∀ a, a < n → (M b).testBit a = true) : endOf M n = b := by
  have e := full_eq (h.lt b hb) hf
  unfold endOf
  cases hq : ff (n - 1) (fun a => M a == 2 ^ n - 1) with
  | some c =>
    obtain ⟨h1, h2, _⟩ := ff_eq_some.1 hq
    simp only [Option.getD_some]
    refine h.inj (by omega) hb ?_
    rw [e]
    simpa using h2
  | none =>
    simp only [Option.getD_none]
    apply Classical.byContradiction
    intro hne
    have := (ff_eq_none.1 hq) b (by omega)
    simp [e] at this

theorem Val.end_up {n : Nat} {up : List UInt8} (h : Val n up) : endOf (msk up) n = foldJ (fun b => dn up b n) n n := by
  refine h.ou.end_eq (h.od.fold h.pos n (Nat.le_refl n)).1 fun a ha => ?_
  have := h.od.fold_all h.pos a ha
  rw [dn_in (h.od.fold h.pos n (Nat.le_refl n)).1] at this
  exact this

/-- the order the other way -/
def dual (up : List UInt8) (n : Nat) : List UInt8 := (List.range n).map fun b => UInt8.ofNat (dn up b n)

theorem dn_lt8 {n : Nat} (up : List UInt8) (b : Nat) (hn : n ≤ 8) : dn up b n < 256 :=
  Nat.lt_of_lt_of_le (dn_lt up b n) (Nat.le_trans (Nat.pow_le_pow_right (by omega) hn) (by decide))

theorem dual_msk {n : Nat} (up : List UInt8) (hn : n ≤ 8) {b : Nat} (hb : b < n) : msk (dual up n) b = dn up b n := by
  unfold msk dual
  rw [List.getD_eq_getElem?_getD, List.getElem?_map, List.getElem?_range hb]
  simp only [Option.map_some, Option.getD_some]
  rw [UInt8.toNat_ofNat', Nat.mod_eq_of_lt (dn_lt8 up b hn)]

theorem dual_le {n : Nat} (up : List UInt8) (hn : n ≤ 8) {a b : Nat} (hb : b < n) (ha : a < n) : le (dual up n) b a = le up a b := by
  unfold le
  rw [dual_msk up hn hb, dn_in ha]
  rfl

theorem Val.dual_dn {n : Nat} {up : List UInt8} (h : Val n up) {b : Nat} (hb : b < n) : Lat.dn (dual up n) b n = msk up b := by
  refine eq_of_bits (dn_lt _ _ _) (h.lt b hb) fun i hi => ?_
  rw [dn_in hi, dual_le up h.le8 hi hb]
  rfl

theorem Val.dual {n : Nat} {up : List UInt8} (h : Val n up) : Val n (dual up n) where
  pos := h.pos
  le8 := h.le8
  len := by simp [Lat.dual]
  lt a ha := by rw [dual_msk up h.le8 ha]; exact dn_lt _ _ _
  refl a ha := by rw [dual_le up h.le8 ha ha]; exact h.refl a ha
  anti a b ha hb h1 h2 := by
    rw [dual_le up h.le8 ha hb] at h1
    rw [dual_le up h.le8 hb ha] at h2
    exact h.anti a b ha hb h2 h1
  tra a b c ha hb hc h1 h2 := by
    rw [dual_le up h.le8 ha hb] at h1
    rw [dual_le up h.le8 hb hc] at h2
    rw [dual_le up h.le8 ha hc]
    exact h.tra c b a hc hb ha h2 h1
  eu a b ha hb := by
    obtain ⟨c, hc, e⟩ := h.ed a b ha hb
    exact ⟨c, hc, by rw [dual_msk up h.le8 hc, dual_msk up h.le8 ha, dual_msk up h.le8 hb, e]⟩
  ed a b ha hb := by
    obtain ⟨c, hc, e⟩ := h.eu a b ha hb
    exact ⟨c, hc, by rw [h.dual_dn hc, h.dual_dn ha, h.dual_dn hb, e]⟩

theorem dual_len (up : List UInt8) (n : Nat) : (dual up n).length = n := by simp [dual]

/-- names -/
def lowB (c : UInt8) : Bool := decide (97 ≤ c.toNat) && decide (c.toNat ≤ 122)
def digB (c : UInt8) : Bool := decide (48 ≤ c.toNat) && decide (c.toNat ≤ 57)
def nmB (c : UInt8) : Bool := lowB c || digB c || decide (c.toNat = 45)
def isNm (s : List UInt8) : Bool := decide (1 ≤ s.length) && decide (s.length ≤ 16) && lowB (s.getD 0 0) && s.all nmB

theorem all_take {s : List UInt8} {p : UInt8 → Bool} {i : Nat} (h : (s.take i).all p = true) (hi : i < s.length) (hp : p (s.getD i 0) = true) : (s.take (i + 1)).all p = true := by
  rw [List.take_succ_eq_append_getElem hi, List.all_append, h]
  simpa [List.getD, hi] using hp

theorem all_no {s : List UInt8} {p : UInt8 → Bool} {i : Nat} (hi : i < s.length) (hp : p (s.getD i 0) = false) : s.all p = false := by
  rw [List.all_eq_false]
  exact ⟨s[i], List.getElem_mem _, by simpa [List.getD, hi] using hp⟩

def nmBad (l : List (List UInt8)) (i : Nat) : Bool := !isNm (l.getD i []) || (l.take i).contains (l.getD i [])

def noNear (up : List UInt8) (n a : Nat) : Bool :=
  (List.range n).any fun b => (near (msk up) n a b).isNone || (near (fun c => dn up c n) n a b).isNone

/-- names alone -/
def namesS (l : List (List UInt8)) : Int × Int :=
  if l.length < 1 ∨ 8 < l.length then (-1, 3) else
    match ff l.length (nmBad l) with
    | some i => (i, if isNm (l.getD i []) then 8 else 6)
    | none => (0, 0)

theorem namesS_0 {l : List (List UInt8)} (h : l.length < 1 ∨ 8 < l.length) : namesS l = (-1, 3) := by
  simp only [namesS, if_pos h]
theorem namesS_b {l : List (List UInt8)} {i : Nat} (h : ¬ (l.length < 1 ∨ 8 < l.length)) (hi : i < l.length) (hb : nmBad l i = true) (hj : ∀ j, j < i → nmBad l j = false) : namesS l = ((i : Int), if isNm (l.getD i []) then 8 else 6) := by
  simp only [namesS, if_neg h, ff_some hi hb hj]
theorem namesS_k {l : List (List UInt8)} (h : ¬ (l.length < 1 ∨ 8 < l.length)) (hj : ∀ j, j < l.length → nmBad l j = false) : namesS l = (0, 0) := by
  simp only [namesS, if_neg h, ff_none hj]
theorem take_has {l : List (List UInt8)} {i k : Nat} (hk : k < i) (hi : i < l.length) {x : List UInt8} (h : l.getD k [] = x) : (l.take i).contains x = true := by
  rw [List.contains_iff_mem, List.mem_take_iff_getElem]
  exact ⟨k, by omega, by simpa [List.getD, show k < l.length by omega] using h⟩
theorem take_not {l : List (List UInt8)} {i : Nat} (hi : i < l.length) {x : List UInt8} (h : ∀ k, k < i → l.getD k [] ≠ x) : (l.take i).contains x = false := by
  rw [Bool.eq_false_iff]
  intro h1
  rw [List.contains_iff_mem, List.mem_take_iff_getElem] at h1
  obtain ⟨k, hk, e⟩ := h1
  exact h k (by omega) (by simpa [List.getD, show k < l.length by omega] using e)

def rowsS (n : Nat) (up : List UInt8) : Int × Int :=
  if up.length ≠ n then (-1, 6) else
    match ff n (fun a => !okRow up n a) with
    | some a => (a, 6)
    | none =>
      match ff n (noNear up n) with
      | some a => (a, 4)
      | none => (0, 0)

def checkS (l : List (List UInt8)) (up : List UInt8) : Int × Int :=
  if (namesS l).2 ≠ 0 then namesS l else rowsS l.length up

def rowB (up : List UInt8) (n a b : Nat) : Bool :=
  !le up a b || (!(b != a && le up b a) && ((msk up b &&& (2 ^ n - 1)) &&& msk up a == msk up b &&& (2 ^ n - 1)))
theorem okRow_t {up : List UInt8} {n a : Nat} (h1 : msk up a < 2 ^ n) (h2 : le up a a = true) (h3 : ∀ j, j < n → rowB up n a j = true) : okRow up n a = true := by
  have : okRow up n a = (decide (msk up a < 2 ^ n) && le up a a && (List.range n).all (rowB up n a)) := rfl
  rw [this, h2, Bool.and_true, Bool.and_eq_true]
  refine ⟨by simpa using h1, List.all_eq_true.2 fun j hj => h3 j (List.mem_range.1 hj)⟩
theorem okRow_1 {up : List UInt8} {n a : Nat} (h1 : ¬ msk up a < 2 ^ n) : okRow up n a = false := by
  simp [okRow, h1]
theorem okRow_2 {up : List UInt8} {n a : Nat} (h2 : le up a a = false) : okRow up n a = false := by
  simp [okRow, h2]
theorem okRow_3 {up : List UInt8} {n a i : Nat} (hi : i < n) (h : rowB up n a i = false) : okRow up n a = false := by
  have : okRow up n a = (decide (msk up a < 2 ^ n) && le up a a && (List.range n).all (rowB up n a)) := rfl
  rw [this]
  have h3 : (List.range n).all (rowB up n a) = false := List.all_eq_false.2 ⟨i, List.mem_range.2 hi, by simp [h]⟩
  rw [h3, Bool.and_false]

theorem names_8 {l : List (List UInt8)} (h : (namesS l).2 = 0) : 1 ≤ l.length ∧ l.length ≤ 8 := by
  unfold namesS at h
  split at h
  · simp at h
  · omega
theorem checkS_1 {l : List (List UInt8)} {up : List UInt8} (h : (namesS l).2 ≠ 0) : checkS l up = namesS l := by
  simp only [checkS, if_pos h]
theorem checkS_2 {l : List (List UInt8)} {up : List UInt8} (h : (namesS l).2 = 0) (hl : up.length ≠ l.length) : checkS l up = (-1, 6) := by
  simp only [checkS, h, ne_eq, not_true_eq_false, if_false, rowsS, if_pos hl]
theorem checkS_3 {l : List (List UInt8)} {up : List UInt8} {i : Nat} (h : (namesS l).2 = 0) (hl : up.length = l.length) (hi : i < l.length) (hb : okRow up l.length i = false) (hj : ∀ j, j < i → okRow up l.length j = true) : checkS l up = ((i : Int), 6) := by
  have e : ff l.length (fun a => !okRow up l.length a) = some i := ff_some hi (by simp [hb]) fun j h1 => by simp [hj j h1]
  simp only [checkS, h, ne_eq, not_true_eq_false, if_false, rowsS, hl, e]
theorem checkS_4 {l : List (List UInt8)} {up : List UInt8} {i : Nat} (h : (namesS l).2 = 0) (hl : up.length = l.length) (hr : ∀ j, j < l.length → okRow up l.length j = true) (hi : i < l.length) (hb : noNear up l.length i = true) (hj : ∀ j, j < i → noNear up l.length j = false) : checkS l up = ((i : Int), 4) := by
  have e : ff l.length (fun a => !okRow up l.length a) = none := ff_none fun j h1 => by simp [hr j h1]
  simp only [checkS, h, ne_eq, not_true_eq_false, if_false, rowsS, hl, e, ff_some hi hb hj]
theorem checkS_5 {l : List (List UInt8)} {up : List UInt8} (h : (namesS l).2 = 0) (hl : up.length = l.length) (hr : ∀ j, j < l.length → okRow up l.length j = true) (hj : ∀ j, j < l.length → noNear up l.length j = false) : checkS l up = (0, 0) := by
  have e : ff l.length (fun a => !okRow up l.length a) = none := ff_none fun j h1 => by simp [hr j h1]
  simp only [checkS, h, ne_eq, not_true_eq_false, if_false, rowsS, hl, e, ff_none hj]
theorem noNear_t {up : List UInt8} {n a b : Nat} (hb : b < n) (h : near (msk up) n a b = none ∨ near (fun c => dn up c n) n a b = none) : noNear up n a = true := by
  rw [noNear, List.any_eq_true]
  refine ⟨b, List.mem_range.2 hb, ?_⟩
  rcases h with h | h <;> simp [h]
theorem noNear_f {up : List UInt8} {n a : Nat} (h : ∀ b, b < n → near (msk up) n a b ≠ none ∧ near (fun c => dn up c n) n a b ≠ none) : noNear up n a = false := by
  rw [noNear, List.any_eq_false]
  intro b hb
  have := h b (List.mem_range.1 hb)
  simp [Option.isNone_iff_eq_none, this.1, this.2]
theorem oi_neg (x : Option Nat) : oi x < 0 ↔ x = none := by
  cases x with
  | none => simp [oi]
  | some c => simp only [oi, reduceCtorEq, iff_false]; omega

theorem okRow_iff {up : List UInt8} {n a : Nat} (hup : ∀ b, b < n → msk up b < 2 ^ n) (ha : a < n) : okRow up n a = true ↔
    (le up a a = true ∧ (∀ b, b < n → le up a b = true → (le up b a = true → a = b) ∧ ∀ x, x < n → le up b x = true → le up a x = true)) := by
  have hm : ∀ b, b < n → msk up b &&& (2 ^ n - 1) = msk up b := by
    intro b hb
    rw [Nat.and_two_pow_sub_one_eq_mod, Nat.mod_eq_of_lt (hup b hb)]
  unfold okRow
  simp only [Bool.and_eq_true, decide_eq_true_eq, List.all_eq_true, List.mem_range, Bool.or_eq_true, Bool.not_eq_true', Bool.and_eq_false_iff, bne_eq_false_iff_eq, beq_iff_eq]
  constructor
  · rintro ⟨⟨_, h1⟩, h2⟩
    refine ⟨h1, fun b hb hl => ?_⟩
    rcases h2 b hb with h3 | ⟨h3, h4⟩
    · rw [hl] at h3; exact absurd h3 (by simp)
    · refine ⟨fun h5 => ?_, fun x _ h6 => ?_⟩
      · rcases h3 with h3 | h3
        · exact h3.symm
        · rw [h5] at h3; exact absurd h3 (by simp)
      · rw [hm b hb] at h4
        have : (msk up b &&& msk up a).testBit x = true := by rw [h4]; exact h6
        rw [Nat.testBit_and] at this
        simp only [Bool.and_eq_true] at this
        exact this.2
  · rintro ⟨h1, h2⟩
    refine ⟨⟨hup a ha, h1⟩, fun b hb => ?_⟩
    cases hl : le up a b with
    | false => exact Or.inl rfl
    | true =>
      obtain ⟨h3, h4⟩ := h2 b hb hl
      refine Or.inr ⟨?_, ?_⟩
      · cases h5 : le up b a with
        | false => exact Or.inr rfl
        | true => exact Or.inl (h3 h5).symm
      · rw [hm b hb]
        refine eq_of_bits (Nat.lt_of_le_of_lt Nat.and_le_left (hup b hb)) (hup b hb) fun x hx => ?_
        rw [Nat.testBit_and]
        cases h6 : (msk up b).testBit x with
        | false => simp
        | true => simp; exact h4 x hx h6

theorem rowsS_val {n : Nat} {up : List UInt8} (h0 : 0 < n) (h8 : n ≤ 8) (h : (rowsS n up).2 = 0) : Val n up := by
  unfold rowsS at h
  split at h
  · simp at h
  rename_i hl
  split at h
  · simp at h
  rename_i h1
  split at h
  · simp at h
  rename_i h2
  rw [ff_eq_none] at h1 h2
  have lt : ∀ a, a < n → msk up a < 2 ^ n := by
    intro a ha
    have := h1 a ha
    simp only [okRow, Bool.not_eq_false', Bool.and_eq_true, decide_eq_true_eq] at this
    exact this.1.1
  have hr : ∀ a, a < n → (le up a a = true ∧ (∀ b, b < n → le up a b = true → (le up b a = true → a = b) ∧ ∀ x, x < n → le up b x = true → le up a x = true)) := by
    intro a ha
    have := h1 a ha
    simp only [Bool.not_eq_false'] at this
    exact (okRow_iff lt ha).1 this
  have hn : ∀ a b, a < n → b < n → (near (msk up) n a b).isNone = false ∧ (near (fun c => dn up c n) n a b).isNone = false := by
    intro a b ha hb
    have := h2 a ha
    simp only [noNear, List.any_eq_false, List.mem_range, Bool.not_eq_true, Bool.or_eq_false_iff] at this
    exact this b hb
  refine ⟨h0, h8, by simpa using hl, lt, fun a ha => (hr a ha).1, fun a b ha hb h3 h4 => ((hr a ha).2 b hb h3).1 h4,
    fun a b c ha hb hc h3 h4 => ((hr a ha).2 b hb h3).2 c hc h4, fun a b ha hb => ?_, fun a b ha hb => ?_⟩
  · have := (hn a b ha hb).1
    cases e : near (msk up) n a b with
    | none => rw [e] at this; simp at this
    | some c =>
      obtain ⟨h5, h6, _⟩ := ff_eq_some.1 e
      exact ⟨c, h5, by simpa using h6⟩
  · have := (hn a b ha hb).2
    cases e : near (fun c => dn up c n) n a b with
    | none => rw [e] at this; simp at this
    | some c =>
      obtain ⟨h5, h6, _⟩ := ff_eq_some.1 e
      exact ⟨c, h5, by simpa using h6⟩

theorem Val.rows {n : Nat} {up : List UInt8} (h : Val n up) : rowsS n up = (0, 0) := by
  have h1 : ff n (fun a => !okRow up n a) = none := by
    rw [ff_eq_none]
    intro a ha
    simp only [Bool.not_eq_false']
    refine (okRow_iff h.lt ha).2 ⟨h.refl a ha, fun b hb h1 => ⟨fun h2 => h.anti a b ha hb h1 h2, fun x hx h3 => h.tra a b x ha hb hx h1 h3⟩⟩
  have h2 : ff n (noNear up n) = none := by
    rw [ff_eq_none]
    intro a ha
    simp only [noNear, List.any_eq_false, List.mem_range]
    intro b hb
    have e1 := (h.ou.near_some ha hb).1
    have e2 := (h.od.near_some ha hb).1
    rw [e1, e2]
    simp
  simp [rowsS, h.len, h1, h2]

theorem checkS_val {l : List (List UInt8)} {up : List UInt8} (h : (checkS l up).2 = 0) : (namesS l).2 = 0 ∧ Val l.length up := by
  unfold checkS at h
  split at h
  · rename_i h1; exact absurd h h1
  · rename_i h1
    have h2 : (namesS l).2 = 0 := by simpa using h1
    refine ⟨h2, rowsS_val ?_ ?_ h⟩ <;>
    · unfold namesS at h2
      split at h2
      · simp at h2
      · omega

/-- what Find finds -/
def findO (l : List (List UInt8)) (s : List UInt8) : Option Nat := ff l.length fun a => l.getD a [] == s
def findS (l : List (List UInt8)) (up : List UInt8) (s : List UInt8) : Int × Int :=
  if (checkS l up).2 = 0 then (match findO l s with | some a => ((a : Int), 0) | none => (0, 4)) else (0, (checkS l up).2)
theorem names_nm {l : List (List UInt8)} (h : (namesS l).2 = 0) : ∀ i, i < l.length → isNm (l.getD i []) = true := by
  intro i hi
  unfold namesS at h
  split at h
  · simp at h
  · split at h
    · split at h <;> simp at h
    · rename_i h2
      have := ff_eq_none.1 h2 i hi
      simp only [nmBad, Bool.or_eq_false_iff, Bool.not_eq_false'] at this
      exact this.1

end Go.Lat

/- Lines, and the text of a lattice read back. -/
namespace Go.Lat
/-- where a byte is first -/
def idx (c : UInt8) : List UInt8 → Nat
  | [] => 0
  | b :: r => if b = c then 0 else idx c r + 1
theorem idx_le (c : UInt8) (s : List UInt8) : idx c s ≤ s.length := by
  induction s with
  | nil => exact Nat.le_refl _
  | cons b r ih => simp only [idx]; split <;> simp <;> omega
theorem idx_no {c : UInt8} {s : List UInt8} {k : Nat} (hk : k < idx c s) : s.getD k 0 ≠ c := by
  induction s generalizing k with
  | nil => simp [idx] at hk
  | cons b r ih =>
    simp only [idx] at hk
    split at hk
    · omega
    · rename_i hb
      cases k with
      | zero => simpa using hb
      | succ k => simpa using ih (k := k) (by omega)
theorem idx_at {c : UInt8} {s : List UInt8} (h : idx c s < s.length) : s.getD (idx c s) 0 = c := by
  induction s with
  | nil => simp at h
  | cons b r ih =>
    simp only [idx] at h ⊢
    split
    · rename_i hb; simpa using hb
    · rename_i hb
      rw [if_neg hb] at h
      simpa using ih (by simpa using h)
theorem idx_eq {c : UInt8} {s : List UInt8} {i : Nat} (hi : i < s.length) (h1 : s.getD i 0 = c) (h2 : ∀ k, k < i → s.getD k 0 ≠ c) : idx c s = i := by
  rcases Nat.lt_trichotomy (idx c s) i with h | h | h
  · exact absurd (idx_at (by omega)) (h2 _ h)
  · exact h
  · exact absurd h1 (idx_no h)
theorem idx_len {c : UInt8} {s : List UInt8} (h2 : ∀ k, k < s.length → s.getD k 0 ≠ c) : idx c s = s.length := by
  have := idx_le c s
  rcases Nat.lt_or_ge (idx c s) s.length with h | h
  · exact absurd (idx_at h) (h2 _ h)
  · omega
theorem idx_app {c : UInt8} {a b : List UInt8} (h : c ∉ a) : idx c (a ++ c :: b) = a.length := by
  induction a with
  | nil => simp [idx]
  | cons x a ih =>
    simp only [List.mem_cons, not_or] at h
    have hx : ¬ x = c := fun e => h.1 e.symm
    simp only [List.cons_append, idx, if_neg hx, ih h.2, List.length_cons]
/-- the pieces between newlines -/
def spl : List UInt8 → List (List UInt8)
  | [] => [[]]
  | b :: r => if b = 10 then [] :: spl r else match spl r with
    | h :: t => (b :: h) :: t
    | [] => [[b]]
/-! the text of a lattice, as lines -/
end Go.Lat

/- The plain law of Trim. -/
namespace Go.Lat
def inB (cs : List UInt8) (k : Nat) : Bool := cs.any fun x => x.toNat == k
def rtrim (cs s : List UInt8) : List UInt8 := (s.reverse.dropWhile fun c => inB cs c.toNat).reverse
def ltrim (cs s : List UInt8) : List UInt8 := s.dropWhile fun c => inB cs c.toNat
def trimS (cs s : List UInt8) : List UInt8 := ltrim cs (rtrim cs s)
theorem ltrim_t {cs s : List UInt8} (h : 0 < s.length) (hp : inB cs (s.getD 0 0).toNat = true) : ltrim cs s = ltrim cs (s.drop 1) := by
  cases s with
  | nil => simp at h
  | cons x t =>
    simp only [ltrim, List.drop_succ_cons, List.drop_zero]
    rw [List.dropWhile_cons_of_pos (by simpa using hp)]
theorem ltrim_f {cs s : List UInt8} (h : 0 < s.length) (hp : inB cs (s.getD 0 0).toNat = false) : ltrim cs s = s := by
  cases s with
  | nil => rfl
  | cons x t =>
    simp only [ltrim]
    rw [List.dropWhile_cons_of_neg (by simpa using hp)]
theorem snoc {s : List UInt8} (h : 0 < s.length) : s = s.take (s.length - 1) ++ [s.getD (s.length - 1) 0] := by
  have h1 : s.length - 1 < s.length := by omega
  have := List.take_succ_eq_append_getElem h1
  rw [show s.length - 1 + 1 = s.length by omega, List.take_length] at this
  simpa [List.getD, h1] using this
theorem rtrim_t {cs s : List UInt8} (h : 0 < s.length) (hp : inB cs (s.getD (s.length - 1) 0).toNat = true) : rtrim cs s = rtrim cs (s.take (s.length - 1)) := by
  conv => lhs; rw [snoc h]
  simp only [rtrim, List.reverse_append, List.reverse_cons, List.reverse_nil, List.nil_append, List.cons_append]
  rw [List.dropWhile_cons_of_pos (by simpa using hp)]
theorem rtrim_f {cs s : List UInt8} (h : 0 < s.length) (hp : inB cs (s.getD (s.length - 1) 0).toNat = false) : rtrim cs s = s := by
  have e := snoc h
  generalize s.take (s.length - 1) = t at e
  generalize s.getD (s.length - 1) 0 = x at e hp
  subst e
  simp only [rtrim, List.reverse_append, List.reverse_cons, List.reverse_nil, List.nil_append, List.cons_append]
  rw [List.dropWhile_cons_of_neg (by simpa using hp)]
  simp
theorem dw_nil {p : UInt8 → Bool} (l : List UInt8) : l.dropWhile p = [] ↔ l.all p = true := by
  induction l with
  | nil => simp
  | cons x t ih =>
    by_cases h : p x = true
    · rw [List.dropWhile_cons_of_pos h, ih]; simp [h]
    · rw [List.dropWhile_cons_of_neg h]; simp [h]
theorem trim_nil (cs s : List UInt8) : trimS cs s = [] ↔ s.all (fun c => inB cs c.toNat) = true := by
  have h1 : rtrim cs s = [] ↔ s.all (fun c => inB cs c.toNat) = true := by
    rw [rtrim, List.reverse_eq_nil_iff, dw_nil, List.all_reverse]
  unfold trimS ltrim
  constructor
  · intro h
    rw [dw_nil] at h
    -- what is left has its last byte outside
    by_cases h0 : rtrim cs s = []
    · exact h1.1 h0
    · exfalso
      have h2 : s.reverse.dropWhile (fun c => inB cs c.toNat) ≠ [] := fun e => h0 (by rw [rtrim, e]; rfl)
      have h3 := List.head_dropWhile_not (fun c : UInt8 => inB cs c.toNat) h2
      have h4 : (s.reverse.dropWhile fun c => inB cs c.toNat).head h2 ∈ rtrim cs s := by
        rw [rtrim, List.mem_reverse]; exact List.head_mem h2
      have h5 := (List.all_eq_true.1 h) _ h4
      rw [h3] at h5
      exact absurd h5 (by simp)
  · intro h
    rw [h1.2 h]; rfl
def nameCs : List UInt8 := [97, 98, 99, 100, 101, 102, 103, 104, 105, 106, 107, 108, 109, 110, 111, 112, 113, 114, 115, 116, 117, 118, 119, 120, 121, 122, 48, 49, 50, 51, 52, 53, 54, 55, 56, 57, 45]
theorem nameCs_in : ∀ n : Nat, n < 256 → inB nameCs n = ((decide (97 ≤ n) && decide (n ≤ 122)) || (decide (48 ≤ n) && decide (n ≤ 57)) || decide (n = 45)) := by
  decide +kernel
theorem nameCs_nm (c : UInt8) : inB nameCs c.toNat = nmB c := by
  rw [nameCs_in c.toNat c.toNat_lt]; rfl
theorem trim_name (s : List UInt8) : decide (trimS nameCs s = []) = s.all nmB := by
  have : (fun c : UInt8 => inB nameCs c.toNat) = nmB := funext nameCs_nm
  have h := trim_nil nameCs s
  rw [this] at h
  cases ha : s.all nmB with
  | true => simp [h.2 ha]
  | false => simp [h, ha]
end Go.Lat

/- The plain law of types over lattices. -/
namespace Go.Lat
/-- a type: kind, rank, the labels of the axes, that of the data -/
structure Ty where
  k : Int
  r : Int
  a0 : Int
  a1 : Int
  d : Int
  deriving DecidableEq
def bot (n : Nat) (up : List UInt8) : Nat := foldJ (fun c => dn up c n) n n
def lab (n : Nat) (a : Int) : Bool := decide (0 ≤ a) && decide (a < n)
def leI (up : List UInt8) (a b : Int) : Bool := le up a.toNat b.toNat
def jnI (n : Nat) (up : List UInt8) (a b : Int) : Int := (jn (msk up) n a.toNat b.toNat : Nat)
theorem lab_nat {n : Nat} {a : Int} (h : lab n a = true) : ∃ x : Nat, a = x ∧ x < n := by
  simp only [lab, Bool.and_eq_true, decide_eq_true_eq] at h
  exact ⟨a.toNat, by omega, by omega⟩
theorem leI_nat (up : List UInt8) (x y : Nat) : leI up (x : Int) (y : Int) = le up x y := id rfl
theorem jnI_nat (n : Nat) (up : List UInt8) (x y : Nat) : jnI n up (x : Int) (y : Int) = ((jn (msk up) n x y : Nat) : Int) := id rfl
section
variable {n : Nat} {up : List UInt8} (hv : Val n up)
include hv
theorem bot_lt : bot n up < n := (hv.od.fold hv.pos n (Nat.le_refl n)).1
theorem bot_le {a : Nat} (ha : a < n) : le up (bot n up) a = true := by
  have := hv.od.fold_all hv.pos a ha
  have e := dn_in (n := n) (up := up) (b := a) (bot_lt hv)
  rw [bot] at e ⊢
  rw [e] at this
  exact this
theorem bot_leI {a : Int} (ha : lab n a = true) : leI up (bot n up) a = true := by
  obtain ⟨x, rfl, hx⟩ := lab_nat ha
  exact bot_le hv hx
theorem bot_msk : msk up (bot n up) = 2 ^ n - 1 := full_eq (hv.lt _ (bot_lt hv)) fun _ hi => bot_le hv hi
theorem bot_ff : ff n (fun c => msk up c == 2 ^ n - 1) = some (bot n up) :=
  ff_some (bot_lt hv) (by rw [bot_msk hv]; simp) fun j hj => by
    rw [beq_eq_false_iff_ne]
    intro h
    exact absurd (hv.ou.inj (a := j) (b := bot n up) (by have := bot_lt hv; omega) (bot_lt hv) (by rw [h, bot_msk hv])) (by omega)
theorem jnI_eq {a b : Int} (ha : lab n a = true) (hb : lab n b = true) : jnI n up a b = b ↔ leI up a b = true := by
  obtain ⟨x, rfl, hx⟩ := lab_nat ha
  obtain ⟨y, rfl, hy⟩ := lab_nat hb
  rw [jnI_nat, leI_nat, Int.ofNat_inj]
  exact hv.ou.jn_le hx hy
end
/-- the error of a type -/
def goodS (n : Nat) (up : List UInt8) (t : Ty) : Int :=
  if (t.k ≠ 1 ∧ t.k ≠ 2) ∨ t.r < 0 ∨ 2 < t.r then 7
  else if (lab n t.a0 && lab n t.a1 && lab n t.d) = false then 7
  else if (t.r ≤ 0 ∧ t.a0 ≠ bot n up) ∨ (t.r ≤ 1 ∧ t.a1 ≠ bot n up) then 6
  else if (1 ≤ t.r ∧ leI up t.a0 t.d = false) ∨ (2 ≤ t.r ∧ leI up t.a1 t.d = false) then 25
  else 0
structure Good (n : Nat) (up : List UInt8) (t : Ty) : Prop where
  k : t.k = 1 ∨ t.k = 2
  r : 0 ≤ t.r ∧ t.r ≤ 2
  l0 : lab n t.a0 = true
  l1 : lab n t.a1 = true
  ld : lab n t.d = true
  b0 : t.r ≤ 0 → t.a0 = bot n up
  b1 : t.r ≤ 1 → t.a1 = bot n up
  f0 : leI up t.a0 t.d = true
  f1 : leI up t.a1 t.d = true
theorem goodS_0 {n : Nat} {up : List UInt8} (hv : Val n up) {t : Ty} : goodS n up t = 0 ↔ Good n up t := by
  unfold goodS
  constructor
  · intro h
    split at h
    · omega
    · split at h
      · omega
      · split at h
        · omega
        · split at h
          · omega
          · rename_i h1 h2 h3 h4
            simp only [Bool.not_eq_false, Bool.and_eq_true] at h2
            have hb0 : t.r ≤ 0 → t.a0 = bot n up := fun hr => Classical.byContradiction fun e => h3 (.inl ⟨hr, e⟩)
            have hb1 : t.r ≤ 1 → t.a1 = bot n up := fun hr => Classical.byContradiction fun e => h3 (.inr ⟨hr, e⟩)
            refine ⟨by omega, by omega, h2.1.1, h2.1.2, h2.2, hb0, hb1, ?_, ?_⟩
            · by_cases hr : t.r ≤ 0
              · rw [hb0 hr]; exact bot_leI hv h2.2
              · cases e : leI up t.a0 t.d with
                | true => rfl
                | false => exact absurd (.inl ⟨by omega, e⟩) h4
            · by_cases hr : t.r ≤ 1
              · rw [hb1 hr]; exact bot_leI hv h2.2
              · cases e : leI up t.a1 t.d with
                | true => rfl
                | false => exact absurd (.inr ⟨by omega, e⟩) h4
  · intro h
    have := h.k
    have := h.r
    rw [if_neg (by omega), if_neg (by rw [h.l0, h.l1, h.ld]; decide), if_neg, if_neg]
    · rw [h.f0, h.f1]; simp
    · have := h.b0
      have := h.b1
      intro hc
      rcases hc with ⟨h1, h2⟩ | ⟨h1, h2⟩
      · exact h2 (h.b0 h1)
      · exact h2 (h.b1 h1)
/-- the error of a type over a lattice -/
def tyS (ns : List (List UInt8)) (up : List UInt8) (t : Ty) : Int := if (checkS ns up).2 ≠ 0 then (checkS ns up).2 else goodS ns.length up t
def bothS (ns : List (List UInt8)) (up : List UInt8) (a b : Ty) : Int :=
  if tyS ns up a ≠ 0 then tyS ns up a else if tyS ns up b ≠ 0 then tyS ns up b else if a.k ≠ b.k then 21 else if a.r ≠ b.r then 22 else 0
def joinT (n : Nat) (up : List UInt8) (a b : Ty) : Ty := { a with a0 := jnI n up a.a0 b.a0, a1 := jnI n up a.a1 b.a1, d := jnI n up a.d b.d }
def withinT (up : List UInt8) (a b : Ty) : Bool := leI up a.a0 b.a0 && leI up a.a1 b.a1 && leI up a.d b.d
def zeroT : Ty := ⟨0, 0, 0, 0, 0⟩
def joinS (ns : List (List UInt8)) (up : List UInt8) (a b : Ty) : Ty := if bothS ns up a b = 0 then joinT ns.length up a b else zeroT
def withinS (ns : List (List UInt8)) (up : List UInt8) (a b : Ty) : Bool := decide (bothS ns up a b = 0) && withinT up a b
def raiseE (ns : List (List UInt8)) (up : List UInt8) (t : Ty) (l : Int) : Int := if tyS ns up t ≠ 0 then tyS ns up t else if lab ns.length l = false then 7 else 0
def raiseT (n : Nat) (up : List UInt8) (t : Ty) (l : Int) : Ty := { t with a0 := if 1 ≤ t.r then jnI n up t.a0 l else t.a0, a1 := if 2 ≤ t.r then jnI n up t.a1 l else t.a1, d := jnI n up t.d l }
def raiseS (ns : List (List UInt8)) (up : List UInt8) (t : Ty) (l : Int) : Ty := if raiseE ns up t l = 0 then raiseT ns.length up t l else zeroT
theorem tyS_0 {ns : List (List UInt8)} {up : List UInt8} {t : Ty} (h : tyS ns up t = 0) : (checkS ns up).2 = 0 ∧ Val ns.length up ∧ Good ns.length up t := by
  unfold tyS at h
  split at h
  · exact absurd h (by assumption)
  · rename_i hc
    have hc : (checkS ns up).2 = 0 := Classical.byContradiction hc
    have hv := (checkS_val hc).2
    exact ⟨hc, hv, (goodS_0 hv).1 h⟩
theorem bothS_0 {ns : List (List UInt8)} {up : List UInt8} {a b : Ty} : bothS ns up a b = 0 ↔ tyS ns up a = 0 ∧ tyS ns up b = 0 ∧ a.k = b.k ∧ a.r = b.r := by
  unfold bothS
  constructor
  · intro h
    split at h
    · exact absurd h (by assumption)
    · split at h
      · exact absurd h (by assumption)
      · split at h
        · omega
        · split at h
          · omega
          · omega
  · rintro ⟨h1, h2, h3, h4⟩
    rw [if_neg (by omega), if_neg (by omega), if_neg (by omega), if_neg (by omega)]
section
variable {n : Nat} {up : List UInt8} (hv : Val n up)
include hv
theorem join_within {a b : Ty} (ha : Good n up a) (hb : Good n up b) (hk : a.k = b.k) (hr : a.r = b.r) : decide (joinT n up a b = b) = withinT up a b := by
  have e0 := jnI_eq hv ha.l0 hb.l0
  have e1 := jnI_eq hv ha.l1 hb.l1
  have e2 := jnI_eq hv ha.ld hb.ld
  have : joinT n up a b = b ↔ withinT up a b = true := by
    simp only [withinT, Bool.and_eq_true, ← e0, ← e1, ← e2]
    obtain ⟨k, r, x, y, z⟩ := a
    obtain ⟨k', r', x', y', z'⟩ := b
    simp only at hk hr
    subst hk; subst hr
    simp only [joinT, Ty.mk.injEq, true_and, and_assoc]
  rw [Bool.eq_iff_iff, decide_eq_true_iff, this]
end
end Go.Lat

/- The plain law of what is seen of arrays. -/
namespace Go.Lat
/-- an array: kind, rank, lengths, cells -/
structure Arr where
  k : Int
  r : Int
  l0 : Int
  l1 : Int
  c : List Int
def many (r l0 l1 : Int) : Int := if 2 ≤ r then l0 * l1 else if 1 ≤ r then l0 else 1
def ax0 (up : List UInt8) (t : Ty) (o : Int) : Bool := decide (1 ≤ t.r) && leI up t.a0 o
def ax1 (up : List UInt8) (t : Ty) (o : Int) : Bool := decide (2 ≤ t.r) && leI up t.a1 o
def seesC (up : List UInt8) (t : Ty) (o : Int) : Bool := leI up t.d o
section
variable {n : Nat} {up : List UInt8} (hv : Val n up)
include hv
end
end Go.Lat
