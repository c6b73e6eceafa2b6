/- Words: plain bytes, escapes, quoted forms. -/
import Derived.Test.YtbhdhlkjchgddaaGreatDoorM1
import Derived.Lib.ParseIntB
import Derived.Lib.ItoaNum
import Derived.Lib.Join
set_option linter.unusedSectionVars false
set_option linter.unusedSimpArgs false
set_option linter.unusedVariables false

/- Words: plain bytes, escapes, quoted forms. -/
namespace Go.Wo
/-- a byte that stands for itself between quotes -/
def plainB (c : UInt8) : Bool := decide (32 ≤ c.toNat) && decide (c.toNat ≤ 126) && !decide (c.toNat = 34) && !decide (c.toNat = 92)
/-- the letter of a byte's escape, or 0 -/
def letB (c : UInt8) : UInt8 := if c = 34 then 34 else if c = 92 then 92 else if c = 10 then 110 else if c = 13 then 114 else if c = 9 then 116 else 0
/-- the byte of a letter -/
def unl (b : UInt8) : Option UInt8 := if b = 34 then some 34 else if b = 92 then some 92 else if b = 110 then some 10 else if b = 114 then some 13 else if b = 116 then some 9 else none
def hexd (n : Nat) : UInt8 := if n < 10 then UInt8.ofNat (48 + n) else UInt8.ofNat (87 + n)
def hexv (b : UInt8) : Option Nat := if 48 ≤ b.toNat ∧ b.toNat ≤ 57 then some (b.toNat - 48) else if 97 ≤ b.toNat ∧ b.toNat ≤ 102 then some (b.toNat - 87) else none
/-- a byte's form between quotes -/
def escB (c : UInt8) : List UInt8 := if plainB c then [c] else if letB c ≠ 0 then [92, letB c] else [92, 120, hexd (c.toNat / 16), hexd (c.toNat % 16)]
/-- two digits of base 16, of a byte that has no shorter form -/
def hx2 : List UInt8 → UInt8 × Nat
  | h :: l :: _ => match hexv h, hexv l with
    | some x, some y => if plainB (UInt8.ofNat (16 * x + y)) || decide (letB (UInt8.ofNat (16 * x + y)) ≠ 0) then (0, 0) else (UInt8.ofNat (16 * x + y), 3)
    | _, _ => (0, 0)
  | _ => (0, 0)
/-- an escape, without its backslash -/
def une : List UInt8 → UInt8 × Nat
  | [] => (0, 0)
  | b :: r => match unl b with
    | some c => (c, 1)
    | none => if b = 120 then hx2 r else (0, 0)
/-- one byte between quotes: the byte, and its form's length -/
def step : List UInt8 → Option (UInt8 × Nat)
  | [] => none
  | c :: r => if c = 92 then (if (une r).2 = 0 then none else some ((une r).1, (une r).2 + 1)) else if plainB c then some (c, 1) else none

theorem hexv_hexd {n : Nat} (h : n < 16) : hexv (hexd n) = some n := by
  have : ∀ n, n < 16 → hexv (hexd n) = some n := by decide
  exact this n h
theorem hexd_hexv {b : UInt8} {n : Nat} (h : hexv b = some n) : n < 16 ∧ hexd n = b := by
  unfold hexv at h
  split at h
  · injection h with h
    refine ⟨by omega, ?_⟩
    rw [hexd, if_pos (by omega), ← h, show 48 + (b.toNat - 48) = b.toNat by omega]
    simp
  · split at h
    · injection h with h
      refine ⟨by omega, ?_⟩
      rw [hexd, if_neg (by omega), ← h, show 87 + (b.toNat - 87) = b.toNat by omega]
      simp
    · cases h
theorem letB_unl {c : UInt8} (h : letB c ≠ 0) : unl (letB c) = some c := by
  unfold letB at h ⊢
  split
  · rename_i e; subst e; rfl
  · split
    · rename_i e; subst e; rfl
    · split
      · rename_i e; subst e; rfl
      · split
        · rename_i e; subst e; rfl
        · split
          · rename_i e; subst e; rfl
          · simp_all
theorem unl_letB {b c : UInt8} (h : unl b = some c) : letB c = b ∧ letB c ≠ 0 ∧ plainB c = false := by
  unfold unl at h
  split at h
  · rename_i e; injection h with h; subst h e; decide
  · split at h
    · rename_i e; injection h with h; subst h e; decide
    · split at h
      · rename_i e; injection h with h; subst h e; decide
      · split at h
        · rename_i e; injection h with h; subst h e; decide
        · split at h
          · rename_i e; injection h with h; subst h e; decide
          · cases h
theorem plain_ne {c : UInt8} (h : plainB c = true) : c ≠ 92 ∧ c ≠ 34 := by
  refine ⟨fun e => ?_, fun e => ?_⟩ <;> · subst e; exact absurd h (by decide)
theorem step_esc (c : UInt8) (r : List UInt8) : step (escB c ++ r) = some (c, (escB c).length) := by
  unfold escB
  by_cases hp : plainB c = true
  · rw [if_pos hp]
    simp only [List.cons_append, List.nil_append, step, if_neg (plain_ne hp).1, hp, if_true, List.length_singleton]
  · rw [if_neg hp]
    by_cases hl : letB c ≠ 0
    · rw [if_pos hl]
      simp only [List.cons_append, List.nil_append, step, if_true, une, letB_unl hl]
      rfl
    · rw [if_neg hl]
      have h1 : c.toNat / 16 < 16 := by have := c.toNat_lt; omega
      have e : UInt8.ofNat (16 * (c.toNat / 16) + c.toNat % 16) = c := by
        rw [Nat.div_add_mod]; simp
      have hu : unl 120 = none := by decide
      have hp' : plainB c = false := by simpa using hp
      have hl' : letB c = 0 := by simpa using hl
      simp only [List.cons_append, List.nil_append, step, if_true, une, hu, hx2, hexv_hexd h1, hexv_hexd (Nat.mod_lt c.toNat (by decide : 0 < 16)), e, hp', hl', ne_eq, not_true_eq_false, decide_false, Bool.or_self, Bool.false_eq_true, if_false]
      rfl
theorem step_inv {s : List UInt8} {c : UInt8} {k : Nat} (h : step s = some (c, k)) : s = escB c ++ s.drop k ∧ k = (escB c).length := by
  cases s with
  | nil => cases h
  | cons b r =>
    simp only [step] at h
    split at h
    · rename_i hb
      subst hb
      split at h
      · cases h
      · rename_i hn
        injection h with h
        injection h with h1 h2
        subst h1 h2
        cases r with
        | nil => exact absurd rfl hn
        | cons b r =>
          simp only [une] at hn ⊢
          cases hu : unl b with
          | some c =>
            obtain ⟨u1, u2, u3⟩ := unl_letB hu
            have u2' : b ≠ 0 := by rw [u1] at u2; exact u2
            simp only [escB, u3, Bool.false_eq_true, if_false, u1, if_pos u2']
            exact ⟨rfl, rfl⟩
          | none =>
            simp only [hu] at hn ⊢
            by_cases hx : b = 120
            · simp only [if_pos hx] at hn ⊢
              subst hx
              match r, hn with
              | [], hn => exact absurd trivial (by simp [hx2] at hn)
              | [_], hn => exact absurd trivial (by simp [hx2] at hn)
              | h :: l :: t, hn =>
                simp only [hx2] at hn ⊢
                cases h1 : hexv h with
                | none => exact absurd trivial (by simp [h1] at hn)
                | some x =>
                  cases h2 : hexv l with
                  | none => exact absurd trivial (by simp [h1, h2] at hn)
                  | some y =>
                    simp only [h1, h2] at hn ⊢
                    by_cases hq : (plainB (UInt8.ofNat (16 * x + y)) || decide (letB (UInt8.ofNat (16 * x + y)) ≠ 0)) = true
                    · rw [if_pos hq] at hn; exact absurd trivial (by simp at hn)
                    · rw [if_neg hq]
                      simp only [Bool.or_eq_true, decide_eq_true_eq, not_or, Bool.not_eq_true] at hq
                      obtain ⟨x1, x2⟩ := hexd_hexv h1
                      obtain ⟨y1, y2⟩ := hexd_hexv h2
                      have e : (UInt8.ofNat (16 * x + y)).toNat = 16 * x + y := by rw [UInt8.toNat_ofNat', Nat.mod_eq_of_lt (by omega)]
                      simp only [escB, hq.1, Bool.false_eq_true, if_false, if_neg hq.2, e]
                      rw [show (16 * x + y) / 16 = x by omega, show (16 * x + y) % 16 = y by omega, x2, y2]
                      exact ⟨rfl, rfl⟩
            · exact absurd trivial (by simp [if_neg hx] at hn)
    · split at h
      · rename_i hp
        injection h with h
        injection h with h1 h2
        subst h1 h2
        simp only [escB, hp, if_true]
        exact ⟨rfl, rfl⟩
      · cases h
theorem escB_len (c : UInt8) : 1 ≤ (escB c).length ∧ (escB c).length ≤ 4 := by
  unfold escB
  split
  · simp
  · split <;> simp
theorem escB_hd (c : UInt8) : (escB c).getD 0 0 ≠ 34 := by
  unfold escB
  split
  · rename_i h; exact (plain_ne h).2
  · split <;> simp
theorem step_le {s : List UInt8} {c : UInt8} {k : Nat} (h : step s = some (c, k)) : 1 ≤ k ∧ k ≤ 4 ∧ k ≤ s.length := by
  obtain ⟨h1, h2⟩ := step_inv h
  have := escB_len c
  have h3 := congrArg List.length h1
  rw [List.length_append, List.length_drop] at h3
  omega
/-- the least byte whose form stands here is the only one -/
theorem step_only {s : List UInt8} {c : UInt8} (h : s.take (escB c).length = escB c) : step s = some (c, (escB c).length) := by
  have e : s = escB c ++ s.drop (escB c).length := by
    conv => lhs; rw [← List.take_append_drop (escB c).length s, h]
  rw [e]
  exact step_esc c _
theorem step_here {s : List UInt8} {c : UInt8} {k : Nat} (h : step s = some (c, k)) : (escB c).length ≤ s.length ∧ s.take (escB c).length = escB c := by
  obtain ⟨h1, h2⟩ := step_inv h
  have := (step_le h).2.2
  refine ⟨by omega, ?_⟩
  conv => lhs; rw [h1]
  rw [List.take_left']
  rfl
/-- what is between quotes, up to the closing one: the text, and how many bytes were read -/
def unqL : Nat → List UInt8 → Option (List UInt8 × Nat)
  | 0, _ => none
  | F + 1, s => if s = [] then none else if s.getD 0 0 = 34 then some ([], 1) else match step s with
    | none => none
    | some (x, k) => match unqL F (s.drop k) with
      | none => none
      | some (t, n) => some (x :: t, k + n)
/-- a quoted form at a text's beginning, and its length; 0: there is none -/
def unqS (s : List UInt8) : List UInt8 × Nat := if s.getD 0 0 = 34 then match unqL (s.length + 1) (s.drop 1) with
    | some (t, n) => (t, n + 1)
    | none => ([], 0)
  else ([], 0)
def quoteS (s : List UInt8) : List UInt8 := 34 :: (s.flatMap escB ++ [34])
theorem unqL_inv : ∀ {F : Nat} {s t : List UInt8} {n : Nat}, unqL F s = some (t, n) → n ≤ s.length ∧ s.take n = t.flatMap escB ++ [34] ∧ t.length < n
  | 0, _, _, _, h => nomatch h
  | F + 1, s, t, n, h => by
    simp only [unqL] at h
    split at h
    · cases h
    · rename_i h0
      have hl : 0 < s.length := List.length_pos_iff.2 h0
      split at h
      · rename_i hq
        injection h with h
        injection h with h1 h2
        subst h1 h2
        refine ⟨hl, ?_, by decide⟩
        cases s with
        | nil => exact absurd rfl h0
        | cons a r => simp at hq; simp [hq]
      · split at h
        · cases h
        · rename_i x k hs
          split at h
          · cases h
          · rename_i t' n' hr
            injection h with h
            injection h with h1 h2
            subst h1 h2
            obtain ⟨i1, i2, i3⟩ := unqL_inv hr
            obtain ⟨s1, s2⟩ := step_inv hs
            have s3 := step_le hs
            rw [List.length_drop] at i1
            refine ⟨by omega, ?_, by simp; omega⟩
            rw [List.take_add, i2]
            have := (step_here hs).2
            rw [← s2] at this
            rw [this]
            simp [List.flatMap_cons]
theorem unqL_esc : ∀ (t r : List UInt8) {F : Nat}, t.length < F → unqL F (t.flatMap escB ++ 34 :: r) = some (t, (t.flatMap escB).length + 1)
  | [], r, F + 1, _ => by simp [unqL]
  | c :: t, r, F + 1, h => by
    have hl := escB_len c
    have hh := escB_hd c
    simp only [List.flatMap_cons, List.append_assoc]
    have h0 : escB c ++ (t.flatMap escB ++ 34 :: r) ≠ [] := by simp
    have h1 : ¬ (escB c ++ (t.flatMap escB ++ 34 :: r)).getD 0 0 = 34 := by
      cases he : escB c with
      | nil => rw [he] at hl; simp at hl
      | cons a b => rw [he] at hh; simpa using hh
    simp only [unqL, if_neg h0, if_neg h1, step_esc, List.drop_left]
    rw [unqL_esc t r (by simpa using h)]
    simp only [List.length_append]
    rfl
theorem len_flat (t : List UInt8) : t.length ≤ (t.flatMap escB).length := by
  induction t with
  | nil => simp
  | cons c t ih =>
    have := escB_len c
    simp only [List.flatMap_cons, List.length_append, List.length_cons]
    omega
theorem quoteS_len (t : List UInt8) : (quoteS t).length = (t.flatMap escB).length + 2 := by simp [quoteS]
/-- what follows a quoted form is not looked at -/
theorem unqS_quote (t r : List UInt8) : unqS (quoteS t ++ r) = (t, (quoteS t).length) := by
  have hl := len_flat t
  have e : quoteS t ++ r = 34 :: (t.flatMap escB ++ 34 :: r) := by simp [quoteS]
  rw [e, unqS]
  simp only [List.getD_cons_zero, if_true, List.drop_one, List.tail_cons]
  rw [unqL_esc t r (by simp only [List.length_cons, List.length_append]; omega), quoteS_len]
theorem unqS_inv {s t : List UInt8} {n : Nat} (h : unqS s = (t, n)) (h0 : n ≠ 0) : n ≤ s.length ∧ s.take n = quoteS t := by
  unfold unqS at h
  split at h
  · rename_i hq
    split at h
    · rename_i t' n' hu
      injection h with h1 h2
      subst h1 h2
      obtain ⟨i1, i2, i3⟩ := unqL_inv hu
      cases s with
      | nil => simp at i1; omega
      | cons a r =>
        simp at hq
        subst hq
        simp only [List.drop_one, List.tail_cons] at i1 i2
        refine ⟨by simp; omega, ?_⟩
        rw [List.take_succ_cons, i2]
        rfl
    · injection h with h1 h2
      exact absurd h2.symm h0
  · injection h with h1 h2
    exact absurd h2.symm h0
theorem unqS_0 {s t : List UInt8} (h : unqS s = (t, 0)) : t = [] := by
  unfold unqS at h
  split at h
  · split at h
    · injection h with h1 h2; omega
    · injection h with h1 h2; exact h1.symm
  · injection h with h1 h2; exact h1.symm
theorem unqS_le {s : List UInt8} : (unqS s).2 ≤ s.length ∧ (unqS s).1.length ≤ s.length := by
  cases h : unqS s with
  | mk t n =>
    by_cases h0 : n = 0
    · subst h0
      rw [unqS_0 h]
      simp
    · obtain ⟨h1, h2⟩ := unqS_inv h h0
      have := congrArg List.length h2
      rw [List.length_take, quoteS_len] at this
      have := len_flat t
      simp only
      omega
/-! ### fields -/
def bareB (s : List UInt8) : Bool := !s.isEmpty && s.all fun c => plainB c && !decide (c = 32)
abbrev Fd := List UInt8 × Bool
/-- the field at a line's beginning, and its length -/
def fld (s : List UInt8) : Option (Fd × Nat) := if 0 < (unqS s).2 then some (((unqS s).1, true), (unqS s).2)
  else if bareB (s.take (Lat.idx 32 s)) then some ((s.take (Lat.idx 32 s), false), Lat.idx 32 s) else none
/-- the fields of a line -/
def spl : Nat → List UInt8 → Option (List Fd)
  | 0, _ => none
  | F + 1, s => match fld s with
    | none => none
    | some (f, n) => if s.drop n = [] then some [f] else if s.getD n 0 = 32 then (spl F (s.drop (n + 1))).map (f :: ·) else none
def long (l : List Fd) : Bool := l.any fun f => decide (2000 < f.1.length)
/-- Split -/
def splitS (s : List UInt8) : List Fd × Int := if 8192 < s.length then ([], 3) else if s = [] then ([], 0) else match spl (s.length + 1) s with
  | none => ([], 6)
  | some l => if long l || decide (64 < l.length) then ([], 3) else (l, 0)
theorem bare_len {s : List UInt8} (h : bareB s = true) : 0 < s.length := by
  unfold bareB at h
  cases s with
  | nil => simp at h
  | cons => simp
theorem fld_le {s : List UInt8} {f : Fd} {n : Nat} (h : fld s = some (f, n)) : 0 < n ∧ n ≤ s.length ∧ f.1.length ≤ s.length := by
  unfold fld at h
  have hu := @unqS_le s
  split at h
  · injection h with h
    injection h with h1 h2
    subst h1 h2
    simp only
    omega
  · split at h
    · rename_i hb
      have := bare_len hb
      have hi := Lat.idx_le 32 s
      injection h with h
      injection h with h1 h2
      subst h1 h2
      rw [List.length_take] at this
      rw [List.length_take]
      omega
    · cases h
end Go.Wo

/- Words: decimal forms of integers. -/
namespace Go.Wo
def digB (c : UInt8) : Bool := decide (48 ≤ c.toNat) && decide (c.toNat ≤ 57)
/-- without a sign -/
def mg (s : List UInt8) : List UInt8 := if s.getD 0 0 = 45 then s.drop 1 else s
/-- the decimal form of an integer -/
def decS (s : List UInt8) : Bool := !(mg s).isEmpty && (mg s).all digB && (!decide ((mg s).getD 0 0 = 48) || decide (s = [48]))
/-- what digits spell, behind others -/
def magL : Nat → List UInt8 → Nat
  | a, [] => a
  | a, c :: r => magL (a * 10 + (c.toNat - 48)) r
theorem magL_nil (a : Nat) : magL a [] = a := by unfold magL; rfl
theorem magL_cons (a : Nat) (c : UInt8) (r : List UInt8) : magL a (c :: r) = magL (a * 10 + (c.toNat - 48)) r := by conv => lhs; unfold magL
def valS (s : List UInt8) : Int := if s.getD 0 0 = 45 then -(magL 0 (mg s) : Int) else magL 0 (mg s)
/-- Int -/
def intS (s : List UInt8) (low high : Int) : Int × Int := if decS s = false then (0, 6)
  else if valS s < -9223372036854775808 ∨ 9223372036854775807 < valS s ∨ valS s < low ∨ high < valS s then (0, 7) else (valS s, 0)
theorem magL_app (a : Nat) (l r : List UInt8) : magL a (l ++ r) = magL (magL a l) r := by
  induction l generalizing a with
  | nil => rfl
  | cons c l ih => simp only [List.cons_append, magL_cons, ih]
theorem magL_ge (a : Nat) (r : List UInt8) : a ≤ magL a r := by
  induction r generalizing a with
  | nil => simp only [magL_cons, magL_nil]; omega
  | cons c l ih => have := ih (a * 10 + (c.toNat - 48)); simp only [magL_cons, magL_nil]; omega
theorem parseU {M : Nat} (hM : M = 18446744073709551615) : ∀ {l : List UInt8} {a : Nat}, (∀ c ∈ l, digB c = true) → a ≤ M → Lib.parseUintM M a l = if magL a l ≤ M then .ok (magL a l) else .range
  | [], a, _, ha => by simp [Lib.parseUintM, magL_nil, ha]
  | c :: r, a, h, ha => by
    have hc := h c (by simp)
    simp only [digB, Bool.and_eq_true, decide_eq_true_eq] at hc
    have hg := magL_ge (a * 10 + (c.toNat - 48)) r
    have em : magL a (c :: r) = magL (a * 10 + (c.toNat - 48)) r := by simp only [magL_cons, magL_nil]
    rw [em]
    simp only [Lib.parseUintM, if_pos hc]
    by_cases h1 : 1844674407370955162 ≤ a
    · rw [if_pos h1]
      split
      · omega
      · rfl
    · rw [if_neg h1]
      by_cases h2 : M < a * 10 + (c.toNat - 48)
      · rw [if_pos h2]
        split
        · omega
        · rfl
      · rw [if_neg h2]
        exact parseU hM (fun c hc => h c (by simp [hc])) (by omega)
theorem dec_ne {s : List UInt8} (h : decS s = true) : mg s ≠ [] ∧ ∀ c ∈ mg s, digB c = true := by
  unfold decS at h
  simp only [Bool.and_eq_true, List.all_eq_true] at h
  refine ⟨fun e => ?_, h.1.2⟩
  rw [e] at h
  simp at h
theorem parseI {s : List UInt8} (h : decS s = true) : Lib.parseIntB 64 s = if -9223372036854775808 ≤ valS s ∧ valS s ≤ 9223372036854775807 then .ok (valS s) else .range := by
  obtain ⟨h1, h2⟩ := dec_ne h
  cases s with
  | nil => exact absurd rfl h1
  | cons c r =>
    by_cases hc : c = 45
    · subst hc
      have em : mg (45 :: r) = r := rfl
      rw [em] at h1 h2
      have ev : valS (45 :: r) = -(magL 0 r : Int) := rfl
      rw [ev]
      have hu : Lib.parseUintB 64 r = if magL 0 r ≤ 18446744073709551615 then .ok (magL 0 r) else .range := by
        rw [Lib.parseUintB, if_neg h1]
        exact parseU rfl h2 (by decide)
      have e45 : (45 : UInt8).toNat = 45 := rfl
      simp only [Lib.parseIntB, e45, or_true, if_true, hu, true_and, not_true_eq_false, false_and, if_false]
      by_cases hm : magL 0 r ≤ 18446744073709551615
      · rw [if_pos hm]
        simp only
        by_cases hm2 : 2 ^ (64 - 1) < magL 0 r
        · rw [if_pos hm2, if_neg (by simp at hm2; omega)]
        · rw [if_neg hm2, if_pos (by simp at hm2; omega)]
      · rw [if_neg hm]
        simp only
        rw [if_neg (by omega)]
    · have hc0 : ¬ (c :: r).getD 0 0 = 45 := by simpa using hc
      have em : mg (c :: r) = c :: r := by rw [mg, if_neg hc0]
      rw [em] at h1 h2
      have ev : valS (c :: r) = (magL 0 (c :: r) : Int) := by rw [valS, if_neg hc0, em]
      rw [ev]
      have hd := h2 c (by simp)
      simp only [digB, Bool.and_eq_true, decide_eq_true_eq] at hd
      have hu : Lib.parseUintB 64 (c :: r) = if magL 0 (c :: r) ≤ 18446744073709551615 then .ok (magL 0 (c :: r)) else .range := by
        rw [Lib.parseUintB, if_neg h1]
        exact parseU rfl h2 (by decide)
      generalize hmm : magL 0 (c :: r) = m at hu ⊢
      have n43 : ¬ c.toNat = 43 := by omega
      have n45 : ¬ c.toNat = 45 := by omega
      simp only [Lib.parseIntB, n43, n45, or_self, if_false, hu, not_false_eq_true, true_and, false_and]
      by_cases hm : m ≤ 18446744073709551615
      · rw [if_pos hm]
        simp only
        by_cases hm2 : 2 ^ (64 - 1) ≤ m
        · rw [if_pos hm2, if_neg (by simp at hm2; omega)]
        · rw [if_neg hm2, if_pos (by simp at hm2; omega)]
      · rw [if_neg hm]
        simp only
        rw [if_neg (by omega)]
end Go.Wo

/- Words: lists of numbers, and their texts. -/
namespace Go.Wo
/-! ### pieces between bytes c -/
/-! ### List -/
/-- the runs of a list: first and last number -/
def runs : List Int → List (Int × Int)
  | [] => []
  | x :: r => match runs r with
    | [] => [(x, x)]
    | p :: t => if p.1 = x + 1 then (x, p.2) :: t else (x, x) :: p :: t
theorem drop_c {α : Type} [Inhabited α] {l : List α} {i : Nat} (h : i < l.length) (d : α) : l.drop i = l.getD i d :: l.drop (i + 1) := by
  rw [List.drop_eq_getElem_cons h, List.getD_eq_getElem?_getD, List.getElem?_eq_getElem h]
  rfl
/-! ### digits -/
theorem dg_rng {c : UInt8} (h : digB c = true) : 48 ≤ c.toNat ∧ c.toNat ≤ 57 := by simpa [digB] using h
end Go.Wo

/- Words: the loops' states of quoted forms and of lines. -/
namespace Go.Wo
def cmb (b : List UInt8) (i : Nat) : Option (List UInt8 × Nat) → List UInt8 × Nat
  | some (t, n) => (b ++ t, i + n)
  | none => ([], 0)
theorem unqS_cmb {s : List UInt8} (h : s.getD 0 0 = 34) : unqS s = cmb [] 1 (unqL (s.length + 1) (s.drop 1)) := by
  rw [unqS, if_pos h]
  cases unqL (s.length + 1) (s.drop 1) with
  | none => rfl
  | some p => simp [cmb, Nat.add_comm]
theorem unqS_no {s : List UInt8} (h : ¬ s.getD 0 0 = 34) : unqS s = ([], 0) := by rw [unqS, if_neg h]
theorem drop_ne {s : List UInt8} {i : Nat} (hi : i < s.length) : s.drop i ≠ [] := fun e => by
  have := congrArg List.length e
  rw [List.length_drop] at this
  simp at this; omega
theorem getD_drop0 (s : List UInt8) (i : Nat) : (s.drop i).getD 0 0 = s.getD i 0 := by simp [List.getD_eq_getElem?_getD]
theorem unq_out {s b : List UInt8} {i F : Nat} (hi : s.length ≤ i) : cmb b i (unqL F (s.drop i)) = ([], 0) := by
  rw [List.drop_of_length_le hi]
  cases F with
  | zero => rfl
  | succ F => simp [unqL, cmb]
theorem unq_end {s b : List UInt8} {i F : Nat} (hi : i < s.length) (h : s.getD i 0 = 34) : cmb b i (unqL (F + 1) (s.drop i)) = (b, i + 1) := by
  rw [unqL, if_neg (drop_ne hi), getD_drop0, if_pos h]
  simp [cmb]
theorem unq_bad {s b : List UInt8} {i F : Nat} (hi : i < s.length) (h : ¬ s.getD i 0 = 34) (hs : step (s.drop i) = none) : cmb b i (unqL (F + 1) (s.drop i)) = ([], 0) := by
  rw [unqL, if_neg (drop_ne hi), getD_drop0, if_neg h, hs]
  rfl
theorem unq_next {s b : List UInt8} {i F : Nat} {x : UInt8} {k : Nat} (hi : i < s.length) (h : ¬ s.getD i 0 = 34) (hs : step (s.drop i) = some (x, k)) : cmb b i (unqL (F + 1) (s.drop i)) = cmb (b ++ [x]) (i + k) (unqL F (s.drop (i + k))) := by
  rw [unqL, if_neg (drop_ne hi), getD_drop0, if_neg h, hs]
  simp only [List.drop_drop]
  cases unqL F (s.drop (i + k)) with
  | none => rfl
  | some p => simp [cmb, Nat.add_assoc]
theorem step_at {s : List UInt8} {i : Nat} (hi : i < s.length) : step (s.drop i) = if s.getD i 0 = 92 then (if (une (s.drop (i + 1))).2 = 0 then none else some ((une (s.drop (i + 1))).1, (une (s.drop (i + 1))).2 + 1)) else if plainB (s.getD i 0) then some (s.getD i 0, 1) else none := by
  rw [drop_c hi 0, step]
/-! ### lines -/
def cms (o : List Fd) : Option (List Fd) → List Fd × Int
  | some l => if long (o ++ l) || decide (64 < (o ++ l).length) then ([], 3) else (o ++ l, 0)
  | none => ([], 6)
theorem splitS_cms {s : List UInt8} (h : s.length ≤ 8192) (h0 : s ≠ []) : splitS s = cms [] (spl (s.length + 1) s) := by
  rw [splitS, if_neg (by omega), if_neg h0]
  cases spl (s.length + 1) s <;> rfl
theorem spl_bad {o : List Fd} {r : List UInt8} {F : Nat} (h : fld r = none) : cms o (spl (F + 1) r) = ([], 6) := by
  rw [spl, h]; rfl
theorem spl_end {o : List Fd} {r : List UInt8} {F n : Nat} {f : Fd} (h : fld r = some (f, n)) (hn : r.length ≤ n) : cms o (spl (F + 1) r) = if long (o ++ [f]) || decide (64 < (o ++ [f]).length) then ([], 3) else (o ++ [f], 0) := by
  simp only [spl, h]
  rw [if_pos (List.drop_of_length_le hn)]
  rfl
theorem spl_odd {o : List Fd} {r : List UInt8} {F n : Nat} {f : Fd} (h : fld r = some (f, n)) (hn : n < r.length) (h32 : ¬ r.getD n 0 = 32) : cms o (spl (F + 1) r) = ([], 6) := by
  simp only [spl, h]
  rw [if_neg (drop_ne hn), if_neg h32]
  rfl
theorem spl_next {o : List Fd} {r : List UInt8} {F n : Nat} {f : Fd} (h : fld r = some (f, n)) (hn : n < r.length) (h32 : r.getD n 0 = 32) : cms o (spl (F + 1) r) = cms (o ++ [f]) (spl F (r.drop (n + 1))) := by
  simp only [spl, h]
  rw [if_neg (drop_ne hn), if_pos h32]
  cases spl F (r.drop (n + 1)) with
  | none => rfl
  | some l => simp [cms, List.append_assoc]
theorem long_snoc (o : List Fd) (f : Fd) : long (o ++ [f]) = (long o || decide (2000 < f.1.length)) := by simp [long]
theorem fld_q {r : List UInt8} (h : 0 < (unqS r).2) : fld r = some (((unqS r).1, true), (unqS r).2) := by rw [fld, if_pos h]
theorem fld_b {r : List UInt8} (h : ¬ 0 < (unqS r).2) (hb : bareB (r.take (Lat.idx 32 r)) = true) : fld r = some ((r.take (Lat.idx 32 r), false), Lat.idx 32 r) := by rw [fld, if_neg h, if_pos hb]
theorem fld_n {r : List UInt8} (h : ¬ 0 < (unqS r).2) (hb : bareB (r.take (Lat.idx 32 r)) = false) : fld r = none := by rw [fld, if_neg h, if_neg (by simp [hb])]
theorem take_idx_len (r : List UInt8) : (r.take (Lat.idx 32 r)).length = Lat.idx 32 r := by
  have := Lat.idx_le 32 r
  rw [List.length_take]; omega
/-! ### decimal forms -/
theorem digs_trim {cs : List UInt8} (h : ∀ n : Nat, n < 256 → Lat.inB cs n = (decide (48 ≤ n) && decide (n ≤ 57))) (s : List UInt8) : decide (Lat.trimS cs s = []) = s.all digB := by
  have e : (fun c : UInt8 => Lat.inB cs c.toNat) = digB := funext fun c => by rw [h c.toNat c.toNat_lt]; rfl
  rw [Bool.eq_iff_iff, decide_eq_true_eq, Lat.trim_nil, e]
end Go.Wo

/- Words: the reference's decimal forms. -/
namespace Go.Wo
/-- decimal, as the reference has it -/
def rmg (s : List UInt8) : List UInt8 := if 1 < s.length ∧ s.getD 0 0 = 45 ∧ ¬ s.getD 1 0 = 48 then s.drop 1 else s
theorem rdec (s : List UInt8) : decS s = if (rmg s).length = 0 ∨ (1 < (rmg s).length ∧ (rmg s).getD 0 0 = 48) then false else (rmg s).all digB := by
  match s with
  | [] => rfl
  | c :: r =>
    by_cases hc : c = 45
    · subst hc
      have em : mg (45 :: r) = r := rfl
      have n48 : ¬ (45 :: r : List UInt8) = [48] := by simp
      by_cases hr : 1 < (45 :: r : List UInt8).length ∧ (45 :: r : List UInt8).getD 0 0 = 45 ∧ ¬ (45 :: r : List UInt8).getD 1 0 = 48
      · rw [rmg, if_pos hr]
        have h3 : ¬ r.getD 0 0 = 48 := by simpa using hr.2.2
        have hl : 0 < r.length := by have := hr.1; simp at this; exact this
        have hi : r.isEmpty = false := by cases r with
          | nil => simp at hl
          | cons => rfl
        simp only [decS, em, hi, h3, n48, List.drop_one, List.tail_cons]
        rw [if_neg (by rintro (h | h); · omega
                       · exact h.2)]
        simp
      · rw [rmg, if_neg hr]
        have e1 : (45 :: r : List UInt8).all digB = false := by simp [digB]
        rw [e1, ite_self]
        unfold decS
        rw [em]
        cases r with
        | nil => rfl
        | cons d r =>
          have : d = 48 := by simpa using hr
          subst this
          simp
    · have em : mg (c :: r) = c :: r := by rw [mg, if_neg (by simpa using hc)]
      have er : rmg (c :: r) = c :: r := by rw [rmg, if_neg (by simp [hc])]
      rw [er, decS, em]
      by_cases h48 : c = 48
      · subst h48
        cases r with
        | nil => rfl
        | cons d r => simp
      · simp [h48]
theorem decS_no {s : List UInt8} {i : Nat} (hi : i < (rmg s).length) (h : digB ((rmg s).getD i 0) = false) : decS s = false := by
  rw [rdec]
  split
  · rfl
  · rw [List.all_eq_false]
    refine ⟨(rmg s)[i], List.getElem_mem _, ?_⟩
    rw [List.getD_eq_getElem?_getD, List.getElem?_eq_getElem hi] at h
    simpa using h
theorem decS_yes {s : List UInt8} (h0 : ¬ ((rmg s).length = 0 ∨ (1 < (rmg s).length ∧ (rmg s).getD 0 0 = 48))) (h : ∀ k, k < (rmg s).length → digB ((rmg s).getD k 0) = true) : decS s = true := by
  rw [rdec, if_neg h0, List.all_eq_true]
  intro x hx
  obtain ⟨k, hk, e⟩ := List.getElem_of_mem hx
  have := h k hk
  rw [List.getD_eq_getElem?_getD, List.getElem?_eq_getElem hk] at this
  simpa [e] using this
/-! ### the digits read from the left -/
/-- where the digits begin -/
def sg (s : List UInt8) : Nat := if s.getD 0 0 = 45 then 1 else 0
theorem mg_sg (s : List UInt8) : mg s = s.drop (sg s) := by
  unfold mg sg
  split
  · rfl
  · rw [List.drop_zero]
theorem sg_le {s : List UInt8} (h : decS s = true) : sg s < s.length := by
  have h1 := (dec_ne h).1
  rw [mg_sg] at h1
  rcases Nat.lt_or_ge (sg s) s.length with h2 | h2
  · exact h2
  · exact absurd (List.drop_of_length_le h2) h1
theorem dec_at {s : List UInt8} (h : decS s = true) {i : Nat} (hi : i < s.length) : (s.getD i 0 = 45 ∧ i = 0 ∧ sg s = 1) ∨ (digB (s.getD i 0) = true ∧ sg s ≤ i ∧ ¬ s.getD i 0 = 45) := by
  by_cases hs : i < sg s
  · left
    unfold sg at hs ⊢
    split at hs
    · rename_i e
      obtain rfl : i = 0 := by omega
      exact ⟨e, rfl, if_pos e⟩
    · omega
  · right
    have hd : digB (s.getD i 0) = true := by
      have := (dec_ne h).2 (s.getD i 0)
      refine this ?_
      rw [mg_sg]
      have e : (s.drop (sg s))[i - sg s]? = s[i]? := by rw [List.getElem?_drop]; congr 1; omega
      rw [List.getElem?_eq_getElem hi] at e
      rw [List.getD_eq_getElem?_getD, List.getElem?_eq_getElem hi]
      exact List.mem_of_getElem? e
    refine ⟨hd, by omega, fun e => ?_⟩
    rw [e] at hd
    exact absurd hd (by decide)
/-- what is read of the first i bytes -/
def mgI (s : List UInt8) (i : Nat) : Nat := magL 0 ((s.take i).drop (sg s))
theorem mgI_0 (s : List UInt8) : mgI s 0 = 0 := by simp [mgI, magL_nil]
theorem mgI_end (s : List UInt8) : mgI s s.length = magL 0 (mg s) := by rw [mgI, List.take_length, mg_sg]
theorem mgI_sign {s : List UInt8} (h : sg s = 1) : mgI s 1 = 0 := by
  rw [mgI, h, List.drop_of_length_le (by rw [List.length_take]; omega), magL_nil]
theorem mgI_next {s : List UInt8} {i : Nat} (hi : i < s.length) (h : sg s ≤ i) : mgI s (i + 1) = mgI s i * 10 + ((s.getD i 0).toNat - 48) := by
  unfold mgI
  rw [List.take_succ_eq_append_getElem hi, List.drop_append_of_le_length (by rw [List.length_take]; omega), magL_app, List.getD_eq_getElem?_getD, List.getElem?_eq_getElem hi, magL_cons, magL_nil]
  rfl
theorem mgI_le {s : List UInt8} {i : Nat} (hi : i ≤ s.length) (h : sg s ≤ i) : mgI s i ≤ magL 0 (mg s) := by
  rw [mg_sg, mgI]
  have e : s.drop (sg s) = (s.take i).drop (sg s) ++ s.drop i := by
    conv => lhs; arg 2; rw [← List.take_append_drop i s]
    rw [List.drop_append_of_le_length (by rw [List.length_take]; omega)]
  rw [e, magL_app]
  exact magL_ge _ _
theorem valS_sg (s : List UInt8) : valS s = if sg s = 1 then -(magL 0 (mg s) : Int) else magL 0 (mg s) := by
  unfold valS sg
  by_cases h : s.getD 0 0 = 45
  · rw [if_pos h, if_pos h, if_pos rfl]
  · rw [if_neg h, if_neg h, if_neg (by decide)]
end Go.Wo

/- Words: numerals, quoted forms, joined fields. -/
namespace Go.Wo
theorem dec_step {a : Nat} (h : 10 ≤ a) : Lib.decDigits a = Lib.decDigits (a / 10) ++ [UInt8.ofNat (48 + a % 10)] := by
  conv => lhs; rw [Lib.decDigits, dif_neg (by omega)]
theorem itoa_step {n : Int} (h : 9 < n ∨ n < -9) : Lib.itoa n = Lib.itoa (n.tdiv 10) ++ [UInt8.ofNat (48 + n.natAbs % 10)] := by
  have ha : 10 ≤ n.natAbs := by omega
  have hs := dec_step ha
  rcases Int.lt_or_le n 0 with h0 | h0
  · obtain ⟨m, rfl⟩ : ∃ m : Nat, n = -(m : Int) := ⟨n.natAbs, by omega⟩
    have e1 : (-(m : Int)).tdiv 10 = -((m / 10 : Nat) : Int) := by
      rw [Int.neg_tdiv, Int.tdiv_eq_ediv_of_nonneg (by omega)]; omega
    have e2 : (-(m : Int)).natAbs = m := by omega
    have e3 : (-((m / 10 : Nat) : Int)).natAbs = m / 10 := by omega
    rw [e2] at hs ha
    simp only [Lib.itoa, e1, e2, e3]
    rw [if_pos h0, if_pos (by omega), hs]
    rfl
  · obtain ⟨m, rfl⟩ : ∃ m : Nat, n = (m : Int) := ⟨n.toNat, by omega⟩
    have e1 : (m : Int).tdiv 10 = ((m / 10 : Nat) : Int) := by
      rw [Int.tdiv_eq_ediv_of_nonneg (by omega)]; omega
    have e2 : (m : Int).natAbs = m := by omega
    rw [e2] at hs ha
    simp only [Lib.itoa, e1, e2]
    rw [if_neg (by omega), if_neg (by omega)]
    exact hs
theorem itoa_one {n : Int} (h0 : 0 ≤ n) (h : n ≤ 9) : Lib.itoa n = [UInt8.ofNat (48 + n.natAbs)] := by
  simp only [Lib.itoa]
  rw [if_neg (by omega), Lib.decDigits, dif_pos (by omega)]
  congr 3
  omega
theorem itoa_neg {n : Int} (h : n < 0) : Lib.itoa n = 45 :: Lib.itoa (-n) := by
  simp only [Lib.itoa]
  rw [if_pos h, if_neg (by omega)]
  congr 2
  omega
theorem nDigits_le : ∀ (k u : Nat), u < 10 ^ (k + 1) → Lib.nDigits u ≤ k + 1
  | 0, u, h => by rw [Lib.nDigits_small (by simpa using h)]; exact Nat.le_refl _
  | k + 1, u, h => by
    by_cases h' : u < 10
    · rw [Lib.nDigits_small h']; omega
    · rw [Lib.nDigits_big h']
      have := nDigits_le k (u / 10) (by rw [Nat.pow_succ] at h; omega)
      omega
theorem itoa_len {n : Int} (h : -9223372036854775808 ≤ n ∧ n ≤ 9223372036854775807) : (Lib.itoa n).length ≤ 21 := by
  have h1 := nDigits_le 19 n.natAbs (by simp only [Nat.reducePow, Nat.reduceAdd]; omega)
  have h2 := nDigits_le 19 n.toNat (by simp only [Nat.reducePow, Nat.reduceAdd]; omega)
  unfold Lib.itoa
  split
  · rw [List.length_cons, Lib.decDigits_length]; omega
  · rw [Lib.decDigits_length]; omega
end Go.Wo

/- Words: joined fields. -/
namespace Go.Wo
/-- a field's text -/
def fT (f : Fd) : List UInt8 := if f.2 then quoteS f.1 else f.1
def badF (f : Fd) : Bool := !f.2 && !bareB f.1
/-- Join -/
def joinS (l : List Fd) : List UInt8 × Int := if 64 < l.length then ([], 3) else if long l then ([], 3) else if l.any badF then ([], 6) else if 8192 < (Lib.join (l.map fT) [32]).length then ([], 3) else (Lib.join (l.map fT) [32], 0)
theorem join_len : ∀ (l : List (List UInt8)) (m : Nat), (∀ x ∈ l, x.length ≤ m) → (Lib.join l [32]).length ≤ l.length * (m + 1)
  | [], m, _ => by simp [Lib.join_nil]
  | x :: r, m, h => by
    rw [Lib.join_cons]
    have h1 := h x (by simp)
    have h2 : (Lib.joinTail [32] r).length ≤ r.length * (m + 1) := by
      have : ∀ r : List (List UInt8), (∀ x ∈ r, x.length ≤ m) → (Lib.joinTail [32] r).length ≤ r.length * (m + 1) := by
        intro r
        induction r with
        | nil => intro _; simp [Lib.joinTail]
        | cons y r ih =>
          intro hr
          have h3 := ih fun x hx => hr x (by simp [hx])
          have h4 := hr y (by simp)
          simp only [Lib.joinTail, List.map_cons, List.flatten_cons, List.length_append, List.length_cons, List.length_nil, Nat.add_mul] at h3 ⊢
          omega
      exact this r fun x hx => h x (by simp [hx])
    simp only [List.length_append, List.length_cons, Nat.add_mul]
    omega
theorem any_take {α : Type} [Inhabited α] (p : α → Bool) {l : List α} {i : Nat} (h : i < l.length) : (l.take (i + 1)).any p = ((l.take i).any p || p (l.getD i default)) := by
  rw [List.take_add_one, List.getElem?_eq_getElem h, List.getD_eq_getElem?_getD, List.getElem?_eq_getElem h, List.any_append]
  simp
end Go.Wo

/- Words: lines of a text. -/
namespace Go.Wo
end Go.Wo

/- Words: lists of numbers, read from the left. -/
namespace Go.Wo
end Go.Wo

/- Words: lines of fields, one after the other. -/
namespace Go.Wo
theorem join_ok (l : List Fd) : (joinS l).2 = 0 ↔ ¬ 64 < l.length ∧ long l = false ∧ l.any badF = false ∧ ¬ 8192 < (Lib.join (l.map fT) [32]).length := by
  unfold joinS
  by_cases h1 : 64 < l.length
  · simp [h1]
  by_cases h2 : long l = true
  · simp [h1, h2]
  by_cases h3 : l.any badF = true
  · simp [h1, h2, h3]
  by_cases h4 : 8192 < (Lib.join (l.map fT) [32]).length
  · simp [h1, h2, h3, h4]
  · simp only [if_neg h1, if_neg h2, if_neg h3, if_neg h4]
    simp [h1, h2, h3, h4]
theorem join_ok' {l : List Fd} (h : (joinS l).2 = 0) : (joinS l).1 = Lib.join (l.map fT) [32] := by
  obtain ⟨h1, h2, h3, h4⟩ := (join_ok l).1 h
  rw [joinS, if_neg h1, if_neg (by rw [h2]; decide), if_neg (by rw [h3]; decide), if_neg h4]
end Go.Wo
