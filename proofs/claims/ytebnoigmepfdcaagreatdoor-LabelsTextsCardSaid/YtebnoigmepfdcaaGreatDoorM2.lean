/- Labels: folds of lists. -/
import Derived.Test.YtebnoigmepfdcaaGreatDoorM1
set_option linter.unusedSectionVars false
set_option linter.unusedSimpArgs false
set_option linter.unusedVariables false

/- Labels: folds of lists. -/
namespace Go.Lat
section
variable {n : Nat} {M : Nat → Nat} (h : Ord n M)
include h
theorem Ord.fj_lt : ∀ {l : List Nat} {b : Nat}, b < n → (∀ x ∈ l, x < n) → l.foldl (jn M n) b < n
  | [], b, hb, _ => hb
  | a :: l, b, hb, hl => Ord.fj_lt (l := l) (h.jn_lt hb (hl a (by simp))) fun x hx => hl x (List.mem_cons_of_mem _ hx)
theorem Ord.fj_bit (x : Nat) : ∀ {l : List Nat} {b : Nat}, b < n → (∀ x ∈ l, x < n) → (M (l.foldl (jn M n) b)).testBit x = ((M b).testBit x && l.all fun a => (M a).testBit x)
  | [], b, hb, _ => by simp
  | a :: l, b, hb, hl => by
    rw [List.foldl_cons, Ord.fj_bit x (l := l) (h.jn_lt hb (hl a (by simp))) fun x hx => hl x (List.mem_cons_of_mem _ hx), h.jn_bit hb (hl a (by simp)), List.all_cons, Bool.and_assoc]
theorem Ord.bits {a b : Nat} (ha : a < n) (hb : b < n) (e : ∀ x, (M a).testBit x = (M b).testBit x) : a = b := h.inj ha hb (Nat.eq_of_testBit_eq e)
theorem Ord.fj_rev {l : List Nat} {b : Nat} (hb : b < n) (hl : ∀ x ∈ l, x < n) : l.reverse.foldl (jn M n) b = l.foldl (jn M n) b := by
  have hr : ∀ x ∈ l.reverse, x < n := fun x hx => hl x (List.mem_reverse.1 hx)
  refine h.bits (h.fj_lt hb hr) (h.fj_lt hb hl) fun x => ?_
  rw [h.fj_bit x hb hr, h.fj_bit x hb hl, List.all_reverse]
theorem Ord.fj_app {l k : List Nat} {b : Nat} (hb : b < n) (hl : ∀ x ∈ l, x < n) (hk : ∀ x ∈ k, x < n) : (l ++ k).foldl (jn M n) b = jn M n (l.foldl (jn M n) b) (k.foldl (jn M n) b) := by
  have ha : ∀ x ∈ l ++ k, x < n := fun x hx => (List.mem_append.1 hx).elim (hl x) (hk x)
  have h1 := h.fj_lt hb hl
  have h2 := h.fj_lt hb hk
  refine h.bits (h.fj_lt hb ha) (h.jn_lt h1 h2) fun x => ?_
  rw [h.jn_bit h1 h2, h.fj_bit x hb ha, h.fj_bit x hb hl, h.fj_bit x hb hk, List.all_append]
  cases (M b).testBit x <;> cases (l.all fun a => (M a).testBit x) <;> simp
end
theorem Val.bot_le {n : Nat} {up : List UInt8} (h : Val n up) {a : Nat} (ha : a < n) : le up (foldJ (fun b => dn up b n) n n) a = true := by
  have := h.od.fold_all h.pos a ha
  rw [dn_in (h.od.fold h.pos n (Nat.le_refl n)).1] at this
  exact this
theorem Val.bot_lt {n : Nat} {up : List UInt8} (h : Val n up) : foldJ (fun b => dn up b n) n n < n := (h.od.fold h.pos n (Nat.le_refl n)).1
theorem Val.top_lt {n : Nat} {up : List UInt8} (h : Val n up) : foldJ (msk up) n n < n := (h.ou.fold h.pos n (Nat.le_refl n)).1
theorem Val.join_le {n : Nat} {up : List UInt8} (h : Val n up) {l : List Nat} (hl : ∀ x ∈ l, x < n) {t : Nat} (ht : t < n) : le up (l.foldl (jn (msk up) n) (foldJ (fun b => dn up b n) n n)) t = l.all fun a => le up a t := by
  unfold le
  rw [h.ou.fj_bit t h.bot_lt hl]
  have := h.bot_le ht
  unfold le at this
  rw [this, Bool.true_and]
end Go.Lat
