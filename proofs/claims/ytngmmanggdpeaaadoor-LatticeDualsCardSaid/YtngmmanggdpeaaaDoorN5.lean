/- What covers lead to is the order. -/
import Derived.Test.YtngmmanggdpeaaaDoorN1
set_option linter.unusedSectionVars false
set_option linter.unusedSimpArgs false
set_option linter.unusedVariables false

/- What covers lead to is the order. -/
namespace Go.Lat
def cnt (P : Nat → Bool) : Nat → Nat
  | 0 => 0
  | k + 1 => cnt P k + (if P k then 1 else 0)
theorem cnt_le (P : Nat → Bool) (n : Nat) : cnt P n ≤ n := by
  induction n with
  | zero => exact Nat.le_refl _
  | succ n ih => simp only [cnt]; split <;> omega
theorem cnt_mono {P Q : Nat → Bool} {n : Nat} (h : ∀ x, x < n → P x = true → Q x = true) : cnt P n ≤ cnt Q n := by
  induction n with
  | zero => exact Nat.le_refl _
  | succ n ih =>
    have := ih fun x hx => h x (by omega)
    simp only [cnt]
    by_cases hp : P n = true
    · rw [if_pos hp, if_pos (h n (by omega) hp)]; omega
    · rw [if_neg hp]; split <;> omega
theorem cnt_lt {P Q : Nat → Bool} {n a : Nat} (h : ∀ x, x < n → P x = true → Q x = true) (ha : a < n) (hq : Q a = true) (hp : P a = false) : cnt P n < cnt Q n := by
  induction n with
  | zero => omega
  | succ n ih =>
    simp only [cnt]
    by_cases e : a = n
    · subst e
      have := cnt_mono (P := P) (Q := Q) (n := a) fun x hx => h x (by omega)
      rw [if_neg (by rw [hp]; decide), if_pos hq]; omega
    · have := ih (fun x hx => h x (by omega)) (by omega)
      by_cases hp : P n = true
      · rw [if_pos hp, if_pos (h n (by omega) hp)]; omega
      · rw [if_neg hp]; split <;> omega
theorem cnt_pos {P : Nat → Bool} {n a : Nat} (ha : a < n) (hp : P a = true) : 1 ≤ cnt P n := by
  have h0 : ∀ m, cnt (fun _ => false) m = 0 := fun m => by
    induction m with
    | zero => rfl
    | succ m ih => simp only [cnt, ih]; rfl
  have := cnt_lt (P := fun _ => false) (Q := P) (fun _ _ h => absurd h (by decide)) ha hp rfl
  rw [h0] at this
  exact this
def iv (up : List UInt8) (a b x : Nat) : Bool := le up a x && le up x b
section
variable {n : Nat} {up : List UInt8} (h : Val n up)
include h
theorem Val.trans' {a b c : Nat} (ha : a < n) (hb : b < n) (h1 : le up a b = true) (h2 : le up b c = true) : le up a c = true := by
  by_cases hc : c < n
  · exact (h.ou.sub ha hb).1 h1 c hc h2
  · have := bit_lt (h.lt b hb) h2
    omega
theorem Val.anti' {a b : Nat} (ha : a < n) (hb : b < n) (h1 : le up a b = true) (h2 : le up b a = true) : a = b := by
  refine h.ou.inj ha hb (eq_of_bits (h.lt a ha) (h.lt b hb) fun x hx => ?_)
  rw [Bool.eq_iff_iff]
  exact ⟨fun k => (h.ou.sub hb ha).1 h2 x hx k, fun k => (h.ou.sub ha hb).1 h1 x hx k⟩
theorem Val.exists_cov : ∀ (m a b : Nat), a < n → b < n → le up a b = true → a ≠ b → cnt (iv up a b) n ≤ m → ∃ p, p < n ∧ le up a p = true ∧ cov up n p b = true := by
  intro m
  induction m with
  | zero =>
    intro a b ha hb hl hne hc
    have := cnt_pos (P := iv up a b) ha (by simp only [iv, h.refl a ha, hl, Bool.and_self])
    omega
  | succ m ih =>
    intro a b ha hb hl hne hc
    cases hcv : cov up n a b with
    | true => exact ⟨a, ha, h.refl a ha, hcv⟩
    | false =>
      have e1 : (a != b) = true := by simp [hne]
      simp only [cov, e1, hl, Bool.true_and, List.all_eq_false, List.mem_range, Bool.not_eq_true, Bool.not_eq_false', Bool.and_eq_true, bne_iff_ne, ne_eq] at hcv
      obtain ⟨c, hcn, ⟨⟨c1, c2⟩, c3⟩, c4⟩ := hcv
      have hlt : cnt (iv up c b) n < cnt (iv up a b) n := by
        refine cnt_lt (a := a) (fun x hx hp => ?_) ha (by simp only [iv, h.refl a ha, hl, Bool.and_self]) ?_
        · simp only [iv, Bool.and_eq_true] at hp ⊢
          exact ⟨h.trans' ha hcn c3 hp.1, hp.2⟩
        · cases hq : iv up c b a with
          | false => rfl
          | true =>
            simp only [iv, Bool.and_eq_true] at hq
            exact absurd (h.anti' ha hcn c3 hq.1).symm c1
      obtain ⟨p, p1, p2, p3⟩ := ih c b hcn hb c4 c2 (by omega)
      exact ⟨p, p1, h.trans' ha hcn c3 p2, p3⟩
end
theorem covRow_mem {up : List UInt8} {n a : Nat} {p : Nat × Nat} : ∀ b, p ∈ covRow up n a b ↔ p.1 = a ∧ p.2 < b ∧ cov up n a p.2 = true := by
  intro b
  induction b with
  | zero => simp [covRow]
  | succ b ih =>
    simp only [covRow, List.mem_append, ih]
    constructor
    · rintro (⟨h1, h2, h3⟩ | h)
      · exact ⟨h1, by omega, h3⟩
      · split at h
        · rename_i hc
          simp only [List.mem_singleton] at h
          subst h
          exact ⟨rfl, by simp, hc⟩
        · cases h
    · rintro ⟨h1, h2, h3⟩
      by_cases e : p.2 = b
      · right
        rw [← e, if_pos h3, List.mem_singleton, ← h1]
      · exact .inl ⟨h1, by omega, h3⟩
theorem covs_mem {up : List UInt8} {n : Nat} {p : Nat × Nat} : ∀ a, p ∈ covs up n a ↔ p.1 < a ∧ p.2 < n ∧ cov up n p.1 p.2 = true := by
  intro a
  induction a with
  | zero => simp [covs]
  | succ a ih =>
    simp only [covs, List.mem_append, ih, covRow_mem]
    constructor
    · rintro (⟨h1, h2, h3⟩ | ⟨h1, h2, h3⟩)
      · exact ⟨by omega, h2, h3⟩
      · exact ⟨by omega, h2, by rw [h1]; exact h3⟩
    · rintro ⟨h1, h2, h3⟩
      by_cases e : p.1 = a
      · exact .inr ⟨e, h2, by rw [← e]; exact h3⟩
      · exact .inl ⟨by omega, h2, h3⟩
/-- the table of what is reached, as it is filled -/
structure Rc (up : List UInt8) (n : Nat) (cs : List (Nat × Nat)) (k i a : Nat) (R : Nat → Nat → Bool) : Prop where
  sound : ∀ x y, R x y = true → x < n ∧ y < n ∧ le up x y = true
  done : ∀ x y, x < n → y < n → le up x y = true → cnt (iv up x y) n ≤ k + 1 → R x y = true
  prev : ∀ j, j < i → ∀ x, x < n → le up x (cs.getD j (0, 0)).1 = true → cnt (iv up x (cs.getD j (0, 0)).1) n ≤ k + 1 → R x (cs.getD j (0, 0)).2 = true
  cur : ∀ x, x < a → x < n → le up x (cs.getD i (0, 0)).1 = true → cnt (iv up x (cs.getD i (0, 0)).1) n ≤ k + 1 → R x (cs.getD i (0, 0)).2 = true
def rset (R : Nat → Nat → Bool) (a p q x y : Nat) : Bool := if x = a ∧ y = q then R x y || R a p else R x y
theorem rset_mono {R : Nat → Nat → Bool} {a p q x y : Nat} (h : R x y = true) : rset R a p q x y = true := by
  unfold rset
  split
  · rw [h]; rfl
  · exact h
section
variable {n : Nat} {up : List UInt8} (h : Val n up)
include h
theorem Rc.init : Rc up n (covs up n n) 0 0 0 (fun x y => x == y && decide (x < n)) where
  sound x y hr := by
    simp only [Bool.and_eq_true, beq_iff_eq, decide_eq_true_eq] at hr
    obtain ⟨rfl, hx⟩ := hr
    exact ⟨hx, hx, h.refl x hx⟩
  done x y hx hy hl hc := by
    by_cases e : x = y
    · subst e; simp [hx]
    · exfalso
      have := cnt_lt (P := iv up y y) (Q := iv up x y) (a := x) (fun z hz hp => by
        simp only [iv, Bool.and_eq_true] at hp ⊢
        exact ⟨h.trans' hx hy hl hp.1, hp.2⟩) hx (by simp only [iv, h.refl x hx, hl, Bool.and_self]) (by
        cases hq : iv up y y x with
        | false => rfl
        | true =>
          simp only [iv, Bool.and_eq_true] at hq
          exact absurd (h.anti' hx hy hl hq.1) e)
      have := cnt_pos (P := iv up y y) hy (by simp only [iv, h.refl y hy, Bool.and_self])
      omega
  prev j hj := absurd hj (by omega)
  cur x hx := absurd hx (by omega)
theorem Rc.step {k i a : Nat} {R : Nat → Nat → Bool} (hr : Rc up n (covs up n n) k i a R) (hi : i < (covs up n n).length) (ha : a < n) :
    Rc up n (covs up n n) k i (a + 1) (rset R a ((covs up n n).getD i (0, 0)).1 ((covs up n n).getD i (0, 0)).2) := by
  have hm : (covs up n n).getD i (0, 0) ∈ covs up n n := by
    rw [List.getD_eq_getElem?_getD, List.getElem?_eq_getElem hi]
    exact List.getElem_mem _
  obtain ⟨p1, p2, p3⟩ := (covs_mem n).1 hm
  have pl : le up ((covs up n n).getD i (0, 0)).1 ((covs up n n).getD i (0, 0)).2 = true := by
    simp only [cov, Bool.and_eq_true] at p3
    exact p3.1.2
  refine ⟨fun x y hx => ?_, fun x y hx hy hl hc => rset_mono (hr.done x y hx hy hl hc), fun j hj x hx hl hc => rset_mono (hr.prev j hj x hx hl hc), fun x hx hxn hl hc => ?_⟩
  · unfold rset at hx
    split at hx
    · rename_i e
      obtain ⟨rfl, rfl⟩ := e
      rw [Bool.or_eq_true] at hx
      rcases hx with hx | hx
      · exact hr.sound _ _ hx
      · obtain ⟨s1, s2, s3⟩ := hr.sound _ _ hx
        exact ⟨s1, p2, h.trans' s1 p1 s3 pl⟩
    · exact hr.sound x y hx
  · by_cases e : x = a
    · subst e
      unfold rset
      rw [if_pos ⟨rfl, rfl⟩, hr.done x _ hxn p1 hl hc, Bool.or_true]
    · exact rset_mono (hr.cur x (by omega) hxn hl hc)
theorem Rc.nexta {k i : Nat} {R : Nat → Nat → Bool} (hr : Rc up n (covs up n n) k i n R) : Rc up n (covs up n n) k (i + 1) 0 R :=
  ⟨hr.sound, hr.done, fun j hj x hx hl hc => by
    by_cases e : j = i
    · subst e; exact hr.cur x hx hx hl hc
    · exact hr.prev j (by omega) x hx hl hc, fun x hx => absurd hx (by omega)⟩
theorem Rc.nextk {k : Nat} {R : Nat → Nat → Bool} (hr : Rc up n (covs up n n) k (covs up n n).length 0 R) : Rc up n (covs up n n) (k + 1) 0 0 R := by
  refine ⟨hr.sound, fun x y hx hy hl hc => ?_, fun j hj => absurd hj (by omega), fun x hx => absurd hx (by omega)⟩
  by_cases e : x = y
  · subst e
    refine hr.done x x hx hx hl ?_
    have : cnt (iv up x x) n ≤ 1 := by
      have hu : ∀ m, cnt (fun z => z == x) m ≤ 1 ∧ (m ≤ x → cnt (fun z => z == x) m = 0) := fun m => by
        induction m with
        | zero => exact ⟨by simp [cnt], fun _ => rfl⟩
        | succ m ih =>
          simp only [cnt, beq_iff_eq]
          split
          · rename_i e
            exact ⟨by rw [ih.2 (by omega)]; omega, fun hm => absurd hm (by omega)⟩
          · exact ⟨by omega, fun hm => by rw [ih.2 (by omega)]⟩
      refine Nat.le_trans (cnt_mono (Q := fun z => z == x) fun z hz hp => ?_) (hu n).1
      simp only [iv, Bool.and_eq_true] at hp
      rw [beq_iff_eq]
      exact (h.anti' hx hz hp.1 hp.2).symm
    omega
  · obtain ⟨p, p1, p2, p3⟩ := h.exists_cov _ x y hx hy hl e (Nat.le_refl _)
    have hm : (p, y) ∈ covs up n n := (covs_mem n).2 ⟨p1, hy, p3⟩
    obtain ⟨j, hj, ej⟩ := List.getElem_of_mem hm
    have ej' : (covs up n n).getD j (0, 0) = (p, y) := by rw [List.getD_eq_getElem?_getD, List.getElem?_eq_getElem hj]; exact ej
    have hpy : le up p y = true ∧ p ≠ y := by
      simp only [cov, Bool.and_eq_true, bne_iff_ne, ne_eq] at p3
      exact ⟨p3.1.2, p3.1.1⟩
    have hlt : cnt (iv up x p) n < cnt (iv up x y) n := by
      refine cnt_lt (a := y) (fun z hz hq => ?_) hy (by simp only [iv, hl, h.refl y hy, Bool.and_self]) ?_
      · simp only [iv, Bool.and_eq_true] at hq ⊢
        exact ⟨hq.1, h.trans' hz p1 hq.2 hpy.1⟩
      · cases hq : iv up x p y with
        | false => rfl
        | true =>
          simp only [iv, Bool.and_eq_true] at hq
          exact absurd (h.anti' p1 hy hpy.1 hq.2) hpy.2
    have := hr.prev j hj x hx (by rw [ej']; exact p2) (by rw [ej']; show cnt (iv up x p) n ≤ k + 1; omega)
    rw [ej'] at this
    exact this
theorem Rc.fin {R : Nat → Nat → Bool} (hr : Rc up n (covs up n n) n 0 0 R) {x y : Nat} (hx : x < n) (hy : y < n) : R x y = le up x y := by
  rw [Bool.eq_iff_iff]
  exact ⟨fun k => (hr.sound x y k).2.2, fun k => hr.done x y hx hy k (by have := cnt_le (iv up x y) n; omega)⟩
end
end Go.Lat
