/- Contracts of the functions that the statements reach. -/
import Derived.Test.YtpdhdilhlkpiaaaDoorL5
set_option linter.unusedSectionVars false
set_option linter.unusedSimpArgs false
set_option linter.unusedVariables false

namespace Go.Avm
open Go
theorem enc_prefix {r : Int} (h : valid r = true) (i : Nat) (h1 : 1 ≤ i) (h2 : i < (enc r).length) : dec ((enc r).take i) = none ∧ more ((enc r).take i) = true := by
  have hr := valid_rng h
  have hv := (valid_iff r).1 h
  have hl : ((enc r).take i).length = i := by rw [List.length_take]; omega
  constructor
  · cases hd : dec ((enc r).take i) with
    | none => rfl
    | some x =>
      obtain ⟨r', n'⟩ := x
      have hn := dec_rng' hd
      have h3 : dec (enc r) = some (r', n') := by
        refine dec_take.2 ⟨by omega, ?_⟩
        have := (dec_take.1 hd).2
        rw [List.take_take, Nat.min_eq_left (by omega)] at this
        exact this
      have h4 := dec_enc h []
      rw [List.append_nil, h3] at h4
      simp only [Option.some.injEq, Prod.mk.injEq] at h4
      omega
  · have b0 : bt ((enc r).take i) 0 = (encI r).getD 0 0 := by rw [bt_take _ _ _ (by omega), bt_enc h]
    have b1 : 2 ≤ i → bt ((enc r).take i) 1 = (encI r).getD 1 0 := fun hi => by rw [bt_take _ _ _ (by omega), bt_enc h]
    have b2 : 3 ≤ i → bt ((enc r).take i) 2 = (encI r).getD 2 0 := fun hi => by rw [bt_take _ _ _ (by omega), bt_enc h]
    simp only [more, moreI, hl, b0]
    generalize bt ((enc r).take i) 1 = y1 at *
    generalize bt ((enc r).take i) 2 = y2 at *
    rw [enc_len h] at h2
    simp only [encI] at b0 b1 b2 ⊢
    by_cases c1 : r < 128
    · rw [if_pos c1] at h2; omega
    rw [if_neg c1] at h2
    simp only [if_neg c1] at b1 b2 ⊢
    by_cases c2 : r < 2048
    · rw [if_pos c2] at h2
      simp only [if_pos c2, List.getD_cons_zero]
      rcases (by omega : i = 1) with rfl
      simp only [Bool.or_eq_true, decide_eq_true_eq]
      left; left; omega
    rw [if_neg c2] at h2
    simp only [if_neg c2] at b1 b2 ⊢
    by_cases c3 : r < 65536
    · rw [if_pos c3] at h2
      simp only [if_pos c3, List.getD_cons_zero, List.getD_cons_succ] at b1 b2 ⊢
      have hL := lohi (224 + r / 4096)
      simp only [Bool.or_eq_true, decide_eq_true_eq]
      left; right
      rcases (by omega : i = 1 ∨ i = 2) with rfl | rfl
      · clear hL b1 b2; omega
      · have hb1 := b1 (by omega); clear b1 b2; subst hb1; omega
    · rw [if_neg c3] at h2
      simp only [if_neg c3, List.getD_cons_zero, List.getD_cons_succ] at b1 b2 ⊢
      have hL := lohi (240 + r / 262144)
      simp only [Bool.or_eq_true, decide_eq_true_eq]
      right
      rcases (by omega : i = 1 ∨ i = 2 ∨ i = 3) with rfl | rfl | rfl
      · clear hL b1 b2; omega
      · have hb1 := b1 (by omega); clear b1 b2; subst hb1; omega
      · have hb1 := b1 (by omega); have hb2 := b2 (by omega); clear b1 b2; subst hb1; subst hb2; omega
end Go.Avm
