/- Names and commas. -/
import Derived.Test.YtebnoigmepfdcaaGreatDoorM3
import Derived.Lib.Join
set_option linter.unusedSectionVars false
set_option linter.unusedSimpArgs false
set_option linter.unusedVariables false

/- Names and commas. -/
namespace Go.Lat
theorem find_nm {ns : List (List UInt8)} (h : (namesS ns).2 = 0) {a : Nat} (ha : a < ns.length) : findO ns (ns.getD a []) = some a := by
  refine ff_eq_some.2 ⟨ha, by simp, fun j hj => ?_⟩
  have hb : nmBad ns a = false := by
    unfold namesS at h
    split at h
    · simp at h
    · split at h
      · split at h <;> simp at h
      · rename_i hn
        exact ff_eq_none.1 hn a ha
  cases he : (ns.getD j [] == ns.getD a []) with
  | false => rfl
  | true =>
    have := take_has hj ha (beq_iff_eq.1 he)
    simp only [nmBad, this, Bool.or_true] at hb
    cases hb
theorem join_spk : ∀ s : List UInt8, Lib.join (spk s) [44] = s
  | [] => by simp [spk, Lib.join_one]
  | b :: r => by
    have ih := join_spk r
    by_cases hb : b = 44
    · subst hb
      have h1 : spk (44 :: r) = [] :: spk r := by simp [spk]
      rw [h1]
      cases h : spk r with
      | nil => exact absurd h (spk_ne r)
      | cons x y =>
        rw [h, Lib.join_cons] at ih
        rw [Lib.join_cons]
        simp only [Lib.joinTail, List.map_cons, List.flatten_cons, List.nil_append] at ih ⊢
        rw [List.append_assoc, ih]
        rfl
    · cases h : spk r with
      | nil => exact absurd h (spk_ne r)
      | cons x y =>
        have h1 : spk (b :: r) = (b :: x) :: y := by simp [spk, hb, h]
        rw [h1, Lib.join_cons]
        rw [h, Lib.join_cons] at ih
        rw [List.cons_append, ih]
theorem spk_join : ∀ {L : List (List UInt8)}, L ≠ [] → (∀ x ∈ L, (44 : UInt8) ∉ x) → spk (Lib.join L [44]) = L
  | [], h, _ => absurd rfl h
  | [a], _, hn => by rw [Lib.join_one, spk_no (hn a (by simp))]
  | a :: b :: r, _, hn => by
    have ih := spk_join (L := b :: r) (by simp) fun x hx => hn x (List.mem_cons_of_mem _ hx)
    have e : Lib.join (a :: b :: r) [44] = a ++ 44 :: Lib.join (b :: r) [44] := by
      rw [Lib.join_cons, Lib.join_cons]
      simp [Lib.joinTail]
    rw [e, spk_app, spk_no (hn a (by simp)), ih]
    rfl
theorem nm_facts {s : List UInt8} (h : isNm s = true) : s ≠ [] ∧ (44 : UInt8) ∉ s ∧ s ≠ [45] := by
  refine ⟨fun e => ?_, nm_no h (by decide), fun e => ?_⟩
  · subst e
    exact absurd h (by decide)
  · subst e
    exact absurd h (by decide)
end Go.Lat
