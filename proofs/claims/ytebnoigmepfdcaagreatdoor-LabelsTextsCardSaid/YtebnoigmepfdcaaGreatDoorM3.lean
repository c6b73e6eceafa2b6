/- Texts cut at commas. -/
import Derived.Test.YtebnoigmepfdcaaGreatDoorM1
set_option linter.unusedSectionVars false
set_option linter.unusedSimpArgs false
set_option linter.unusedVariables false

/- Texts cut at commas. -/
namespace Go.Lat
/-- the pieces between newlines -/
def spk : List UInt8 → List (List UInt8)
  | [] => [[]]
  | b :: r => if b = 44 then [] :: spk r else match spk r with
    | h :: t => (b :: h) :: t
    | [] => [[b]]
theorem spk_ne (s : List UInt8) : spk s ≠ [] := by
  cases s with
  | nil => simp [spk]
  | cons b r =>
    simp only [spk]
    split
    · simp
    · split <;> simp
theorem spk_app (a b : List UInt8) : spk (a ++ 44 :: b) = spk a ++ spk b := by
  induction a with
  | nil => simp [spk]
  | cons x a ih =>
    simp only [List.cons_append, spk, ih]
    split
    · rfl
    · cases h : spk a with
      | nil => exact absurd h (spk_ne a)
      | cons y t => rfl
theorem spk_no {s : List UInt8} (h : (44 : UInt8) ∉ s) : spk s = [s] := by
  induction s with
  | nil => rfl
  | cons b r ih =>
    simp only [List.mem_cons, not_or] at h
    have hb : ¬ b = 44 := fun e => h.1 e.symm
    simp only [spk, if_neg hb, ih h.2]
theorem spk_count (s : List UInt8) : (spk s).length = s.count 44 + 1 := by
  induction s with
  | nil => rfl
  | cons b r ih =>
    simp only [spk]
    split
    · rename_i e; subst e; simp [ih]
    · rename_i e
      rw [List.count_cons_of_ne (by simpa using e), ← ih]
      cases h : spk r with
      | nil => exact absurd h (spk_ne r)
      | cons y t => rfl
theorem spk_idx {s : List UInt8} (h : idx 44 s < s.length) : spk s = s.take (idx 44 s) :: spk (s.drop (idx 44 s + 1)) := by
  have e : s = s.take (idx 44 s) ++ 44 :: s.drop (idx 44 s + 1) := by
    have h1 := idx_at h
    rw [List.getD_eq_getElem?_getD, List.getElem?_eq_getElem h] at h1
    simp only [Option.getD_some] at h1
    conv => lhs; rw [← List.take_append_drop (idx 44 s) s, List.drop_eq_getElem_cons h, h1]
  have hno : (44 : UInt8) ∉ s.take (idx 44 s) := fun hm => by
    obtain ⟨k, hk, ek⟩ := List.getElem_of_mem hm
    have hk2 : k < idx 44 s := by simp at hk; omega
    refine idx_no hk2 ?_
    rw [List.getD_eq_getElem?_getD, List.getElem?_eq_getElem (by omega)]
    simpa using ek
  conv => lhs; rw [e]
  rw [spk_app, spk_no hno]
  rfl
theorem spk_mem {s : List UInt8} : ∀ l ∈ spk s, (44 : UInt8) ∉ l := by
  induction s with
  | nil => simp [spk]
  | cons b r ih =>
    intro l hl
    simp only [spk] at hl
    split at hl
    · rcases List.mem_cons.1 hl with rfl | hl
      · simp
      · exact ih l hl
    · rename_i hb
      cases h : spk r with
      | nil => exact absurd h (spk_ne r)
      | cons y t =>
        rw [h] at hl ih
        rcases List.mem_cons.1 hl with rfl | hl
        · simp only [List.mem_cons, not_or]
          exact ⟨fun e => hb e.symm, ih y (by simp)⟩
        · exact ih l (by simp [hl])
end Go.Lat
