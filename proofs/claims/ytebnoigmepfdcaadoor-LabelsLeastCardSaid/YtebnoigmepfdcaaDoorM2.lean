/- Labels: what the least ones are; what is below and above a label. -/
import Derived.Test.YtebnoigmepfdcaaDoorM1
set_option linter.unusedSectionVars false
set_option linter.unusedSimpArgs false
set_option linter.unusedVariables false

/- Labels: what the least ones are; what is below and above a label. -/
namespace Go.Lat
section
variable {n : Nat} {up : List UInt8} (h : Val n up)
include h
theorem ls_mem {k : List Nat} (hk : ∀ x ∈ k, x < n) {x : Nat} (hx : x ∈ lsP up [] (srt up n k)) : x ∈ k := by
  rw [least_eq h hk, mem_srt h, List.mem_filter] at hx
  exact hx.2.1
theorem ls_min {k : List Nat} (hk : ∀ x ∈ k, x < n) {x : Nat} (hx : x ∈ lsP up [] (srt up n k)) : minB up k x = true := by
  rw [least_eq h hk, mem_srt h, List.mem_filter] at hx
  exact hx.2.2
theorem ls_below {k : List Nat} (hk : ∀ x ∈ k, x < n) : ∀ x ∈ k, ((lsP up [] (srt up n k)).any fun b => le up b x) = true := fun x hx => by
  obtain ⟨m, hm, h1, h2⟩ := min_below h hk _ (Nat.le_refl _) hx
  refine List.any_eq_true.2 ⟨m, ?_, h2⟩
  rw [least_eq h hk, mem_srt h, List.mem_filter]
  exact ⟨hk m hm, hm, h1⟩
theorem ls_anti {k : List Nat} (hk : ∀ x ∈ k, x < n) : ∀ x ∈ lsP up [] (srt up n k), ∀ y ∈ lsP up [] (srt up n k), x ≠ y → le up x y = false := fun x hx y hy hne => by
  have := ls_min h hk hy
  unfold minB at this
  rw [List.all_eq_true] at this
  have := this x (ls_mem h hk hx)
  simp only [Bool.or_eq_true, decide_eq_true_eq, Bool.not_eq_true'] at this
  exact this.resolve_left hne
theorem ls_pw {k : List Nat} (hk : ∀ x ∈ k, x < n) : (lsP up [] (srt up n k)).Pairwise fun a b => kl up n a b = true := by
  rw [least_eq h hk]
  exact pw_srt _ _ _
omit h in
theorem pw_ne {S : List Nat} (hp : S.Pairwise fun a b => kl up n a b = true) {i j : Nat} (hij : i < j) (hj : j < S.length) : kl up n (S.getD i 0) (S.getD j 0) = true := by
  rw [List.getD_eq_getElem?_getD, List.getD_eq_getElem?_getD, List.getElem?_eq_getElem hj, List.getElem?_eq_getElem (by omega)]
  exact List.pairwise_iff_getElem.1 hp i j (by omega) hj hij
omit h in
theorem ne_of_kl {a b : Nat} (hk : kl up n a b = true) : a ≠ b := fun e => by subst e; exact kl_irr hk
theorem srt_len {L : List Nat} (hn : L.Nodup) (hL : ∀ x ∈ L, x < n) : (srt up n L).length = L.length := by
  refine List.Perm.length_eq ((List.perm_ext_iff_of_nodup ?_ hn).2 fun x => ?_)
  · exact (pw_srt up n L).imp fun hk => ne_of_kl hk
  · rw [mem_srt h]
    exact ⟨fun k => k.2, fun k => ⟨hL x k, k⟩⟩
omit h in
theorem cnt_filter (p : Nat → Bool) : ∀ m : Nat, cnt p m = ((List.range m).filter p).length
  | 0 => rfl
  | m + 1 => by
    rw [List.range_succ, List.filter_append, List.length_append, ← cnt_filter p m, cnt]
    cases hp : p m <;> simp [hp]
theorem srt_range (p : Nat → Bool) : (srt up n ((List.range n).filter p)).length = cnt p n := by
  rw [cnt_filter]
  exact srt_len h (List.nodup_range.sublist List.filter_sublist) fun x hx => List.mem_range.1 (List.mem_filter.1 hx).1
theorem mem_range_srt {p : Nat → Bool} {x : Nat} : x ∈ srt up n ((List.range n).filter p) ↔ x < n ∧ p x = true := by
  rw [mem_srt h, List.mem_filter, List.mem_range]
  exact ⟨fun k => ⟨k.1, k.2.2⟩, fun k => ⟨k.1, k.1, k.2⟩⟩
/-- what is at or below a label ends with it -/
theorem dn_last {x : Nat} (hx : x < n) {p : Nat → Bool} (hp : ∀ b, b < n → p b = le up b x) : 0 < (srt up n ((List.range n).filter p)).length ∧ (srt up n ((List.range n).filter p)).getD ((srt up n ((List.range n).filter p)).length - 1) 0 = x := by
  have hpw := pw_srt up n ((List.range n).filter p)
  have hm := fun y => mem_range_srt h (p := p) (x := y)
  generalize srt up n ((List.range n).filter p) = S at hpw hm
  have hxS : x ∈ S := (hm x).2 ⟨hx, by rw [hp x hx]; exact h.refl x hx⟩
  obtain ⟨i, hi, e⟩ := List.getElem_of_mem hxS
  refine ⟨by omega, ?_⟩
  have e2 : S.getD i 0 = x := by rw [List.getD_eq_getElem?_getD, List.getElem?_eq_getElem hi]; exact e
  by_cases hl : i = S.length - 1
  · rw [← hl, e2]
  · have hk := pw_ne hpw (show i < S.length - 1 by omega) (by omega)
    rw [e2] at hk
    have hz : S.getD (S.length - 1) 0 ∈ S := by
      rw [List.getD_eq_getElem?_getD, List.getElem?_eq_getElem (by omega)]
      exact List.getElem_mem _
    obtain ⟨hz1, hz2⟩ := (hm _).1 hz
    rw [hp _ hz1] at hz2
    exact absurd (kl_le h hz1 hx hz2 fun e => ne_of_kl hk e.symm) (kl_asym hk)
/-- what is at or above a label begins with it -/
theorem up_first {x : Nat} (hx : x < n) {p : Nat → Bool} (hp : ∀ b, b < n → p b = le up x b) : 0 < (srt up n ((List.range n).filter p)).length ∧ (srt up n ((List.range n).filter p)).getD 0 0 = x := by
  have hpw := pw_srt up n ((List.range n).filter p)
  have hm := fun y => mem_range_srt h (p := p) (x := y)
  generalize srt up n ((List.range n).filter p) = S at hpw hm
  have hxS : x ∈ S := (hm x).2 ⟨hx, by rw [hp x hx]; exact h.refl x hx⟩
  obtain ⟨i, hi, e⟩ := List.getElem_of_mem hxS
  refine ⟨by omega, ?_⟩
  have e2 : S.getD i 0 = x := by rw [List.getD_eq_getElem?_getD, List.getElem?_eq_getElem hi]; exact e
  by_cases hl : i = 0
  · rw [hl] at e2
    exact e2
  · have hk := pw_ne hpw (show 0 < i by omega) hi
    rw [e2] at hk
    have hz : S.getD 0 0 ∈ S := by
      rw [List.getD_eq_getElem?_getD, List.getElem?_eq_getElem (by omega)]
      exact List.getElem_mem _
    obtain ⟨hz1, hz2⟩ := (hm _).1 hz
    rw [hp _ hz1] at hz2
    exact absurd (kl_le h hx hz1 hz2 fun e => ne_of_kl hk e.symm) (kl_asym hk)
end
end Go.Lat
