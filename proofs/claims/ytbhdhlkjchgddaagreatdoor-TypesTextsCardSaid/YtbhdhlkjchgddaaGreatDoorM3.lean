/- Words: decimal forms of numbers from 0 on, and the numbers themselves. -/
import Derived.Test.YtbhdhlkjchgddaaGreatDoorM2
set_option linter.unusedSectionVars false
set_option linter.unusedSimpArgs false
set_option linter.unusedVariables false

/- Words: decimal forms of numbers from 0 on, and the numbers themselves. -/
namespace Go.Wo
/-! ### the next number -/
end Go.Wo

/- Words: list expressions, read and written. -/
namespace Go.Wo
def lastB (ps : List (List UInt8 × List UInt8)) : List UInt8 := (ps.getLastD ([], [])).2
end Go.Wo

/- Words: reading what was written, and writing what was read. -/
namespace Go.Wo
theorem idx_app {c : UInt8} {a b : List UInt8} (h : c ∉ a) : Lat.idx c (a ++ c :: b) = a.length := by
  refine Lat.idx_eq (by simp) (by simp [List.getD_eq_getElem?_getD]) fun k hk e => h ?_
  rw [List.getD_eq_getElem?_getD, List.getElem?_append_left hk, List.getElem?_eq_getElem hk] at e
  rw [← e]
  exact List.getElem_mem _
theorem idx_none {c : UInt8} {a : List UInt8} (h : c ∉ a) : Lat.idx c a = a.length :=
  Lat.idx_len fun k hk e => h (by
    rw [List.getD_eq_getElem?_getD, List.getElem?_eq_getElem hk] at e
    rw [← e]
    exact List.getElem_mem _)
/-! ### Split and Join -/
theorem bare_mem {u : List UInt8} (h : bareB u = true) {c : UInt8} (hc : c ∈ u) : plainB c = true ∧ c ≠ 32 := by
  unfold bareB at h
  simp only [Bool.and_eq_true, List.all_eq_true] at h
  have := h.2 c hc
  simp only [Bool.and_eq_true, Bool.not_eq_true', decide_eq_false_iff_not] at this
  exact this
theorem fld_fT {f : Fd} (hb : badF f = false) (r : List UInt8) (hr : r = [] ∨ r.getD 0 0 = 32) : fld (fT f ++ r) = some (f, (fT f).length) := by
  obtain ⟨u, q⟩ := f
  cases q with
  | true =>
    have e : fT (u, true) = quoteS u := by rw [fT, if_pos rfl]
    have h := unqS_quote u r
    have hl := quoteS_len u
    rw [e, fld, h]
    rw [if_pos (by simp only; omega)]
  | false =>
    have e : fT (u, false) = u := by rw [fT, if_neg (by simp)]
    have hbu : bareB u = true := by
      cases h : bareB u with
      | true => rfl
      | false => simp only [badF, h] at hb; cases hb
    have hp := bare_len hbu
    obtain ⟨c, t, rfl⟩ : ∃ c t, u = c :: t := by
      cases u with
      | nil => simp at hp
      | cons c t => exact ⟨c, t, rfl⟩
    have hc := bare_mem hbu (c := c) (by simp)
    have h34 : ¬ (c :: t ++ r).getD 0 0 = 34 := fun h => (plain_ne hc.1).2 (by simpa using h)
    have h32 : (32 : UInt8) ∉ (c :: t) := fun hm => (bare_mem hbu hm).2 rfl
    have hi : Lat.idx 32 (c :: t ++ r) = (c :: t).length := by
      rcases hr with rfl | hr
      · rw [List.append_nil]; exact idx_none h32
      · cases r with
        | nil => simp at hr
        | cons x r =>
          simp only [List.getD_cons_zero] at hr
          rw [hr]
          exact idx_app h32
    rw [e, fld, unqS_no h34]
    simp only [Nat.lt_irrefl, if_false]
    rw [hi, List.take_left', if_pos hbu]
    rfl
theorem fT_pos {f : Fd} (hb : badF f = false) : 0 < (fT f).length := (fld_le (fld_fT hb [] (.inl rfl))).1
theorem spl_fT : ∀ {l : List Fd} {F : Nat}, l ≠ [] → l.any badF = false → (Lib.join (l.map fT) [32]).length < F → spl F (Lib.join (l.map fT) [32]) = some l
  | [], _, h, _, _ => absurd rfl h
  | f :: t, 0, _, _, h => by omega
  | [f], F + 1, _, hb, _ => by
    simp only [List.any_cons, List.any_nil, Bool.or_false] at hb
    have h := fld_fT hb [] (.inl rfl)
    rw [List.append_nil] at h
    rw [List.map_singleton, Lib.join_one, spl, h]
    simp
  | f :: g :: t, F + 1, _, hb, hF => by
    rw [List.any_cons, Bool.or_eq_false_iff] at hb
    have e : Lib.join ((f :: g :: t).map fT) [32] = fT f ++ 32 :: Lib.join ((g :: t).map fT) [32] := by
      simp only [List.map_cons]
      rw [Lib.join_cons, Lib.join_cons, Lib.joinTail, List.map_cons, List.flatten_cons]
      rfl
    rw [e] at hF ⊢
    have hp := fT_pos hb.1
    rw [List.length_append, List.length_cons] at hF
    have ih := spl_fT (l := g :: t) (F := F) (by simp) hb.2 (by omega)
    rw [spl, fld_fT hb.1 _ (.inr rfl)]
    simp only
    have hd : (fT f ++ 32 :: Lib.join ((g :: t).map fT) [32]).drop (fT f).length = 32 :: Lib.join ((g :: t).map fT) [32] := by simp
    have hd1 : (fT f ++ 32 :: Lib.join ((g :: t).map fT) [32]).drop ((fT f).length + 1) = Lib.join ((g :: t).map fT) [32] := by
      rw [← List.drop_drop, hd]; rfl
    have hg : (fT f ++ 32 :: Lib.join ((g :: t).map fT) [32]).getD (fT f).length 0 = 32 := by simp [List.getD_eq_getElem?_getD]
    rw [hd, if_neg (by simp), hg, if_pos rfl, hd1, ih]
    rfl
/-- Split of what was joined are the fields. -/
theorem split_join {l : List Fd} {t : List UInt8} (h : joinS l = (t, 0)) : splitS t = (l, 0) := by
  have h0 : (joinS l).2 = 0 := by rw [h]
  obtain ⟨h1, h2, h3, h4⟩ := (join_ok l).1 h0
  have ht : t = Lib.join (l.map fT) [32] := by rw [← join_ok' h0, h]
  subst ht
  by_cases hl : l = []
  · subst hl; rfl
  · have hs := spl_fT (F := (Lib.join (l.map fT) [32]).length + 1) hl h3 (by omega)
    have hne : Lib.join (l.map fT) [32] ≠ [] := fun e => by
      rw [e] at hs
      simp only [spl, fld, unqS] at hs
      cases hs
    rw [splitS, if_neg h4, if_neg hne, hs]
    simp only
    rw [if_neg]
    simp only [h2, Bool.false_or, decide_eq_true_eq]
    omega
/-! ### Quote and Unquote, Int and Digits -/
end Go.Wo
