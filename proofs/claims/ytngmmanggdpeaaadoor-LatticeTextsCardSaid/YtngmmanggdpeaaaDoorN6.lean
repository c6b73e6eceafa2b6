/- Lines, and the text of a lattice read back. -/
import Derived.Test.YtngmmanggdpeaaaDoorN1
set_option linter.unusedSectionVars false
set_option linter.unusedSimpArgs false
set_option linter.unusedVariables false

/- Lines, and the text of a lattice read back. -/
namespace Go.Lat
/-- where a byte is first -/
def idx (c : UInt8) : List UInt8 → Nat
  | [] => 0
  | b :: r => if b = c then 0 else idx c r + 1
theorem idx_le (c : UInt8) (s : List UInt8) : idx c s ≤ s.length := by
  induction s with
  | nil => exact Nat.le_refl _
  | cons b r ih => simp only [idx]; split <;> simp <;> omega
theorem idx_no {c : UInt8} {s : List UInt8} {k : Nat} (hk : k < idx c s) : s.getD k 0 ≠ c := by
  induction s generalizing k with
  | nil => simp [idx] at hk
  | cons b r ih =>
    simp only [idx] at hk
    split at hk
    · omega
    · rename_i hb
      cases k with
      | zero => simpa using hb
      | succ k => simpa using ih (k := k) (by omega)
theorem idx_at {c : UInt8} {s : List UInt8} (h : idx c s < s.length) : s.getD (idx c s) 0 = c := by
  induction s with
  | nil => simp at h
  | cons b r ih =>
    simp only [idx] at h ⊢
    split
    · rename_i hb; simpa using hb
    · rename_i hb
      rw [if_neg hb] at h
      simpa using ih (by simpa using h)
theorem idx_eq {c : UInt8} {s : List UInt8} {i : Nat} (hi : i < s.length) (h1 : s.getD i 0 = c) (h2 : ∀ k, k < i → s.getD k 0 ≠ c) : idx c s = i := by
  rcases Nat.lt_trichotomy (idx c s) i with h | h | h
  · exact absurd (idx_at (by omega)) (h2 _ h)
  · exact h
  · exact absurd h1 (idx_no h)
theorem idx_len {c : UInt8} {s : List UInt8} (h2 : ∀ k, k < s.length → s.getD k 0 ≠ c) : idx c s = s.length := by
  have := idx_le c s
  rcases Nat.lt_or_ge (idx c s) s.length with h | h
  · exact absurd (idx_at h) (h2 _ h)
  · omega
theorem idx_app {c : UInt8} {a b : List UInt8} (h : c ∉ a) : idx c (a ++ c :: b) = a.length := by
  induction a with
  | nil => simp [idx]
  | cons x a ih =>
    simp only [List.mem_cons, not_or] at h
    have hx : ¬ x = c := fun e => h.1 e.symm
    simp only [List.cons_append, idx, if_neg hx, ih h.2, List.length_cons]
/-- the pieces between newlines -/
def spl : List UInt8 → List (List UInt8)
  | [] => [[]]
  | b :: r => if b = 10 then [] :: spl r else match spl r with
    | h :: t => (b :: h) :: t
    | [] => [[b]]
theorem spl_ne (s : List UInt8) : spl s ≠ [] := by
  cases s with
  | nil => simp [spl]
  | cons b r =>
    simp only [spl]
    split
    · simp
    · split <;> simp
theorem spl_app (a b : List UInt8) : spl (a ++ 10 :: b) = spl a ++ spl b := by
  induction a with
  | nil => simp [spl]
  | cons x a ih =>
    simp only [List.cons_append, spl, ih]
    split
    · rfl
    · cases h : spl a with
      | nil => exact absurd h (spl_ne a)
      | cons y t => rfl
theorem spl_no {s : List UInt8} (h : (10 : UInt8) ∉ s) : spl s = [s] := by
  induction s with
  | nil => rfl
  | cons b r ih =>
    simp only [List.mem_cons, not_or] at h
    have hb : ¬ b = 10 := fun e => h.1 e.symm
    simp only [spl, if_neg hb, ih h.2]
theorem spl_count (s : List UInt8) : (spl s).length = s.count 10 + 1 := by
  induction s with
  | nil => rfl
  | cons b r ih =>
    simp only [spl]
    split
    · rename_i e; subst e; simp [ih]
    · rename_i e
      rw [List.count_cons_of_ne (by simpa using e), ← ih]
      cases h : spl r with
      | nil => exact absurd h (spl_ne r)
      | cons y t => rfl
theorem spl_idx {s : List UInt8} (h : idx 10 s < s.length) : spl s = s.take (idx 10 s) :: spl (s.drop (idx 10 s + 1)) := by
  have e : s = s.take (idx 10 s) ++ 10 :: s.drop (idx 10 s + 1) := by
    have h1 := idx_at h
    rw [List.getD_eq_getElem?_getD, List.getElem?_eq_getElem h] at h1
    simp only [Option.getD_some] at h1
    conv => lhs; rw [← List.take_append_drop (idx 10 s) s, List.drop_eq_getElem_cons h, h1]
  have hno : (10 : UInt8) ∉ s.take (idx 10 s) := fun hm => by
    obtain ⟨k, hk, ek⟩ := List.getElem_of_mem hm
    have hk2 : k < idx 10 s := by simp at hk; omega
    refine idx_no hk2 ?_
    rw [List.getD_eq_getElem?_getD, List.getElem?_eq_getElem (by omega)]
    simpa using ek
  conv => lhs; rw [e]
  rw [spl_app, spl_no hno]
  rfl
theorem spl_mem {s : List UInt8} : ∀ l ∈ spl s, (10 : UInt8) ∉ l := by
  induction s with
  | nil => simp [spl]
  | cons b r ih =>
    intro l hl
    simp only [spl] at hl
    split at hl
    · rcases List.mem_cons.1 hl with rfl | hl
      · simp
      · exact ih l hl
    · rename_i hb
      cases h : spl r with
      | nil => exact absurd h (spl_ne r)
      | cons y t =>
        rw [h] at hl ih
        rcases List.mem_cons.1 hl with rfl | hl
        · simp only [List.mem_cons, not_or]
          exact ⟨fun e => hb e.symm, ih y (by simp)⟩
        · exact ih l (by simp [hl])
/-- lines, each with its newline -/
def jn10 : List (List UInt8) → List UInt8
  | [] => []
  | l :: r => l ++ 10 :: jn10 r
theorem jn10_spl (s : List UInt8) : jn10 (spl s) = s ++ [10] := by
  induction s with
  | nil => rfl
  | cons b r ih =>
    simp only [spl]
    split
    · rename_i e; subst e; simp [jn10, ih]
    · cases h : spl r with
      | nil => exact absurd h (spl_ne r)
      | cons y t =>
        rw [h] at ih
        simp only [jn10, List.cons_append] at ih ⊢
        rw [ih]
theorem jn10_app (a b : List (List UInt8)) : jn10 (a ++ b) = jn10 a ++ jn10 b := by
  induction a with
  | nil => rfl
  | cons x a ih => simp [jn10, ih]
theorem spl_jn {L : List (List UInt8)} (h : ∀ l ∈ L, (10 : UInt8) ∉ l) : spl (jn10 L) = L ++ [[]] := by
  induction L with
  | nil => rfl
  | cons l r ih =>
    simp only [jn10]
    rw [spl_app, spl_no (h l (by simp)), ih fun l hl => h l (by simp [hl])]
    rfl
/-- a line: the name, the row -/
def lnN (s : List UInt8) : List UInt8 := s.take (idx 32 s)
def lnR (s : List UInt8) : List UInt8 := s.drop (idx 32 s + 1)
def lnOk (n : Nat) (s : List UInt8) : Bool := decide (idx 32 s < s.length) && isNm (lnN s) && rowOk (lnR s) n
def nms (L : List (List UInt8)) : List (List UInt8) := L.map lnN
def rws (L : List (List UInt8)) (n : Nat) : List UInt8 := L.map fun s => UInt8.ofNat (rowV (lnR s) n)
def lns (text : List UInt8) : List (List UInt8) := spl (text.take (text.length - 1))
/-- Parse: the line and the error -/
def prsE (text : List UInt8) : Int × Int :=
  if 300 < text.length ∨ text.count 10 < 1 ∨ 8 < text.count 10 then (0, 3)
  else if text.getD (text.length - 1) 0 ≠ 10 then (0, 6)
  else match ff (lns text).length fun i => !lnOk (text.count 10) ((lns text).getD i []) with
    | some i => ((i : Int) + 1, 6)
    | none => if (checkS (nms (lns text)) (rws (lns text) (text.count 10))).2 = 0 then (0, 0) else ((checkS (nms (lns text)) (rws (lns text) (text.count 10))).1 + 1, (checkS (nms (lns text)) (rws (lns text) (text.count 10))).2)
theorem prsE_1 {t : List UInt8} (h : 300 < t.length ∨ t.count 10 < 1 ∨ 8 < t.count 10) : prsE t = (0, 3) := if_pos h
theorem prsE_2 {t : List UInt8} (h : ¬ (300 < t.length ∨ t.count 10 < 1 ∨ 8 < t.count 10)) (h2 : t.getD (t.length - 1) 0 ≠ 10) : prsE t = (0, 6) := by
  rw [prsE, if_neg h, if_pos h2]
theorem prsE_3 {t : List UInt8} (h : ¬ (300 < t.length ∨ t.count 10 < 1 ∨ 8 < t.count 10)) (h2 : t.getD (t.length - 1) 0 = 10) {i : Nat} (hi : i < (lns t).length) (hb : lnOk (t.count 10) ((lns t).getD i []) = false) (hj : ∀ j, j < i → lnOk (t.count 10) ((lns t).getD j []) = true) : prsE t = ((i : Int) + 1, 6) := by
  rw [prsE, if_neg h, if_neg (fun x => x h2), ff_some hi (by simp only [hb, Bool.not_false]) fun j hj' => by simp only [hj j hj', Bool.not_true]]
theorem prsE_4 {t : List UInt8} (h : ¬ (300 < t.length ∨ t.count 10 < 1 ∨ 8 < t.count 10)) (h2 : t.getD (t.length - 1) 0 = 10) (hj : ∀ j, j < (lns t).length → lnOk (t.count 10) ((lns t).getD j []) = true) :
    prsE t = if (checkS (nms (lns t)) (rws (lns t) (t.count 10))).2 = 0 then (0, 0) else ((checkS (nms (lns t)) (rws (lns t) (t.count 10))).1 + 1, (checkS (nms (lns t)) (rws (lns t) (t.count 10))).2) := by
  rw [prsE, if_neg h, if_neg (fun x => x h2), ff_none fun j hj' => by simp only [hj j hj', Bool.not_true]]
/-- What was read well. -/
theorem prsE_ok {t : List UInt8} (h : (prsE t).2 = 0) : ¬ (300 < t.length ∨ t.count 10 < 1 ∨ 8 < t.count 10) ∧ t.getD (t.length - 1) 0 = 10 ∧ (∀ j, j < (lns t).length → lnOk (t.count 10) ((lns t).getD j []) = true) ∧ (checkS (nms (lns t)) (rws (lns t) (t.count 10))).2 = 0 := by
  by_cases h1 : 300 < t.length ∨ t.count 10 < 1 ∨ 8 < t.count 10
  · rw [prsE_1 h1] at h; simp at h
  · by_cases h2 : t.getD (t.length - 1) 0 = 10
    · refine ⟨h1, h2, ?_⟩
      rw [prsE, if_neg h1, if_neg (fun x => x h2)] at h
      split at h
      · simp at h
      · rename_i hf
        split at h
        · rename_i hc
          refine ⟨fun j hj => ?_, hc⟩
          have := ff_eq_none.1 hf j hj
          simpa using this
        · rename_i hc
          exact absurd h hc
    · rw [prsE_2 h1 h2] at h; simp at h
theorem last10 {t : List UInt8} (h : t.getD (t.length - 1) 0 = 10) : t = t.take (t.length - 1) ++ [10] := by
  have h0 : 0 < t.length := by
    cases t with
    | nil => simp at h
    | cons _ _ => simp
  have h1 : t.length - 1 < t.length := by omega
  rw [List.getD_eq_getElem?_getD, List.getElem?_eq_getElem h1] at h
  simp only [Option.getD_some] at h
  conv => lhs; rw [← List.take_length (l := t), show t.length = t.length - 1 + 1 by omega]
  rw [List.take_add_one, List.getElem?_eq_getElem h1, h]
  rfl
theorem lns_len {t : List UInt8} (h : t.getD (t.length - 1) 0 = 10) : (lns t).length = t.count 10 := by
  rw [lns, spl_count]
  conv => rhs; rw [last10 h]
  simp
theorem lns_jn {t : List UInt8} (h : t.getD (t.length - 1) 0 = 10) : jn10 (lns t) = t := by
  rw [lns, jn10_spl, ← last10 h]
/-! the text of a lattice, as lines -/
def lnT (ns : List (List UInt8)) (up : List UInt8) (i : Nat) : List UInt8 := ns.getD i [] ++ 32 :: rowT up i ns.length
theorem prt_lines (ns : List (List UInt8)) (up : List UInt8) (a : Nat) : prt ns up a = jn10 ((List.range a).map (lnT ns up)) := by
  induction a with
  | zero => rfl
  | succ a ih =>
    rw [List.range_succ, List.map_append, jn10_app, ← ih]
    simp [prt, jn10, lnT]
theorem nm_no {s : List UInt8} (h : isNm s = true) {c : UInt8} (hc : nmB c = false) : c ∉ s := fun hm => by
  simp only [isNm, Bool.and_eq_true, List.all_eq_true] at h
  rw [h.2 c hm] at hc
  cases hc
theorem rowT_mem {up : List UInt8} {a b : Nat} {c : UInt8} (h : c ∈ rowT up a b) : c = 48 ∨ c = 49 := by
  induction b with
  | zero => simp [rowT] at h
  | succ b ih =>
    simp only [rowT, List.mem_append, List.mem_singleton] at h
    rcases h with h | h
    · exact ih h
    · unfold dg at h; split at h
      · exact .inr h
      · exact .inl h
theorem rowT_getD {up : List UInt8} {a b k : Nat} (hk : k < b) : (rowT up a b).getD k 0 = dg (le up a k) := by
  induction b with
  | zero => omega
  | succ b ih =>
    simp only [rowT]
    by_cases e : k = b
    · subst e
      rw [List.getD_eq_getElem?_getD, List.getElem?_append_right (by rw [rowT_len]; exact Nat.le_refl _), rowT_len]
      simp
    · rw [List.getD_eq_getElem?_getD, List.getElem?_append_left (by rw [rowT_len]; omega), ← List.getD_eq_getElem?_getD]
      exact ih (by omega)
theorem rowV_bit (s : List UInt8) (k x : Nat) : (rowV s k).testBit x = (decide (x < k) && decide ((s.getD x 0).toNat = 49)) := by
  induction k with
  | zero => simp [rowV]
  | succ k ih =>
    simp only [rowV]
    rw [Nat.testBit_or, ih]
    by_cases e : x = k
    · subst e
      by_cases h : (s.getD x 0).toNat = 49
      · rw [if_pos (by rw [decide_eq_true_eq]; exact h), bit_one_shift]
        simp only [h, decide_true, Bool.or_true, Bool.and_true, show x < x + 1 by omega]
      · rw [if_neg (by rw [decide_eq_true_eq]; exact h)]
        simp only [h, decide_false, Bool.and_false, Bool.or_false, Nat.zero_testBit]
    · have : (if decide ((s.getD k 0).toNat = 49) = true then 1 <<< k else 0 : Nat).testBit x = false := by
        split
        · rw [bit_one_shift]; simp [e]
        · simp
      rw [this, Bool.or_false]
      by_cases h : x < k
      · simp only [h, show x < k + 1 by omega]
      · simp only [h, show ¬ x < k + 1 by omega]
/-- A line of a lattice's text, read. -/
theorem lnT_idx {ns : List (List UInt8)} {up : List UInt8} {i : Nat} (h : isNm (ns.getD i []) = true) : idx 32 (lnT ns up i) = (ns.getD i []).length :=
  idx_app (nm_no h (by decide))
theorem lnT_N {ns : List (List UInt8)} {up : List UInt8} {i : Nat} (h : isNm (ns.getD i []) = true) : lnN (lnT ns up i) = ns.getD i [] := by
  rw [lnN, lnT_idx h, lnT, List.take_left']
  rfl
theorem lnT_R {ns : List (List UInt8)} {up : List UInt8} {i : Nat} (h : isNm (ns.getD i []) = true) : lnR (lnT ns up i) = rowT up i ns.length := by
  rw [lnR, lnT_idx h, lnT, List.drop_append, List.drop_of_length_le (by omega)]
  simp
theorem dgB_dg (t : Bool) : dgB (dg t) = true := by cases t <;> rfl
theorem rowT_ok (up : List UInt8) (a n : Nat) : rowOk (rowT up a n) n = true := by
  simp only [rowOk, rowT_len, decide_true, Bool.true_and, List.all_eq_true]
  intro c hc
  rcases rowT_mem hc with rfl | rfl <;> rfl
theorem rowV_rowT {up : List UInt8} {a n : Nat} (h : msk up a < 2 ^ n) : rowV (rowT up a n) n = msk up a := by
  refine eq_of_bits (rowV_lt _ n) h fun x hx => ?_
  rw [rowV_bit, rowT_getD hx]
  simp only [hx, decide_true, Bool.true_and]
  show _ = le up a x
  cases le up a x <;> rfl
theorem lnT_ok {ns : List (List UInt8)} {up : List UInt8} {i : Nat} (h : isNm (ns.getD i []) = true) : lnOk ns.length (lnT ns up i) = true := by
  simp only [lnOk, lnT_idx h, lnT_N h, lnT_R h, h, rowT_ok, Bool.and_true, decide_eq_true_eq]
  simp only [lnT, List.length_append, List.length_cons]
  omega
theorem lnT_no {ns : List (List UInt8)} {up : List UInt8} {i : Nat} (h : isNm (ns.getD i []) = true) : (10 : UInt8) ∉ lnT ns up i := by
  simp only [lnT, List.mem_append, List.mem_cons, not_or]
  refine ⟨nm_no h (by decide), by decide, fun hm => ?_⟩
  rcases rowT_mem hm with h | h <;> exact absurd h (by decide)
theorem jn10_last {L : List (List UInt8)} (h : L ≠ []) : (jn10 L).getD ((jn10 L).length - 1) 0 = 10 := by
  have : ∃ t, jn10 L = t ++ [10] := by
    obtain ⟨M, l, rfl⟩ : ∃ M l, L = M ++ [l] := ⟨L.dropLast, L.getLast h, (List.dropLast_concat_getLast h).symm⟩
    exact ⟨jn10 M ++ l, by simp [jn10_app, jn10]⟩
  obtain ⟨t, e⟩ := this
  rw [e]
  simp [List.getD_eq_getElem?_getD]
theorem jn10_lns {L : List (List UInt8)} (h : L ≠ []) (hno : ∀ l ∈ L, (10 : UInt8) ∉ l) : lns (jn10 L) = L := by
  have e := last10 (jn10_last h)
  have e2 : spl (jn10 L) = lns (jn10 L) ++ [[]] := by
    conv => lhs; rw [e]
    rw [spl_app]
    rfl
  rw [spl_jn hno] at e2
  exact (List.append_cancel_right e2).symm
/-- The text of a lattice that is one, read back. -/
theorem prs_prt {ns : List (List UInt8)} {up : List UInt8} (h : (checkS ns up).2 = 0) :
    prsE (prt ns up ns.length) = (0, 0) ∧ nms (lns (prt ns up ns.length)) = ns ∧ rws (lns (prt ns up ns.length)) ((prt ns up ns.length).count 10) = up ∧ (prt ns up ns.length).count 10 = ns.length := by
  obtain ⟨hn, hv⟩ := checkS_val h
  have nm := names_nm hn
  have hmap : ∀ l ∈ (List.range ns.length).map (lnT ns up), ∃ i, i < ns.length ∧ l = lnT ns up i := fun l hl => by
    obtain ⟨i, hi, rfl⟩ := List.mem_map.1 hl
    exact ⟨i, List.mem_range.1 hi, rfl⟩
  have hL : (List.range ns.length).map (lnT ns up) ≠ [] := by
    intro e
    have := congrArg List.length e
    simp at this
    have := hv.pos
    rw [‹ns = []›] at this
    simp at this
  have hno : ∀ l ∈ (List.range ns.length).map (lnT ns up), (10 : UInt8) ∉ l := fun l hl => by
    obtain ⟨i, hi, rfl⟩ := hmap l hl
    exact lnT_no (nm i hi)
  have e := prt_lines ns up ns.length
  have el : lns (prt ns up ns.length) = (List.range ns.length).map (lnT ns up) := by rw [e, jn10_lns hL hno]
  have e10 : (prt ns up ns.length).getD ((prt ns up ns.length).length - 1) 0 = 10 := by rw [e]; exact jn10_last hL
  have ec : (prt ns up ns.length).count 10 = ns.length := by rw [← lns_len e10, el]; simp
  have hlen := prt_len up hv.le8 (fun i hi => isNm_len (nm i hi)) ns.length (Nat.le_refl _)
  have e1 : nms (lns (prt ns up ns.length)) = ns := by
    rw [el]
    refine ext_getD (d := []) (by simp [nms]) fun i hi => ?_
    have hi' : i < ns.length := by simpa [nms] using hi
    rw [← lnT_N (up := up) (nm i hi')]
    simp [nms, List.getD_eq_getElem?_getD, hi']
  have e2 : rws (lns (prt ns up ns.length)) ((prt ns up ns.length).count 10) = up := by
    rw [el, ec]
    refine ext_getD (d := 0) (by simp [rws, hv.len]) fun i hi => ?_
    have hi' : i < ns.length := by simpa [rws] using hi
    have e3 : (rws ((List.range ns.length).map (lnT ns up)) ns.length).getD i 0 = UInt8.ofNat (rowV (lnR (lnT ns up i)) ns.length) := by
      simp [rws, List.getD_eq_getElem?_getD, hi']
    rw [e3, lnT_R (nm i hi'), rowV_rowT (hv.lt i hi'), msk]
    exact UInt8.ofNat_toNat
  refine ⟨?_, e1, e2, ec⟩
  have h0 := hv.pos
  have h8 := hv.le8
  rw [prsE_4 (by rw [ec]; have : ns.length * 26 ≤ 8 * 26 := Nat.mul_le_mul_right _ h8; omega) e10 fun j hj => ?_]
  · rw [e1, e2, if_pos h]
  · rw [el] at hj ⊢
    have hj' : j < ns.length := by simpa using hj
    rw [ec]
    have : ((List.range ns.length).map (lnT ns up)).getD j [] = lnT ns up j := by simp [List.getD_eq_getElem?_getD, hj']
    rw [this]
    exact lnT_ok (nm j hj')
/-- What was read well, as a text. -/
theorem prt_prs {t : List UInt8} (h : (prsE t).2 = 0) : prt (nms (lns t)) (rws (lns t) (t.count 10)) (nms (lns t)).length = t ∧ (checkS (nms (lns t)) (rws (lns t) (t.count 10))).2 = 0 := by
  obtain ⟨h1, h2, h3, h4⟩ := prsE_ok h
  refine ⟨?_, h4⟩
  have ec := lns_len h2
  have en : (nms (lns t)).length = (lns t).length := by simp [nms]
  rw [prt_lines, en]
  conv => rhs; rw [← lns_jn h2]
  congr 1
  refine ext_getD (d := []) (by simp) fun i hi => ?_
  have hi' : i < (lns t).length := by simpa using hi
  have e0 : ((List.range (lns t).length).map (lnT (nms (lns t)) (rws (lns t) (t.count 10)))).getD i [] = lnT (nms (lns t)) (rws (lns t) (t.count 10)) i := by simp [List.getD_eq_getElem?_getD, hi']
  rw [e0]
  have hk := h3 i hi'
  simp only [lnOk, Bool.and_eq_true, decide_eq_true_eq] at hk
  obtain ⟨⟨k1, k2⟩, k3⟩ := hk
  simp only [rowOk, Bool.and_eq_true, decide_eq_true_eq, List.all_eq_true] at k3
  have ea : (nms (lns t)).getD i [] = lnN ((lns t).getD i []) := by simp [nms, List.getD_eq_getElem?_getD, hi']
  have eb : msk (rws (lns t) (t.count 10)) i = rowV (lnR ((lns t).getD i [])) (t.count 10) := by
    have : (rws (lns t) (t.count 10)).getD i 0 = UInt8.ofNat (rowV (lnR ((lns t).getD i [])) (t.count 10)) := by simp [rws, List.getD_eq_getElem?_getD, hi']
    rw [msk, this, UInt8.toNat_ofNat', Nat.mod_eq_of_lt (rowV_lt8 _ (by omega))]
  have er : rowT (rws (lns t) (t.count 10)) i (nms (lns t)).length = lnR ((lns t).getD i []) := by
    rw [en, ec]
    refine ext_getD (d := 0) (by rw [rowT_len, k3.1]) fun x hx => ?_
    rw [rowT_len] at hx
    rw [rowT_getD hx, le, eb, rowV_bit]
    simp only [hx, decide_true, Bool.true_and]
    have hm := k3.2 ((lnR ((lns t).getD i [])).getD x 0) (by
      have hx' : x < (lnR ((lns t).getD i [])).length := by omega
      generalize lnR ((lns t).getD i []) = q at hx' ⊢
      rw [List.getD_eq_getElem?_getD, List.getElem?_eq_getElem hx']
      exact List.getElem_mem _)
    generalize (lnR ((lns t).getD i [])).getD x 0 = c at hm
    simp only [dgB, Bool.or_eq_true, decide_eq_true_eq] at hm
    rcases hm with hm | hm
    · rw [hm]; exact (UInt8.toNat_inj.1 (by rw [hm]; rfl)).symm
    · rw [hm]; exact (UInt8.toNat_inj.1 (by rw [hm]; rfl)).symm
  rw [lnT, er, ea]
  have hat := idx_at k1
  generalize (lns t).getD i [] = s at *
  rw [List.getD_eq_getElem?_getD, List.getElem?_eq_getElem k1] at hat
  simp only [Option.getD_some] at hat
  rw [lnN, lnR]
  conv => rhs; rw [← List.take_append_drop (idx 32 s) s, List.drop_eq_getElem_cons k1, hat]
end Go.Lat
