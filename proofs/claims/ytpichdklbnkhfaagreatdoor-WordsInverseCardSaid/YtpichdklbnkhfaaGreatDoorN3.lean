/- Words: decimal forms of numbers from 0 on, and the numbers themselves. -/
import Derived.Test.YtpichdklbnkhfaaGreatDoorN2
set_option linter.unusedSectionVars false
set_option linter.unusedSimpArgs false
set_option linter.unusedVariables false

/- Words: decimal forms of numbers from 0 on, and the numbers themselves. -/
namespace Go.Wo
theorem dg_of {a : Nat} (h : a < 10) : (UInt8.ofNat (48 + a)).toNat = 48 + a := by
  simp only [UInt8.toNat_ofNat']
  omega
theorem dec_mag : ∀ (u : Nat), DG (Lib.decDigits u) ∧ magL 0 (Lib.decDigits u) = u ∧ (10 ≤ u → (Lib.decDigits u).getD 0 0 ≠ 48) := by
  intro u
  induction u using Nat.strongRecOn with
  | _ u ih =>
    by_cases h : u < 10
    · rw [Lib.decDigits, dif_pos h]
      refine ⟨fun c hc => ?_, ?_, fun h' => by omega⟩
      · simp only [List.mem_singleton] at hc
        subst hc
        simp only [digB, dg_of h, Bool.and_eq_true, decide_eq_true_eq]
        omega
      · rw [magL_cons, magL_nil, dg_of h]; omega
    · obtain ⟨h1, h2, h3⟩ := ih (u / 10) (by omega)
      rw [dec_step (by omega)]
      refine ⟨fun c hc => ?_, ?_, fun _ => ?_⟩
      · rcases List.mem_append.1 hc with hc | hc
        · exact h1 c hc
        · simp only [List.mem_singleton] at hc
          subst hc
          simp only [digB, dg_of (Nat.mod_lt u (by decide)), Bool.and_eq_true, decide_eq_true_eq]
          omega
      · rw [magL_app, h2, magL_cons, magL_nil, dg_of (Nat.mod_lt u (by decide))]; omega
      · have hp : 0 < (Lib.decDigits (u / 10)).length := by rw [Lib.decDigits_length]; exact Lib.nDigits_pos _
        rw [List.getD_eq_getElem?_getD, List.getElem?_append_left hp, ← List.getD_eq_getElem?_getD]
        by_cases h4 : 10 ≤ u / 10
        · exact h3 h4
        · rw [Lib.decDigits, dif_pos (by omega)]
          intro e
          have := congrArg UInt8.toNat e
          simp only [List.getD_cons_zero] at this
          rw [dg_of (by omega)] at this
          simp at this
          omega
theorem natS_itoa {n : Int} (h : 0 ≤ n) : natS (Lib.itoa n) = true ∧ magL 0 (Lib.itoa n) = n.toNat := by
  unfold Lib.itoa
  rw [if_neg (by omega)]
  obtain ⟨h1, h2, h3⟩ := dec_mag n.toNat
  refine ⟨?_, h2⟩
  have hp : 0 < (Lib.decDigits n.toNat).length := by rw [Lib.decDigits_length]; exact Lib.nDigits_pos _
  have he : (Lib.decDigits n.toNat).isEmpty = false := by
    cases h : Lib.decDigits n.toNat with
    | nil => rw [h] at hp; simp at hp
    | cons => rfl
  have ha : (Lib.decDigits n.toNat).all digB = true := List.all_eq_true.2 h1
  rw [natS, he, ha, Bool.not_false, Bool.true_and, Bool.true_and]
  by_cases h4 : 10 ≤ n.toNat
  · rw [decide_eq_false (h3 h4)]; rfl
  · rw [Lib.decDigits, dif_pos (by omega)]
    by_cases h5 : n.toNat = 0
    · rw [h5]; rfl
    · have : ¬ UInt8.ofNat (48 + n.toNat) = 48 := fun e => by
        have := congrArg UInt8.toNat e
        rw [dg_of (by omega)] at this
        simp at this
        omega
      simp only [List.getD_cons_zero, decide_eq_false this]; rfl
theorem less_tri : ∀ {a b : List UInt8}, a.length = b.length → Op.bytesLess a b = false → Op.bytesLess b a = false → a = b
  | [], [], _, _, _ => rfl
  | x :: a, y :: b, hl, h1, h2 => by
    simp only [Op.bytesLess, Bool.or_eq_false_iff, decide_eq_false_iff_not, UInt8.lt_iff_toNat_lt] at h1 h2
    have e : x = y := UInt8.toNat_inj.1 (by omega)
    subst e
    simp only [beq_self_eq_true, Bool.true_and] at h1 h2
    rw [less_tri (by simpa using hl) h1.2 h2.2]
theorem nat_inj {a b : List UInt8} (ha : natS a = true) (hb : natS b = true) (h : magL 0 a = magL 0 b) : a = b := by
  have h1 := less_num ha hb
  have h2 := less_num hb ha
  rw [decide_eq_false (by omega)] at h1 h2
  unfold lessB at h1 h2
  by_cases hl : a.length = b.length
  · rw [if_pos hl] at h1
    rw [if_pos hl.symm] at h2
    exact less_tri hl h1 h2
  · rw [if_neg hl] at h1
    rw [if_neg (fun e => hl e.symm)] at h2
    simp only [decide_eq_false_iff_not] at h1 h2
    omega
theorem itoa_natS {s : List UInt8} (h : natS s = true) : Lib.itoa (magL 0 s : Nat) = s := by
  obtain ⟨h1, h2⟩ := natS_itoa (n := ((magL 0 s : Nat) : Int)) (by omega)
  exact nat_inj h1 h (by rw [h2]; omega)
/-! ### the next number -/
/-- how many nines are at the end -/
def nines : List UInt8 → Nat
  | [] => 0
  | c :: r => if nines r = r.length ∧ c = 57 then r.length + 1 else nines r
theorem nines_le (s : List UInt8) : nines s ≤ s.length := by
  induction s with
  | nil => simp [nines]
  | cons c r ih =>
    simp only [nines]
    split
    · simp
    · simp; omega
theorem nines_9 {s : List UInt8} {k : Nat} (h1 : s.length - nines s ≤ k) (h2 : k < s.length) : s.getD k 0 = 57 := by
  induction s generalizing k with
  | nil => simp at h2
  | cons c r ih =>
    have hr := nines_le r
    simp only [nines] at h1
    split at h1
    · rename_i hc
      cases k with
      | zero => simpa using hc.2
      | succ k =>
        simp only [List.getD_cons_succ]
        exact ih (by omega) (by simpa using h2)
    · simp only [List.length_cons] at h1 h2
      cases k with
      | zero => omega
      | succ k =>
        simp only [List.getD_cons_succ]
        exact ih (by omega) (by omega)
theorem nines_no {s : List UInt8} (h : nines s < s.length) : s.getD (s.length - 1 - nines s) 0 ≠ 57 := by
  induction s with
  | nil => simp at h
  | cons c r ih =>
    have hr := nines_le r
    simp only [nines] at h ⊢
    split at h
    · simp at h
    · rename_i hc
      rw [if_neg hc]
      simp only [List.length_cons, Nat.add_sub_cancel]
      by_cases h9 : nines r = r.length
      · rw [h9, Nat.sub_self]
        simp only [List.getD_cons_zero]
        exact fun e => hc ⟨h9, e⟩
      · rw [show r.length - nines r = (r.length - 1 - nines r) + 1 by omega, List.getD_cons_succ]
        exact ih (by omega)
theorem nines_eq {s : List UInt8} {k : Nat} (hk : k ≤ s.length) (h9 : ∀ j, s.length - k ≤ j → j < s.length → s.getD j 0 = 57) (hn : k < s.length → s.getD (s.length - 1 - k) 0 ≠ 57) : nines s = k := by
  have hl := nines_le s
  rcases Nat.lt_trichotomy (nines s) k with h | h | h
  · exact absurd (h9 (s.length - 1 - nines s) (by omega) (by omega)) (nines_no (by omega))
  · exact h
  · exact absurd (nines_9 (s := s) (k := s.length - 1 - k) (by omega) (by omega)) (hn (by omega))
/-- the decimal form of the next number -/
def nextS (s : List UInt8) : List UInt8 := if nines s = s.length then 49 :: List.replicate s.length 48 else s.take (s.length - 1 - nines s) ++ [s.getD (s.length - 1 - nines s) 0 + 1] ++ List.replicate (nines s) 48
theorem mag_rep0 : ∀ (a n : Nat), magL a (List.replicate n 48) = a * 10 ^ n
  | a, 0 => by simp [magL_nil]
  | a, n + 1 => by
    rw [List.replicate_succ, magL_cons, mag_rep0]
    simp only [show (48 : UInt8).toNat - 48 = 0 from rfl, Nat.add_zero]
    rw [Nat.pow_succ, Nat.mul_assoc, Nat.mul_comm 10]
theorem mag_rep9 : ∀ (n : Nat), magL 0 (List.replicate n 57) + 1 = 10 ^ n
  | 0 => by simp [magL_nil]
  | n + 1 => by
    have := mag_rep9 n
    rw [List.replicate_succ, magL_cons, magL_lin, List.length_replicate, Nat.pow_succ]
    simp only [show (57 : UInt8).toNat - 48 = 9 from rfl]
    omega
theorem rep_of {s : List UInt8} {c : UInt8} (h : ∀ k, k < s.length → s.getD k 0 = c) : s = List.replicate s.length c := by
  refine List.ext_getElem (by simp) fun k h1 h2 => ?_
  have := h k h1
  rw [List.getD_eq_getElem?_getD, List.getElem?_eq_getElem h1] at this
  simpa using this
theorem next_num {s : List UInt8} (h : natS s = true) : natS (nextS s) = true ∧ magL 0 (nextS s) = magL 0 s + 1 := by
  obtain ⟨hne, hd⟩ := natS_dg h
  have hp : 0 < s.length := List.length_pos_iff.2 hne
  have hl := nines_le s
  unfold nextS
  by_cases h9 : nines s = s.length
  · rw [if_pos h9]
    have hs : s = List.replicate s.length 57 := rep_of fun k hk => nines_9 (by omega) hk
    constructor
    · have : (List.replicate s.length (48 : UInt8)).all digB = true := by
        rw [List.all_eq_true]
        intro x hx
        rw [List.eq_of_mem_replicate hx]; rfl
      simp only [natS, List.all_cons, this]
      rfl
    · have h1 := mag_rep9 s.length
      rw [← hs] at h1
      rw [magL_cons, mag_rep0, h1]
      simp only [show (49 : UInt8).toNat - 48 = 1 from rfl]
      omega
  · rw [if_neg h9]
    have hlt : s.length - 1 - nines s < s.length := by omega
    have hn := nines_no (s := s) (by omega)
    generalize hi : s.length - 1 - nines s = i at *
    have hc9 := dg_rng (hd (s.getD i 0) (by rw [List.getD_eq_getElem?_getD, List.getElem?_eq_getElem hlt]; exact List.getElem_mem _))
    have hc : (s.getD i 0).toNat < 57 := by
      rcases Nat.lt_or_ge (s.getD i 0).toNat 57 with h' | h'
      · exact h'
      · exact absurd (UInt8.toNat_inj.1 (show (s.getD i 0).toNat = (57 : UInt8).toNat by have : (57 : UInt8).toNat = 57 := rfl; omega)) hn
    have hc1 : (s.getD i 0 + 1).toNat = (s.getD i 0).toNat + 1 := by
      rw [UInt8.toNat_add]
      have : (1 : UInt8).toNat = 1 := rfl
      omega
    have hsplit : s = s.take i ++ s.getD i 0 :: List.replicate (nines s) 57 := by
      have e1 : s = s.take i ++ s.getD i 0 :: s.drop (i + 1) := by
        conv => lhs; rw [← List.take_append_drop i s, List.drop_eq_getElem_cons hlt]
        rw [List.getD_eq_getElem?_getD, List.getElem?_eq_getElem hlt]
        rfl
      have e2 : s.drop (i + 1) = List.replicate (nines s) 57 := by
        have : (s.drop (i + 1)).length = nines s := by rw [List.length_drop]; omega
        rw [← this]
        refine rep_of fun k hk => ?_
        rw [List.length_drop] at hk
        have h3 := nines_9 (s := s) (k := i + 1 + k) (by omega) (by omega)
        simpa [List.getD_eq_getElem?_getD] using h3
      rw [← e2]
      exact e1
    have hm : magL 0 (s.take i ++ [s.getD i 0 + 1] ++ List.replicate (nines s) 48) = magL 0 s + 1 := by
      have h1 := mag_rep9 (nines s)
      conv => rhs; rw [hsplit, magL_app, magL_cons, magL_lin, List.length_replicate]
      rw [magL_app, magL_app, magL_cons, magL_nil, mag_rep0, hc1]
      have : (magL 0 (s.take i) * 10 + ((s.getD i 0).toNat + 1 - 48)) = (magL 0 (s.take i) * 10 + ((s.getD i 0).toNat - 48)) + 1 := by omega
      rw [this, Nat.add_mul]
      omega
    refine ⟨?_, hm⟩
    have hall : (s.take i ++ [s.getD i 0 + 1] ++ List.replicate (nines s) 48).all digB = true := by
      rw [List.all_append, List.all_append, Bool.and_eq_true, Bool.and_eq_true]
      refine ⟨⟨?_, ?_⟩, ?_⟩
      · rw [List.all_eq_true]; exact fun x hx => hd x (List.mem_of_mem_take hx)
      · simp only [List.all_cons, List.all_nil, Bool.and_true, digB, hc1, Bool.and_eq_true, decide_eq_true_eq]; omega
      · rw [List.all_eq_true]
        intro x hx
        rw [List.eq_of_mem_replicate hx]; rfl
    have hfirst : ¬ (s.take i ++ [s.getD i 0 + 1] ++ List.replicate (nines s) 48).getD 0 0 = 48 := by
      by_cases h0 : i = 0
      · rw [h0]
        simp only [List.take_zero, List.nil_append, List.cons_append, List.getD_cons_zero]
        intro e
        have := congrArg UInt8.toNat e
        rw [h0] at hc1 hc9
        rw [hc1] at this
        have : (48 : UInt8).toNat = 48 := rfl
        omega
      · have e1 : (s.take i ++ [s.getD i 0 + 1] ++ List.replicate (nines s) 48).getD 0 0 = s.getD 0 0 := by
          rw [List.append_assoc, List.getD_eq_getElem?_getD, List.getElem?_append_left (by rw [List.length_take]; omega), List.getElem?_take, if_pos (by omega), List.getD_eq_getElem?_getD]
        rw [e1]
        intro e
        simp only [natS, Bool.and_eq_true, Bool.or_eq_true, Bool.not_eq_true', decide_eq_false_iff_not, decide_eq_true_eq] at h
        rcases h.2 with h3 | h3
        · exact h3 e
        · have := congrArg List.length h3
          simp at this
          omega
    have hemp : (s.take i ++ [s.getD i 0 + 1] ++ List.replicate (nines s) 48).isEmpty = false := by
      cases h : s.take i ++ [s.getD i 0 + 1] ++ List.replicate (nines s) 48 with
      | nil => simp at h
      | cons => rfl
    rw [natS, hemp, hall, decide_eq_false hfirst]
    rfl
end Go.Wo

/- Words: list expressions, read and written. -/
namespace Go.Wo
theorem join_splC (c : UInt8) (s : List UInt8) : Lib.join (splC c s) [c] = s := by
  induction s with
  | nil => simp [splC, Lib.join_one]
  | cons b r ih =>
    simp only [splC]
    split
    · rename_i e
      subst e
      obtain ⟨p, t, h⟩ := List.exists_cons_of_ne_nil (splC_ne b r)
      rw [h] at ih ⊢
      rw [Lib.join_cons] at ih ⊢
      rw [Lib.joinTail, List.map_cons, List.flatten_cons]
      rw [Lib.joinTail] at ih
      simp only [List.nil_append, List.cons_append] at ih ⊢
      rw [ih]
    · obtain ⟨p, t, h⟩ := List.exists_cons_of_ne_nil (splC_ne c r)
      rw [h] at ih ⊢
      simp only
      rw [Lib.join_cons] at ih ⊢
      rw [List.cons_append, ih]
theorem splC_join {c : UInt8} : ∀ {l : List (List UInt8)}, l ≠ [] → (∀ x ∈ l, c ∉ x) → splC c (Lib.join l [c]) = l
  | [], h, _ => absurd rfl h
  | [x], _, h => by rw [Lib.join_one, splC_no (h x (by simp))]
  | x :: y :: r, _, h => by
    have ih := splC_join (l := y :: r) (by simp) fun z hz => h z (by simp at hz ⊢; right; exact hz)
    have e : Lib.join (x :: y :: r) [c] = x ++ c :: Lib.join (y :: r) [c] := by
      rw [Lib.join_cons, Lib.join_cons, Lib.joinTail, List.map_cons, List.flatten_cons]
      rfl
    rw [e, splC_app, splC_no (h x (by simp)), ih]
    rfl
theorem tx_join : ∀ (o : List UInt8) (q : List (Int × Int)), o ≠ [] → tx o q = o ++ Lib.joinTail [44] (q.map rt)
  | o, [], _ => by simp [tx, Lib.joinTail]
  | o, p :: t, h => by
    unfold tx
    rw [if_neg h, tx_join _ t (by simp [h])]
    simp [Lib.joinTail]
theorem tx_nil_join (q : List (Int × Int)) (h : q ≠ []) : tx [] q = Lib.join (q.map rt) [44] := by
  obtain ⟨p, t, rfl⟩ := List.exists_cons_of_ne_nil h
  unfold tx
  rw [if_pos rfl, List.nil_append, List.nil_append, tx_join _ t (rt_ne p), List.map_cons, Lib.join_cons]
/-- a run's two ends -/
def rp (r : List UInt8) : Option (List UInt8 × List UInt8) := if Lat.idx 45 r < r.length then
    (if natS (r.take (Lat.idx 45 r)) && natS (r.drop (Lat.idx 45 r + 1)) && lessB (r.take (Lat.idx 45 r)) (r.drop (Lat.idx 45 r + 1)) then some (r.take (Lat.idx 45 r), r.drop (Lat.idx 45 r + 1)) else none)
  else if natS r then some (r, r) else none
/-- the runs behind one that ends so -/
def plR : List UInt8 → List (List UInt8) → Option (List (List UInt8 × List UInt8))
  | _, [] => some []
  | last, r :: t => match rp r with
    | none => none
    | some p => if last ≠ [] ∧ lessB (nextS last) p.1 = false then none else (plR p.2 t).map (p :: ·)
def rngI (p : Int × Int) : List Int := (List.range (p.2 - p.1 + 1).toNat).map fun k : Nat => p.1 + (k : Int)
def numP (p : List UInt8 × List UInt8) : Int × Int := ((magL 0 p.1 : Nat), (magL 0 p.2 : Nat))
def lastB (ps : List (List UInt8 × List UInt8)) : List UInt8 := (ps.getLastD ([], [])).2
/-- ParseList -/
def plS (s : List UInt8) : List Int × Int := if s = [45] then ([], 0) else match plR [] (splC 44 s) with
  | none => ([], 6)
  | some ps => if lessB (Lib.itoa 1000000000) (lastB ps) then ([], 7) else
    if 500 < ((ps.map numP).flatMap rngI).length then ([], 3) else ((ps.map numP).flatMap rngI, 0)
theorem rp_ok {r : List UInt8} {p : List UInt8 × List UInt8} (h : rp r = some p) : natS p.1 = true ∧ natS p.2 = true ∧ (numP p).1 ≤ (numP p).2 ∧ r = rt (numP p) := by
  unfold rp at h
  split at h
  · rename_i hi
    split at h
    · rename_i hc
      cases h
      simp only [Bool.and_eq_true] at hc
      obtain ⟨⟨h1, h2⟩, h3⟩ := hc
      rw [less_num h1 h2, decide_eq_true_eq] at h3
      refine ⟨h1, h2, by simp only [numP]; omega, ?_⟩
      simp only [numP, rt, itoa_natS h1, itoa_natS h2]
      rw [if_pos (by omega)]
      exact at_idx hi
    · cases h
  · split at h
    · rename_i hn
      cases h
      refine ⟨hn, hn, Int.le_refl _, ?_⟩
      simp only [numP, rt, itoa_natS hn, Int.lt_irrefl, if_false, List.append_nil]
    · cases h
/-- Runs of numbers: each has a number, there is one between two of them that is in none. -/
def Rs : List (Int × Int) → Prop
  | [] => True
  | [p] => p.1 ≤ p.2
  | p :: q :: t => p.1 ≤ p.2 ∧ p.2 + 1 < q.1 ∧ Rs (q :: t)
theorem rs_tail {p : Int × Int} {t : List (Int × Int)} (h : Rs (p :: t)) : p.1 ≤ p.2 ∧ Rs t := by
  cases t with
  | nil => exact ⟨h, trivial⟩
  | cons q t => exact ⟨h.1, h.2.2⟩
theorem rngI_cons {a b : Int} (h : a < b) : rngI (a, b) = a :: rngI (a + 1, b) := by
  unfold rngI
  have e : (b - a + 1).toNat = (b - (a + 1) + 1).toNat + 1 := by omega
  simp only
  rw [e, List.range_succ_eq_map, List.map_cons, List.map_map]
  congr 1
  · simp
  · refine List.map_congr_left fun k _ => ?_
    simp only [Function.comp]
    omega
theorem rngI_one (a : Int) : rngI (a, a) = [a] := by
  unfold rngI
  simp [List.range_succ]
theorem rngI_len (p : Int × Int) : (rngI p).length = (p.2 - p.1 + 1).toNat := by simp [rngI]
theorem runs_rng {b : Int} {t : List (Int × Int)} {r : List Int} (hr : runs r = t) (hg : ∀ p, t.head? = some p → b + 1 < p.1) : ∀ (m : Nat) (a : Int), b - a = m → runs (rngI (a, b) ++ r) = (a, b) :: t
  | 0, a, h => by
    have : a = b := by omega
    subst this
    rw [rngI_one, List.singleton_append, runs, hr]
    cases t with
    | nil => rfl
    | cons p t =>
      have := hg p rfl
      simp only
      rw [if_neg (by omega)]
  | m + 1, a, h => by
    rw [rngI_cons (by omega), List.cons_append, runs, runs_rng hr hg m (a + 1) (by omega)]
    simp
theorem runs_of : ∀ {q : List (Int × Int)}, Rs q → runs (q.flatMap rngI) = q
  | [], _ => rfl
  | p :: t, h => by
    obtain ⟨h1, h2⟩ := rs_tail h
    rw [List.flatMap_cons]
    obtain ⟨a, b⟩ := p
    refine runs_rng (runs_of h2) (fun x hx => ?_) (b - a).toNat a (by simp only at h1; omega)
    cases t with
    | nil => cases hx
    | cons y t =>
      simp only [List.head?_cons, Option.some.injEq] at hx
      subst hx
      exact h.2.1
/-- ascending lists -/
theorem asc_iff : ∀ {l : List Int}, ascB l = true ↔ ∀ k, k + 1 < l.length → l.getD k 0 < l.getD (k + 1) 0
  | [] => by simp [ascB]
  | [a] => by simp [ascB]
  | a :: b :: r => by
    simp only [ascB, Bool.and_eq_true, decide_eq_true_eq, asc_iff (l := b :: r)]
    constructor
    · rintro ⟨h1, h2⟩ k hk
      cases k with
      | zero => simpa using h1
      | succ k => simpa using h2 k (by simpa using hk)
    · intro h
      refine ⟨by simpa using h 0 (by simp), fun k hk => ?_⟩
      have := h (k + 1) (by simpa using hk)
      simpa using this
theorem asc_rng {r : List Int} (hr : ascB r = true) : ∀ (m : Nat) (a b : Int), b - a = m → (∀ x, r.head? = some x → b < x) → ascB (rngI (a, b) ++ r) = true
  | 0, a, b, h, hg => by
    have : a = b := by omega
    subst this
    rw [rngI_one, List.singleton_append]
    cases r with
    | nil => rfl
    | cons x r =>
      simp only [ascB, Bool.and_eq_true, decide_eq_true_eq]
      exact ⟨hg x rfl, hr⟩
  | m + 1, a, b, h, hg => by
    rw [rngI_cons (by omega), List.cons_append]
    have ih := asc_rng hr m (a + 1) b (by omega) hg
    by_cases h1 : a + 1 = b
    · subst h1
      rw [rngI_one] at ih ⊢
      rw [List.singleton_append] at ih ⊢
      simp only [ascB, Bool.and_eq_true, decide_eq_true_eq]
      exact ⟨by omega, ih⟩
    · rw [rngI_cons (by omega)] at ih ⊢
      rw [List.cons_append] at ih ⊢
      simp only [ascB, Bool.and_eq_true, decide_eq_true_eq]
      exact ⟨by omega, ih⟩
theorem rng_head {p : Int × Int} (h : p.1 ≤ p.2) (r : List Int) : (rngI p ++ r).head? = some p.1 := by
  obtain ⟨a, b⟩ := p
  simp only at h
  by_cases e : a = b
  · subst e; rw [rngI_one]; rfl
  · rw [rngI_cons (by omega)]; rfl
theorem asc_of : ∀ {q : List (Int × Int)}, Rs q → ascB (q.flatMap rngI) = true
  | [], _ => rfl
  | p :: t, h => by
    obtain ⟨h1, h2⟩ := rs_tail h
    rw [List.flatMap_cons]
    obtain ⟨a, b⟩ := p
    refine asc_rng (asc_of h2) (b - a).toNat a b (by simp only at h1; omega) fun x hx => ?_
    cases t with
    | nil => cases hx
    | cons y t =>
      rw [List.flatMap_cons, rng_head (rs_tail h2).1] at hx
      cases hx
      have := h.2.1
      simp only at this
      omega
theorem mem_rng {p : Int × Int} {x : Int} : x ∈ rngI p ↔ p.1 ≤ x ∧ x ≤ p.2 := by
  simp only [rngI, List.mem_map, List.mem_range]
  constructor
  · rintro ⟨k, hk, rfl⟩; omega
  · intro h
    exact ⟨(x - p.1).toNat, by omega, by omega⟩
theorem rs_le : ∀ {q : List (Int × Int)}, Rs q → ∀ p ∈ q, p.1 ≤ p.2 ∧ p.2 ≤ (q.getLastD (0, 0)).2 ∧ (q.headD (0, 0)).1 ≤ p.1
  | [], _, p, hp => by cases hp
  | [a], h, p, hp => by
    simp only [List.mem_singleton] at hp
    subst hp
    exact ⟨h, by simp, by simp⟩
  | a :: b :: t, h, p, hp => by
    have hb := rs_le h.2.2 b (by simp)
    have hl : ((a :: b :: t).getLastD (0, 0)).2 = ((b :: t).getLastD (0, 0)).2 := by simp [List.getLastD]
    rw [hl]
    rcases List.mem_cons.1 hp with rfl | hp
    · refine ⟨h.1, ?_, by simp⟩
      have := h.2.1
      omega
    · obtain ⟨h1, h2, h3⟩ := rs_le h.2.2 p hp
      refine ⟨h1, h2, ?_⟩
      simp only [List.headD_cons] at h3 ⊢
      have := h.1
      have := h.2.1
      omega
/-- What is read are runs. -/
theorem plR_ok : ∀ {rs : List (List UInt8)} {last : List UInt8} {ps : List (List UInt8 × List UInt8)}, plR last rs = some ps → (last ≠ [] → natS last = true) → ps.length = rs.length ∧ (∀ p ∈ ps, natS p.1 = true ∧ natS p.2 = true) ∧ Rs (ps.map numP) ∧ rs = (ps.map numP).map rt ∧
    ∀ p, ps.head? = some p → last ≠ [] → (magL 0 last : Int) + 1 < (numP p).1
  | [], last, ps, h, _ => by
    simp only [plR, Option.some.injEq] at h
    subst h
    exact ⟨rfl, by simp, trivial, rfl, fun p hp => by cases hp⟩
  | r :: t, last, ps, h, hlast => by
    simp only [plR] at h
    cases hr : rp r with
    | none => rw [hr] at h; cases h
    | some p =>
      rw [hr] at h
      simp only at h
      split at h
      · cases h
      · rename_i hc
        simp only [Option.map_eq_some_iff] at h
        obtain ⟨ps', h1, rfl⟩ := h
        obtain ⟨n1, n2, hle, hrt⟩ := rp_ok hr
        obtain ⟨l1, l2, l3, l4, l5⟩ := plR_ok h1 fun _ => n2
        have hp2 : p.2 ≠ [] := (natS_dg n2).1
        refine ⟨by simp [l1], fun x hx => ?_, ?_, ?_, fun x hx hl => ?_⟩
        · rcases List.mem_cons.1 hx with rfl | hx
          · exact ⟨n1, n2⟩
          · exact l2 x hx
        · cases ps' with
          | nil => exact hle
          | cons y ps' => exact ⟨hle, l5 y rfl hp2, l3⟩
        · simp only [List.map_cons]
          rw [← hrt, ← l4]
        · simp only [List.head?_cons, Option.some.injEq] at hx
          subst hx
          have hn := next_num (hlast hl)
          have : lessB (nextS last) p.1 = true := by
            cases h : lessB (nextS last) p.1 with
            | true => rfl
            | false => exact absurd ⟨hl, h⟩ hc
          rw [less_num hn.1 n1, decide_eq_true_eq, hn.2] at this
          simp only [numP]
          omega
theorem last_num {ps : List (List UInt8 × List UInt8)} (h : ps ≠ []) : ((ps.map numP).getLastD (0, 0)).2 = (magL 0 (lastB ps) : Nat) := by
  obtain ⟨l, p, rfl⟩ : ∃ l p, ps = l ++ [p] := ⟨ps.dropLast, ps.getLast h, (List.dropLast_concat_getLast h).symm⟩
  simp only [List.map_append, List.map_cons, List.map_nil, List.getLastD_concat, lastB, numP]
theorem last_nat {ps : List (List UInt8 × List UInt8)} (h : ps ≠ []) (hn : ∀ p ∈ ps, natS p.1 = true ∧ natS p.2 = true) : natS (lastB ps) = true := by
  obtain ⟨l, p, rfl⟩ : ∃ l p, ps = l ++ [p] := ⟨ps.dropLast, ps.getLast h, (List.dropLast_concat_getLast h).symm⟩
  have := (hn p (by simp)).2
  simpa only [lastB, List.getLastD_concat] using this
end Go.Wo

/- Words: reading what was written, and writing what was read. -/
namespace Go.Wo
theorem flat_ne {q : List (Int × Int)} (h : Rs q) (hq : q ≠ []) : q.flatMap rngI ≠ [] := by
  obtain ⟨p, t, rfl⟩ := List.exists_cons_of_ne_nil hq
  intro e
  rw [List.flatMap_cons] at e
  have := rng_head (rs_tail h).1 (t.flatMap rngI)
  rw [e] at this
  cases this
/-- What is written of what was read is the text. -/
theorem list_parse {s : List UInt8} {l : List Int} (h : plS s = (l, 0)) : listS l = (s, 0) := by
  unfold plS at h
  by_cases h45 : s = [45]
  · rw [if_pos h45] at h
    cases h
    rw [h45]
    rfl
  · rw [if_neg h45] at h
    cases hp : plR [] (splC 44 s) with
    | none => rw [hp] at h; cases h
    | some ps =>
      rw [hp] at h
      simp only at h
      split at h
      · cases h
      · rename_i hlast
        split at h
        · cases h
        · rename_i h500
          cases h
          obtain ⟨l1, l2, l3, l4, _⟩ := plR_ok hp fun h => absurd rfl h
          have hps : ps ≠ [] := fun e => by
            rw [e] at l1
            exact splC_ne 44 s (List.length_eq_zero_iff.1 l1.symm)
          have hq : ps.map numP ≠ [] := by simpa using hps
          have hne := flat_ne l3 hq
          have hmax : ((ps.map numP).getLastD (0, 0)).2 ≤ 1000000000 := by
            rw [last_num hps]
            have hb := natS_itoa (n := 1000000000) (by omega)
            rw [less_num hb.1 (last_nat hps l2), hb.2, decide_eq_true_eq] at hlast
            omega
          have hout : outB ((ps.map numP).flatMap rngI) = false := by
            rw [outB, List.any_eq_false]
            intro x hx
            obtain ⟨p, hp1, hp2⟩ := List.mem_flatMap.1 hx
            have h3 := rs_le l3 p hp1
            have h4 := mem_rng.1 hp2
            obtain ⟨y, _, rfl⟩ := List.mem_map.1 hp1
            simp only [numP] at h3 h4
            simp only [Bool.or_eq_true, decide_eq_true_eq]
            omega
          rw [listS, if_neg h500, hout, if_neg (by decide), asc_of l3, if_pos rfl, if_neg hne, runs_of l3, tx_nil_join _ hq, ← l4, join_splC]
theorem runs_Rs : ∀ {l : List Int}, ascB l = true → Rs (runs l) ∧ (runs l).flatMap rngI = l ∧ ((runs l).head?.map (·.1)) = l.head?
  | [], _ => ⟨trivial, rfl, rfl⟩
  | x :: r, h => by
    have hr : ascB r = true := by
      cases r with
      | nil => rfl
      | cons y r => simp only [ascB, Bool.and_eq_true] at h; exact h.2
    obtain ⟨h1, h2, h3⟩ := runs_Rs hr
    simp only [runs]
    cases hq : runs r with
    | nil =>
      rw [hq] at h2
      simp only
      rw [← h2]
      refine ⟨Int.le_refl _, ?_, rfl⟩
      rw [List.flatMap_cons, rngI_one]
      rfl
    | cons p t =>
      rw [hq] at h1 h2 h3
      obtain ⟨hp1, hp2⟩ := rs_tail h1
      cases r with
      | nil => cases h3
      | cons y r =>
        simp only [List.head?_cons, Option.map_some, Option.some.injEq] at h3
        simp only [ascB, Bool.and_eq_true, decide_eq_true_eq] at h
        have hxy := h.1
        obtain ⟨a, b⟩ := p
        simp only at h3 hp1
        simp only
        by_cases e : a = x + 1
        · rw [if_pos e]
          refine ⟨?_, ?_, rfl⟩
          · cases t with
            | nil => show x ≤ b; omega
            | cons z t => exact ⟨by simp only; omega, h1.2.1, h1.2.2⟩
          · rw [List.flatMap_cons, rngI_cons (by omega), ← e, List.cons_append, ← List.flatMap_cons, h2]
        · rw [if_neg e]
          refine ⟨⟨Int.le_refl _, by simp only; omega, h1⟩, ?_, rfl⟩
          rw [List.flatMap_cons, rngI_one, h2]
          rfl
theorem dg_no {s : List UInt8} {c : UInt8} (h : DG s) (hc : digB c = false) : c ∉ s := fun hm => by
  rw [h c hm] at hc; cases hc
theorem rt_no {p : Int × Int} (h1 : 0 ≤ p.1) (h2 : p.1 ≤ p.2) : (44 : UInt8) ∉ rt p := by
  have a := (natS_dg (natS_itoa h1).1).2
  have b := (natS_dg (natS_itoa (n := p.2) (by omega)).1).2
  unfold rt
  intro hm
  rcases List.mem_append.1 hm with hm | hm
  · exact dg_no a (by decide) hm
  · split at hm
    · rcases List.mem_cons.1 hm with hm | hm
      · exact absurd hm (by decide)
      · exact dg_no b (by decide) hm
    · cases hm
theorem idx_app {c : UInt8} {a b : List UInt8} (h : c ∉ a) : Lat.idx c (a ++ c :: b) = a.length := by
  refine Lat.idx_eq (by simp) (by simp [List.getD_eq_getElem?_getD]) fun k hk e => h ?_
  rw [List.getD_eq_getElem?_getD, List.getElem?_append_left hk, List.getElem?_eq_getElem hk] at e
  rw [← e]
  exact List.getElem_mem _
theorem idx_none {c : UInt8} {a : List UInt8} (h : c ∉ a) : Lat.idx c a = a.length :=
  Lat.idx_len fun k hk e => h (by
    rw [List.getD_eq_getElem?_getD, List.getElem?_eq_getElem hk] at e
    rw [← e]
    exact List.getElem_mem _)
theorem rp_rt {p : Int × Int} (h1 : 0 ≤ p.1) (h2 : p.1 ≤ p.2) : rp (rt p) = some (Lib.itoa p.1, Lib.itoa p.2) := by
  have a := natS_itoa h1
  have b := natS_itoa (n := p.2) (by omega)
  have na : (45 : UInt8) ∉ Lib.itoa p.1 := dg_no (natS_dg a.1).2 (by decide)
  unfold rp rt
  by_cases h : p.1 < p.2
  · rw [if_pos h]
    have hi := idx_app (b := Lib.itoa p.2) na
    rw [hi, if_pos (by simp)]
    have e1 : (Lib.itoa p.1 ++ 45 :: Lib.itoa p.2).take (Lib.itoa p.1).length = Lib.itoa p.1 := by simp
    have e2 : (Lib.itoa p.1 ++ 45 :: Lib.itoa p.2).drop ((Lib.itoa p.1).length + 1) = Lib.itoa p.2 := by
      rw [← List.drop_drop]
      simp
    rw [e1, e2, a.1, b.1, less_num a.1 b.1, a.2, b.2, decide_eq_true (by omega)]
    rfl
  · have e : p.1 = p.2 := by omega
    rw [if_neg h, List.append_nil, idx_none na, if_neg (by omega), a.1, if_pos rfl, ← e]
def txtP (p : Int × Int) : List UInt8 × List UInt8 := (Lib.itoa p.1, Lib.itoa p.2)
theorem plR_rt : ∀ {q : List (Int × Int)} {last : List UInt8}, Rs q → (∀ p ∈ q, 0 ≤ p.1) → (last ≠ [] → natS last = true ∧ ∀ p, q.head? = some p → (magL 0 last : Int) + 1 < p.1) → plR last (q.map rt) = some (q.map txtP)
  | [], _, _, _, _ => rfl
  | p :: t, last, h, h0, hl => by
    obtain ⟨h1, h2⟩ := rs_tail h
    have hp0 := h0 p (by simp)
    have b := natS_itoa (n := p.2) (by omega)
    have a := natS_itoa hp0
    have ih := plR_rt (last := Lib.itoa p.2) h2 (fun x hx => h0 x (by simp [hx])) fun _ => ⟨b.1, fun x hx => by
      rw [b.2]
      cases t with
      | nil => cases hx
      | cons y t =>
        simp only [List.head?_cons, Option.some.injEq] at hx
        subst hx
        have := h.2.1
        omega⟩
    rw [List.map_cons, plR, rp_rt hp0 h1]
    simp only
    rw [if_neg, ih]
    · rfl
    · rintro ⟨h3, h4⟩
      obtain ⟨n1, n2⟩ := hl h3
      have hn := next_num n1
      rw [less_num hn.1 a.1, hn.2, a.2, decide_eq_false_iff_not] at h4
      have := n2 p rfl
      omega
theorem numP_txt {p : Int × Int} (h1 : 0 ≤ p.1) (h2 : p.1 ≤ p.2) : numP (txtP p) = p := by
  have a := natS_itoa h1
  have b := natS_itoa (n := p.2) (by omega)
  simp only [numP, txtP, a.2, b.2]
  obtain ⟨x, y⟩ := p
  simp only at *
  congr 1 <;> omega
theorem outB_mem {l : List Int} (h : outB l = false) {x : Int} (hx : x ∈ l) : 0 ≤ x ∧ x ≤ 1000000000 := by
  have := List.any_eq_false.1 h x hx
  simp only [Bool.or_eq_true, decide_eq_true_eq] at this
  omega
/-- What is read of what was written is the list. -/
theorem parse_list {l : List Int} {t : List UInt8} (h : listS l = (t, 0)) : plS t = (l, 0) := by
  unfold listS at h
  split at h
  · cases h
  rename_i h500
  split at h
  · cases h
  rename_i hout
  have hout : outB l = false := by simpa using hout
  split at h
  · rename_i hasc
    split at h
    · rename_i hl
      cases h
      rw [hl]
      rfl
    · rename_i hl
      cases h
      obtain ⟨r1, r2, r3⟩ := runs_Rs hasc
      have hq : runs l ≠ [] := fun e => by rw [e] at r2; exact hl r2.symm
      have hmem : ∀ p ∈ runs l, 0 ≤ p.1 ∧ p.1 ≤ p.2 ∧ p.2 ≤ 1000000000 := fun p hp => by
        have hle := (rs_le r1 p hp).1
        have e1 : p.1 ∈ l := by rw [← r2]; exact List.mem_flatMap.2 ⟨p, hp, mem_rng.2 ⟨Int.le_refl _, hle⟩⟩
        have e2 : p.2 ∈ l := by rw [← r2]; exact List.mem_flatMap.2 ⟨p, hp, mem_rng.2 ⟨hle, Int.le_refl _⟩⟩
        have := outB_mem hout e1
        have := outB_mem hout e2
        omega
      have hsp : splC 44 (tx [] (runs l)) = (runs l).map rt := by
        rw [tx_nil_join _ hq]
        refine splC_join (by simpa using hq) fun x hx => ?_
        obtain ⟨p, hp, rfl⟩ := List.mem_map.1 hx
        have := hmem p hp
        exact rt_no this.1 this.2.1
      have h45 : tx [] (runs l) ≠ [45] := fun e => by
        rw [e] at hsp
        obtain ⟨p, q, hpq⟩ := List.exists_cons_of_ne_nil hq
        have hp := hmem p (by rw [hpq]; simp)
        rw [hpq, List.map_cons] at hsp
        have h1 : rt p = [45] := by
          have : splC 44 [45] = [[45]] := rfl
          rw [this] at hsp
          injection hsp with h1 _
          exact h1.symm
        have h2 := rp_rt hp.1 hp.2.1
        rw [h1] at h2
        cases h2
      have hpl := plR_rt (last := []) r1 (fun p hp => (hmem p hp).1) fun h => absurd rfl h
      have hnum : ((runs l).map txtP).map numP = runs l := by
        rw [List.map_map]
        conv => rhs; rw [← List.map_id (runs l)]
        refine List.map_congr_left fun p hp => ?_
        have := hmem p hp
        exact numP_txt this.1 this.2.1
      have hps : (runs l).map txtP ≠ [] := by simpa using hq
      unfold plS
      rw [if_neg h45, hsp, hpl]
      simp only
      rw [hnum, r2, if_neg, if_neg h500]
      have hb := natS_itoa (n := 1000000000) (by omega)
      have hn : ∀ p ∈ (runs l).map txtP, natS p.1 = true ∧ natS p.2 = true := fun p hp => by
        obtain ⟨x, hx, rfl⟩ := List.mem_map.1 hp
        have := hmem x hx
        exact ⟨(natS_itoa this.1).1, (natS_itoa (by omega)).1⟩
      rw [less_num hb.1 (last_nat hps hn), hb.2, decide_eq_true_eq]
      have hl2 := last_num hps
      rw [hnum] at hl2
      obtain ⟨q, p, e⟩ : ∃ q p, runs l = q ++ [p] := ⟨(runs l).dropLast, (runs l).getLast hq, (List.dropLast_concat_getLast hq).symm⟩
      have := hmem p (by rw [e]; simp)
      rw [e, List.getLastD_concat] at hl2
      rw [e]
      omega
  · cases h
/-! ### Split and Join -/
theorem fld_take {s : List UInt8} {f : Fd} {n : Nat} (h : fld s = some (f, n)) : s.take n = fT f ∧ badF f = false := by
  unfold fld at h
  split at h
  · rename_i hu
    injection h with h
    injection h with h1 h2
    subst h1 h2
    have := (unqS_inv (s := s) (t := (unqS s).1) (n := (unqS s).2) rfl (by omega)).2
    exact ⟨by rw [this, fT, if_pos rfl], rfl⟩
  · split at h
    · rename_i hb
      injection h with h
      injection h with h1 h2
      subst h1 h2
      exact ⟨by rw [fT, if_neg (by simp)], by simp only [badF, hb]; rfl⟩
    · cases h
theorem spl_join : ∀ {F : Nat} {s : List UInt8} {l : List Fd}, spl F s = some l → l ≠ [] ∧ Lib.join (l.map fT) [32] = s ∧ l.any badF = false
  | 0, s, l, h => by simp [spl] at h
  | F + 1, s, l, h => by
    simp only [spl] at h
    cases hf : fld s with
    | none => rw [hf] at h; cases h
    | some fn =>
      obtain ⟨f, n⟩ := fn
      rw [hf] at h
      simp only at h
      obtain ⟨h1, h2⟩ := fld_take hf
      split at h
      · rename_i hd
        cases h
        refine ⟨by simp, ?_, by simp [h2]⟩
        rw [List.map_singleton, Lib.join_one, ← h1]
        conv => rhs; rw [← List.take_append_drop n s, hd, List.append_nil]
      · rename_i hd
        split at h
        · rename_i h32
          simp only [Option.map_eq_some_iff] at h
          obtain ⟨l', h3, rfl⟩ := h
          obtain ⟨k1, k2, k3⟩ := spl_join h3
          obtain ⟨g, t, rfl⟩ := List.exists_cons_of_ne_nil k1
          have hn : n < s.length := by
            rcases Nat.lt_or_ge n s.length with h' | h'
            · exact h'
            · exact absurd (List.drop_of_length_le h') hd
          refine ⟨by simp, ?_, by rw [List.any_cons, h2, k3]; rfl⟩
          have e : Lib.join ((f :: g :: t).map fT) [32] = fT f ++ 32 :: Lib.join ((g :: t).map fT) [32] := by
            simp only [List.map_cons]
            rw [Lib.join_cons, Lib.join_cons, Lib.joinTail, List.map_cons, List.flatten_cons]
            rfl
          rw [e, k2, ← h1]
          conv => rhs; rw [← List.take_append_drop n s, List.drop_eq_getElem_cons hn]
          rw [List.getD_eq_getElem?_getD, List.getElem?_eq_getElem hn] at h32
          simp only [Option.getD_some] at h32
          rw [h32]
        · cases h
/-- Join of what was split is the line. -/
theorem join_split {s : List UInt8} {l : List Fd} (h : splitS s = (l, 0)) : joinS l = (s, 0) := by
  unfold splitS at h
  split at h
  · cases h
  rename_i h8
  split at h
  · rename_i h0
    cases h
    rw [h0]
    rfl
  rename_i h0
  cases hs : spl (s.length + 1) s with
  | none => rw [hs] at h; cases h
  | some l' =>
    rw [hs] at h
    simp only at h
    split at h
    · cases h
    · rename_i hc
      cases h
      simp only [Bool.or_eq_true, decide_eq_true_eq, not_or] at hc
      obtain ⟨k1, k2, k3⟩ := spl_join hs
      have ok := (join_ok l).2 ⟨hc.2, by simpa using hc.1, k3, by rw [k2]; exact h8⟩
      exact Prod.ext ((join_ok' ok).trans k2) ok
theorem bare_mem {u : List UInt8} (h : bareB u = true) {c : UInt8} (hc : c ∈ u) : plainB c = true ∧ c ≠ 32 := by
  unfold bareB at h
  simp only [Bool.and_eq_true, List.all_eq_true] at h
  have := h.2 c hc
  simp only [Bool.and_eq_true, Bool.not_eq_true', decide_eq_false_iff_not] at this
  exact this
theorem fld_fT {f : Fd} (hb : badF f = false) (r : List UInt8) (hr : r = [] ∨ r.getD 0 0 = 32) : fld (fT f ++ r) = some (f, (fT f).length) := by
  obtain ⟨u, q⟩ := f
  cases q with
  | true =>
    have e : fT (u, true) = quoteS u := by rw [fT, if_pos rfl]
    have h := unqS_quote u r
    have hl := quoteS_len u
    rw [e, fld, h]
    rw [if_pos (by simp only; omega)]
  | false =>
    have e : fT (u, false) = u := by rw [fT, if_neg (by simp)]
    have hbu : bareB u = true := by
      cases h : bareB u with
      | true => rfl
      | false => simp only [badF, h] at hb; cases hb
    have hp := bare_len hbu
    obtain ⟨c, t, rfl⟩ : ∃ c t, u = c :: t := by
      cases u with
      | nil => simp at hp
      | cons c t => exact ⟨c, t, rfl⟩
    have hc := bare_mem hbu (c := c) (by simp)
    have h34 : ¬ (c :: t ++ r).getD 0 0 = 34 := fun h => (plain_ne hc.1).2 (by simpa using h)
    have h32 : (32 : UInt8) ∉ (c :: t) := fun hm => (bare_mem hbu hm).2 rfl
    have hi : Lat.idx 32 (c :: t ++ r) = (c :: t).length := by
      rcases hr with rfl | hr
      · rw [List.append_nil]; exact idx_none h32
      · cases r with
        | nil => simp at hr
        | cons x r =>
          simp only [List.getD_cons_zero] at hr
          rw [hr]
          exact idx_app h32
    rw [e, fld, unqS_no h34]
    simp only [Nat.lt_irrefl, if_false]
    rw [hi, List.take_left', if_pos hbu]
    rfl
theorem fT_pos {f : Fd} (hb : badF f = false) : 0 < (fT f).length := (fld_le (fld_fT hb [] (.inl rfl))).1
theorem spl_fT : ∀ {l : List Fd} {F : Nat}, l ≠ [] → l.any badF = false → (Lib.join (l.map fT) [32]).length < F → spl F (Lib.join (l.map fT) [32]) = some l
  | [], _, h, _, _ => absurd rfl h
  | f :: t, 0, _, _, h => by omega
  | [f], F + 1, _, hb, _ => by
    simp only [List.any_cons, List.any_nil, Bool.or_false] at hb
    have h := fld_fT hb [] (.inl rfl)
    rw [List.append_nil] at h
    rw [List.map_singleton, Lib.join_one, spl, h]
    simp
  | f :: g :: t, F + 1, _, hb, hF => by
    rw [List.any_cons, Bool.or_eq_false_iff] at hb
    have e : Lib.join ((f :: g :: t).map fT) [32] = fT f ++ 32 :: Lib.join ((g :: t).map fT) [32] := by
      simp only [List.map_cons]
      rw [Lib.join_cons, Lib.join_cons, Lib.joinTail, List.map_cons, List.flatten_cons]
      rfl
    rw [e] at hF ⊢
    have hp := fT_pos hb.1
    rw [List.length_append, List.length_cons] at hF
    have ih := spl_fT (l := g :: t) (F := F) (by simp) hb.2 (by omega)
    rw [spl, fld_fT hb.1 _ (.inr rfl)]
    simp only
    have hd : (fT f ++ 32 :: Lib.join ((g :: t).map fT) [32]).drop (fT f).length = 32 :: Lib.join ((g :: t).map fT) [32] := by simp
    have hd1 : (fT f ++ 32 :: Lib.join ((g :: t).map fT) [32]).drop ((fT f).length + 1) = Lib.join ((g :: t).map fT) [32] := by
      rw [← List.drop_drop, hd]; rfl
    have hg : (fT f ++ 32 :: Lib.join ((g :: t).map fT) [32]).getD (fT f).length 0 = 32 := by simp [List.getD_eq_getElem?_getD]
    rw [hd, if_neg (by simp), hg, if_pos rfl, hd1, ih]
    rfl
/-- Split of what was joined are the fields. -/
theorem split_join {l : List Fd} {t : List UInt8} (h : joinS l = (t, 0)) : splitS t = (l, 0) := by
  have h0 : (joinS l).2 = 0 := by rw [h]
  obtain ⟨h1, h2, h3, h4⟩ := (join_ok l).1 h0
  have ht : t = Lib.join (l.map fT) [32] := by rw [← join_ok' h0, h]
  subst ht
  by_cases hl : l = []
  · subst hl; rfl
  · have hs := spl_fT (F := (Lib.join (l.map fT) [32]).length + 1) hl h3 (by omega)
    have hne : Lib.join (l.map fT) [32] ≠ [] := fun e => by
      rw [e] at hs
      simp only [spl, fld, unqS] at hs
      cases hs
    rw [splitS, if_neg h4, if_neg hne, hs]
    simp only
    rw [if_neg]
    simp only [h2, Bool.false_or, decide_eq_true_eq]
    omega
/-! ### Quote and Unquote, Int and Digits -/
theorem unq_quote (s : List UInt8) : unqV (quoteS s) = (s, 0) := by
  have h := unqS_quote s []
  rw [List.append_nil] at h
  have := quoteS_len s
  rw [unqV, h]
  simp only
  rw [if_neg (by omega)]
theorem quote_unq {s v : List UInt8} (h : unqV s = (v, 0)) : quoteS v = s := by
  unfold unqV at h
  split at h
  · cases h
  · rename_i hc
    cases h
    have hle := (@unqS_le s).1
    have := (unqS_inv (s := s) (t := (unqS s).1) (n := (unqS s).2) rfl (by omega)).2
    rw [List.take_of_length_le (by omega)] at this
    exact this.symm
theorem natS_dec {s : List UInt8} (h : natS s = true) : s.getD 0 0 ≠ 45 ∧ mg s = s ∧ decS s = true := by
  obtain ⟨hne, hd⟩ := natS_dg h
  have h45 : s.getD 0 0 ≠ 45 := fun e => by
    cases s with
    | nil => simp at e
    | cons c r =>
      simp only [List.getD_cons_zero] at e
      have := hd c (by simp)
      rw [e] at this
      cases this
  have hm : mg s = s := by rw [mg, if_neg h45]
  exact ⟨h45, hm, by rw [decS, hm]; exact h⟩
theorem int_itoa (n : Int) (h : -9223372036854775808 ≤ n ∧ n ≤ 9223372036854775807) : intS (Lib.itoa n) n n = (n, 0) := by
  have key : decS (Lib.itoa n) = true ∧ valS (Lib.itoa n) = n := by
    rcases Int.lt_or_le n 0 with h0 | h0
    · have a := natS_itoa (n := -n) (by omega)
      obtain ⟨hne, hd⟩ := natS_dg a.1
      have e := itoa_neg h0
      have hm : mg (Lib.itoa n) = Lib.itoa (-n) := by
        rw [e]
        unfold mg
        rw [if_pos (show (45 :: Lib.itoa (-n)).getD 0 0 = 45 from rfl)]
        rfl
      have hf : ¬ (Lib.itoa (-n)).getD 0 0 = 48 := fun h48 => by
        have h1 := a.1
        simp only [natS, Bool.and_eq_true, Bool.or_eq_true, Bool.not_eq_true', decide_eq_false_iff_not, decide_eq_true_eq] at h1
        rcases h1.2 with h2 | h2
        · exact h2 h48
        · have := a.2
          rw [h2] at this
          have h3 : magL 0 [48] = 0 := rfl
          omega
      constructor
      · have h1 := a.1
        simp only [natS, Bool.and_eq_true] at h1
        rw [decS, hm, h1.1.1, h1.1.2, decide_eq_false hf]
        rfl
      · rw [valS, if_pos (by rw [e]; rfl), hm, a.2]
        omega
    · have a := natS_itoa h0
      obtain ⟨h45, hm, hd⟩ := natS_dec a.1
      exact ⟨hd, by rw [valS, if_neg h45, hm, a.2]; omega⟩
  rw [intS, if_neg (by rw [key.1]; decide), key.2, if_neg (by omega)]
theorem itoa_int {s : List UInt8} {lo hi k : Int} (h : intS s lo hi = (k, 0)) : Lib.itoa k = s := by
  unfold intS at h
  split at h
  · cases h
  rename_i hd
  have hd : decS s = true := by simpa using hd
  split at h
  · cases h
  cases h
  have hd2 := hd
  simp only [decS, Bool.and_eq_true, Bool.or_eq_true, Bool.not_eq_true', decide_eq_false_iff_not, decide_eq_true_eq] at hd2
  by_cases h45 : s.getD 0 0 = 45
  · have hm : mg s = s.drop 1 := by rw [mg, if_pos h45]
    have hs : s = 45 :: mg s := by
      cases s with
      | nil => simp at h45
      | cons c r =>
        simp only [List.getD_cons_zero] at h45
        rw [hm, h45]
        rfl
    have hf : ¬ (mg s).getD 0 0 = 48 := by
      rcases hd2.2 with h1 | h1
      · exact h1
      · rw [h1] at h45
        exact absurd h45 (by decide)
    have hn : natS (mg s) = true := by
      simp only [natS, Bool.and_eq_true, Bool.or_eq_true, Bool.not_eq_true', decide_eq_false_iff_not, decide_eq_true_eq]
      exact ⟨⟨hd2.1.1, hd2.1.2⟩, .inl hf⟩
    have hpos : 0 < magL 0 (mg s) := by
      obtain ⟨hne, hdg⟩ := natS_dg hn
      obtain ⟨c, r, e⟩ := List.exists_cons_of_ne_nil hne
      rw [e] at hf hdg ⊢
      have := magL_pos (c := c) (r := r) (hdg c (by simp)) (by simpa using hf)
      have : 0 < 10 ^ r.length := Nat.pow_pos (by decide)
      omega
    rw [valS, if_pos h45, itoa_neg (by omega), show -(-(magL 0 (mg s) : Int)) = ((magL 0 (mg s) : Nat) : Int) by omega, itoa_natS hn]
    exact hs.symm
  · have hm : mg s = s := by rw [mg, if_neg h45]
    have hn : natS s = true := by rw [decS, hm] at hd; exact hd
    rw [valS, if_neg h45, hm, itoa_natS hn]
end Go.Wo
