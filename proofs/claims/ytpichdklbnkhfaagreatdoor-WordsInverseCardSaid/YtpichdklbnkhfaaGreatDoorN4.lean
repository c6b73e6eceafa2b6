/- Words: list expressions, read from the left. -/
import Derived.Test.YtpichdklbnkhfaaGreatDoorN3
import Derived.Lib.Atoi
set_option linter.unusedSectionVars false
set_option linter.unusedSimpArgs false
set_option linter.unusedVariables false

/- Words: list expressions, read from the left. -/
namespace Go.Wo
theorem nat_dec {s : List UInt8} (h : (45 : UInt8) ∉ s) : decS s = natS s := by
  have h45 : s.getD 0 0 ≠ 45 := fun e => by
    cases s with
    | nil => simp at e
    | cons c r =>
      simp only [List.getD_cons_zero] at e
      exact h (by rw [e]; simp)
  have hm : mg s = s := by rw [mg, if_neg h45]
  rw [decS, hm]
  rfl
theorem nat_dec' {s : List UInt8} (h : s.getD 0 0 ≠ 45) : decS s = natS s := by
  have hm : mg s = s := by rw [mg, if_neg h]
  rw [decS, hm]
  rfl
theorem rp_cut {r : List UInt8} (hi : Lat.idx 45 r < r.length) : rp r = if decS (r.take (Lat.idx 45 r)) && decS (r.drop (Lat.idx 45 r + 1)) && !decide ((r.drop (Lat.idx 45 r + 1)).getD 0 0 = 45) && lessB (r.take (Lat.idx 45 r)) (r.drop (Lat.idx 45 r + 1)) then some (r.take (Lat.idx 45 r), r.drop (Lat.idx 45 r + 1)) else none := by
  rw [rp, if_pos hi, nat_dec (no_take 45 r)]
  congr 1
  by_cases h : (r.drop (Lat.idx 45 r + 1)).getD 0 0 = 45
  · have : natS (r.drop (Lat.idx 45 r + 1)) = false := by
      cases hn : natS (r.drop (Lat.idx 45 r + 1)) with
      | false => rfl
      | true => exact absurd h (natS_dec hn).1
    rw [decide_eq_true h, this]
    simp
  · rw [decide_eq_false h, nat_dec' h]
    simp
theorem rp_nocut {r : List UInt8} (hi : ¬ Lat.idx 45 r < r.length) : rp r = if decS r then some (r, r) else none := by
  have hn : (45 : UInt8) ∉ r := fun hm => by
    obtain ⟨k, hk, e⟩ := List.getElem_of_mem hm
    have hle := Lat.idx_le 45 r
    exact Lat.idx_no (c := 45) (s := r) (k := k) (by omega) (by rw [List.getD_eq_getElem?_getD, List.getElem?_eq_getElem hk]; exact e)
  rw [rp, if_neg hi, nat_dec hn]
theorem splC_mem {c : UInt8} : ∀ {s : List UInt8} {p : List UInt8}, p ∈ splC c s → c ∉ p
  | [], p, h => by simp [splC] at h; subst h; simp
  | b :: r, p, h => by
    simp only [splC] at h
    split at h
    · rcases List.mem_cons.1 h with rfl | h
      · simp
      · exact splC_mem h
    · rename_i hb
      cases hs : splC c r with
      | nil => exact absurd hs (splC_ne c r)
      | cons x t =>
        rw [hs] at h
        simp only at h
        rcases List.mem_cons.1 h with rfl | h
        · have := splC_mem (c := c) (s := r) (p := x) (by rw [hs]; simp)
          intro hm
          rcases List.mem_cons.1 hm with e | hm
          · exact hb e.symm
          · exact this hm
        · exact splC_mem (s := r) (by rw [hs]; simp [h])
/-- a run's ends, out of its pieces -/
def rpL : List (List UInt8) → Option (List UInt8 × List UInt8)
  | [a] => if decS a then some (a, a) else none
  | [a, b] => if decS a && decS b && lessB a b then some (a, b) else none
  | _ => none
theorem rp_rpL (r : List UInt8) : rp r = rpL (splC 45 r) := by
  by_cases hi : Lat.idx 45 r < r.length
  · have hs := splC_idx hi
    have ha := no_take 45 r
    rw [hs, rp, if_pos hi]
    generalize r.take (Lat.idx 45 r) = a at *
    generalize r.drop (Lat.idx 45 r + 1) = b at *
    cases hb : splC 45 b with
    | nil => exact absurd hb (splC_ne 45 b)
    | cons x t =>
      have hx : (45 : UInt8) ∉ x := splC_mem (s := b) (by rw [hb]; simp)
      cases t with
      | nil =>
        have e : b = x := by
          have := join_splC 45 b
          rw [hb, Lib.join_one] at this
          exact this.symm
        subst e
        simp only [rpL, nat_dec ha, nat_dec hx]
      | cons y t =>
        have : natS b = false := by
          cases hn : natS b with
          | false => rfl
          | true =>
            have h45 : (45 : UInt8) ∉ b := dg_no (natS_dg hn).2 (by decide)
            rw [splC_no h45] at hb
            cases hb
        simp only [rpL, this, Bool.and_false, Bool.false_and, Bool.false_eq_true, if_false]
  · have hn : (45 : UInt8) ∉ r := fun hm => by
      obtain ⟨k, hk, e⟩ := List.getElem_of_mem hm
      have hle := Lat.idx_le 45 r
      exact Lat.idx_no (c := 45) (s := r) (k := k) (by omega) (by rw [List.getD_eq_getElem?_getD, List.getElem?_eq_getElem hk]; exact e)
    rw [rp_nocut hi, splC_no hn]
    rfl
/-- The runs that have been read. -/
def Pl (pcs : List (List UInt8)) (i : Nat) (ps : List (List UInt8 × List UInt8)) : Prop := i ≤ pcs.length ∧ ps.length = i ∧ (∀ p ∈ ps, natS p.1 = true ∧ natS p.2 = true) ∧ plR [] pcs = (plR (lastB ps) (pcs.drop i)).map (ps ++ ·)
theorem pl_0 (pcs : List (List UInt8)) : Pl pcs 0 [] := by
  refine ⟨Nat.zero_le _, rfl, fun p hp => by simp at hp, ?_⟩
  have e : lastB [] = [] := rfl
  rw [e, List.drop_zero]
  cases plR [] pcs <;> rfl
theorem lastB_snoc (ps : List (List UInt8 × List UInt8)) (p : List UInt8 × List UInt8) : lastB (ps ++ [p]) = p.2 := by simp only [lastB, List.getLastD_concat]
theorem pl_bad {pcs : List (List UInt8)} {i : Nat} {ps : List (List UInt8 × List UInt8)} (h : Pl pcs i ps) (hi : i < pcs.length) (hb : rp (pcs.getD i []) = none ∨ ∃ p, rp (pcs.getD i []) = some p ∧ lastB ps ≠ [] ∧ lessB (nextS (lastB ps)) p.1 = false) : plR [] pcs = none := by
  rw [h.2.2.2, drop_c hi []]
  rcases hb with hb | ⟨p, hb, h1, h2⟩
  · simp only [plR, hb]; rfl
  · simp only [plR, hb, if_pos (And.intro h1 h2)]; rfl
theorem pl_next {pcs : List (List UInt8)} {i : Nat} {ps : List (List UInt8 × List UInt8)} {p : List UInt8 × List UInt8} (h : Pl pcs i ps) (hi : i < pcs.length) (hp : rp (pcs.getD i []) = some p) (hl : lastB ps = [] ∨ lessB (nextS (lastB ps)) p.1 = true) : Pl pcs (i + 1) (ps ++ [p]) := by
  obtain ⟨h1, h2, h3, h4⟩ := h
  obtain ⟨n1, n2, _, _⟩ := rp_ok hp
  refine ⟨hi, by simp [h2], fun x hx => ?_, ?_⟩
  · rcases List.mem_append.1 hx with hx | hx
    · exact h3 x hx
    · simp only [List.mem_singleton] at hx
      subst hx
      exact ⟨n1, n2⟩
  · rw [h4, drop_c hi [], lastB_snoc]
    simp only [plR, hp]
    rw [if_neg (fun h => by rcases hl with hl | hl; · exact h.1 hl
                            · rw [hl] at h; cases h.2)]
    cases plR p.2 (pcs.drop (i + 1)) <;> simp
theorem pl_end {pcs : List (List UInt8)} {ps : List (List UInt8 × List UInt8)} (h : Pl pcs pcs.length ps) : plR [] pcs = some ps := by
  rw [h.2.2.2, List.drop_length]
  simp [plR]
theorem pl_last {pcs : List (List UInt8)} {i : Nat} {ps : List (List UInt8 × List UInt8)} (h : Pl pcs i ps) : (lastB ps = [] ↔ i = 0) ∧ (i ≠ 0 → natS (lastB ps) = true) := by
  obtain ⟨h1, h2, h3, h4⟩ := h
  by_cases h0 : i = 0
  · have : ps = [] := List.length_eq_zero_iff.1 (by omega)
    subst this
    exact ⟨⟨fun _ => h0, fun _ => rfl⟩, fun h => absurd h0 h⟩
  · have hps : ps ≠ [] := fun e => by rw [e] at h2; simp at h2; omega
    have hn := last_nat hps h3
    exact ⟨⟨fun e => absurd e (natS_dg hn).1, fun e => absurd e h0⟩, fun _ => hn⟩
/-- what the numbers of the first i runs are -/
theorem flat_take_le {q : List (Int × Int)} (i : Nat) : ((q.take i).flatMap rngI).length ≤ (q.flatMap rngI).length := by
  conv => rhs; rw [← List.take_append_drop i q, List.flatMap_append, List.length_append]
  omega
theorem flat_take_succ {q : List (Int × Int)} {i : Nat} (h : i < q.length) : (q.take (i + 1)).flatMap rngI = (q.take i).flatMap rngI ++ rngI (q.getD i (0, 0)) := by
  rw [List.take_add_one, List.getElem?_eq_getElem h, List.flatMap_append, List.getD_eq_getElem?_getD, List.getElem?_eq_getElem h]
  simp
/-- All numbers of what was read are at most the last one. -/
theorem ps_rng {pcs : List (List UInt8)} {ps : List (List UInt8 × List UInt8)} (h : plR [] pcs = some ps) (hb : lessB (Lib.itoa 1000000000) (lastB ps) = false) {i : Nat} (hi : i < ps.length) :
    natS (ps.getD i ([], [])).1 = true ∧ natS (ps.getD i ([], [])).2 = true ∧ magL 0 (ps.getD i ([], [])).1 ≤ magL 0 (ps.getD i ([], [])).2 ∧ magL 0 (ps.getD i ([], [])).2 ≤ 1000000000 := by
  obtain ⟨l1, l2, l3, l4, _⟩ := plR_ok h fun h => absurd rfl h
  have hm : ps.getD i ([], []) ∈ ps := by
    rw [List.getD_eq_getElem?_getD, List.getElem?_eq_getElem hi]
    exact List.getElem_mem _
  have hps : ps ≠ [] := fun e => by rw [e] at hi; simp at hi
  have hn := l2 _ hm
  have hle := rs_le l3 (numP (ps.getD i ([], []))) (List.mem_map.2 ⟨_, hm, rfl⟩)
  rw [last_num hps] at hle
  have hbn := natS_itoa (n := 1000000000) (by omega)
  rw [less_num hbn.1 (last_nat hps l2), hbn.2, decide_eq_false_iff_not] at hb
  simp only [numP] at hle
  refine ⟨hn.1, hn.2, by omega, by omega⟩
theorem nat_len {s : List UInt8} (h : natS s = true) (hv : magL 0 s ≤ 1000000000) : s.length ≤ 10 := by
  rcases Nat.lt_or_ge s.length 2 with h' | h'
  · omega
  · have := natS_lo h h'
    rcases Nat.lt_or_ge 10 s.length with h2 | h2
    · have : 10 ^ 10 ≤ 10 ^ (s.length - 1) := Nat.pow_le_pow_right (by decide) (by omega)
      omega
    · exact h2
theorem atoi_nat {s : List UInt8} (h : natS s = true) : Lib.atoi s = some ((magL 0 s : Nat) : Int) := by
  obtain ⟨hne, hd⟩ := natS_dg h
  have key : ∀ (l : List UInt8) (a : Nat), DG l → Lib.decFrom a l = some (magL a l) := by
    intro l
    induction l with
    | nil => intro a _; simp [Lib.decFrom, magL_nil]
    | cons c r ih =>
      intro a hl
      have hc := dg_rng (hl c (by simp))
      simp only [Lib.decFrom, Lib.digitVal, if_pos hc, magL_cons]
      exact ih _ fun x hx => hl x (by simp [hx])
  cases s with
  | nil => exact absurd rfl hne
  | cons b r =>
    have hb := dg_rng (hd b (by simp))
    have h45 : ¬ (b == 45) = true := fun e => by
      rw [beq_iff_eq] at e
      rw [e] at hb
      exact absurd hb.1 (by decide)
    have h43 : ¬ (b == 43) = true := fun e => by
      rw [beq_iff_eq] at e
      rw [e] at hb
      exact absurd hb.1 (by decide)
    unfold Lib.atoi
    dsimp only
    rw [if_neg h45, if_neg h43, Lib.decNat, key _ _ hd]
    rfl
end Go.Wo

/- Words: pieces and their lengths. -/
namespace Go.Wo
theorem splC_mlen {c : UInt8} : ∀ {s : List UInt8} {p : List UInt8}, p ∈ splC c s → p.length ≤ s.length
  | [], p, h => by simp [splC] at h; subst h; simp
  | b :: r, p, h => by
    simp only [splC] at h
    split at h
    · rcases List.mem_cons.1 h with rfl | h
      · simp
      · have := splC_mlen h
        simp only [List.length_cons]
        omega
    · cases hs : splC c r with
      | nil => exact absurd hs (splC_ne c r)
      | cons x t =>
        rw [hs] at h
        simp only at h
        rcases List.mem_cons.1 h with rfl | h
        · have := splC_mlen (c := c) (s := r) (p := x) (by rw [hs]; simp)
          simp only [List.length_cons]
          omega
        · have := splC_mlen (c := c) (s := r) (p := p) (by rw [hs]; simp [h])
          simp only [List.length_cons]
          omega
theorem splC_glen {c : UInt8} {s : List UInt8} {i : Nat} (h : i < (splC c s).length) : ((splC c s).getD i []).length ≤ s.length := by
  rw [List.getD_eq_getElem?_getD, List.getElem?_eq_getElem h]
  exact splC_mlen (List.getElem_mem _)
theorem splC_len (s : List UInt8) (c : UInt8) : (splC c s).length ≤ s.length + 1 := by
  rw [splC_count]
  have := List.count_le_length (a := c) (l := s)
  omega
theorem plL {s : List UInt8} {ps : List (List UInt8 × List UInt8)} (h1 : s ≠ [45]) (h : plR [] (splC 44 s) = some ps) : plS s = if lessB (Lib.itoa 1000000000) (lastB ps) then ([], 7) else if 500 < ((ps.map numP).flatMap rngI).length then ([], 3) else ((ps.map numP).flatMap rngI, 0) := by
  rw [plS, if_neg h1, h]
theorem plN {s : List UInt8} (h1 : s ≠ [45]) (h : plR [] (splC 44 s) = none) : plS s = ([], 6) := by
  rw [plS, if_neg h1, h]
theorem lastB_len {ps : List (List UInt8 × List UInt8)} {n : Nat} (h : ∀ p ∈ ps, p.2.length ≤ n) : (lastB ps).length ≤ n := by
  unfold lastB
  by_cases hps : ps = []
  · rw [hps]; simp
  · obtain ⟨q, p, e⟩ : ∃ q p, ps = q ++ [p] := ⟨ps.dropLast, ps.getLast hps, (List.dropLast_concat_getLast hps).symm⟩
    rw [e, List.getLastD_concat]
    exact h _ (by rw [e]; simp)
theorem getD_nocut {r : List UInt8} {c : UInt8} (hi : ¬ Lat.idx c r < r.length) (h0 : 0 < r.length) : ¬ r.getD 0 0 = c := by
  have hle := Lat.idx_le c r
  exact fun e => Lat.idx_no (c := c) (s := r) (k := 0) (by omega) e
theorem getD_num (ps : List (List UInt8 × List UInt8)) (k : Nat) : (ps.map numP).getD k (0, 0) = numP (ps.getD k ([], [])) := by
  simp only [List.getD_eq_getElem?_getD, List.getElem?_map]
  cases ps[k]? <;> rfl
/-- the numbers of the first k runs -/
def outN (ps : List (List UInt8 × List UInt8)) (k : Nat) : List Int := ((ps.map numP).take k).flatMap rngI
theorem outN_0 (ps : List (List UInt8 × List UInt8)) : outN ps 0 = [] := rfl
theorem outN_all (ps : List (List UInt8 × List UInt8)) : outN ps ps.length = (ps.map numP).flatMap rngI := by
  rw [outN, List.take_of_length_le (by rw [List.length_map]; omega)]
theorem outN_s {ps : List (List UInt8 × List UInt8)} {k : Nat} (h : k < ps.length) : outN ps (k + 1) = outN ps k ++ rngI (numP (ps.getD k ([], []))) := by
  rw [outN, flat_take_succ (by rw [List.length_map]; exact h), getD_num]
  rfl
theorem outN_le (ps : List (List UInt8 × List UInt8)) (k : Nat) : (outN ps k).length ≤ ((ps.map numP).flatMap rngI).length := flat_take_le k
theorem outN_over {ps : List (List UInt8 × List UInt8)} {k : Nat} (h : k < ps.length) (h2 : 500 < ((outN ps k).length : Int) + ((magL 0 (ps.getD k ([], [])).2 : Nat) - (magL 0 (ps.getD k ([], [])).1 : Nat) + 1)) : 500 < ((ps.map numP).flatMap rngI).length := by
  have h1 := outN_le ps (k + 1)
  rw [outN_s h, List.length_append, rngI_len] at h1
  simp only [numP] at h1
  omega
/-- the numbers from a on, m of them -/
def seqN (a : Int) (m : Nat) : List Int := (List.range m).map fun k : Nat => a + (k : Int)
theorem seqN_0 (a : Int) : seqN a 0 = [] := rfl
theorem seqN_s (a : Int) (m : Nat) : seqN a (m + 1) = seqN a m ++ [a + m] := by
  rw [seqN, List.range_succ, List.map_append]; rfl
theorem seqN_len (a : Int) (m : Nat) : (seqN a m).length = m := by rw [seqN, List.length_map, List.length_range]
theorem seqN_rng (p : Int × Int) : seqN p.1 (p.2 - p.1 + 1).toNat = rngI p := rfl
theorem intS_nat {s : List UInt8} (h : natS s = true) (hv : magL 0 s ≤ 1000000000) : intS s 0 1000000000 = (((magL 0 s : Nat) : Int), 0) := by
  obtain ⟨h45, hm, hd⟩ := natS_dec h
  have hv' : valS s = ((magL 0 s : Nat) : Int) := by rw [valS, if_neg h45, hm]
  rw [intS, if_neg (by rw [hd]; decide), hv', if_neg (by omega)]
theorem getD_1 (ps : List (List UInt8 × List UInt8)) (k : Nat) : (ps.map (·.1)).getD k [] = (ps.getD k ([], [])).1 := by
  simp only [List.getD_eq_getElem?_getD, List.getElem?_map]
  cases ps[k]? <;> rfl
theorem getD_2 (ps : List (List UInt8 × List UInt8)) (k : Nat) : (ps.map (·.2)).getD k [] = (ps.getD k ([], [])).2 := by
  simp only [List.getD_eq_getElem?_getD, List.getElem?_map]
  cases ps[k]? <;> rfl
end Go.Wo

/- Words: how long the texts are. -/
namespace Go.Wo
theorem plS_len (s : List UInt8) : (plS s).1.length ≤ 500 := by
  unfold plS
  split
  · simp
  · split
    · simp
    · split
      · simp
      · split
        · simp
        · rename_i h
          dsimp only
          omega
theorem quote_len (s : List UInt8) : (quoteS s).length ≤ 4 * s.length + 2 := by
  rw [quoteS_len]
  have : (s.flatMap escB).length ≤ 4 * s.length := by
    induction s with
    | nil => simp
    | cons c r ih =>
      have := (escB_len c).2
      simp only [List.flatMap_cons, List.length_append, List.length_cons]
      omega
  omega
theorem unqV_le (s : List UInt8) : (unqV s).1.length ≤ s.length := by
  unfold unqV
  split
  · simp
  · exact unqS_le.2
theorem jt_len : ∀ (q : List (List UInt8)), (∀ x ∈ q, x.length ≤ 21) → (Lib.joinTail [44] q).length ≤ 22 * q.length
  | [], _ => by simp [Lib.joinTail]
  | x :: q, h => by
    have h1 := h x (by simp)
    have h2 := jt_len q fun y hy => h y (by simp [hy])
    simp only [Lib.joinTail, List.map_cons, List.flatten_cons, List.length_append, List.length_cons, List.length_nil] at h2 ⊢
    omega
theorem list_len (l : List Int) : (listS l).1.length ≤ 11001 := by
  unfold listS
  split
  · simp
  rename_i h500
  split
  · simp
  rename_i hout
  have hout : outB l = false := by simpa using hout
  split
  · rename_i hasc
    split
    · simp
    · rename_i hl
      obtain ⟨r1, r2, r3⟩ := runs_Rs hasc
      have hq : runs l ≠ [] := fun e => by rw [e] at r2; exact hl r2.symm
      have hmem : ∀ p ∈ runs l, 0 ≤ p.1 ∧ p.1 ≤ p.2 ∧ p.2 ≤ 1000000000 := fun p hp => by
        have hle := (rs_le r1 p hp).1
        have e1 : p.1 ∈ l := by rw [← r2]; exact List.mem_flatMap.2 ⟨p, hp, mem_rng.2 ⟨Int.le_refl _, hle⟩⟩
        have e2 : p.2 ∈ l := by rw [← r2]; exact List.mem_flatMap.2 ⟨p, hp, mem_rng.2 ⟨hle, Int.le_refl _⟩⟩
        have := outB_mem hout e1
        have := outB_mem hout e2
        omega
      dsimp only
      have hlen := runs_len l
      rw [tx_nil_join _ hq]
      have hm : ∀ x ∈ (runs l).map rt, x.length ≤ 21 := fun x hx => by
        obtain ⟨p, hp, rfl⟩ := List.mem_map.1 hx
        have := hmem p hp
        exact rt_len ⟨by omega, by omega⟩ ⟨by omega, by omega⟩
      cases hr : (runs l).map rt with
      | nil => simp [Lib.join]
      | cons a t =>
        rw [hr] at hm
        have h1 := hm a (by simp)
        have h2 := jt_len t fun y hy => hm y (by simp [hy])
        have h3 : (a :: t).length = (runs l).length := by rw [← hr, List.length_map]
        simp only [List.length_cons] at h3
        rw [Lib.join_cons, List.length_append]
        omega
  · simp
theorem joinS_len (l : List Fd) : (joinS l).1.length ≤ 8192 := by
  unfold joinS
  split
  · simp
  · split
    · simp
    · split
      · simp
      · split
        · simp
        · dsimp only; omega
theorem list_out {l : List Int} {t : List UInt8} (h : listS l = (t, 0)) : l.length ≤ 500 := by
  unfold listS at h
  split at h
  · cases h
  · omega
end Go.Wo
