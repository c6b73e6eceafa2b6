/- Words: list expressions, read from the left. -/
import Derived.Test.YtbhdhlkjchgddaaGreatDoorM3
import Derived.Lib.Atoi
import Derived.Test.YtbhdhlkjchgddaaGreatDoorM1
set_option linter.unusedSectionVars false
set_option linter.unusedSimpArgs false
set_option linter.unusedVariables false

/- Words: list expressions, read from the left. -/
namespace Go.Wo
end Go.Wo

/- Words: pieces and their lengths. -/
namespace Go.Wo
end Go.Wo

/- Words: how long the texts are. -/
namespace Go.Wo
end Go.Wo

/- Types: their texts. -/
namespace Go.Lat
def tInt : List UInt8 := [105, 110, 116]
def tChar : List UInt8 := [99, 104, 97, 114]
def tyK (k : Int) : List UInt8 := if k = 2 then tChar else tInt
/-- the fields of a type -/
def tyFl (ns : List (List UInt8)) (t : Ty) : List (List UInt8) :=
  [tyK t.k, Lib.itoa t.r] ++ (if 1 ≤ t.r then [ns.getD t.a0.toNat []] else []) ++ (if 2 ≤ t.r then [ns.getD t.a1.toNat []] else []) ++ [ns.getD t.d.toNat []]
def tyTx (ns : List (List UInt8)) (t : Ty) : List UInt8 := Lib.join (tyFl ns t) [32]
/-- Print -/
def tyPS (ns : List (List UInt8)) (up : List UInt8) (t : Ty) : List UInt8 × Int := if tyS ns up t ≠ 0 then ([], tyS ns up t) else (tyTx ns t, 0)
def idO (ns : List (List UInt8)) (s : List UInt8) : Int := match findO ns s with
  | some a => (a : Int)
  | none => 0
/-- a type out of its fields -/
def tyPF (ns : List (List UInt8)) (up : List UInt8) (f : List (List UInt8)) : Ty × Int :=
  if f.length < 2 ∨ (f.getD 0 [] ≠ tInt ∧ f.getD 0 [] ≠ tChar) ∨ (Wo.intS (f.getD 1 []) 0 4611686018427387904).2 ≠ 0 then (zeroT, 6)
  else if 2 < (Wo.intS (f.getD 1 []) 0 4611686018427387904).1 then (zeroT, 7)
  else if (f.length : Int) ≠ 3 + (Wo.intS (f.getD 1 []) 0 4611686018427387904).1 then (zeroT, 6)
  else if (f.drop 2).any (fun s => (findO ns s).isNone) then (zeroT, 4)
  else
    let r := (Wo.intS (f.getD 1 []) 0 4611686018427387904).1
    let t : Ty := ⟨if f.getD 0 [] = tChar then 2 else 1, r, if 1 ≤ r then idO ns (f.getD 2 []) else bot ns.length up, if 2 ≤ r then idO ns (f.getD 3 []) else bot ns.length up, idO ns (f.getD (2 + r.toNat) [])⟩
    if goodS ns.length up t ≠ 0 then (zeroT, goodS ns.length up t) else (t, 0)
/-- Parse -/
def tyPA (ns : List (List UInt8)) (up : List UInt8) (s : List UInt8) : Ty × Int :=
  if (checkS ns up).2 ≠ 0 then (zeroT, (checkS ns up).2)
  else if (Wo.splitS s).2 ≠ 0 then (zeroT, (Wo.splitS s).2)
  else if (Wo.splitS s).1.any (·.2) then (zeroT, 6)
  else tyPF ns up ((Wo.splitS s).1.map (·.1))
theorem nmB_plain {c : UInt8} (h : nmB c = true) : Wo.plainB c = true ∧ ¬ c = 32 := by
  simp only [nmB, lowB, digB, Bool.or_eq_true, Bool.and_eq_true, decide_eq_true_eq] at h
  refine ⟨?_, fun e => by rw [e] at h; exact absurd h (by decide)⟩
  simp only [Wo.plainB, Bool.and_eq_true, decide_eq_true_eq, Bool.not_eq_true', decide_eq_false_iff_not]
  omega
theorem nm_bare {s : List UInt8} (h : isNm s = true) : Wo.bareB s = true ∧ s.length ≤ 16 := by
  unfold isNm at h
  simp only [Bool.and_eq_true, decide_eq_true_eq, List.all_eq_true] at h
  obtain ⟨⟨⟨h1, h2⟩, _⟩, h4⟩ := h
  refine ⟨?_, h2⟩
  unfold Wo.bareB
  have hne : s.isEmpty = false := by cases s with
    | nil => simp at h1
    | cons a r => rfl
  rw [hne, Bool.not_false, Bool.true_and, List.all_eq_true]
  intro c hc
  have := nmB_plain (h4 c hc)
  rw [this.1, decide_eq_false this.2]
  rfl
theorem find_at {ns : List (List UInt8)} (h : (namesS ns).2 = 0) {a : Nat} (ha : a < ns.length) : findO ns (ns.getD a []) = some a := by
  refine ff_eq_some.2 ⟨ha, by simp, fun j hj => ?_⟩
  have hb : nmBad ns a = false := by
    unfold namesS at h
    split at h
    · simp at h
    · split at h
      · split at h <;> simp at h
      · rename_i hn
        exact ff_eq_none.1 hn a ha
  cases he : (ns.getD j [] == ns.getD a []) with
  | false => rfl
  | true =>
    have := take_has hj ha (beq_iff_eq.1 he)
    simp only [nmBad, this, Bool.or_true] at hb
    cases hb
theorem pa_pr {ns : List (List UInt8)} {up : List UInt8} {t : Ty} (h : tyS ns up t = 0) : tyPA ns up (tyTx ns t) = (t, 0) := by
  obtain ⟨hc, hv, hg⟩ := tyS_0 h
  have hn := (checkS_val hc).1
  have h8 := names_8 hn
  have nm := names_nm hn
  obtain ⟨k, r, a0, a1, d⟩ := t
  obtain ⟨hk, hr, l0, l1, ld, b0, b1, f0, f1⟩ := hg
  simp only at hk hr l0 l1 ld b0 b1
  obtain ⟨x0, rfl, x0l⟩ := lab_nat l0
  obtain ⟨x1, rfl, x1l⟩ := lab_nat l1
  obtain ⟨xd, rfl, xdl⟩ := lab_nat ld
  have hgd : goodS ns.length up ⟨k, r, x0, x1, xd⟩ = 0 := (goodS_0 hv).2 ⟨hk, hr, l0, l1, ld, b0, b1, f0, f1⟩
  have n0 := nm_bare (nm x0 x0l)
  have n1 := nm_bare (nm x1 x1l)
  have nd := nm_bare (nm xd xdl)
  have hkb : Wo.bareB (tyK k) = true ∧ (tyK k).length ≤ 16 := by
    unfold tyK
    split <;> decide
  have hkk : (tyK k = tInt ∨ tyK k = tChar) ∧ (if tyK k = tChar then (2 : Int) else 1) = k := by
    unfold tyK
    rcases hk with rfl | rfl
    · decide
    · decide
  have hib : Wo.bareB (Lib.itoa r) = true ∧ (Lib.itoa r).length ≤ 16 := by
    have : r = 0 ∨ r = 1 ∨ r = 2 := by omega
    rcases this with rfl | rfl | rfl <;> decide +kernel
  have hir : Wo.intS (Lib.itoa r) 0 4611686018427387904 = (r, 0) := by
    have : r = 0 ∨ r = 1 ∨ r = 2 := by omega
    rcases this with rfl | rfl | rfl <;> decide +kernel
  have hall : ∀ f ∈ tyFl ns ⟨k, r, x0, x1, xd⟩, Wo.bareB f = true ∧ f.length ≤ 16 := by
    intro f hf
    unfold tyFl at hf
    simp only [Int.toNat_natCast, List.mem_append, List.mem_cons, List.not_mem_nil, or_false] at hf
    rcases hf with ((hf | hf) | hf) | hf
    · rcases hf with rfl | rfl
      · exact hkb
      · exact hib
    · split at hf
      · rw [List.mem_singleton.1 hf]; exact n0
      · simp at hf
    · split at hf
      · rw [List.mem_singleton.1 hf]; exact n1
      · simp at hf
    · rw [hf]; exact nd
  have hlen : (tyFl ns ⟨k, r, x0, x1, xd⟩).length = 3 + r.toNat := by
    have : r = 0 ∨ r = 1 ∨ r = 2 := by omega
    rcases this with rfl | rfl | rfl <;> simp [tyFl]
  generalize hF : tyFl ns ⟨k, r, x0, x1, xd⟩ = F at *
  have hj : Wo.joinS (F.map fun f => (f, false)) = (Lib.join F [32], 0) := by
    have e1 : (F.map fun f => (f, false)).map Wo.fT = F := by
      rw [List.map_map]
      conv => rhs; rw [← List.map_id F]
      exact List.map_congr_left fun f _ => by simp [Wo.fT]
    have e2 : Wo.long (F.map fun f => (f, false)) = false := by
      unfold Wo.long
      rw [List.any_eq_false]
      intro x hx
      obtain ⟨f, hf, rfl⟩ := List.mem_map.1 hx
      have := (hall f hf).2
      simp only [decide_eq_true_eq]
      omega
    have e3 : (F.map fun f => (f, false)).any Wo.badF = false := by
      rw [List.any_eq_false]
      intro x hx
      obtain ⟨f, hf, rfl⟩ := List.mem_map.1 hx
      simp [Wo.badF, (hall f hf).1]
    have e4 := Wo.join_len F 16 fun f hf => (hall f hf).2
    have hr2 : r.toNat ≤ 2 := by omega
    rw [Wo.joinS, if_neg (by rw [List.length_map]; omega), e2, if_neg (by decide), e3, if_neg (by decide), e1, if_neg (by
      have : F.length * 17 ≤ 85 := by omega
      omega)]
  have hsp := Wo.split_join hj
  unfold tyPA tyTx
  rw [hF, hc, if_neg (by decide), hsp, if_neg (by simp), if_neg (by simp)]
  have e5 : (F.map fun f => (f, false)).map (·.1) = F := by
    rw [List.map_map]
    conv => rhs; rw [← List.map_id F]
    exact List.map_congr_left fun f _ => rfl
  simp only [e5]
  subst hF
  have g0 := find_at hn x0l
  have g1 := find_at hn x1l
  have gd := find_at hn xdl
  have i0 : idO ns (ns.getD x0 []) = x0 := by rw [idO, g0]
  have i1 : idO ns (ns.getD x1 []) = x1 := by rw [idO, g1]
  have id : idO ns (ns.getD xd []) = xd := by rw [idO, gd]
  have : r = 0 ∨ r = 1 ∨ r = 2 := by omega
  rcases this with rfl | rfl | rfl
  · have e : tyFl ns ⟨k, 0, x0, x1, xd⟩ = [tyK k, Lib.itoa 0, ns.getD xd []] := by simp [tyFl]
    rw [e]
    have er : (Wo.intS (([tyK k, Lib.itoa 0, ns.getD xd []] : List (List UInt8)).getD 1 []) 0 4611686018427387904).1 = 0 := congrArg Prod.fst hir
    have er2 : (Wo.intS (([tyK k, Lib.itoa 0, ns.getD xd []] : List (List UInt8)).getD 1 []) 0 4611686018427387904).2 = 0 := congrArg Prod.snd hir
    unfold tyPF
    rw [er, er2]
    rw [if_neg (by rintro (h | h | h); · simp at h
                   · rcases hkk.1 with h' | h'
                     · exact h.1 h'
                     · exact h.2 h'
                   · exact h rfl), if_neg (by decide), if_neg (by simp), if_neg (by simp only [List.drop_succ_cons, List.drop_zero, List.any_cons, List.any_nil, gd, Option.isNone_some]; decide)]
    have et : (⟨if ([tyK k, Lib.itoa 0, ns.getD xd []] : List (List UInt8)).getD 0 [] = tChar then 2 else 1, 0, if (1 : Int) ≤ 0 then idO ns (([tyK k, Lib.itoa 0, ns.getD xd []] : List (List UInt8)).getD 2 []) else bot ns.length up, if (2 : Int) ≤ 0 then idO ns (([tyK k, Lib.itoa 0, ns.getD xd []] : List (List UInt8)).getD 3 []) else bot ns.length up, idO ns (([tyK k, Lib.itoa 0, ns.getD xd []] : List (List UInt8)).getD (2 + (0 : Int).toNat) [])⟩ : Ty) = ⟨k, 0, x0, x1, xd⟩ := by
      show (⟨if tyK k = tChar then 2 else 1, 0, (bot ns.length up : Int), (bot ns.length up : Int), idO ns (ns.getD xd [])⟩ : Ty) = _
      rw [hkk.2, id, b0 (by omega), b1 (by omega)]
    simp only [et, hgd]
    rfl
  · have e : tyFl ns ⟨k, 1, x0, x1, xd⟩ = [tyK k, Lib.itoa 1, ns.getD x0 [], ns.getD xd []] := by simp [tyFl]
    rw [e]
    have er : (Wo.intS (([tyK k, Lib.itoa 1, ns.getD x0 [], ns.getD xd []] : List (List UInt8)).getD 1 []) 0 4611686018427387904).1 = 1 := congrArg Prod.fst hir
    have er2 : (Wo.intS (([tyK k, Lib.itoa 1, ns.getD x0 [], ns.getD xd []] : List (List UInt8)).getD 1 []) 0 4611686018427387904).2 = 0 := congrArg Prod.snd hir
    unfold tyPF
    rw [er, er2]
    rw [if_neg (by rintro (h | h | h); · simp at h
                   · rcases hkk.1 with h' | h'
                     · exact h.1 h'
                     · exact h.2 h'
                   · exact h rfl), if_neg (by decide), if_neg (by simp), if_neg (by simp only [List.drop_succ_cons, List.drop_zero, List.any_cons, List.any_nil, g0, gd, Option.isNone_some]; decide)]
    have et : (⟨if ([tyK k, Lib.itoa 1, ns.getD x0 [], ns.getD xd []] : List (List UInt8)).getD 0 [] = tChar then 2 else 1, 1, if (1 : Int) ≤ 1 then idO ns (([tyK k, Lib.itoa 1, ns.getD x0 [], ns.getD xd []] : List (List UInt8)).getD 2 []) else bot ns.length up, if (2 : Int) ≤ 1 then idO ns (([tyK k, Lib.itoa 1, ns.getD x0 [], ns.getD xd []] : List (List UInt8)).getD 3 []) else bot ns.length up, idO ns (([tyK k, Lib.itoa 1, ns.getD x0 [], ns.getD xd []] : List (List UInt8)).getD (2 + (1 : Int).toNat) [])⟩ : Ty) = ⟨k, 1, x0, x1, xd⟩ := by
      show (⟨if tyK k = tChar then 2 else 1, 1, idO ns (ns.getD x0 []), (bot ns.length up : Int), idO ns (ns.getD xd [])⟩ : Ty) = _
      rw [hkk.2, i0, id, b1 (by omega)]
    simp only [et, hgd]
    rfl
  · have e : tyFl ns ⟨k, 2, x0, x1, xd⟩ = [tyK k, Lib.itoa 2, ns.getD x0 [], ns.getD x1 [], ns.getD xd []] := by simp [tyFl]
    rw [e]
    have er : (Wo.intS (([tyK k, Lib.itoa 2, ns.getD x0 [], ns.getD x1 [], ns.getD xd []] : List (List UInt8)).getD 1 []) 0 4611686018427387904).1 = 2 := congrArg Prod.fst hir
    have er2 : (Wo.intS (([tyK k, Lib.itoa 2, ns.getD x0 [], ns.getD x1 [], ns.getD xd []] : List (List UInt8)).getD 1 []) 0 4611686018427387904).2 = 0 := congrArg Prod.snd hir
    unfold tyPF
    rw [er, er2]
    rw [if_neg (by rintro (h | h | h); · simp at h
                   · rcases hkk.1 with h' | h'
                     · exact h.1 h'
                     · exact h.2 h'
                   · exact h rfl), if_neg (by decide), if_neg (by simp), if_neg (by simp only [List.drop_succ_cons, List.drop_zero, List.any_cons, List.any_nil, g0, g1, gd, Option.isNone_some]; decide)]
    have et : (⟨if ([tyK k, Lib.itoa 2, ns.getD x0 [], ns.getD x1 [], ns.getD xd []] : List (List UInt8)).getD 0 [] = tChar then 2 else 1, 2, if (1 : Int) ≤ 2 then idO ns (([tyK k, Lib.itoa 2, ns.getD x0 [], ns.getD x1 [], ns.getD xd []] : List (List UInt8)).getD 2 []) else bot ns.length up, if (2 : Int) ≤ 2 then idO ns (([tyK k, Lib.itoa 2, ns.getD x0 [], ns.getD x1 [], ns.getD xd []] : List (List UInt8)).getD 3 []) else bot ns.length up, idO ns (([tyK k, Lib.itoa 2, ns.getD x0 [], ns.getD x1 [], ns.getD xd []] : List (List UInt8)).getD (2 + (2 : Int).toNat) [])⟩ : Ty) = ⟨k, 2, x0, x1, xd⟩ := by
      show (⟨if tyK k = tChar then 2 else 1, 2, idO ns (ns.getD x0 []), idO ns (ns.getD x1 []), idO ns (ns.getD xd [])⟩ : Ty) = _
      rw [hkk.2, i0, i1, id]
    simp only [et, hgd]
    rfl
end Go.Lat
