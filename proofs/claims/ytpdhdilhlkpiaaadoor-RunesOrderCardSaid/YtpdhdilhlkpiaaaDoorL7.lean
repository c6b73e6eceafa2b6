/- The statement RunesOrder of the seat: the law returns true for every input. -/
import Derived.Test.YtpdhdilhlkpiaaaDoorU4
import Derived.Test.YtpdhdilhlkpiaaaDoorU2
import Derived.Test.YtpdhdilhlkpiaaaDoorL0
import Derived.Test.YtpdhdilhlkpiaaaDoorCards
import Derived.Test.YtpdhdilhlkpiaaaDoorTie
import Derived.SevenTiedAt
set_option linter.unusedSectionVars false
set_option linter.unusedSimpArgs false
set_option linter.unusedVariables false

namespace Go.Avm
open Go
theorem sorted_at (i : Int) : ∀ (L : List Int), L.Pairwise (· < ·) → (i ∈ L → L[(L.filter fun x => decide (x < i)).length]? = some i) ∧
    (L.filter fun x => decide (x < i + 1)).length = (L.filter fun x => decide (x < i)).length + if i ∈ L then 1 else 0
  | [], _ => by simp
  | x :: t, h => by
    rw [List.pairwise_cons] at h
    have ih := sorted_at i t h.2
    rcases Int.lt_trichotomy x i with hx | hx | hx
    · have e1 : decide (x < i) = true := by simpa using hx
      have e2 : decide (x < i + 1) = true := by simp; omega
      have hm : i ∈ x :: t ↔ i ∈ t := by
        constructor
        · intro hi; rcases List.mem_cons.1 hi with h1 | h1
          · omega
          · exact h1
        · exact List.mem_cons_of_mem _
      simp only [List.filter_cons, e1, e2, if_true, List.length_cons, List.getElem?_cons_succ, hm]
      exact ⟨ih.1, by omega⟩
    · subst hx
      have f1 : (t.filter fun y => decide (y < x)) = [] := List.filter_eq_nil_iff.2 fun y hy => by have := h.1 y hy; simp; omega
      have f2 : (t.filter fun y => decide (y < x + 1)) = [] := List.filter_eq_nil_iff.2 fun y hy => by have := h.1 y hy; simp; omega
      have e2 : decide (x < x + 1) = true := by simp; omega
      simp only [List.filter_cons, f1, f2, e2, if_true]
      simp
    · have f1 : ((x :: t).filter fun y => decide (y < i)) = [] := List.filter_eq_nil_iff.2 fun y hy => by
        rcases List.mem_cons.1 hy with rfl | hy
        · simp; omega
        · have := h.1 y hy; simp; omega
      have f2 : ((x :: t).filter fun y => decide (y < i + 1)) = [] := List.filter_eq_nil_iff.2 fun y hy => by
        rcases List.mem_cons.1 hy with rfl | hy
        · simp; omega
        · have := h.1 y hy; simp; omega
      have hno : i ∉ x :: t := fun hi => by
        rcases List.mem_cons.1 hi with h1 | h1
        · omega
        · have := h.1 i h1; omega
      rw [f1, f2, if_neg hno]
      exact ⟨fun hi => absurd hi hno, rfl⟩
theorem cut_ok (t : List UInt8) : ∀ (q : Nat), stop t = t.length → ∀ p ≤ t.length, (((q + p : Nat) : Int) ∈ startsF q (runs t) ∨ p = t.length) → stop (t.take p) = p ∧ stop (t.drop p) = t.length - p := by
  refine runs_ind (P := fun t => ∀ (q : Nat), stop t = t.length → ∀ p ≤ t.length, (((q + p : Nat) : Int) ∈ startsF q (runs t) ∨ p = t.length) → stop (t.take p) = p ∧ stop (t.drop p) = t.length - p) (fun t h q hs p hp _ => ?_) (fun t r n h ih q hs p hp hor => ?_) t
  · rw [stop_none h] at hs
    have ht : t = [] := List.length_eq_zero_iff.1 hs.symm
    subst ht
    simp only [List.length_nil] at hp
    have : p = 0 := by omega
    subst this
    exact ⟨rfl, rfl⟩
  · have hn := dec_rng' h
    rw [stop_some h] at hs
    by_cases hp0 : p = 0
    · subst hp0
      rw [List.take_zero, List.drop_zero, stop_some h]
      exact ⟨rfl, by omega⟩
    have hpn : n ≤ p := by
      rcases hor with h1 | h1
      · rw [runs_some h] at h1
        simp only [startsF, List.mem_cons] at h1
        rcases h1 with h1 | h1
        · omega
        · have := startsF_ge _ _ _ h1; omega
      · omega
    have hor' : (((q + n + (p - n) : Nat) : Int) ∈ startsF (q + n) (runs (t.drop n)) ∨ p - n = (t.drop n).length) := by
      rcases hor with h1 | h1
      · rw [runs_some h] at h1
        simp only [startsF, List.mem_cons] at h1
        rcases h1 with h1 | h1
        · omega
        · left; rw [show q + n + (p - n) = q + p by omega]; exact h1
      · right; rw [List.length_drop]; omega
    have k := ih (q + n) (by rw [List.length_drop]; omega) (p - n) (by rw [List.length_drop]; omega) hor'
    have hd : dec (t.take p) = some (r, n) := dec_take.2 ⟨by rw [List.length_take]; omega, by rw [List.take_take, Nat.min_eq_left hpn]; exact (dec_take.1 h).2⟩
    rw [stop_some hd]
    have e1 : (t.take p).drop n = (t.drop n).take (p - n) := by rw [List.drop_take]
    have e2 : t.drop p = (t.drop n).drop (p - n) := by rw [List.drop_drop]; congr 1; omega
    rw [e1, e2, k.1, k.2, List.length_drop]
    exact ⟨by omega, by omega⟩
theorem start_cut {b : List UInt8} (h : stop b = b.length) (p : Nat) (hp : p ≤ b.length) : (p : Int) ∈ startL b ↔ stop (b.take p) = p ∧ stop (b.drop p) = b.length - p := by
  constructor
  · intro hm
    refine cut_ok b 0 h p hp ?_
    simp only [startL, List.mem_append, List.mem_singleton] at hm
    rcases hm with h1 | h1
    · left; rw [Nat.zero_add]; exact h1
    · right; omega
  · rintro ⟨_, h2⟩
    rw [startL_iff h p hp]
    by_cases hpl : p = b.length
    · exact .inl hpl
    right
    cases hd : dec (b.drop p) with
    | none => rw [stop_none hd] at h2; omega
    | some x =>
      obtain ⟨r, n⟩ := x
      have hn := dec_rng' hd
      have hs := dec_some hd
      have : bt b p = bt (enc r) 0 := by
        rw [← hs.2.2.1, bt_take _ _ _ (by omega), bt_drop, Nat.add_zero]
      rw [this]; exact enc_first hs.1
theorem start_next {b : List UInt8} (h : stop b = b.length) {v : Nat} (hv : (v : Int) ∈ startL b) (hl : v < b.length) : ∃ n : Nat, 1 ≤ n ∧ n ≤ 4 ∧ v + n ≤ b.length ∧ ((v + n : Nat) : Int) ∈ startL b := by
  have hc := (start_cut h v (by omega)).1 hv
  cases hd : dec (b.drop v) with
  | none => rw [stop_none hd] at hc; omega
  | some x =>
    obtain ⟨r, n⟩ := x
    have hn := dec_rng' hd
    have hs := dec_some hd
    rw [List.length_drop] at hn
    refine ⟨n, hn.1, hn.2.1, by omega, (start_cut h (v + n) (by omega)).2 ⟨?_, ?_⟩⟩
    · have e : b.take (v + n) = b.take v ++ enc r := by rw [List.take_add, hs.2.2.1]
      have hl2 : (b.take v).length = v := by rw [List.length_take]; omega
      rw [e, stop_append (by rw [hc.1, hl2]), stop_enc hs.1, hl2, ← hs.2.2.2]
    · rw [stop_some hd] at hc
      rw [List.drop_drop] at hc; omega
/-- What Back answers, once more. -/
theorem back_facts {b : List UInt8} (h : stop b = b.length) (i : Nat) (hi : i ≤ b.length) : ∃ v : Nat, backV b i = v ∧ (v : Int) ∈ startL b ∧ v ≤ i ∧ i ≤ v + 3 ∧ ((v : Int) = i ↔ (i : Int) ∈ startL b) := by
  have hf := fold_max (i : Int) (startL b) 0 (startL_sorted h)
  simp only at hf
  rcases hf with ⟨_, h2⟩ | ⟨h1, h2, h3⟩
  · exact absurd (by omega) (h2 0 (startL_zero b h))
  · have hge : ∀ s ∈ startL b, 0 ≤ s := fun s hs => by
      simp only [startL, List.mem_append, List.mem_singleton] at hs
      rcases hs with hs | hs
      · have := startsF_ge _ _ _ hs; omega
      · omega
    have h1 : backV b i ∈ startL b := h1
    have h2 : backV b i ≤ i := h2
    have h3 : ∀ s ∈ startL b, s ≤ i → s ≤ backV b i := h3
    have h0 := hge _ h1
    refine ⟨(backV b i).toNat, by rw [Int.toNat_of_nonneg h0], by rw [Int.toNat_of_nonneg h0]; exact h1, ?_, ?_, ?_⟩
    · omega
    · rcases Nat.lt_or_ge ((backV b i).toNat + 3) i with hlt | hge'
      · exfalso
        obtain ⟨n, n1, n2, n3, n4⟩ := start_next h (v := (backV b i).toNat) (by rw [Int.toNat_of_nonneg h0]; exact h1) (by omega)
        have := h3 _ n4 (by omega)
        omega
      · exact hge'
    · rw [Int.toNat_of_nonneg h0]
      constructor
      · intro e; rw [← e]; exact h1
      · intro hm
        have := h3 _ hm (Int.le_refl _)
        omega
theorem ult_iff (a b : UInt8) : (a < b) = ((a.toNat : Int) < (b.toNat : Int)) := by
  rw [UInt8.lt_iff_toNat_lt]; exact propext (by omega)
/-- bytes compared as numbers -/
def lessI : List Int → List Int → Bool
  | _, [] => false
  | [], _ :: _ => true
  | a :: x, b :: y => decide (a < b) || (decide (a = b) && lessI x y)
theorem less_map : ∀ (x y : List Int), (∀ a ∈ x, 0 ≤ a ∧ a < 256) → (∀ a ∈ y, 0 ≤ a ∧ a < 256) → Op.bytesLess (x.map byteI) (y.map byteI) = lessI x y
  | x, [], _, _ => by cases x <;> rfl
  | [], b :: y, _, _ => rfl
  | a :: x, b :: y, hx, hy => by
    have ha := hx a (by simp)
    have hb := hy b (by simp)
    have ih := less_map x y (fun c hc => hx c (by simp [hc])) (fun c hc => hy c (by simp [hc]))
    simp only [List.map_cons, Op.bytesLess, lessI, ih]
    have e1 : decide (byteI a < byteI b) = decide (a < b) := by
      rw [Bool.eq_iff_iff]; simp only [decide_eq_true_eq, ult_iff, byteI_toNat ha, byteI_toNat hb]
    have e2 : (byteI a == byteI b) = decide (a = b) := by
      rw [Bool.eq_iff_iff]
      simp only [beq_iff_eq, decide_eq_true_eq]
      constructor
      · intro h
        have := congrArg (fun u : UInt8 => (u.toNat : Int)) h
        simp only [byteI_toNat ha, byteI_toNat hb] at this
        exact this
      · intro h; rw [h]
    rw [e1, e2]
theorem enc_less {r s : Int} (hr : valid r = true) (hs : valid s = true) : Op.bytesLess (enc r) (enc s) = decide (r < s) := by
  rw [enc_eq hr, enc_eq hs, less_map _ _ (encI_rng hr) (encI_rng hs), Bool.eq_iff_iff, decide_eq_true_eq]
  have a := valid_rng hr
  have b := valid_rng hs
  have key : ∀ n : Int, 0 ≤ n → n ≤ 1114111 → (n < 128 ∧ encI n = [n]) ∨ (128 ≤ n ∧ n < 2048 ∧ encI n = [192 + n / 64, 128 + n % 64]) ∨ (2048 ≤ n ∧ n < 65536 ∧ encI n = [224 + n / 4096, 128 + n / 64 % 64, 128 + n % 64]) ∨ (65536 ≤ n ∧ encI n = [240 + n / 262144, 128 + n / 4096 % 64, 128 + n / 64 % 64, 128 + n % 64]) := fun n h1 h2 => by
    by_cases c1 : n < 128
    · left; exact ⟨c1, by simp only [encI]; rw [if_pos c1]⟩
    right
    by_cases c2 : n < 2048
    · left; exact ⟨by omega, c2, by simp only [encI]; rw [if_neg c1, if_pos c2]⟩
    right
    by_cases c3 : n < 65536
    · left; exact ⟨by omega, c3, by simp only [encI]; rw [if_neg c1, if_neg c2, if_pos c3]⟩
    · right; exact ⟨by omega, by simp only [encI]; rw [if_neg c1, if_neg c2, if_neg c3]⟩
  rcases key r a.1 a.2 with ⟨_, e⟩ | ⟨_, _, e⟩ | ⟨_, _, e⟩ | ⟨_, e⟩ <;> rcases key s b.1 b.2 with ⟨_, f⟩ | ⟨_, _, f⟩ | ⟨_, _, f⟩ | ⟨_, f⟩ <;> rw [e, f] <;> simp only [lessI, Bool.or_eq_true, Bool.and_eq_true, decide_eq_true_eq, Bool.false_eq_true, and_false, or_false, and_true] <;> omega
theorem enc_inj {r s : Int} (hr : valid r = true) (hs : valid s = true) : (enc r = enc s) = (r = s) := by
  refine propext ⟨fun h => ?_, fun h => by rw [h]⟩
  have h1 := dec_enc hr []
  have h2 := dec_enc hs []
  rw [List.append_nil] at h1 h2
  rw [h, h2] at h1
  simp at h1; exact h1.symm
theorem startL_len_runes (b : List UInt8) : (startL b).length = (runeL b).length + 1 := by
  have : ∀ (r : List (Int × Nat)) p, (startsF p r).length = r.length := fun r => by
    induction r with
    | nil => intro p; rfl
    | cons x t ih => intro p; obtain ⟨a, n⟩ := x; simp only [startsF, List.length_cons, ih]
  simp only [startL, List.length_append, this, runeL, List.length_map, List.length_cons, List.length_nil]
end Go.Avm

namespace Go.Avm
open Go
set_option maxRecDepth 8000
set_option maxHeartbeats 4000000
/-- how many starts are before i -/
def cntS (b : List UInt8) (i : Int) : Nat := ((startL b).filter fun x => decide (x < i)).length
theorem startL_bounds {b : List UInt8} (h : stop b = b.length) : ∀ s ∈ startL b, 0 ≤ s ∧ s ≤ b.length := fun s hs => by
  simp only [startL, List.mem_append, List.mem_singleton] at hs
  rcases hs with hs | hs
  · have h1 := startsF_ge _ _ _ hs
    have h2 := startsF_lt b 0 s hs
    omega
  · omega
theorem cntS_zero {b : List UInt8} (h : stop b = b.length) : cntS b ((0 : Nat) : Int) = 0 := by
  simp only [cntS]
  rw [List.length_eq_zero_iff, List.filter_eq_nil_iff]
  intro x hx
  have := startL_bounds h x hx
  simp; omega
theorem cntS_all {b : List UInt8} (h : stop b = b.length) : cntS b ((b.length + 1 : Nat) : Int) = (startL b).length := by
  simp only [cntS]
  rw [List.filter_eq_self.2]
  intro x hx
  have := startL_bounds h x hx
  simp; omega
theorem ckE_iff {t : List UInt8} (h : t.length ≤ 8000) : ckE t = 0 ↔ stop t = t.length := by
  have hl := stop_le t
  simp only [ckE, stopE]
  rw [if_neg (by omega)]
  by_cases hst : stop t < t.length
  · rw [if_pos hst]
    constructor
    · intro h; split at h <;> omega
    · intro h; omega
  · rw [if_neg hst]; simp; omega
section
variable {X : Cx} (hX : X.P = Go.Proofs.Tryd.prog) (hs : Std X) (hG0 : X.G 0 = some tab0) (hG1 : X.G 1 = some tab1)
include hX hs hG0 hG1
theorem law7_000 (r s : Int) (b : List UInt8) (hr : -9223372036854775808 ≤ r ∧ r < 9223372036854775808) (hsr : -9223372036854775808 ≤ s ∧ s < 9223372036854775808) (c1 : ¬ 200 < (b.length : Int))
    (hv : valid r = false) (hw : valid s = false) (eb : ¬ ckE b = 0) : Ev X 7 [.int .i64 r, .int .i64 s, lst u8 .ro b] (.bool true) := by
  have aw := ev_awake hX hs hG0 hG1
  refine ev_of_wpc hs (A7_ok hX) 0 ?_
  simp only [A7, go_sem, Nat.reduceBEq, Nat.reduceEqDiff, Nat.reduceAdd, Int.reduceAdd, Nat.reduceMul, Nat.reduceSub, Int.reduceToNat, Int.reduceLE, Int.reduceLT, Int.reduceEq, Int.reduceNe, reduceCtorEq, Nat.reduceLT, Nat.reduceLeDiff, c1]
  refine call_ev (ev_EncodeR hX hs hG0 hG1 r hr) ?_
  simp only [go_sem, Nat.reduceBEq, Nat.reduceEqDiff, Nat.reduceAdd, Int.reduceAdd, Nat.reduceMul, Nat.reduceSub, Int.reduceToNat, Int.reduceLE, Int.reduceLT, Int.reduceEq, Int.reduceNe, reduceCtorEq, Nat.reduceLT, Nat.reduceLeDiff]
  refine call_ev (ev_EncodeR hX hs hG0 hG1 s hsr) ?_
  simp only [go_sem, Nat.reduceBEq, Nat.reduceEqDiff, Nat.reduceAdd, Int.reduceAdd, Nat.reduceMul, Nat.reduceSub, Int.reduceToNat, Int.reduceLE, Int.reduceLT, Int.reduceEq, Int.reduceNe, reduceCtorEq, Nat.reduceLT, Nat.reduceLeDiff, hv, hw, fault]
  refine call_ev (ev_Starts hX hs hG0 hG1 b) ?_
  simp only [go_sem, Nat.reduceBEq, Nat.reduceEqDiff, Nat.reduceAdd, Int.reduceAdd, Nat.reduceMul, Nat.reduceSub, Int.reduceToNat, Int.reduceLE, Int.reduceLT, Int.reduceEq, Int.reduceNe, reduceCtorEq, Nat.reduceLT, Nat.reduceLeDiff, eb]
  refine call_ev aw ?_
  simp only [go_sem, Nat.reduceBEq, Nat.reduceEqDiff, Nat.reduceAdd, Int.reduceAdd, Nat.reduceMul, Nat.reduceSub, Int.reduceToNat, Int.reduceLE, Int.reduceLT, Int.reduceEq, Int.reduceNe, reduceCtorEq, Nat.reduceLT, Nat.reduceLeDiff]
theorem law7_001 (r s : Int) (b : List UInt8) (hr : -9223372036854775808 ≤ r ∧ r < 9223372036854775808) (hsr : -9223372036854775808 ≤ s ∧ s < 9223372036854775808) (c1 : ¬ 200 < (b.length : Int))
    (hv : valid r = false) (hw : valid s = false) (eb : ckE b = 0) : Ev X 7 [.int .i64 r, .int .i64 s, lst u8 .ro b] (.bool true) := by
  have aw := ev_awake hX hs hG0 hG1
  have hst := ckE_0 eb
  refine ev_of_wpc hs (A7_ok hX) 0 ?_
  simp only [A7, go_sem, Nat.reduceBEq, Nat.reduceEqDiff, Nat.reduceAdd, Int.reduceAdd, Nat.reduceMul, Nat.reduceSub, Int.reduceToNat, Int.reduceLE, Int.reduceLT, Int.reduceEq, Int.reduceNe, reduceCtorEq, Nat.reduceLT, Nat.reduceLeDiff, c1]
  refine call_ev (ev_EncodeR hX hs hG0 hG1 r hr) ?_
  simp only [go_sem, Nat.reduceBEq, Nat.reduceEqDiff, Nat.reduceAdd, Int.reduceAdd, Nat.reduceMul, Nat.reduceSub, Int.reduceToNat, Int.reduceLE, Int.reduceLT, Int.reduceEq, Int.reduceNe, reduceCtorEq, Nat.reduceLT, Nat.reduceLeDiff]
  refine call_ev (ev_EncodeR hX hs hG0 hG1 s hsr) ?_
  simp only [go_sem, Nat.reduceBEq, Nat.reduceEqDiff, Nat.reduceAdd, Int.reduceAdd, Nat.reduceMul, Nat.reduceSub, Int.reduceToNat, Int.reduceLE, Int.reduceLT, Int.reduceEq, Int.reduceNe, reduceCtorEq, Nat.reduceLT, Nat.reduceLeDiff, hv, hw, fault]
  refine call_ev (ev_Starts hX hs hG0 hG1 b) ?_
  simp only [go_sem, Nat.reduceBEq, Nat.reduceEqDiff, Nat.reduceAdd, Int.reduceAdd, Nat.reduceMul, Nat.reduceSub, Int.reduceToNat, Int.reduceLE, Int.reduceLT, Int.reduceEq, Int.reduceNe, reduceCtorEq, Nat.reduceLT, Nat.reduceLeDiff, eb]
  refine w_loop' hs.hm (ι := Nat) (fun i => i ≤ b.length + 1) (fun i => [(2, lst u8 .ro b), (11, lst (AV.int .i64) .ro (startL b)), (12, .int .i64 (cntS b i)), (13, .int .i64 i)]) (fun _ => []) (fun i => b.length + 1 - i) 0 ?_ fun i hi => ?_
  · simp only [go_sem, Nat.reduceBEq, Nat.reduceEqDiff, Nat.reduceAdd, Int.reduceAdd, Nat.reduceMul, Nat.reduceSub, Int.reduceToNat, Int.reduceLE, Int.reduceLT, Int.reduceEq, Int.reduceNe, reduceCtorEq, Nat.reduceLT, Nat.reduceLeDiff]
    have z0 : cntS b 0 = 0 := cntS_zero hst.2
    simp [z0]
  · simp only [A7L0, go_sem, Nat.reduceBEq, Nat.reduceEqDiff, Nat.reduceAdd, Int.reduceAdd, Nat.reduceMul, Nat.reduceSub, Int.reduceToNat, Int.reduceLE, Int.reduceLT, Int.reduceEq, Int.reduceNe, reduceCtorEq, Nat.reduceLT, Nat.reduceLeDiff]
    refine ⟨fun c => ?_, fun c => ?_⟩
    · have hil : i ≤ b.length := by omega
      obtain ⟨v, v1, v2, v3, v4, v5⟩ := back_facts hst.2 i hil
      have hok := backE_ok (i := (i : Int)) eb (by omega)
      have hOn : Ev X 24 [lst u8 .ro b, .int .i64 i] (.tuple [.bool (decide ((v : Int) = i)), .int .i64 0]) := by
        have := ev_On hX hs hG0 hG1 b i
        rw [hok.1, hok.2, v1] at this
        simpa using this
      have hBk : Ev X 26 [lst u8 .ro b, .int .i64 i] (.tuple [.int .i64 v, .int .i64 0]) := by
        have := ev_Back hX hs hG0 hG1 b i
        rw [hok.1, hok.2, v1] at this
        exact this
      have hcut := start_cut hst.2 i hil
      have ht : ckE (b.take i) = 0 ↔ stop (b.take i) = i := by
        rw [ckE_iff (by rw [List.length_take]; omega), List.length_take, Nat.min_eq_left hil]
      have hd : ckE (b.drop i) = 0 ↔ stop (b.drop i) = b.length - i := by
        rw [ckE_iff (by rw [List.length_drop]; omega), List.length_drop]
      have hsrt := sorted_at (i : Int) (startL b) (startL_sorted hst.2)
      have w3 : IntKind.i64.wrap ((i : Int) - 3) = (i : Int) - 3 := wi64 (by omega)
      have wi : IntKind.i64.wrap ((i : Int) + 1) = ((i + 1 : Nat) : Int) := by rw [wi64 (by omega)]; rfl
      have q1 : ¬ (i : Int) < (v : Int) := by omega
      have q2 : ¬ (v : Int) < (i : Int) - 3 := by omega
      refine call_ev hOn ?_
      simp only [go_sem, Nat.reduceBEq, Nat.reduceEqDiff, Nat.reduceAdd, Int.reduceAdd, Nat.reduceMul, Nat.reduceSub, Int.reduceToNat, Int.reduceLE, Int.reduceLT, Int.reduceEq, Int.reduceNe, reduceCtorEq, Nat.reduceLT, Nat.reduceLeDiff]
      refine call_ev hBk ?_
      simp only [go_sem, Nat.reduceBEq, Nat.reduceEqDiff, Nat.reduceAdd, Int.reduceAdd, Nat.reduceMul, Nat.reduceSub, Int.reduceToNat, Int.reduceLE, Int.reduceLT, Int.reduceEq, Int.reduceNe, reduceCtorEq, Nat.reduceLT, Nat.reduceLeDiff]
      refine ⟨by omega, ?_⟩
      refine call_ev (ev_Check hX hs hG0 hG1 _) ?_
      simp only [go_sem, Nat.reduceBEq, Nat.reduceEqDiff, Nat.reduceAdd, Int.reduceAdd, Nat.reduceMul, Nat.reduceSub, Int.reduceToNat, Int.reduceLE, Int.reduceLT, Int.reduceEq, Int.reduceNe, reduceCtorEq, Nat.reduceLT, Nat.reduceLeDiff]
      refine ⟨by omega, ?_⟩
      refine call_ev (ev_Check hX hs hG0 hG1 _) ?_
      by_cases hm : (i : Int) ∈ startL b
      · have hvi : (v : Int) = i := v5.2 hm
        have h1 := hcut.1 hm
        have g1 := ht.2 h1.1
        have g2 := hd.2 h1.2
        have hlt : cntS b i < (startL b).length := by
          have := hsrt.1 hm
          exact (List.getElem?_eq_some_iff.1 this).1
        have hget : (startL b).getD (cntS b i) default = i := by
          have := hsrt.1 hm
          simp [List.getD, cntS, this]
        have hc1 : cntS b ((i : Int) + 1) = cntS b i + 1 := by
          have := hsrt.2
          rw [if_pos hm] at this
          exact this
        have q3 : ¬ ((startL b).length : Int) ≤ (cntS b i : Int) := by omega
        have hss := startL_small eb
        simp only [go_sem, Nat.reduceBEq, Nat.reduceEqDiff, Nat.reduceAdd, Int.reduceAdd, Nat.reduceMul, Nat.reduceSub, Int.reduceToNat, Int.reduceLE, Int.reduceLT, Int.reduceEq, Int.reduceNe, reduceCtorEq, Nat.reduceLT, Nat.reduceLeDiff, hvi, g1, g2, q1, q2, w3, wi, q3, hget]
        have q4 : ¬ (i : Int) < (i : Int) - 3 := by omega
        simp only [q4, go_sem, Nat.reduceBEq, Nat.reduceEqDiff, Nat.reduceAdd, Int.reduceAdd, Nat.reduceMul, Nat.reduceSub, Int.reduceToNat, Int.reduceLE, Int.reduceLT, Int.reduceEq, Int.reduceNe, reduceCtorEq, Nat.reduceLT, Nat.reduceLeDiff, hget]
        refine ⟨fun h => absurd h (by omega), fun _ => ⟨⟨by omega, by omega⟩, i + 1, by omega, by omega, ?_, rfl⟩⟩
        rw [wi64 (by omega)]
        show _ = AV.int .i64 (cntS b ((i + 1 : Nat) : Int))
        have : (((i + 1 : Nat) : Nat) : Int) = (i : Int) + 1 := by omega
        rw [this, hc1]; rfl
      · have hvi : ¬ (v : Int) = i := fun h => hm (v5.1 h)
        have hc1 : cntS b ((i : Int) + 1) = cntS b i := by
          have := hsrt.2
          rw [if_neg hm] at this
          exact this
        have hcc : (cntS b ((i + 1 : Nat) : Int)) = cntS b i := by
          have : (((i + 1 : Nat) : Nat) : Int) = (i : Int) + 1 := by omega
          rw [this, hc1]
        by_cases g1 : ckE (b.take i) = 0
        · have g2 : ¬ ckE (b.drop i) = 0 := fun g2 => hm (hcut.2 ⟨ht.1 g1, hd.1 g2⟩)
          simp only [go_sem, Nat.reduceBEq, Nat.reduceEqDiff, Nat.reduceAdd, Int.reduceAdd, Nat.reduceMul, Nat.reduceSub, Int.reduceToNat, Int.reduceLE, Int.reduceLT, Int.reduceEq, Int.reduceNe, reduceCtorEq, Nat.reduceLT, Nat.reduceLeDiff, hvi, g1, g2, q1, q2, w3, wi]
          exact ⟨i + 1, by omega, by omega, by rw [hcc], rfl⟩
        · simp only [go_sem, Nat.reduceBEq, Nat.reduceEqDiff, Nat.reduceAdd, Int.reduceAdd, Nat.reduceMul, Nat.reduceSub, Int.reduceToNat, Int.reduceLE, Int.reduceLT, Int.reduceEq, Int.reduceNe, reduceCtorEq, Nat.reduceLT, Nat.reduceLeDiff, hvi, g1, q1, q2, w3, wi]
          exact ⟨i + 1, by omega, by omega, by rw [hcc], rfl⟩
    · have hie : i = b.length + 1 := by omega
      have hcnt : cntS b i = (startL b).length := by
        rw [hie]; exact cntS_all hst.2
      have hll := startL_len_runes b
      refine call_ev (ev_Count hX hs hG0 hG1 b) ?_
      have w1 : IntKind.i64.wrap (((startL b).length : Int) - 1) = ((runeL b).length : Int) := by rw [wi64 (by have := startL_small eb; omega)]; omega
      simp only [go_sem, Nat.reduceBEq, Nat.reduceEqDiff, Nat.reduceAdd, Int.reduceAdd, Nat.reduceMul, Nat.reduceSub, Int.reduceToNat, Int.reduceLE, Int.reduceLT, Int.reduceEq, Int.reduceNe, reduceCtorEq, Nat.reduceLT, Nat.reduceLeDiff, eb, hcnt, w1]
      refine call_ev aw ?_
      simp only [go_sem, Nat.reduceBEq, Nat.reduceEqDiff, Nat.reduceAdd, Int.reduceAdd, Nat.reduceMul, Nat.reduceSub, Int.reduceToNat, Int.reduceLE, Int.reduceLT, Int.reduceEq, Int.reduceNe, reduceCtorEq, Nat.reduceLT, Nat.reduceLeDiff]
theorem law7_010 (r s : Int) (b : List UInt8) (hr : -9223372036854775808 ≤ r ∧ r < 9223372036854775808) (hsr : -9223372036854775808 ≤ s ∧ s < 9223372036854775808) (c1 : ¬ 200 < (b.length : Int))
    (hv : valid r = false) (hw : valid s = true) (eb : ¬ ckE b = 0) : Ev X 7 [.int .i64 r, .int .i64 s, lst u8 .ro b] (.bool true) := by
  have aw := ev_awake hX hs hG0 hG1
  refine ev_of_wpc hs (A7_ok hX) 0 ?_
  simp only [A7, go_sem, Nat.reduceBEq, Nat.reduceEqDiff, Nat.reduceAdd, Int.reduceAdd, Nat.reduceMul, Nat.reduceSub, Int.reduceToNat, Int.reduceLE, Int.reduceLT, Int.reduceEq, Int.reduceNe, reduceCtorEq, Nat.reduceLT, Nat.reduceLeDiff, c1]
  refine call_ev (ev_EncodeR hX hs hG0 hG1 r hr) ?_
  simp only [go_sem, Nat.reduceBEq, Nat.reduceEqDiff, Nat.reduceAdd, Int.reduceAdd, Nat.reduceMul, Nat.reduceSub, Int.reduceToNat, Int.reduceLE, Int.reduceLT, Int.reduceEq, Int.reduceNe, reduceCtorEq, Nat.reduceLT, Nat.reduceLeDiff]
  refine call_ev (ev_EncodeR hX hs hG0 hG1 s hsr) ?_
  simp only [go_sem, Nat.reduceBEq, Nat.reduceEqDiff, Nat.reduceAdd, Int.reduceAdd, Nat.reduceMul, Nat.reduceSub, Int.reduceToNat, Int.reduceLE, Int.reduceLT, Int.reduceEq, Int.reduceNe, reduceCtorEq, Nat.reduceLT, Nat.reduceLeDiff, hv, hw, fault]
  refine call_ev (ev_Starts hX hs hG0 hG1 b) ?_
  simp only [go_sem, Nat.reduceBEq, Nat.reduceEqDiff, Nat.reduceAdd, Int.reduceAdd, Nat.reduceMul, Nat.reduceSub, Int.reduceToNat, Int.reduceLE, Int.reduceLT, Int.reduceEq, Int.reduceNe, reduceCtorEq, Nat.reduceLT, Nat.reduceLeDiff, eb]
  refine call_ev aw ?_
  simp only [go_sem, Nat.reduceBEq, Nat.reduceEqDiff, Nat.reduceAdd, Int.reduceAdd, Nat.reduceMul, Nat.reduceSub, Int.reduceToNat, Int.reduceLE, Int.reduceLT, Int.reduceEq, Int.reduceNe, reduceCtorEq, Nat.reduceLT, Nat.reduceLeDiff]
theorem law7_011 (r s : Int) (b : List UInt8) (hr : -9223372036854775808 ≤ r ∧ r < 9223372036854775808) (hsr : -9223372036854775808 ≤ s ∧ s < 9223372036854775808) (c1 : ¬ 200 < (b.length : Int))
    (hv : valid r = false) (hw : valid s = true) (eb : ckE b = 0) : Ev X 7 [.int .i64 r, .int .i64 s, lst u8 .ro b] (.bool true) := by
  have aw := ev_awake hX hs hG0 hG1
  have hst := ckE_0 eb
  refine ev_of_wpc hs (A7_ok hX) 0 ?_
  simp only [A7, go_sem, Nat.reduceBEq, Nat.reduceEqDiff, Nat.reduceAdd, Int.reduceAdd, Nat.reduceMul, Nat.reduceSub, Int.reduceToNat, Int.reduceLE, Int.reduceLT, Int.reduceEq, Int.reduceNe, reduceCtorEq, Nat.reduceLT, Nat.reduceLeDiff, c1]
  refine call_ev (ev_EncodeR hX hs hG0 hG1 r hr) ?_
  simp only [go_sem, Nat.reduceBEq, Nat.reduceEqDiff, Nat.reduceAdd, Int.reduceAdd, Nat.reduceMul, Nat.reduceSub, Int.reduceToNat, Int.reduceLE, Int.reduceLT, Int.reduceEq, Int.reduceNe, reduceCtorEq, Nat.reduceLT, Nat.reduceLeDiff]
  refine call_ev (ev_EncodeR hX hs hG0 hG1 s hsr) ?_
  simp only [go_sem, Nat.reduceBEq, Nat.reduceEqDiff, Nat.reduceAdd, Int.reduceAdd, Nat.reduceMul, Nat.reduceSub, Int.reduceToNat, Int.reduceLE, Int.reduceLT, Int.reduceEq, Int.reduceNe, reduceCtorEq, Nat.reduceLT, Nat.reduceLeDiff, hv, hw, fault]
  refine call_ev (ev_Starts hX hs hG0 hG1 b) ?_
  simp only [go_sem, Nat.reduceBEq, Nat.reduceEqDiff, Nat.reduceAdd, Int.reduceAdd, Nat.reduceMul, Nat.reduceSub, Int.reduceToNat, Int.reduceLE, Int.reduceLT, Int.reduceEq, Int.reduceNe, reduceCtorEq, Nat.reduceLT, Nat.reduceLeDiff, eb]
  refine w_loop' hs.hm (ι := Nat) (fun i => i ≤ b.length + 1) (fun i => [(2, lst u8 .ro b), (11, lst (AV.int .i64) .ro (startL b)), (12, .int .i64 (cntS b i)), (13, .int .i64 i)]) (fun _ => []) (fun i => b.length + 1 - i) 0 ?_ fun i hi => ?_
  · simp only [go_sem, Nat.reduceBEq, Nat.reduceEqDiff, Nat.reduceAdd, Int.reduceAdd, Nat.reduceMul, Nat.reduceSub, Int.reduceToNat, Int.reduceLE, Int.reduceLT, Int.reduceEq, Int.reduceNe, reduceCtorEq, Nat.reduceLT, Nat.reduceLeDiff]
    have z0 : cntS b 0 = 0 := cntS_zero hst.2
    simp [z0]
  · simp only [A7L0, go_sem, Nat.reduceBEq, Nat.reduceEqDiff, Nat.reduceAdd, Int.reduceAdd, Nat.reduceMul, Nat.reduceSub, Int.reduceToNat, Int.reduceLE, Int.reduceLT, Int.reduceEq, Int.reduceNe, reduceCtorEq, Nat.reduceLT, Nat.reduceLeDiff]
    refine ⟨fun c => ?_, fun c => ?_⟩
    · have hil : i ≤ b.length := by omega
      obtain ⟨v, v1, v2, v3, v4, v5⟩ := back_facts hst.2 i hil
      have hok := backE_ok (i := (i : Int)) eb (by omega)
      have hOn : Ev X 24 [lst u8 .ro b, .int .i64 i] (.tuple [.bool (decide ((v : Int) = i)), .int .i64 0]) := by
        have := ev_On hX hs hG0 hG1 b i
        rw [hok.1, hok.2, v1] at this
        simpa using this
      have hBk : Ev X 26 [lst u8 .ro b, .int .i64 i] (.tuple [.int .i64 v, .int .i64 0]) := by
        have := ev_Back hX hs hG0 hG1 b i
        rw [hok.1, hok.2, v1] at this
        exact this
      have hcut := start_cut hst.2 i hil
      have ht : ckE (b.take i) = 0 ↔ stop (b.take i) = i := by
        rw [ckE_iff (by rw [List.length_take]; omega), List.length_take, Nat.min_eq_left hil]
      have hd : ckE (b.drop i) = 0 ↔ stop (b.drop i) = b.length - i := by
        rw [ckE_iff (by rw [List.length_drop]; omega), List.length_drop]
      have hsrt := sorted_at (i : Int) (startL b) (startL_sorted hst.2)
      have w3 : IntKind.i64.wrap ((i : Int) - 3) = (i : Int) - 3 := wi64 (by omega)
      have wi : IntKind.i64.wrap ((i : Int) + 1) = ((i + 1 : Nat) : Int) := by rw [wi64 (by omega)]; rfl
      have q1 : ¬ (i : Int) < (v : Int) := by omega
      have q2 : ¬ (v : Int) < (i : Int) - 3 := by omega
      refine call_ev hOn ?_
      simp only [go_sem, Nat.reduceBEq, Nat.reduceEqDiff, Nat.reduceAdd, Int.reduceAdd, Nat.reduceMul, Nat.reduceSub, Int.reduceToNat, Int.reduceLE, Int.reduceLT, Int.reduceEq, Int.reduceNe, reduceCtorEq, Nat.reduceLT, Nat.reduceLeDiff]
      refine call_ev hBk ?_
      simp only [go_sem, Nat.reduceBEq, Nat.reduceEqDiff, Nat.reduceAdd, Int.reduceAdd, Nat.reduceMul, Nat.reduceSub, Int.reduceToNat, Int.reduceLE, Int.reduceLT, Int.reduceEq, Int.reduceNe, reduceCtorEq, Nat.reduceLT, Nat.reduceLeDiff]
      refine ⟨by omega, ?_⟩
      refine call_ev (ev_Check hX hs hG0 hG1 _) ?_
      simp only [go_sem, Nat.reduceBEq, Nat.reduceEqDiff, Nat.reduceAdd, Int.reduceAdd, Nat.reduceMul, Nat.reduceSub, Int.reduceToNat, Int.reduceLE, Int.reduceLT, Int.reduceEq, Int.reduceNe, reduceCtorEq, Nat.reduceLT, Nat.reduceLeDiff]
      refine ⟨by omega, ?_⟩
      refine call_ev (ev_Check hX hs hG0 hG1 _) ?_
      by_cases hm : (i : Int) ∈ startL b
      · have hvi : (v : Int) = i := v5.2 hm
        have h1 := hcut.1 hm
        have g1 := ht.2 h1.1
        have g2 := hd.2 h1.2
        have hlt : cntS b i < (startL b).length := by
          have := hsrt.1 hm
          exact (List.getElem?_eq_some_iff.1 this).1
        have hget : (startL b).getD (cntS b i) default = i := by
          have := hsrt.1 hm
          simp [List.getD, cntS, this]
        have hc1 : cntS b ((i : Int) + 1) = cntS b i + 1 := by
          have := hsrt.2
          rw [if_pos hm] at this
          exact this
        have q3 : ¬ ((startL b).length : Int) ≤ (cntS b i : Int) := by omega
        have hss := startL_small eb
        simp only [go_sem, Nat.reduceBEq, Nat.reduceEqDiff, Nat.reduceAdd, Int.reduceAdd, Nat.reduceMul, Nat.reduceSub, Int.reduceToNat, Int.reduceLE, Int.reduceLT, Int.reduceEq, Int.reduceNe, reduceCtorEq, Nat.reduceLT, Nat.reduceLeDiff, hvi, g1, g2, q1, q2, w3, wi, q3, hget]
        have q4 : ¬ (i : Int) < (i : Int) - 3 := by omega
        simp only [q4, go_sem, Nat.reduceBEq, Nat.reduceEqDiff, Nat.reduceAdd, Int.reduceAdd, Nat.reduceMul, Nat.reduceSub, Int.reduceToNat, Int.reduceLE, Int.reduceLT, Int.reduceEq, Int.reduceNe, reduceCtorEq, Nat.reduceLT, Nat.reduceLeDiff, hget]
        refine ⟨fun h => absurd h (by omega), fun _ => ⟨⟨by omega, by omega⟩, i + 1, by omega, by omega, ?_, rfl⟩⟩
        rw [wi64 (by omega)]
        show _ = AV.int .i64 (cntS b ((i + 1 : Nat) : Int))
        have : (((i + 1 : Nat) : Nat) : Int) = (i : Int) + 1 := by omega
        rw [this, hc1]; rfl
      · have hvi : ¬ (v : Int) = i := fun h => hm (v5.1 h)
        have hc1 : cntS b ((i : Int) + 1) = cntS b i := by
          have := hsrt.2
          rw [if_neg hm] at this
          exact this
        have hcc : (cntS b ((i + 1 : Nat) : Int)) = cntS b i := by
          have : (((i + 1 : Nat) : Nat) : Int) = (i : Int) + 1 := by omega
          rw [this, hc1]
        by_cases g1 : ckE (b.take i) = 0
        · have g2 : ¬ ckE (b.drop i) = 0 := fun g2 => hm (hcut.2 ⟨ht.1 g1, hd.1 g2⟩)
          simp only [go_sem, Nat.reduceBEq, Nat.reduceEqDiff, Nat.reduceAdd, Int.reduceAdd, Nat.reduceMul, Nat.reduceSub, Int.reduceToNat, Int.reduceLE, Int.reduceLT, Int.reduceEq, Int.reduceNe, reduceCtorEq, Nat.reduceLT, Nat.reduceLeDiff, hvi, g1, g2, q1, q2, w3, wi]
          exact ⟨i + 1, by omega, by omega, by rw [hcc], rfl⟩
        · simp only [go_sem, Nat.reduceBEq, Nat.reduceEqDiff, Nat.reduceAdd, Int.reduceAdd, Nat.reduceMul, Nat.reduceSub, Int.reduceToNat, Int.reduceLE, Int.reduceLT, Int.reduceEq, Int.reduceNe, reduceCtorEq, Nat.reduceLT, Nat.reduceLeDiff, hvi, g1, q1, q2, w3, wi]
          exact ⟨i + 1, by omega, by omega, by rw [hcc], rfl⟩
    · have hie : i = b.length + 1 := by omega
      have hcnt : cntS b i = (startL b).length := by
        rw [hie]; exact cntS_all hst.2
      have hll := startL_len_runes b
      refine call_ev (ev_Count hX hs hG0 hG1 b) ?_
      have w1 : IntKind.i64.wrap (((startL b).length : Int) - 1) = ((runeL b).length : Int) := by rw [wi64 (by have := startL_small eb; omega)]; omega
      simp only [go_sem, Nat.reduceBEq, Nat.reduceEqDiff, Nat.reduceAdd, Int.reduceAdd, Nat.reduceMul, Nat.reduceSub, Int.reduceToNat, Int.reduceLE, Int.reduceLT, Int.reduceEq, Int.reduceNe, reduceCtorEq, Nat.reduceLT, Nat.reduceLeDiff, eb, hcnt, w1]
      refine call_ev aw ?_
      simp only [go_sem, Nat.reduceBEq, Nat.reduceEqDiff, Nat.reduceAdd, Int.reduceAdd, Nat.reduceMul, Nat.reduceSub, Int.reduceToNat, Int.reduceLE, Int.reduceLT, Int.reduceEq, Int.reduceNe, reduceCtorEq, Nat.reduceLT, Nat.reduceLeDiff]
theorem law7_100 (r s : Int) (b : List UInt8) (hr : -9223372036854775808 ≤ r ∧ r < 9223372036854775808) (hsr : -9223372036854775808 ≤ s ∧ s < 9223372036854775808) (c1 : ¬ 200 < (b.length : Int))
    (hv : valid r = true) (hw : valid s = false) (eb : ¬ ckE b = 0) : Ev X 7 [.int .i64 r, .int .i64 s, lst u8 .ro b] (.bool true) := by
  have aw := ev_awake hX hs hG0 hG1
  refine ev_of_wpc hs (A7_ok hX) 0 ?_
  simp only [A7, go_sem, Nat.reduceBEq, Nat.reduceEqDiff, Nat.reduceAdd, Int.reduceAdd, Nat.reduceMul, Nat.reduceSub, Int.reduceToNat, Int.reduceLE, Int.reduceLT, Int.reduceEq, Int.reduceNe, reduceCtorEq, Nat.reduceLT, Nat.reduceLeDiff, c1]
  refine call_ev (ev_EncodeR hX hs hG0 hG1 r hr) ?_
  simp only [go_sem, Nat.reduceBEq, Nat.reduceEqDiff, Nat.reduceAdd, Int.reduceAdd, Nat.reduceMul, Nat.reduceSub, Int.reduceToNat, Int.reduceLE, Int.reduceLT, Int.reduceEq, Int.reduceNe, reduceCtorEq, Nat.reduceLT, Nat.reduceLeDiff]
  refine call_ev (ev_EncodeR hX hs hG0 hG1 s hsr) ?_
  simp only [go_sem, Nat.reduceBEq, Nat.reduceEqDiff, Nat.reduceAdd, Int.reduceAdd, Nat.reduceMul, Nat.reduceSub, Int.reduceToNat, Int.reduceLE, Int.reduceLT, Int.reduceEq, Int.reduceNe, reduceCtorEq, Nat.reduceLT, Nat.reduceLeDiff, hv, hw, fault]
  refine call_ev (ev_Starts hX hs hG0 hG1 b) ?_
  simp only [go_sem, Nat.reduceBEq, Nat.reduceEqDiff, Nat.reduceAdd, Int.reduceAdd, Nat.reduceMul, Nat.reduceSub, Int.reduceToNat, Int.reduceLE, Int.reduceLT, Int.reduceEq, Int.reduceNe, reduceCtorEq, Nat.reduceLT, Nat.reduceLeDiff, eb]
  refine call_ev aw ?_
  simp only [go_sem, Nat.reduceBEq, Nat.reduceEqDiff, Nat.reduceAdd, Int.reduceAdd, Nat.reduceMul, Nat.reduceSub, Int.reduceToNat, Int.reduceLE, Int.reduceLT, Int.reduceEq, Int.reduceNe, reduceCtorEq, Nat.reduceLT, Nat.reduceLeDiff]
theorem law7_101 (r s : Int) (b : List UInt8) (hr : -9223372036854775808 ≤ r ∧ r < 9223372036854775808) (hsr : -9223372036854775808 ≤ s ∧ s < 9223372036854775808) (c1 : ¬ 200 < (b.length : Int))
    (hv : valid r = true) (hw : valid s = false) (eb : ckE b = 0) : Ev X 7 [.int .i64 r, .int .i64 s, lst u8 .ro b] (.bool true) := by
  have aw := ev_awake hX hs hG0 hG1
  have hst := ckE_0 eb
  refine ev_of_wpc hs (A7_ok hX) 0 ?_
  simp only [A7, go_sem, Nat.reduceBEq, Nat.reduceEqDiff, Nat.reduceAdd, Int.reduceAdd, Nat.reduceMul, Nat.reduceSub, Int.reduceToNat, Int.reduceLE, Int.reduceLT, Int.reduceEq, Int.reduceNe, reduceCtorEq, Nat.reduceLT, Nat.reduceLeDiff, c1]
  refine call_ev (ev_EncodeR hX hs hG0 hG1 r hr) ?_
  simp only [go_sem, Nat.reduceBEq, Nat.reduceEqDiff, Nat.reduceAdd, Int.reduceAdd, Nat.reduceMul, Nat.reduceSub, Int.reduceToNat, Int.reduceLE, Int.reduceLT, Int.reduceEq, Int.reduceNe, reduceCtorEq, Nat.reduceLT, Nat.reduceLeDiff]
  refine call_ev (ev_EncodeR hX hs hG0 hG1 s hsr) ?_
  simp only [go_sem, Nat.reduceBEq, Nat.reduceEqDiff, Nat.reduceAdd, Int.reduceAdd, Nat.reduceMul, Nat.reduceSub, Int.reduceToNat, Int.reduceLE, Int.reduceLT, Int.reduceEq, Int.reduceNe, reduceCtorEq, Nat.reduceLT, Nat.reduceLeDiff, hv, hw, fault]
  refine call_ev (ev_Starts hX hs hG0 hG1 b) ?_
  simp only [go_sem, Nat.reduceBEq, Nat.reduceEqDiff, Nat.reduceAdd, Int.reduceAdd, Nat.reduceMul, Nat.reduceSub, Int.reduceToNat, Int.reduceLE, Int.reduceLT, Int.reduceEq, Int.reduceNe, reduceCtorEq, Nat.reduceLT, Nat.reduceLeDiff, eb]
  refine w_loop' hs.hm (ι := Nat) (fun i => i ≤ b.length + 1) (fun i => [(2, lst u8 .ro b), (11, lst (AV.int .i64) .ro (startL b)), (12, .int .i64 (cntS b i)), (13, .int .i64 i)]) (fun _ => []) (fun i => b.length + 1 - i) 0 ?_ fun i hi => ?_
  · simp only [go_sem, Nat.reduceBEq, Nat.reduceEqDiff, Nat.reduceAdd, Int.reduceAdd, Nat.reduceMul, Nat.reduceSub, Int.reduceToNat, Int.reduceLE, Int.reduceLT, Int.reduceEq, Int.reduceNe, reduceCtorEq, Nat.reduceLT, Nat.reduceLeDiff]
    have z0 : cntS b 0 = 0 := cntS_zero hst.2
    simp [z0]
  · simp only [A7L0, go_sem, Nat.reduceBEq, Nat.reduceEqDiff, Nat.reduceAdd, Int.reduceAdd, Nat.reduceMul, Nat.reduceSub, Int.reduceToNat, Int.reduceLE, Int.reduceLT, Int.reduceEq, Int.reduceNe, reduceCtorEq, Nat.reduceLT, Nat.reduceLeDiff]
    refine ⟨fun c => ?_, fun c => ?_⟩
    · have hil : i ≤ b.length := by omega
      obtain ⟨v, v1, v2, v3, v4, v5⟩ := back_facts hst.2 i hil
      have hok := backE_ok (i := (i : Int)) eb (by omega)
      have hOn : Ev X 24 [lst u8 .ro b, .int .i64 i] (.tuple [.bool (decide ((v : Int) = i)), .int .i64 0]) := by
        have := ev_On hX hs hG0 hG1 b i
        rw [hok.1, hok.2, v1] at this
        simpa using this
      have hBk : Ev X 26 [lst u8 .ro b, .int .i64 i] (.tuple [.int .i64 v, .int .i64 0]) := by
        have := ev_Back hX hs hG0 hG1 b i
        rw [hok.1, hok.2, v1] at this
        exact this
      have hcut := start_cut hst.2 i hil
      have ht : ckE (b.take i) = 0 ↔ stop (b.take i) = i := by
        rw [ckE_iff (by rw [List.length_take]; omega), List.length_take, Nat.min_eq_left hil]
      have hd : ckE (b.drop i) = 0 ↔ stop (b.drop i) = b.length - i := by
        rw [ckE_iff (by rw [List.length_drop]; omega), List.length_drop]
      have hsrt := sorted_at (i : Int) (startL b) (startL_sorted hst.2)
      have w3 : IntKind.i64.wrap ((i : Int) - 3) = (i : Int) - 3 := wi64 (by omega)
      have wi : IntKind.i64.wrap ((i : Int) + 1) = ((i + 1 : Nat) : Int) := by rw [wi64 (by omega)]; rfl
      have q1 : ¬ (i : Int) < (v : Int) := by omega
      have q2 : ¬ (v : Int) < (i : Int) - 3 := by omega
      refine call_ev hOn ?_
      simp only [go_sem, Nat.reduceBEq, Nat.reduceEqDiff, Nat.reduceAdd, Int.reduceAdd, Nat.reduceMul, Nat.reduceSub, Int.reduceToNat, Int.reduceLE, Int.reduceLT, Int.reduceEq, Int.reduceNe, reduceCtorEq, Nat.reduceLT, Nat.reduceLeDiff]
      refine call_ev hBk ?_
      simp only [go_sem, Nat.reduceBEq, Nat.reduceEqDiff, Nat.reduceAdd, Int.reduceAdd, Nat.reduceMul, Nat.reduceSub, Int.reduceToNat, Int.reduceLE, Int.reduceLT, Int.reduceEq, Int.reduceNe, reduceCtorEq, Nat.reduceLT, Nat.reduceLeDiff]
      refine ⟨by omega, ?_⟩
      refine call_ev (ev_Check hX hs hG0 hG1 _) ?_
      simp only [go_sem, Nat.reduceBEq, Nat.reduceEqDiff, Nat.reduceAdd, Int.reduceAdd, Nat.reduceMul, Nat.reduceSub, Int.reduceToNat, Int.reduceLE, Int.reduceLT, Int.reduceEq, Int.reduceNe, reduceCtorEq, Nat.reduceLT, Nat.reduceLeDiff]
      refine ⟨by omega, ?_⟩
      refine call_ev (ev_Check hX hs hG0 hG1 _) ?_
      by_cases hm : (i : Int) ∈ startL b
      · have hvi : (v : Int) = i := v5.2 hm
        have h1 := hcut.1 hm
        have g1 := ht.2 h1.1
        have g2 := hd.2 h1.2
        have hlt : cntS b i < (startL b).length := by
          have := hsrt.1 hm
          exact (List.getElem?_eq_some_iff.1 this).1
        have hget : (startL b).getD (cntS b i) default = i := by
          have := hsrt.1 hm
          simp [List.getD, cntS, this]
        have hc1 : cntS b ((i : Int) + 1) = cntS b i + 1 := by
          have := hsrt.2
          rw [if_pos hm] at this
          exact this
        have q3 : ¬ ((startL b).length : Int) ≤ (cntS b i : Int) := by omega
        have hss := startL_small eb
        simp only [go_sem, Nat.reduceBEq, Nat.reduceEqDiff, Nat.reduceAdd, Int.reduceAdd, Nat.reduceMul, Nat.reduceSub, Int.reduceToNat, Int.reduceLE, Int.reduceLT, Int.reduceEq, Int.reduceNe, reduceCtorEq, Nat.reduceLT, Nat.reduceLeDiff, hvi, g1, g2, q1, q2, w3, wi, q3, hget]
        have q4 : ¬ (i : Int) < (i : Int) - 3 := by omega
        simp only [q4, go_sem, Nat.reduceBEq, Nat.reduceEqDiff, Nat.reduceAdd, Int.reduceAdd, Nat.reduceMul, Nat.reduceSub, Int.reduceToNat, Int.reduceLE, Int.reduceLT, Int.reduceEq, Int.reduceNe, reduceCtorEq, Nat.reduceLT, Nat.reduceLeDiff, hget]
        refine ⟨fun h => absurd h (by omega), fun _ => ⟨⟨by omega, by omega⟩, i + 1, by omega, by omega, ?_, rfl⟩⟩
        rw [wi64 (by omega)]
        show _ = AV.int .i64 (cntS b ((i + 1 : Nat) : Int))
        have : (((i + 1 : Nat) : Nat) : Int) = (i : Int) + 1 := by omega
        rw [this, hc1]; rfl
      · have hvi : ¬ (v : Int) = i := fun h => hm (v5.1 h)
        have hc1 : cntS b ((i : Int) + 1) = cntS b i := by
          have := hsrt.2
          rw [if_neg hm] at this
          exact this
        have hcc : (cntS b ((i + 1 : Nat) : Int)) = cntS b i := by
          have : (((i + 1 : Nat) : Nat) : Int) = (i : Int) + 1 := by omega
          rw [this, hc1]
        by_cases g1 : ckE (b.take i) = 0
        · have g2 : ¬ ckE (b.drop i) = 0 := fun g2 => hm (hcut.2 ⟨ht.1 g1, hd.1 g2⟩)
          simp only [go_sem, Nat.reduceBEq, Nat.reduceEqDiff, Nat.reduceAdd, Int.reduceAdd, Nat.reduceMul, Nat.reduceSub, Int.reduceToNat, Int.reduceLE, Int.reduceLT, Int.reduceEq, Int.reduceNe, reduceCtorEq, Nat.reduceLT, Nat.reduceLeDiff, hvi, g1, g2, q1, q2, w3, wi]
          exact ⟨i + 1, by omega, by omega, by rw [hcc], rfl⟩
        · simp only [go_sem, Nat.reduceBEq, Nat.reduceEqDiff, Nat.reduceAdd, Int.reduceAdd, Nat.reduceMul, Nat.reduceSub, Int.reduceToNat, Int.reduceLE, Int.reduceLT, Int.reduceEq, Int.reduceNe, reduceCtorEq, Nat.reduceLT, Nat.reduceLeDiff, hvi, g1, q1, q2, w3, wi]
          exact ⟨i + 1, by omega, by omega, by rw [hcc], rfl⟩
    · have hie : i = b.length + 1 := by omega
      have hcnt : cntS b i = (startL b).length := by
        rw [hie]; exact cntS_all hst.2
      have hll := startL_len_runes b
      refine call_ev (ev_Count hX hs hG0 hG1 b) ?_
      have w1 : IntKind.i64.wrap (((startL b).length : Int) - 1) = ((runeL b).length : Int) := by rw [wi64 (by have := startL_small eb; omega)]; omega
      simp only [go_sem, Nat.reduceBEq, Nat.reduceEqDiff, Nat.reduceAdd, Int.reduceAdd, Nat.reduceMul, Nat.reduceSub, Int.reduceToNat, Int.reduceLE, Int.reduceLT, Int.reduceEq, Int.reduceNe, reduceCtorEq, Nat.reduceLT, Nat.reduceLeDiff, eb, hcnt, w1]
      refine call_ev aw ?_
      simp only [go_sem, Nat.reduceBEq, Nat.reduceEqDiff, Nat.reduceAdd, Int.reduceAdd, Nat.reduceMul, Nat.reduceSub, Int.reduceToNat, Int.reduceLE, Int.reduceLT, Int.reduceEq, Int.reduceNe, reduceCtorEq, Nat.reduceLT, Nat.reduceLeDiff]
theorem law7_110 (r s : Int) (b : List UInt8) (hr : -9223372036854775808 ≤ r ∧ r < 9223372036854775808) (hsr : -9223372036854775808 ≤ s ∧ s < 9223372036854775808) (c1 : ¬ 200 < (b.length : Int))
    (hv : valid r = true) (hw : valid s = true) (eb : ¬ ckE b = 0) : Ev X 7 [.int .i64 r, .int .i64 s, lst u8 .ro b] (.bool true) := by
  have aw := ev_awake hX hs hG0 hG1
  have e1 := enc_less hv hw
  have e2 := enc_inj hv hw
  refine ev_of_wpc hs (A7_ok hX) 0 ?_
  simp only [A7, go_sem, Nat.reduceBEq, Nat.reduceEqDiff, Nat.reduceAdd, Int.reduceAdd, Nat.reduceMul, Nat.reduceSub, Int.reduceToNat, Int.reduceLE, Int.reduceLT, Int.reduceEq, Int.reduceNe, reduceCtorEq, Nat.reduceLT, Nat.reduceLeDiff, c1]
  refine call_ev (ev_EncodeR hX hs hG0 hG1 r hr) ?_
  simp only [go_sem, Nat.reduceBEq, Nat.reduceEqDiff, Nat.reduceAdd, Int.reduceAdd, Nat.reduceMul, Nat.reduceSub, Int.reduceToNat, Int.reduceLE, Int.reduceLT, Int.reduceEq, Int.reduceNe, reduceCtorEq, Nat.reduceLT, Nat.reduceLeDiff]
  refine call_ev (ev_EncodeR hX hs hG0 hG1 s hsr) ?_
  simp only [go_sem, Nat.reduceBEq, Nat.reduceEqDiff, Nat.reduceAdd, Int.reduceAdd, Nat.reduceMul, Nat.reduceSub, Int.reduceToNat, Int.reduceLE, Int.reduceLT, Int.reduceEq, Int.reduceNe, reduceCtorEq, Nat.reduceLT, Nat.reduceLeDiff, hv, hw, fault, e1, e2]
  refine call_ev (ev_Starts hX hs hG0 hG1 b) ?_
  simp only [go_sem, Nat.reduceBEq, Nat.reduceEqDiff, Nat.reduceAdd, Int.reduceAdd, Nat.reduceMul, Nat.reduceSub, Int.reduceToNat, Int.reduceLE, Int.reduceLT, Int.reduceEq, Int.reduceNe, reduceCtorEq, Nat.reduceLT, Nat.reduceLeDiff, eb]
  refine call_ev aw ?_
  simp only [go_sem, Nat.reduceBEq, Nat.reduceEqDiff, Nat.reduceAdd, Int.reduceAdd, Nat.reduceMul, Nat.reduceSub, Int.reduceToNat, Int.reduceLE, Int.reduceLT, Int.reduceEq, Int.reduceNe, reduceCtorEq, Nat.reduceLT, Nat.reduceLeDiff]
theorem law7_111 (r s : Int) (b : List UInt8) (hr : -9223372036854775808 ≤ r ∧ r < 9223372036854775808) (hsr : -9223372036854775808 ≤ s ∧ s < 9223372036854775808) (c1 : ¬ 200 < (b.length : Int))
    (hv : valid r = true) (hw : valid s = true) (eb : ckE b = 0) : Ev X 7 [.int .i64 r, .int .i64 s, lst u8 .ro b] (.bool true) := by
  have aw := ev_awake hX hs hG0 hG1
  have e1 := enc_less hv hw
  have e2 := enc_inj hv hw
  have hst := ckE_0 eb
  refine ev_of_wpc hs (A7_ok hX) 0 ?_
  simp only [A7, go_sem, Nat.reduceBEq, Nat.reduceEqDiff, Nat.reduceAdd, Int.reduceAdd, Nat.reduceMul, Nat.reduceSub, Int.reduceToNat, Int.reduceLE, Int.reduceLT, Int.reduceEq, Int.reduceNe, reduceCtorEq, Nat.reduceLT, Nat.reduceLeDiff, c1]
  refine call_ev (ev_EncodeR hX hs hG0 hG1 r hr) ?_
  simp only [go_sem, Nat.reduceBEq, Nat.reduceEqDiff, Nat.reduceAdd, Int.reduceAdd, Nat.reduceMul, Nat.reduceSub, Int.reduceToNat, Int.reduceLE, Int.reduceLT, Int.reduceEq, Int.reduceNe, reduceCtorEq, Nat.reduceLT, Nat.reduceLeDiff]
  refine call_ev (ev_EncodeR hX hs hG0 hG1 s hsr) ?_
  simp only [go_sem, Nat.reduceBEq, Nat.reduceEqDiff, Nat.reduceAdd, Int.reduceAdd, Nat.reduceMul, Nat.reduceSub, Int.reduceToNat, Int.reduceLE, Int.reduceLT, Int.reduceEq, Int.reduceNe, reduceCtorEq, Nat.reduceLT, Nat.reduceLeDiff, hv, hw, fault, e1, e2]
  refine call_ev (ev_Starts hX hs hG0 hG1 b) ?_
  simp only [go_sem, Nat.reduceBEq, Nat.reduceEqDiff, Nat.reduceAdd, Int.reduceAdd, Nat.reduceMul, Nat.reduceSub, Int.reduceToNat, Int.reduceLE, Int.reduceLT, Int.reduceEq, Int.reduceNe, reduceCtorEq, Nat.reduceLT, Nat.reduceLeDiff, eb]
  refine w_loop' hs.hm (ι := Nat) (fun i => i ≤ b.length + 1) (fun i => [(2, lst u8 .ro b), (11, lst (AV.int .i64) .ro (startL b)), (12, .int .i64 (cntS b i)), (13, .int .i64 i)]) (fun _ => []) (fun i => b.length + 1 - i) 0 ?_ fun i hi => ?_
  · simp only [go_sem, Nat.reduceBEq, Nat.reduceEqDiff, Nat.reduceAdd, Int.reduceAdd, Nat.reduceMul, Nat.reduceSub, Int.reduceToNat, Int.reduceLE, Int.reduceLT, Int.reduceEq, Int.reduceNe, reduceCtorEq, Nat.reduceLT, Nat.reduceLeDiff]
    have z0 : cntS b 0 = 0 := cntS_zero hst.2
    simp [z0]
  · simp only [A7L0, go_sem, Nat.reduceBEq, Nat.reduceEqDiff, Nat.reduceAdd, Int.reduceAdd, Nat.reduceMul, Nat.reduceSub, Int.reduceToNat, Int.reduceLE, Int.reduceLT, Int.reduceEq, Int.reduceNe, reduceCtorEq, Nat.reduceLT, Nat.reduceLeDiff]
    refine ⟨fun c => ?_, fun c => ?_⟩
    · have hil : i ≤ b.length := by omega
      obtain ⟨v, v1, v2, v3, v4, v5⟩ := back_facts hst.2 i hil
      have hok := backE_ok (i := (i : Int)) eb (by omega)
      have hOn : Ev X 24 [lst u8 .ro b, .int .i64 i] (.tuple [.bool (decide ((v : Int) = i)), .int .i64 0]) := by
        have := ev_On hX hs hG0 hG1 b i
        rw [hok.1, hok.2, v1] at this
        simpa using this
      have hBk : Ev X 26 [lst u8 .ro b, .int .i64 i] (.tuple [.int .i64 v, .int .i64 0]) := by
        have := ev_Back hX hs hG0 hG1 b i
        rw [hok.1, hok.2, v1] at this
        exact this
      have hcut := start_cut hst.2 i hil
      have ht : ckE (b.take i) = 0 ↔ stop (b.take i) = i := by
        rw [ckE_iff (by rw [List.length_take]; omega), List.length_take, Nat.min_eq_left hil]
      have hd : ckE (b.drop i) = 0 ↔ stop (b.drop i) = b.length - i := by
        rw [ckE_iff (by rw [List.length_drop]; omega), List.length_drop]
      have hsrt := sorted_at (i : Int) (startL b) (startL_sorted hst.2)
      have w3 : IntKind.i64.wrap ((i : Int) - 3) = (i : Int) - 3 := wi64 (by omega)
      have wi : IntKind.i64.wrap ((i : Int) + 1) = ((i + 1 : Nat) : Int) := by rw [wi64 (by omega)]; rfl
      have q1 : ¬ (i : Int) < (v : Int) := by omega
      have q2 : ¬ (v : Int) < (i : Int) - 3 := by omega
      refine call_ev hOn ?_
      simp only [go_sem, Nat.reduceBEq, Nat.reduceEqDiff, Nat.reduceAdd, Int.reduceAdd, Nat.reduceMul, Nat.reduceSub, Int.reduceToNat, Int.reduceLE, Int.reduceLT, Int.reduceEq, Int.reduceNe, reduceCtorEq, Nat.reduceLT, Nat.reduceLeDiff]
      refine call_ev hBk ?_
      simp only [go_sem, Nat.reduceBEq, Nat.reduceEqDiff, Nat.reduceAdd, Int.reduceAdd, Nat.reduceMul, Nat.reduceSub, Int.reduceToNat, Int.reduceLE, Int.reduceLT, Int.reduceEq, Int.reduceNe, reduceCtorEq, Nat.reduceLT, Nat.reduceLeDiff]
      refine ⟨by omega, ?_⟩
      refine call_ev (ev_Check hX hs hG0 hG1 _) ?_
      simp only [go_sem, Nat.reduceBEq, Nat.reduceEqDiff, Nat.reduceAdd, Int.reduceAdd, Nat.reduceMul, Nat.reduceSub, Int.reduceToNat, Int.reduceLE, Int.reduceLT, Int.reduceEq, Int.reduceNe, reduceCtorEq, Nat.reduceLT, Nat.reduceLeDiff]
      refine ⟨by omega, ?_⟩
      refine call_ev (ev_Check hX hs hG0 hG1 _) ?_
      by_cases hm : (i : Int) ∈ startL b
      · have hvi : (v : Int) = i := v5.2 hm
        have h1 := hcut.1 hm
        have g1 := ht.2 h1.1
        have g2 := hd.2 h1.2
        have hlt : cntS b i < (startL b).length := by
          have := hsrt.1 hm
          exact (List.getElem?_eq_some_iff.1 this).1
        have hget : (startL b).getD (cntS b i) default = i := by
          have := hsrt.1 hm
          simp [List.getD, cntS, this]
        have hc1 : cntS b ((i : Int) + 1) = cntS b i + 1 := by
          have := hsrt.2
          rw [if_pos hm] at this
          exact this
        have q3 : ¬ ((startL b).length : Int) ≤ (cntS b i : Int) := by omega
        have hss := startL_small eb
        simp only [go_sem, Nat.reduceBEq, Nat.reduceEqDiff, Nat.reduceAdd, Int.reduceAdd, Nat.reduceMul, Nat.reduceSub, Int.reduceToNat, Int.reduceLE, Int.reduceLT, Int.reduceEq, Int.reduceNe, reduceCtorEq, Nat.reduceLT, Nat.reduceLeDiff, hvi, g1, g2, q1, q2, w3, wi, q3, hget]
        have q4 : ¬ (i : Int) < (i : Int) - 3 := by omega
        simp only [q4, go_sem, Nat.reduceBEq, Nat.reduceEqDiff, Nat.reduceAdd, Int.reduceAdd, Nat.reduceMul, Nat.reduceSub, Int.reduceToNat, Int.reduceLE, Int.reduceLT, Int.reduceEq, Int.reduceNe, reduceCtorEq, Nat.reduceLT, Nat.reduceLeDiff, hget]
        refine ⟨fun h => absurd h (by omega), fun _ => ⟨⟨by omega, by omega⟩, i + 1, by omega, by omega, ?_, rfl⟩⟩
        rw [wi64 (by omega)]
        show _ = AV.int .i64 (cntS b ((i + 1 : Nat) : Int))
        have : (((i + 1 : Nat) : Nat) : Int) = (i : Int) + 1 := by omega
        rw [this, hc1]; rfl
      · have hvi : ¬ (v : Int) = i := fun h => hm (v5.1 h)
        have hc1 : cntS b ((i : Int) + 1) = cntS b i := by
          have := hsrt.2
          rw [if_neg hm] at this
          exact this
        have hcc : (cntS b ((i + 1 : Nat) : Int)) = cntS b i := by
          have : (((i + 1 : Nat) : Nat) : Int) = (i : Int) + 1 := by omega
          rw [this, hc1]
        by_cases g1 : ckE (b.take i) = 0
        · have g2 : ¬ ckE (b.drop i) = 0 := fun g2 => hm (hcut.2 ⟨ht.1 g1, hd.1 g2⟩)
          simp only [go_sem, Nat.reduceBEq, Nat.reduceEqDiff, Nat.reduceAdd, Int.reduceAdd, Nat.reduceMul, Nat.reduceSub, Int.reduceToNat, Int.reduceLE, Int.reduceLT, Int.reduceEq, Int.reduceNe, reduceCtorEq, Nat.reduceLT, Nat.reduceLeDiff, hvi, g1, g2, q1, q2, w3, wi]
          exact ⟨i + 1, by omega, by omega, by rw [hcc], rfl⟩
        · simp only [go_sem, Nat.reduceBEq, Nat.reduceEqDiff, Nat.reduceAdd, Int.reduceAdd, Nat.reduceMul, Nat.reduceSub, Int.reduceToNat, Int.reduceLE, Int.reduceLT, Int.reduceEq, Int.reduceNe, reduceCtorEq, Nat.reduceLT, Nat.reduceLeDiff, hvi, g1, q1, q2, w3, wi]
          exact ⟨i + 1, by omega, by omega, by rw [hcc], rfl⟩
    · have hie : i = b.length + 1 := by omega
      have hcnt : cntS b i = (startL b).length := by
        rw [hie]; exact cntS_all hst.2
      have hll := startL_len_runes b
      refine call_ev (ev_Count hX hs hG0 hG1 b) ?_
      have w1 : IntKind.i64.wrap (((startL b).length : Int) - 1) = ((runeL b).length : Int) := by rw [wi64 (by have := startL_small eb; omega)]; omega
      simp only [go_sem, Nat.reduceBEq, Nat.reduceEqDiff, Nat.reduceAdd, Int.reduceAdd, Nat.reduceMul, Nat.reduceSub, Int.reduceToNat, Int.reduceLE, Int.reduceLT, Int.reduceEq, Int.reduceNe, reduceCtorEq, Nat.reduceLT, Nat.reduceLeDiff, eb, hcnt, w1]
      refine call_ev aw ?_
      simp only [go_sem, Nat.reduceBEq, Nat.reduceEqDiff, Nat.reduceAdd, Int.reduceAdd, Nat.reduceMul, Nat.reduceSub, Int.reduceToNat, Int.reduceLE, Int.reduceLT, Int.reduceEq, Int.reduceNe, reduceCtorEq, Nat.reduceLT, Nat.reduceLeDiff]
theorem ev_law7 (r s : Int) (b : List UInt8) (hr : -9223372036854775808 ≤ r ∧ r < 9223372036854775808) (hsr : -9223372036854775808 ≤ s ∧ s < 9223372036854775808) : Ev X 7 [.int .i64 r, .int .i64 s, lst u8 .ro b] (.bool true) := by
  have aw := ev_awake hX hs hG0 hG1
  by_cases c1 : 200 < (b.length : Int)
  · refine ev_of_wpc hs (A7_ok hX) 0 ?_
    simp only [A7, go_sem, Nat.reduceBEq, Nat.reduceEqDiff, Nat.reduceAdd, Int.reduceAdd, Nat.reduceMul, Nat.reduceSub, Int.reduceToNat, Int.reduceLE, Int.reduceLT, Int.reduceEq, Int.reduceNe, reduceCtorEq, Nat.reduceLT, Nat.reduceLeDiff, c1]
    refine call_ev aw ?_
    simp only [go_sem, Nat.reduceBEq, Nat.reduceEqDiff, Nat.reduceAdd, Int.reduceAdd, Nat.reduceMul, Nat.reduceSub, Int.reduceToNat, Int.reduceLE, Int.reduceLT, Int.reduceEq, Int.reduceNe, reduceCtorEq, Nat.reduceLT, Nat.reduceLeDiff]
  cases hv : valid r <;> cases hw : valid s <;> by_cases eb : ckE b = 0
  · exact law7_001 hX hs hG0 hG1 r s b hr hsr c1 hv hw eb
  · exact law7_000 hX hs hG0 hG1 r s b hr hsr c1 hv hw eb
  · exact law7_011 hX hs hG0 hG1 r s b hr hsr c1 hv hw eb
  · exact law7_010 hX hs hG0 hG1 r s b hr hsr c1 hv hw eb
  · exact law7_101 hX hs hG0 hG1 r s b hr hsr c1 hv hw eb
  · exact law7_100 hX hs hG0 hG1 r s b hr hsr c1 hv hw eb
  · exact law7_111 hX hs hG0 hG1 r s b hr hsr c1 hv hw eb
  · exact law7_110 hX hs hG0 hG1 r s b hr hsr c1 hv hw eb
end
end Go.Avm

/- The statement RunesOrder of the seat: the law returns true for every input. -/
namespace Go.Proofs.YtpdhdilhlkpiaaaDoor
open Go Go.Avm Go.ChangeShapes Go.WideShapes Go.ChangeAt Go.WideMaps Go.WideElems Go.RowKit Go.Lib
set_option maxRecDepth 100000 in
theorem law7_lifted (os : Os) (started : os.Started) (H : Type) (enc : TypeId × Value → H) :
    ReturnsInHanded {} Tryd.checked os 7 .any (fun w args => (Rows.runesOrderSpec.pre enc Tryd.prog Tryd.f7 [] false w args ∧ laidMetH Tryd.prog laidL w) ∧ sizedMet enc Tryd.prog Tryd.f7 (OpenSpec.ofChange Rows.runesOrderSpec) false w args)
      (Rows.runesOrderSpec.post enc Tryd.prog Tryd.f7 false true false false) := by
  refine returnsInHanded_of_change_and (C := Tryd.checked) (X := fun w _ => laidMetH Tryd.prog laidL w) (fun _ _ _ hh h => h.of_heap hh) own started (by kernel_rfl) Tryd.func7
    (ChangeSpec.witness_shaped (enc := enc) (C := Tryd.checked) (os := os) (X := fun w _ => laidMetH Tryd.prog laidL w) false (World.laidAll Tryd.prog os laidL) #[.int .i64 0, .int .i64 0, .slice Option.none 0 0] 8 (World.laidAll_os _ _ _)
      (World.shaped_of_ZipB (by kernel_rfl) (by kernel_rfl)) (by kernel_rfl) (by kernel_rfl) (by kernel_rfl)
      (by rw [MakeChecks.laidMetH_plain _ _ _ (by kernel_rfl)]; exact laidMet_laidAll _ (by kernel_rfl) (by kernel_rfl))) ?_
  intro W base args ds gs before hval0 hW _ _ hL _
  have hval : ∀ (j : Nat) t v, Tryd.f7.params[j]? = some t → args[j]? = some v → Value.okWide Tryd.prog W .any base t v := hval0
  have hW' := hW
  obtain ⟨p, q, hA0, hV, rfl, _, _⟩ := hW
  have hA : DataW.TrodAll enc Tryd.prog W 0 (fun _ => true) true Tryd.f7.params.toList args.toList ds p := hA0
  rw [Tryd.params7] at hA hval
  obtain ⟨v0, v1, v2, d0, d1, d2, p0, p1, p2, hargs, rfl, rfl, h0, h1, h2⟩ := trodAll_three hA
  have ha : args = #[v0, v1, v2] := by cases args; simp_all
  subst ha
  obtain ⟨rfl, rfl⟩ := trodVars_none hV
  obtain ⟨x0, rfl, rfl, rfl, w0⟩ := open_int Tryd.underlying2 (hval 0 2 v0 rfl rfl) h0
  obtain ⟨x1, rfl, rfl, rfl, w1⟩ := open_int Tryd.underlying2 (hval 1 2 v1 rfl rfl) h1
  obtain ⟨z2, hz2, hm2, hr2⟩ := open_intsR Tryd.underlying22 Tryd.underlying5 c5 (hval 2 22 v2 rfl rfl) h2
  rw [MakeChecks.laidMetH_plain _ _ _ (by kernel_rfl)] at hL
  obtain ⟨X, hX, hs, hG0, hG1, hlaid⟩ := cx_ex
  have hev := ev_law7 hX hs hG0 hG1 x0 x1 (z2.map byteI) (wf_i64 w0) (wf_i64 w1)
  have hc := calls_of_ev (vs := [.int .i64 x0, .int .i64 x1, v2]) hev (hlaid W hL) (by simp only [RelL, Rel]; exact ⟨_, _, rfl, rfl, ⟨_, _, rfl, rfl, ⟨_, _, rfl, rel_bytes hz2 hr2, rfl⟩⟩⟩)
  rw [hX] at hc
  refine hc.mono fun e W' ⟨v, g', he, hv, hold, hos, hout⟩ => ?_
  subst he
  simp only [Rel] at hv
  subst hv
  exact ⟨_, rfl, post_kept laidOut (by rw [Tryd.params7]; decide +kernel) Tryd.underlying4 (by kernel_rfl) rfl rfl hW' hold ⟨hos, hout⟩⟩
theorem law7_holds : Rows.RunesOrderSaid :=
  OpenClaim.holds_of_wide 7 Tryd.f7 rfl rfl rfl rfl rfl rfl rfl ⟨rfl, rfl, rfl, rfl, rfl⟩ rfl rfl rfl rfl rfl (by kernel_rfl) Tryd.func7 (by kernel_rfl)
    (of_decide_eq_true (by kernel_rfl)) (by unfold Func.isWrapper; first | (rw [if_pos (by decide +kernel)]; kernel_rfl) | (rw [if_neg (by decide +kernel)]; exact ⟨rfl, rfl⟩))
    (fun os started H enc _ => law7_lifted os started H enc)
theorem runesOrder_card : Rows.RunesOrderCardSaid :=
  Claim7.holds_tied_plain_at .later [] [.data, .pinned] true (true, "b997fd4f0a95dcff55ba39b6b0491c73e9972c78d2af94630bc3f6db96fd2af7") false law7_holds (fun _ h => by cases h) (by kernel_rfl) (fun _ h => by cases h) runesOrder_row_tie rfl ⟨rfl, rfl⟩ (by kernel_rfl) rfl
    (fun f fn hf hfn => by
      obtain rfl : f = 7 := Option.some.inj ((show Tryd.prog.funcNamed "invigilator/invigilatorlaw02.RunesOrder" = some 7 by kernel_rfl).symm.trans hf) |>.symm
      obtain rfl : fn = Tryd.f7 := (Option.some.inj (Tryd.func7.symm.trans hfn)).symm
      exact ⟨by kernel_rfl, fun j t ht => by
        rw [Tryd.params7] at ht
        have hm : t ∈ [2, 2, 22] := by simpa using Array.mem_of_getElem? ht
        have hall : ([2, 2, 22].all fun u => !Tryd.prog.wantsStandIn u) = true := by kernel_rfl
        exact (show Tryd.prog.wantsStandIn t = false by simpa using List.all_eq_true.1 hall t hm)⟩)
    (by kernel_rfl)
end Go.Proofs.YtpdhdilhlkpiaaaDoor
