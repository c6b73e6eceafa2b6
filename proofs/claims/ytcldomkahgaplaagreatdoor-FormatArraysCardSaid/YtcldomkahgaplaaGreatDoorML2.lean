/- What is written, and that it is read again. -/
import Derived.Test.YtcldomkahgaplaaGreatDoorML
set_option linter.all false
namespace Go.Lx
open Go Go.Avm Go.Rn
def hexs (n : Nat) : List UInt8 := if h : n < 16 then [Wo.hexd n] else hexs (n / 16) ++ [Wo.hexd (n % 16)]
termination_by n
def escR (r : Int) : List UInt8 := if r = 34 ∨ r = 92 then 92 :: enc r else if r = 10 then [92, 110] else if 32 ≤ r ∧ r ≤ 126 then enc r else 92 :: 117 :: (hexs r.toNat ++ [59])
def qt (s : List UInt8) : List UInt8 := 34 :: ((runeL s).flatMap escR ++ [34])
def mk (k : Int) : List UInt8 := if k = 4 then [40] else if k = 5 then [41] else if k = 6 then [91] else if k = 7 then [93] else if k = 8 then [60, 45] else [61]
def wr (t : Tok) : List UInt8 := if t.kind = 1 then t.s else if t.kind = 2 then Lib.itoa t.n else if t.kind = 3 then qt t.s else mk t.kind
def nmd (s : List UInt8) : Bool := ltr (s.getD 0 0) && s.all al
def chk (t : Tok) : Int :=
 if t.kind < 1 ∨ 9 < t.kind ∨ (t.kind ≠ 2 ∧ t.n ≠ 0) ∨ (t.kind ≠ 1 ∧ t.kind ≠ 3 ∧ t.s ≠ []) then 2
 else if t.kind = 1 then (if nmd t.s = false then 6 else if 16 < t.s.length then 3 else 0)
 else if t.kind = 3 then (if okT t.s = false then 6 else if 2000 < t.s.length then 3 else 0) else 0
def isOp (t : Tok) : Bool := decide (t.kind = 4) || decide (t.kind = 6)
def isCl (t : Tok) : Bool := decide (t.kind = 5) || decide (t.kind = 7)
def prR : Bool → List Tok → List UInt8
 | _, [] => []
 | b, t :: l => (if b || isCl t then [] else [32]) ++ (wr t ++ prR (isOp t) l)
theorem hexs_small {n : Nat} (h : n < 16) : hexs n = [Wo.hexd n] := by rw [hexs, dif_pos h]
theorem hexs_big {n : Nat} (h : ¬ n < 16) : hexs n = hexs (n / 16) ++ [Wo.hexd (n % 16)] := by rw [hexs, dif_neg h]
theorem hexv_d {n : Nat} (h : n < 16) : Wo.hexv (Wo.hexd n) = some n := Wo.hexv_hexd h
theorem hxL_app (a : Nat) (l r : List UInt8) : hxL a (l ++ r) = hxL (hxL a l) r := by
 induction l generalizing a with
 | nil => rfl
 | cons c l ih => simp only [List.cons_append, hxL, ih]
theorem hexs_all : ∀ n : Nat, (hexs n).all hxB = true ∧ hxL 0 (hexs n) = n ∧ hexs n ≠ [] := by
 intro n
 induction n using Nat.strongRecOn with
 | _ n ih =>
  by_cases h : n < 16
  ·rw [hexs_small h]
   simp [hxB, hexv_d h, hxL]
  ·obtain ⟨a, b, c⟩ := ih (n / 16) (by omega)
   rw [hexs_big h]
   have hm : n % 16 < 16 := Nat.mod_lt _ (by decide)
   refine ⟨?_, ?_, by simp⟩
   ·rw [List.all_append, a]; simp [hxB, hexv_d hm]
   ·rw [hxL_app, b]; simp only [hxL, hexv_d hm, Option.getD_some]; omega
theorem hexs_len : ∀ (k n : Nat), n < 16 ^ (k + 1) → (hexs n).length ≤ k + 1
 | 0, n, h => by rw [hexs_small (by omega)]; simp
 | k + 1, n, h => by
  by_cases h1 : n < 16
  ·rw [hexs_small h1]; simp
  ·rw [hexs_big h1, List.length_append]
   have : n / 16 < 16 ^ (k + 1) := by
    rw [Nat.div_lt_iff_lt_mul (by decide)]
    rw [← Nat.pow_succ]; exact h
   have := hexs_len k _ this
   simp only [List.length_singleton]; omega
theorem hexB_59 : ∀ c : UInt8, hxB c = true → c ≠ 59 := by
 intro c h e
 subst e
 exact absurd h (by decide)
theorem idx_hex {l w : List UInt8} (h : l.all hxB = true) : Lat.idx 59 (l ++ 59 :: w) = l.length := by
 refine Lat.idx_eq (by simp) ?_ fun k hk => ?_
 ·rw [gR (Nat.le_refl _), Nat.sub_self]; rfl
 ·rw [gL hk]
  refine hexB_59 _ (List.all_eq_true.1 h _ ?_)
  rw [List.getD_eq_getElem?_getD, List.getElem?_eq_getElem hk]
  exact List.getElem_mem hk
theorem enc_small {r : Int} (h : 0 ≤ r ∧ r < 128) : enc r = [byteI r] := by
 rw [enc_eq ((valid_iff r).2 (.inl ⟨h.1, by omega⟩))]
 simp [encI, h.2]
theorem byteI_ne {r : Int} (h : 0 ≤ r ∧ r < 256) (c : UInt8) (hn : r ≠ (c.toNat : Int)) : byteI r ≠ c := fun e => hn (by rw [← e, byteI_toNat h])
theorem elem_esc {r : Int} (hv : valid r = true) (w : List UInt8) : elem (escR r ++ w) = some (enc r, (escR r).length) ∧ (escR r).getD 0 0 ≠ 34 ∧ escR r ≠ [] := by
 have hr := valid_rng hv
 unfold escR
 by_cases c1 : r = 34 ∨ r = 92
 ·rw [if_pos c1, enc_small (by omega)]
  refine ⟨?_, by simp only [List.getD_cons_zero]; decide, by simp⟩
  have e : byteI r = 34 ∨ byteI r = 92 := by
   rcases c1 with rfl | rfl
   ·exact .inl rfl
   ·exact .inr rfl
  have e2 : ((byteI r).toNat : Int) = r := byteI_toNat (by omega)
  have e3 : escp (byteI r :: w) = some (r, 1) := by rw [escp, if_pos e, e2]
  simp only [elem, List.cons_append, List.nil_append, List.getD_cons_zero, if_true, List.drop_succ_cons, List.drop_zero, e3, Option.map_some, enc_small (show 0 ≤ r ∧ r < 128 by omega), List.length_cons, List.length_nil]
 rw [if_neg c1]
 by_cases c2 : r = 10
 ·subst c2
  rw [if_pos rfl]
  refine ⟨?_, by decide, by simp⟩
  have e3 : escp (110 :: w) = some (10, 1) := by
   rw [escp, if_neg (by decide), if_pos rfl]
  simp only [elem, List.cons_append, List.nil_append, List.getD_cons_zero, if_true, List.drop_succ_cons, List.drop_zero, e3, Option.map_some, List.length_cons, List.length_nil]
 rw [if_neg c2]
 by_cases c3 : 32 ≤ r ∧ r ≤ 126
 ·rw [if_pos c3, enc_small (by omega)]
  have n92 : byteI r ≠ 92 := byteI_ne (by omega) 92 (by intro e; exact c1 (.inr e))
  have n34 : byteI r ≠ 34 := byteI_ne (by omega) 34 (by intro e; exact c1 (.inl e))
  refine ⟨?_, by simpa using n34, by simp⟩
  have hd := dec_enc hv w
  rw [enc_small (by omega)] at hd
  simp only [elem, hd]
  rw [if_neg (by simpa using n92), if_neg (by omega)]
  rw [enc_small (by omega)]
 ·rw [if_neg c3]
  obtain ⟨h1, h2, h3⟩ := hexs_all r.toNat
  refine ⟨?_, by simp only [List.getD_cons_zero]; decide, by simp⟩
  have e0 : 92 :: 117 :: (hexs r.toNat ++ [59]) ++ w = 92 :: 117 :: (hexs r.toNat ++ 59 :: w) := by simp
  have hlen : (hexs r.toNat).length ≤ 6 := hexs_len 5 r.toNat (by rw [show (16 : Nat) ^ (5 + 1) = 16777216 by rfl]; omega)
  have hpos : (hexs r.toNat).length ≠ 0 := fun e => h3 (List.length_eq_zero_iff.1 e)
  have hnum : ((hxL 0 (hexs r.toNat) : Nat) : Int) = r := by rw [h2]; omega
  have e3 : escp (117 :: (hexs r.toNat ++ 59 :: w)) = some (r, (hexs r.toNat).length + 2) := by
   rw [escp, if_neg (by decide), if_neg (by decide), if_neg (by decide), idx_hex h1, List.take_left' rfl, hnum, if_pos ⟨by rw [List.length_append, List.length_cons]; omega, hlen, h1, hpos, hv⟩]
  rw [e0]
  simp only [elem, List.getD_cons_zero, if_true, List.drop_succ_cons, List.drop_zero, e3, Option.map_some, List.length_cons, List.length_append, List.length_nil]
theorem txt_esc : ∀ (l : List Int), (∀ r ∈ l, valid r = true) → ∀ w, txtS 0 (l.flatMap escR ++ 34 :: w) = .ok (l.map enc).flatten ((l.flatMap escR).length + 1)
 | [], _, w => by simp [txtS]
 | r :: l, h, w => by
  obtain ⟨e1, e2, e3⟩ := elem_esc (h r (by simp)) (l.flatMap escR ++ 34 :: w)
  have ih := txt_esc l (fun x hx => h x (by simp [hx])) w
  rw [List.flatMap_cons, List.append_assoc]
  cases hq : escR r with
  | nil => exact absurd hq e3
  | cons c q =>
   rw [hq] at e1 e2
   simp only [List.cons_append, List.getD_cons_zero] at e1 e2 ⊢
   rw [txtS_step e2 e1]
   have e4 : (c :: (q ++ (l.flatMap escR ++ 34 :: w))).drop (c :: q).length = l.flatMap escR ++ 34 :: w := by
    simp only [List.length_cons, List.drop_succ_cons, List.drop_left]
   rw [e4, ih]
   simp only [TR.up, List.map_cons, List.flatten_cons, List.length_append, List.length_cons, TR.ok.injEq, true_and]
   omega
theorem okT_flat {s : List UInt8} (h : okT s = true) : ((runeL s).map enc).flatten = s := by
 have h1 := take_stop s
 have h2 : stop s = s.length := by simpa [okT] using h
 rw [h2, List.take_length] at h1
 exact h1.symm
theorem text_qt {s : List UInt8} (h : okT s = true) (w : List UInt8) : tokO (qt s ++ w) = .ok ⟨3, 0, s⟩ (qt s).length := by
 have e0 : qt s ++ w = 34 :: ((runeL s).flatMap escR ++ 34 :: w) := by simp [qt]
 have e1 := txt_esc (runeL s) (runeL_valid s) w
 rw [okT_flat h] at e1
 unfold tokO
 rw [e0]
 have l34 : ltr 34 = false := by decide
 have d34 : (dg 34 || decide ((34 : UInt8) = 45)) = false := by decide
 simp only [List.getD_cons_zero, l34, d34, Bool.false_eq_true, if_false, if_true, textO, List.drop_succ_cons, List.drop_zero, e1]
 simp [qt]
theorem all_cnt {p : UInt8 → Bool} {s v : List UInt8} (h : s.all p = true) (hv : cnt p v = 0) : cnt p (s ++ v) = s.length := by
 rw [cnt_app p s v (List.all_eq_true.1 h), hv, Nat.add_zero]
theorem word_wr {s : List UInt8} (h : nmd s = true) (h2 : s.length ≤ 16) {v : List UInt8} (hv : sepB v = true) : tokO (s ++ v) = .ok ⟨1, 0, s⟩ s.length := by
 simp only [nmd, Bool.and_eq_true] at h
 have hne : 0 < s.length := by cases s with
  | nil => exact absurd h.1 (by decide)
  | cons => simp
 have hc := all_cnt h.2 (cnt_sep (p := al) (fun _ h => h) v hv)
 unfold tokO
 rw [gL hne, if_pos h.1]
 unfold wordO
 rw [hc, if_neg (by omega), List.take_left' rfl]
theorem num_wr {s v : List UInt8} {n : Int} (hd : Wo.decS s = true) (hp : Lib.parseIntB 64 s = .ok n) (hv : sepB v = true) : tokO (s ++ v) = .ok ⟨2, n, []⟩ s.length := by
 simp only [Wo.decS, Bool.and_eq_true, Bool.not_eq_true', List.isEmpty_eq_false_iff] at hd
 obtain ⟨⟨h1, h2⟩, _⟩ := hd
 have hne : 0 < s.length := by cases s with
  | nil => exact absurd rfl h1
  | cons => simp
 have hmg : Wo.mg s = s.drop (sg s) := by
  unfold Wo.mg sg
  split <;> rfl
 have hsg : sg (s ++ v) = sg s := by unfold sg; rw [gL hne]
 have hle : sg s ≤ s.length := by unfold sg; split <;> omega
 rw [hmg] at h1 h2
 have hlen : 0 < (s.drop (sg s)).length := by
  cases hq : s.drop (sg s) with
  | nil => exact absurd hq h1
  | cons => simp
 rw [List.length_drop] at hlen
 have h2' : (s.drop (sg s)).all dg = true := h2
 have hc : cnt dg ((s ++ v).drop (sg (s ++ v))) = s.length - sg s := by
  rw [hsg, List.drop_append_of_le_length hle, all_cnt h2' (cnt_sep (fun _ h => dg_al h) v hv), List.length_drop]
 have h0 : ltr (s.getD 0 0) = false ∧ (dg (s.getD 0 0) || decide (s.getD 0 0 = 45)) = true := by
  by_cases hs : s.getD 0 0 = 45
  ·rw [hs]; decide
  ·have : sg s = 0 := by unfold sg; rw [if_neg hs]
   rw [this, List.drop_zero] at h2'
   have hm : dg (s.getD 0 0) = true := List.all_eq_true.1 h2' _ (by rw [List.getD_eq_getElem?_getD, List.getElem?_eq_getElem hne]; exact List.getElem_mem hne)
   rw [hm]
   refine ⟨?_, rfl⟩
   simp only [dg, ltr, Bool.and_eq_true, decide_eq_true_eq, Bool.and_eq_false_iff, decide_eq_false_iff_not] at hm ⊢
   omega
 unfold tokO
 rw [gL hne, h0.1, h0.2]
 simp only [Bool.false_eq_true, if_false, if_true]
 unfold numO
 rw [hsg] at hc
 simp only [hsg, hc]
 rw [if_neg (by omega), show sg s + (s.length - sg s) = s.length by omega, List.take_left' rfl, hp]
 simp only
 rw [gR (Nat.le_refl _), Nat.sub_self, sep_ltr hv]
 simp
theorem mark_wr {k : Int} (h : 4 ≤ k ∧ k ≤ 9) (v : List UInt8) : tokO (mk k ++ v) = .ok ⟨k, 0, []⟩ (mk k).length := by
 have e : ∀ c : UInt8, ltr c = false → (dg c || decide (c = 45)) = false → c ≠ 34 → ∀ r, tokO (c :: r) = markO (c :: r) := fun c a b d r => by
  unfold tokO
  simp only [List.getD_cons_zero, a, b, d, Bool.false_eq_true, if_false]
 rcases (by omega : k = 4 ∨ k = 5 ∨ k = 6 ∨ k = 7 ∨ k = 8 ∨ k = 9) with rfl | rfl | rfl | rfl | rfl | rfl
 ·exact e 40 (by decide) (by decide) (by decide) v
 ·exact e 41 (by decide) (by decide) (by decide) v
 ·exact e 91 (by decide) (by decide) (by decide) v
 ·exact e 93 (by decide) (by decide) (by decide) v
 ·exact e 60 (by decide) (by decide) (by decide) (45 :: v)
 ·exact e 61 (by decide) (by decide) (by decide) v
end Go.Lx
namespace Go.Lx
open Go Go.Wo
end Go.Lx
namespace Go.Lx
open Go Go.Avm Go.Rn
def lineR (s : List UInt8) : List PT × Nat × Int := if 2000 < s.length then ([], 0, 3) else match lexS 0 0 s with
 | .ok l => (l, 0, 0)
 | .bad d e => ([], d, e)
theorem lineR_ok {s : List UInt8} {l : List PT} (hl : s.length ≤ 2000) (h : Lx 0 s l) : lineR s = (l, 0, 0) := by
 unfold lineR
 rw [if_neg (by omega), of_lx h]
def I64 (n : Int) : Prop := -9223372036854775808 ≤ n ∧ n ≤ 9223372036854775807
theorem tok_32 {c : UInt8} {r : List UInt8} {t : Tok} {n : Nat} (h : tokO (c :: r) = .ok t n) : c ≠ 32 := by
 rintro rfl
 have : tokO (32 :: r) = .bad 0 6 := rfl
 rw [this] at h; cases h
theorem itoa_dec {n : Int} (h : I64 n) : Wo.decS (Lib.itoa n) = true ∧ Lib.parseIntB 64 (Lib.itoa n) = .ok n := by
 have key : ∀ s, Wo.decS s = true → Wo.valS s = n → Lib.parseIntB 64 s = .ok n := fun s h1 h2 => by
  rw [Wo.parseI h1, h2]
  exact if_pos h
 by_cases h0 : 0 ≤ n
 ·obtain ⟨h1, h2⟩ := Wo.natS_itoa h0
  have h3 : ¬ (Lib.itoa n).getD 0 0 = 45 := fun e => by
   simp only [Wo.natS, Bool.and_eq_true, Bool.not_eq_true', List.isEmpty_eq_false_iff] at h1
   have hm : Wo.digB ((Lib.itoa n).getD 0 0) = true := by
    cases hq : Lib.itoa n with
    | nil => exact absurd hq h1.1.1
    | cons x y => exact List.all_eq_true.1 h1.1.2 _ (by rw [hq]; simp)
   rw [e] at hm
   exact absurd hm (by decide)
  have hmg : Wo.mg (Lib.itoa n) = Lib.itoa n := by unfold Wo.mg; rw [if_neg h3]
  have hd : Wo.decS (Lib.itoa n) = true := by
   unfold Wo.decS
   rw [hmg]; exact h1
  refine ⟨hd, key _ hd ?_⟩
  unfold Wo.valS
  rw [if_neg h3, hmg, h2]
  omega
 ·have e1 := Wo.itoa_neg (n := n) (by omega)
  obtain ⟨h1, h2⟩ := Wo.natS_itoa (n := -n) (by omega)
  have hmg : Wo.mg (Lib.itoa n) = Lib.itoa (-n) := by rw [e1]; rfl
  have h48 : (Lib.itoa (-n)).getD 0 0 ≠ 48 := fun e => by
   simp only [Wo.natS, Bool.and_eq_true, Bool.or_eq_true, Bool.not_eq_true', decide_eq_false_iff_not, decide_eq_true_eq] at h1
   rcases h1.2 with h | h
   ·exact h e
   ·rw [h] at h2
    have : Wo.magL 0 [48] = 0 := by decide
    omega
  have hd : Wo.decS (Lib.itoa n) = true := by
   unfold Wo.decS
   rw [hmg]
   simp only [Wo.natS, Bool.and_eq_true] at h1
   simp only [h1.1.1, h1.1.2, Bool.true_and, Bool.or_eq_true, Bool.not_eq_true', decide_eq_false_iff_not]
   exact .inl h48
  refine ⟨hd, key _ hd ?_⟩
  unfold Wo.valS
  have e45 : (Lib.itoa n).getD 0 0 = 45 := by rw [e1]; rfl
  rw [if_pos e45, hmg, h2]
  omega
theorem tok_wr {t : Tok} (h : chk t = 0) (hn : I64 t.n) {v : List UInt8} (hv : needs t = true → sepB v = true) : tokO (wr t ++ v) = .ok t (wr t).length := by
 obtain ⟨k, n, s⟩ := t
 unfold chk at h
 dsimp only at h hn hv
 split at h
 ·cases h
 rename_i c1
 have hk : 1 ≤ k ∧ k ≤ 9 := by omega
 have hn0 : k ≠ 2 → n = 0 := fun e => by
  rcases Int.decEq n 0 with h | h
  ·exact absurd (.inr (.inr (.inl ⟨e, h⟩))) c1
  ·exact h
 have hs0 : k ≠ 1 → k ≠ 3 → s = [] := fun e e' => Decidable.byContradiction fun h => c1 (.inr (.inr (.inr ⟨e, e', h⟩)))
 split at h
 ·rename_i e1
  subst e1
  split at h
  ·cases h
  rename_i e2
  split at h
  ·cases h
  rename_i e3
  rw [hn0 (by decide)]
  exact word_wr (s := s) (by simpa using e2) (by omega) (hv rfl)
 rename_i k1
 split at h
 ·rename_i e1
  subst e1
  split at h
  ·cases h
  rename_i e2
  rw [hn0 (by decide)]
  exact text_qt (by simpa using e2) v
 rename_i k3
 rw [hs0 k1 k3]
 by_cases k2 : k = 2
 ·subst k2
  obtain ⟨d1, d2⟩ := itoa_dec hn
  exact num_wr d1 d2 (hv rfl)
 ·rw [hn0 k2]
  have e : wr ⟨k, 0, []⟩ = mk k := by unfold wr; rw [if_neg k1, if_neg k2, if_neg k3]
  rw [e]
  exact mark_wr (by omega) v
theorem sep_pr {l : List Tok} : sepB (prR false l) = true := by
 cases l with
 | nil => rfl
 | cons t l =>
  simp only [prR, Bool.false_or]
  split
  ·rename_i h
   simp only [isCl, Bool.or_eq_true, decide_eq_true_eq] at h
   unfold wr mk
   rcases h with h | h <;> simp [h, sepB, al, ltr, dg]
  ·rfl
theorem lx_pr : ∀ (l : List Tok) (b : Bool) (p : Nat), (∀ t ∈ l, chk t = 0 ∧ I64 t.n) → ∃ l', Lx p (prR b l) l' ∧ l'.map (·.1) = l
 | [], b, p, _ => ⟨[], .nil p, rfl⟩
 | t :: l, b, p, h => by
  obtain ⟨h1, h2⟩ := h t (by simp)
  have hv : needs t = true → sepB (prR (isOp t) l) = true := fun e => by
   have : isOp t = false := by
    simp only [needs, Bool.or_eq_true, decide_eq_true_eq] at e
    simp only [isOp, Bool.or_eq_false_iff, decide_eq_false_iff_not]
    omega
   rw [this]; exact sep_pr
  have ht := tok_wr h1 h2 hv
  have go : ∀ q, ∃ l', Lx q (wr t ++ prR (isOp t) l) l' ∧ l'.map (·.1) = t :: l := fun q => by
   obtain ⟨l', i1, i2⟩ := lx_pr l (isOp t) (q + (wr t).length) fun x hx => h x (by simp [hx])
   have hne : wr t ++ prR (isOp t) l ≠ [] := fun e => by
    rw [e] at ht
    have : tokO [] = .bad 0 6 := rfl
    rw [this] at ht; cases ht
   cases hq : wr t ++ prR (isOp t) l with
   | nil => exact absurd hq hne
   | cons c r =>
    rw [hq] at ht
    refine ⟨(t, q, q + (wr t).length) :: l', .tok (tok_32 ht) ht ?_, by simp [i2]⟩
    rw [← hq, List.drop_left]
    exact i1
  simp only [prR]
  split
  ·exact go p
  ·obtain ⟨l', i1, i2⟩ := go (p + 1)
   exact ⟨l', .blank i1, i2⟩
def badT : List Tok → Option (Nat × Int)
 | [] => none
 | t :: l => if chk t = 0 then (badT l).map fun (i, e) => (i + 1, e) else some (0, chk t)
def prS (l : List Tok) : List UInt8 × Nat × Int := match badT l with
 | some (i, e) => ([], i, e)
 | none => if 2000 < (prR true l).length then ([], 0, 3) else (prR true l, 0, 0)
theorem badT_none : ∀ {l : List Tok}, badT l = none ↔ ∀ t ∈ l, chk t = 0
 | [] => by simp [badT]
 | t :: l => by
  simp only [badT]
  by_cases h : chk t = 0
  ·rw [if_pos h, Option.map_eq_none_iff, badT_none]
   simp [h]
  ·rw [if_neg h]; simp [h]
theorem badT_some : ∀ {l : List Tok} {i : Nat} {e : Int}, badT l = some (i, e) → e ≠ 0
 | [], _, _, h => by simp [badT] at h
 | t :: l, i, e, h => by
  simp only [badT] at h
  split at h
  ·cases hb : badT l with
   | none => rw [hb] at h; cases h
   | some x =>
    rw [hb] at h
    simp only [Option.map_some, Option.some.injEq, Prod.mk.injEq] at h
    obtain ⟨rfl, rfl⟩ := h
    exact badT_some hb
  ·rename_i h0
   simp only [Option.some.injEq, Prod.mk.injEq] at h
   obtain ⟨rfl, rfl⟩ := h
   exact h0
theorem back {l : List Tok} (hn : ∀ t ∈ l, I64 t.n) : ((prS l).2.2 ≠ 0 ∧ (prS l).1 = []) ∨ ∃ m, (prS l).2.2 = 0 ∧ lineR (prS l).1 = (m, 0, 0) ∧ m.map (·.1) = l := by
 unfold prS
 cases hb : badT l with
 | some x =>
  obtain ⟨i, e⟩ := x
  exact .inl ⟨badT_some hb, rfl⟩
 | none =>
  simp only
  split
  ·exact .inl ⟨by simp, rfl⟩
  ·rename_i hl
   obtain ⟨m, h1, h2⟩ := lx_pr l true 0 fun t ht => ⟨badT_none.1 hb t ht, hn t ht⟩
   exact .inr ⟨m, rfl, lineR_ok (by dsimp only; omega) h1, h2⟩
end Go.Lx
namespace Go.Lx
open Go Go.Avm Go.Rn
end Go.Lx
namespace Go.Lx
open Go Go.Avm Go.Rn
theorem escR_len {r : Int} (hv : valid r = true) : (escR r).length ≤ 9 := by
 have h1 := enc_len_pos hv
 have hr := valid_rng hv
 have hlen : (hexs r.toNat).length ≤ 6 := hexs_len 5 r.toNat (by rw [show (16 : Nat) ^ (5 + 1) = 16777216 by rfl]; omega)
 unfold escR
 split
 ·simp; omega
 split
 ·simp
 split
 ·omega
 ·simp; omega
theorem okT_dec {v : List UInt8} (h : okT v = true) (h0 : v ≠ []) : ∃ r n, dcO v = some (r, n) ∧ runeL v = r :: runeL (v.drop n) ∧ okT (v.drop n) = true := by
 cases hd : dcO v with
 | none => rw [okT_none hd h0] at h; cases h
 | some x =>
  obtain ⟨r, n⟩ := x
  exact ⟨r, n, rfl, runeL_some hd, by rw [← okT_some hd]; exact h⟩
theorem runeL_nil : runeL [] = [] := rfl
structure QS where
 q : Nat
 pre : List Int
def QI (s : List UInt8) (x : QS) : Prop := x.q ≤ s.length ∧ runeL s = x.pre ++ runeL (s.drop x.q) ∧ okT (s.drop x.q) = true ∧ (x.pre.flatMap escR).length ≤ 9 * x.q ∧ x.pre.length ≤ x.q
theorem QI_0 {s : List UInt8} (h : okT s = true) : QI s ⟨0, []⟩ := ⟨Nat.zero_le _, rfl, h, Nat.le_refl _, Nat.le_refl _⟩
theorem QI_step {s : List UInt8} {x : QS} (h : QI s x) (hq : x.q < s.length) : ∃ r n, dcO (s.drop x.q) = some (r, n) ∧ valid r = true ∧ 1 ≤ n ∧ QI s ⟨x.q + n, x.pre ++ [r]⟩ := by
 obtain ⟨q, pre⟩ := x
 obtain ⟨h1, h2, h3, h4, h6⟩ := h
 dsimp only at *
 have hne : s.drop q ≠ [] := fun e => by have := congrArg List.length e; rw [List.length_drop] at this; simp at this; omega
 obtain ⟨r, n, k1, k2, k3⟩ := okT_dec h3 hne
 have hs := dec_some k1
 have hr := dec_rng' k1
 rw [List.length_drop] at hr
 rw [List.drop_drop] at k2 k3
 refine ⟨r, n, k1, hs.1, hr.1, by dsimp only; omega, ?_, k3, ?_, by simp; omega⟩
 ·dsimp only
  rw [h2, k2, List.append_assoc]; rfl
 ·have := escR_len hs.1
  dsimp only
  rw [List.flatMap_append, List.length_append]
  simp only [List.flatMap_cons, List.flatMap_nil, List.append_nil]
  omega
theorem QI_end {s : List UInt8} {x : QS} (h : QI s x) (hq : ¬ x.q < s.length) : x.pre = runeL s := by
 obtain ⟨q, pre⟩ := x
 obtain ⟨h1, h2, _⟩ := h
 dsimp only at *
 rw [h2, List.drop_eq_nil_of_le (by omega), runeL_nil, List.append_nil]
end Go.Lx
namespace Go.Lx
open Go Go.Avm Go.Rn
theorem runeL_len (s : List UInt8) : (runeL s).length ≤ s.length := by
 refine runs_ind (P := fun t => (runeL t).length ≤ t.length) (fun t h => by rw [runeL_none h]; simp) (fun t r n h ih => ?_) s
 have hr := dec_rng' h
 rw [runeL_some h, List.length_cons]
 rw [List.length_drop] at ih
 omega
theorem flat_len : ∀ l : List Int, (∀ r ∈ l, valid r = true) → (l.flatMap escR).length ≤ 9 * l.length
 | [], _ => by simp
 | r :: l, h => by
  have h1 := escR_len (h r (by simp))
  have h2 := flat_len l fun x hx => h x (by simp [hx])
  rw [List.flatMap_cons, List.length_append, List.length_cons]; omega
theorem qt_len (s : List UInt8) : (qt s).length ≤ 2 + 9 * s.length := by
 have h1 := flat_len (runeL s) (runeL_valid s)
 have h2 := runeL_len s
 unfold qt
 rw [List.length_cons, List.length_append, List.length_singleton]; omega
end Go.Lx
namespace Go.Lx
open Go Go.Avm Go.Rn
theorem enc_le4 (r : Int) : (enc r).length ≤ 4 := by
 by_cases hv : valid r = true
 ·exact (enc_len_pos hv).2
 ·simp [enc, hv]
end Go.Lx
