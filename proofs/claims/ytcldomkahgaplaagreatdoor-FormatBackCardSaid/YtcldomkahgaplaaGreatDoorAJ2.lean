/- The text of an array is read as the array, and the text of what is read is the text, plain. -/
import Derived.Test.YtcldomkahgaplaaGreatDoorAJ
import Derived.Test.YtcldomkahgaplaaGreatDoorA8
set_option linter.all false
namespace Go.Avm
open Go Go.Fm Go.Rn Go.Lx
set_option maxRecDepth 10000
def hdK (k : Int) : List UInt8 := if k = 2 then [99, 104, 97, 114] else [105, 110, 116]
def hdN (a : Lat.Arr) : List Int := [a.r, a.l0, a.l1].take (a.r.toNat + 1)
def hdL (a : Lat.Arr) : List UInt8 := hdK a.k ++ 32 :: nums (hdN a)
def chk20 (c : List Int) (j : Nat) : List Int := (c.drop (j * 20)).take 20
def arrL (a : Lat.Arr) : List (List UInt8) := hdL a :: (List.range (nch a.c.length)).map fun j => pcK a.k (chk20 a.c j)
theorem headA_eq (a : Lat.Arr) : headA a = hdL a ++ [10] := by
 unfold headA hdL hdK hdN
 split <;> simp
theorem arrT_txt (a : Lat.Arr) : arrT (pcK a.k) a = txt (arrL a) := by
 unfold arrT arrL
 rw [headA_eq, txt_cons, List.append_assoc]
 congr 1
 unfold pcsA txt
 rw [List.flatMap_map]
 rfl
theorem hdN_ok {a : Lat.Arr} (h : Lat.arrE a = 0) : (∀ v ∈ hdN a, 0 ≤ v ∧ v ≤ 400) ∧ hdN a ≠ [] ∧ (hdN a).length ≤ 3 := by
 obtain ⟨gr, g0, g1, gc, gk⟩ := arrG h
 refine ⟨fun v hv => ?_, ?_, ?_⟩
 ·have := List.mem_of_mem_take hv
  simp only [List.mem_cons, List.not_mem_nil, or_false] at this
  omega
 ·unfold hdN
  simp
 ·unfold hdN
  rw [List.length_take]
  simp only [List.length_cons, List.length_nil]
  omega
theorem hd_10 (a : Lat.Arr) : (10 : UInt8) ∉ hdL a := fun hm => by
 unfold hdL at hm
 rcases List.mem_append.1 hm with h | h
 ·unfold hdK at h
  split at h <;> exact absurd h (by decide)
 ·rcases List.mem_cons.1 h with h | h
  ·exact absurd h (by decide)
  ·exact nums_10 _ h
theorem kindW_hd {k : Int} (h : k = 1 ∨ k = 2) : kindW (hdK k) = k := by
 rcases h with rfl | rfl <;> decide
theorem begun_hd {a : Lat.Arr} (h : Lat.arrE a = 0) : begunR (hdL a) = (⟨a.k, a.r, a.l0, a.l1, []⟩, (a.c.length : Int), true) := by
 obtain ⟨gr, g0, g1, gc, gk⟩ := arrG h
 obtain ⟨_, hs, hm⟩ := Lat.arrE_0 h
 obtain ⟨n1, n2, n3⟩ := hdN_ok h
 have hsp : Wo.splC 32 (hdL a) = hdK a.k :: (hdN a).map Lib.itoa := by
  unfold hdL
  rw [splC_hd (by unfold hdK; split <;> decide), spl_nums n2]
 have hw : wholeR 1000000000 ((hdN a).map Lib.itoa) = (hdN a, true) := whole_nums (fun v hv => by have := n1 v hv; omega) fun v hv => by have := n1 v hv; omega
 unfold begunR begunF
 rw [hsp]
 dsimp only
 rw [kindW_hd gk, if_neg (by omega), hw, if_pos rfl]
 unfold Lat.shapeE at hs
 rw [hm]
 obtain ⟨k, r, l0, l1, c⟩ := a
 unfold hdN Lat.many
 dsimp only at *
 rcases gr with rfl | rfl | rfl
 ·have e0 : l0 = 0 ∧ l1 = 0 := by
   split at hs
   ·omega
   ·split at hs
    ·omega
    ·split at hs
     ·omega
     ·omega
  obtain ⟨rfl, rfl⟩ := e0
  rfl
 ·have e0 : l1 = 0 := by
   split at hs
   ·omega
   ·split at hs
    ·omega
    ·split at hs
     ·omega
     ·omega
  subst e0
  rfl
 ·rfl
theorem chk_all (c : List Int) : (List.range (nch c.length)).flatMap (chk20 c) = c := by
 have key : ∀ n, (List.range n).flatMap (chk20 c) = c.take (n * 20) := fun n => by
  induction n with
  | zero => simp
  | succ n ih =>
   rw [List.range_succ, List.flatMap_append, ih, Nat.succ_mul, List.take_add]
   simp [chk20]
 rw [key, List.take_of_length_le]
 unfold nch
 omega
theorem chk_len (c : List Int) (j : Nat) : (chk20 c j).length = min (c.length - 20 * j) 20 := by
 unfold chk20
 rw [List.length_take, List.length_drop]
 omega
theorem arrL_at (a : Lat.Arr) {j : Nat} (h : j < nch a.c.length) : (arrL a).getD (j + 1) [] = pcK a.k (chk20 a.c j) := by
 unfold arrL
 rw [List.getD_cons_succ, List.getD_eq_getElem?_getD, List.getElem?_map, List.getElem?_range h]
 rfl
theorem arrL_len (a : Lat.Arr) : (arrL a).length = nch a.c.length + 1 := by simp [arrL]
theorem arrT_len {a : Lat.Arr} (h : Lat.arrE a = 0) (hv : R64 a.c) : (arrT (pcK a.k) a).length ≤ 100000 := by
 obtain ⟨gr, g0, g1, gc, gk⟩ := arrG h
 obtain ⟨n1, n2, n3⟩ := hdN_ok h
 have hcv : ∀ j, R64 (chk20 a.c j) := fun j v h => hv v (List.mem_of_mem_drop (List.mem_of_mem_take h))
 have hcl : ∀ j, (chk20 a.c j).length ≤ 20 := fun j => by rw [chk_len]; omega
 have hn : nch a.c.length ≤ 20 := by unfold nch; omega
 have h1 := pcsA_len (pc := pcK a.k) (c := a.c) (fun j => pcK_len (hcv j) (hcl j)) (nch a.c.length)
 have h2 := nums_len (l := hdN a) fun v hv => by have := n1 v hv; omega
 unfold arrT
 rw [headA_eq]
 unfold hdL
 have h3 : (hdK a.k).length ≤ 4 := by unfold hdK; split <;> decide
 simp only [List.length_append, List.length_cons, List.length_nil]
 omega
theorem parse_arr {a : Lat.Arr} (h : Lat.arrE a = 0) (hv : R64 a.c) : parseR cfK (arrT (pcK a.k) a) = (a, 0, 0) := by
 obtain ⟨gr, g0, g1, gc, gk⟩ := arrG h
 obtain ⟨n1, n2, n3⟩ := hdN_ok h
 have hcv : ∀ j, R64 (chk20 a.c j) := fun j v h => hv v (List.mem_of_mem_drop (List.mem_of_mem_take h))
 have hcl : ∀ j, (chk20 a.c j).length ≤ 20 := fun j => by rw [chk_len]; omega
 have hn : nch a.c.length ≤ 20 := by unfold nch; omega
 have h10 : ∀ l ∈ arrL a, (10 : UInt8) ∉ l := fun l hl => by
  unfold arrL at hl
  rcases List.mem_cons.1 hl with rfl | hl
  ·exact hd_10 a
  ·obtain ⟨j, _, rfl⟩ := List.mem_map.1 hl
   exact pcK_10 _ _
 have hal := arrL_len a
 have hlen := arrT_len h hv
 have hne : arrL a ≠ [] := by unfold arrL; simp
 have hL : Wo.linesS (arrT (pcK a.k) a) = (arrL a, 0) := by
  rw [arrT_txt] at hlen ⊢
  exact lines_txt h10 hne hlen (by omega)
 have h0 : (arrL a).getD 0 [] = hdL a := rfl
 have hp : ∀ j, j < nch a.c.length → pcl cfK a.k (arrL a) a.c.length j = (chk20 a.c j, true) := fun j hj => by
  unfold pcl
  have e : lineN a.c.length j = (chk20 a.c j).length := by rw [chk_len]; rfl
  rw [arrL_at a hj, e]
  refine cfK_pcK (hcv j) (fun e0 => ?_) (hcl j) fun hk r hr => arr_valid h hk r (List.mem_of_mem_drop (List.mem_of_mem_take hr))
  have h1 := chk_len a.c j
  rw [e0, List.length_nil] at h1
  have := nch_lt.1 hj
  omega
 have hacc : accP cfK a.k (arrL a) a.c.length (nch a.c.length) = a.c := by
  have e : accP cfK a.k (arrL a) a.c.length (nch a.c.length) = (List.range (nch a.c.length)).flatMap (chk20 a.c) := by
   unfold accP
   rw [List.flatMap_def, List.flatMap_def]
   congr 1
   refine List.map_congr_left fun j hj => ?_
   rw [hp j (List.mem_range.1 hj)]
  rw [e, chk_all]
 have hff : Lat.ff (nch a.c.length) (pBad cfK a.k (arrL a) a.c.length) = none := Lat.ff_none fun j hj => by
  unfold pBad
  rw [hp j hj, decide_eq_false (by omega)]
  rfl
 unfold parseR
 rw [hL, if_neg (by simp), if_neg hne]
 unfold parseL
 dsimp only
 rw [h0, begun_hd h, if_neg (by simp), if_neg (by dsimp only; omega)]
 dsimp only
 rw [Int.toNat_natCast]
 unfold parseB
 dsimp only
 rw [hff]
 dsimp only
 rw [if_neg (by omega), hacc]
 unfold parseE
 exact if_neg (show ¬ Lat.arrE a ≠ 0 by omega)
theorem ff_no {n : Nat} {p : Nat → Bool} (h : Lat.ff n p = none) {j : Nat} (hj : j < n) : p j = false := by
 unfold Lat.ff at h
 rw [List.find?_range_eq_none] at h
 simpa using h j hj
theorem txt_spl (u : List UInt8) : txt (Wo.splC 10 u) = u ++ [10] := by
 have key : ∀ ls : List (List UInt8), ls ≠ [] → txt ls = Lib.join ls [10] ++ [10] := fun ls => by
  induction ls with
  | nil => exact fun h => absurd rfl h
  | cons a r ih =>
   intro _
   cases r with
   | nil => rw [txt_cons, Lib.join_one]; rfl
   | cons b t =>
    have h1 := ih (by simp)
    rw [txt_cons, h1, Lib.join_cons, Lib.join_cons]
    simp [Lib.joinTail]
 rw [key _ (Wo.splC_ne 10 u), Wo.join_splC]
theorem lines_back {s : List UInt8} (h : (Wo.linesS s).2 = 0) (h0 : (Wo.linesS s).1 ≠ []) : s = txt (Wo.linesS s).1 := by
 unfold Wo.linesS at h h0 ⊢
 split at h
 ·simp at h
 ·rename_i h1
  rw [if_neg h1] at h0 ⊢
  split at h
  ·rename_i h2
   rw [if_pos h2] at h0
   simp at h0
  ·rename_i h2
   rw [if_neg h2] at h0 ⊢
   split at h
   ·simp at h
   ·rename_i h3
    rw [if_neg h3] at h0 ⊢
    split at h
    ·simp at h
    ·rename_i h4
     rw [if_neg h4]
     dsimp only
     rw [txt_spl]
     have h5 : s.getD (s.length - 1) 0 = 10 := Classical.not_not.1 h3
     have := Wo.snoc_eq (List.length_pos_iff.2 h2)
     rw [h5] at this
     exact this
theorem hd_begun {s : List UInt8} (h : (begunR s).2.2 = true) (c : List Int) : s = hdL ⟨(begunR s).1.k, (begunR s).1.r, (begunR s).1.l0, (begunR s).1.l1, c⟩ := by
 have hj := Wo.join_splC 32 s
 unfold begunR at h ⊢
 generalize Wo.splC 32 s = fs at h hj
 unfold begunF at h ⊢
 cases fs with
 | nil => cases h
 | cons w fs =>
  dsimp only at h ⊢
  split at h
  ·cases h
  ·rename_i hk
   rw [if_neg hk] at ⊢
   split at h
   ·rename_i hw
    rw [if_pos hw]
    have hkw : w = hdK (kindW w) := by
     unfold kindW at hk ⊢
     split at hk
     ·rename_i e; rw [if_pos e, e]; rfl
     ·rename_i e
      rw [if_neg e]
      split at hk
      ·rename_i e2; rw [if_pos e2, e2]; rfl
      ·exact absurd rfl hk
    have hl : (wholeR 1000000000 fs).1.map Lib.itoa = fs := by
     unfold wholeR at hw ⊢
     split at hw
     ·rename_i ha
      rw [if_pos ha]
      dsimp only
      unfold wN
      rw [List.map_map]
      conv => rhs; rw [← List.map_id fs]
      refine List.map_congr_left fun f hf => ?_
      have h1 := List.all_eq_true.1 ha f hf
      unfold wOk at h1
      simp only [Bool.and_eq_true, decide_eq_true_eq] at h1
      exact Wo.itoa_int (lo := -1 - 1000000000) (hi := 1000000000) (k := (wI 1000000000 f).1) (Prod.ext rfl h1.1)
     ·cases hw
    have hkk : (headL (kindW w) (wholeR 1000000000 fs).1).1.k = kindW w := headL_k h
    have hn : ∃ x t, fs = x :: t := by
     cases fs with
     | nil => exfalso; revert h; unfold wholeR wN; simp [headL]
     | cons x t => exact ⟨x, t, rfl⟩
    obtain ⟨x, t, rfl⟩ := hn
    have es : s = w ++ 32 :: Lib.join (x :: t) [32] := by
     rw [← hj, Lib.join_cons, Lib.join_cons]
     simp [Lib.joinTail]
    generalize wholeR 1000000000 (x :: t) = W at h hl hkk ⊢
    obtain ⟨l, b⟩ := W
    dsimp only at h hl hkk ⊢
    rw [es, ← hl]
    unfold hdL
    dsimp only
    rw [hkk, ← hkw]
    congr 2
    show nums l = nums _
    congr 1
    unfold hdN
    dsimp only
    match l, h with
    | [], h => cases h
    | [r], h =>
     by_cases h1 : r = 0
     ·subst h1; rfl
     ·simp [headL, h1] at h
    | [r, a], h =>
     by_cases h1 : r = 1
     ·subst h1; rfl
     ·simp [headL, h1] at h
    | [r, a, b], h =>
     by_cases h1 : r = 2
     ·subst h1; rfl
     ·simp [headL, h1] at h
    | _ :: _ :: _ :: _ :: _, h => cases h
   ·cases h
theorem parse_back {s : List UInt8} {a : Lat.Arr} {i : Int} (h : parseR cfK s = (a, i, 0)) : arrayR (pcK a.k) a = (s, 0) := by
 unfold parseR at h
 split at h
 ·rename_i h1
  injection h with _ h2
  injection h2 with _ h3
  omega
 ·rename_i h1
  have h1 : (Wo.linesS s).2 = 0 := Classical.not_not.1 h1
  split at h
  ·simp at h
  ·rename_i h0
   have hs := lines_back h1 h0
   generalize (Wo.linesS s).1 = ls at h h0 hs
   unfold parseL at h
   split at h
   ·simp at h
   ·rename_i hb
    have hb : (begunR (ls.getD 0 [])).2.2 = true := by simpa using hb
    split at h
    ·simp at h
    ·rename_i h400
     have hm0 := begunR_many (ls.getD 0 [])
     have hh := hd_begun hb
     have hk := begunR_k hb
     generalize begunR (ls.getD 0 []) = B at h hb hh hk h400 hm0
     obtain ⟨⟨k, r, l0, l1, c0⟩, many, is⟩ := B
     dsimp only at h hb hh hk h400 hm0
     obtain ⟨m, rfl⟩ : ∃ m : Nat, many = m := ⟨many.toNat, by omega⟩
     rw [Int.toNat_natCast] at h
     unfold parseB at h
     dsimp only at h
     split at h
     ·simp at h
     ·rename_i hff
      split at h
      ·simp at h
      ·rename_i hlen
       unfold parseE at h
       split at h
       ·rename_i he
        injection h with _ h2
        injection h2 with _ h3
        omega
       ·rename_i he
        injection h with ha _
        subst ha
        have hno : ∀ j, j < nch m → pBad cfK k ls m j = false := fun j hj => ff_no hff hj
        have hal := accP_len (cf := cfK) (k := k) (ls := ls) (many := m) (fun p m h => cfK_len k p m h) (nch m) fun j hj => hno j hj
        have hal : (accP cfK k ls m (nch m)).length = m := by rw [hal]; unfold nch; omega
        have hok : ∀ j, j < nch m → j + 1 < ls.length ∧ (pcl cfK k ls m j).2 = true := fun j hj => by
         have := hno j hj
         unfold pBad at this
         simp only [Bool.or_eq_false_iff, decide_eq_false_iff_not, Bool.not_eq_false'] at this
         exact ⟨by omega, this.2⟩
        have hpl : ∀ j, j < nch m → (pcl cfK k ls m j).1.length = lineN m j := fun j hj => cfK_len k _ _ (hok j hj).2
        have hchk : ∀ j, j < nch m → chk20 (accP cfK k ls m (nch m)) j = (pcl cfK k ls m j).1 := fun j hj => by
         have key : ∀ n, n ≤ nch m → j < n → chk20 (accP cfK k ls m n) j = (pcl cfK k ls m j).1 := fun n => by
          induction n with
          | zero => intro _ h; omega
          | succ n ih =>
           intro hn hjn
           have hln := accP_len (cf := cfK) (k := k) (ls := ls) (many := m) (fun p m h => cfK_len k p m h) n fun j hj => hno j (by omega)
           have hmn := nch_lt.1 (show n < nch m by omega)
           have hpn := hpl n (by omega)
           have hlN : lineN m n = min (m - 20 * n) 20 := rfl
           rw [accP_succ]
           unfold chk20
           rcases Nat.lt_or_eq_of_le (Nat.le_of_lt_succ hjn) with h5 | h5
           ·have := ih (by omega) h5
            unfold chk20 at this
            rw [List.drop_append_of_le_length (by omega), List.take_append_of_le_length (by rw [List.length_drop]; omega), this]
           ·subst h5
            rw [List.drop_append, List.drop_of_length_le (by omega), hln, show j * 20 - min m (20 * j) = 0 by omega, List.drop_zero, List.nil_append, List.take_of_length_le (by omega)]
         exact key _ (Nat.le_refl _) hj
        have hE : arrayR (pcK k) ⟨k, r, l0, l1, accP cfK k ls m (nch m)⟩ = (arrT (pcK k) ⟨k, r, l0, l1, accP cfK k ls m (nch m)⟩, 0) := if_neg he
        show arrayR (pcK k) ⟨k, r, l0, l1, accP cfK k ls m (nch m)⟩ = (s, 0)
        rw [hE]
        congr 1
        have e1 : arrT (pcK k) ⟨k, r, l0, l1, accP cfK k ls m (nch m)⟩ = txt (arrL ⟨k, r, l0, l1, accP cfK k ls m (nch m)⟩) := arrT_txt ⟨k, r, l0, l1, accP cfK k ls m (nch m)⟩
        rw [e1, hs]
        congr 1
        have hp := List.length_pos_iff.2 h0
        have hll : ls.length = nch m + 1 := by
         rcases Nat.eq_zero_or_pos (nch m) with h6 | h6
         ·omega
         ·have := (hok (nch m - 1) (by omega)).1
          omega
        refine List.ext_getElem (by rw [arrL_len]; dsimp only; rw [hal, hll]) fun j h7 h8 => ?_
        have g1 : ∀ (L : List (List UInt8)) (hj : j < L.length), L[j] = L.getD j [] := fun L hj => by rw [List.getD_eq_getElem?_getD, List.getElem?_eq_getElem hj]; rfl
        rw [g1 _ h7, g1 _ h8]
        cases j with
        | zero => exact (hh _).symm
        | succ j =>
         have hj : j < nch m := by omega
         have e2 := arrL_at ⟨k, r, l0, l1, accP cfK k ls m (nch m)⟩ (j := j) (by dsimp only; rw [hal]; exact hj)
         rw [e2]
         dsimp only
         rw [hchk j hj]
         exact pcK_cfK (hok j hj).2
theorem cfK_R64 (k : Int) (s : List UInt8) (m : Nat) : R64 (cfK k s m).1 := by
 unfold cfK
 split
 ·exact whole_I _
 ·exact val64 (lnC_valid s)
theorem accP_R64 (k : Int) (ls : List (List UInt8)) (m n : Nat) : R64 (accP cfK k ls m n) := fun v hv => by
 unfold accP at hv
 obtain ⟨j, _, h⟩ := List.mem_flatMap.1 hv
 exact cfK_R64 k _ _ v h
theorem parse_R64 (s : List UInt8) : R64 (parseR cfK s).1.c := by
 have z : R64 zA.c := fun v hv => by cases hv
 unfold parseR
 split
 ·exact z
 ·split
  ·exact z
  ·unfold parseL
   split
   ·exact z
   ·split
    ·exact z
    ·unfold parseB
     split
     ·exact z
     ·split
      ·exact z
      ·unfold parseE
       split
       ·exact z
       ·exact accP_R64 _ _ _ _
theorem arrayR_0 {pc : List Int → List UInt8} {a : Lat.Arr} {s : List UInt8} (h : arrayR pc a = (s, 0)) : Lat.arrE a = 0 := by
 unfold arrayR at h
 split at h
 ·exact (Prod.mk.inj h).2
 ·rename_i h0
  exact Classical.not_not.1 h0
end Go.Avm
namespace Go.Avm
open Go Go.Fm Go.Rn Go.Lx
set_option maxRecDepth 10000
section
variable {X : Cx} (hX : X.P = Go.Proofs.Tryz.prog) (hs : Std X) (he : CEnv X)
include hX hs he
set_option maxHeartbeats 4000000 in
theorem ev_FormatBack (a : Lat.Arr) (x : List UInt8) (hv : R64 a.c) : Ev X F_lf_Back [arrV a, .str x] (.bool true) := by
 obtain ⟨te, hR⟩ := he.rng
 have hsh := ev_shown hX hs he.pow hR
 refine ev_of_k (evK_of_xa hs (A_lf_Back_ok hX) ?_)
 have hf := ev_Far33 hX hs a
 have hAr := ev_ArrayK hX hs he a hv
 have hPa := fun h => parse_arr (a := a) h hv
 obtain ⟨k, r, l0, l1, c⟩ := a
 simp only [A_lf_Back, arrV] at hf hAr ⊢
 refine xa_cut hs.hm ?_
 simp only [go_sem, Nat.reduceAdd, reduceCtorEq]
 cases hfar : farA ⟨k, r, l0, l1, c⟩ with
 | true =>
  rw [hfar] at hf
  refine xa_last hs.hm ?_
  simp only [go_sem, Nat.reduceEqDiff, Nat.reduceAdd, reduceCtorEq]
  refine call_ev hf ?_
  simp only [go_sem, Nat.reduceEqDiff, reduceCtorEq]
  refine call_ev hsh ?_
  simp only [go_sem, Nat.reduceEqDiff, reduceCtorEq]
  exact ⟨⟨_, rfl⟩, rfl⟩
 | false =>
 rw [hfar] at hf
 by_cases hx : (3000 : Int) < x.length
 ·refine xa_last hs.hm ?_
  simp only [go_sem, Nat.reduceEqDiff, Nat.reduceAdd, reduceCtorEq]
  refine call_ev hf ?_
  simp only [go_sem, Nat.reduceEqDiff, reduceCtorEq, hx]
  refine call_ev hsh ?_
  simp only [go_sem, Nat.reduceEqDiff, reduceCtorEq]
  exact ⟨⟨_, rfl⟩, rfl⟩
 refine xa_cut hs.hm ?_
 simp only [go_sem, Nat.reduceEqDiff, Nat.reduceAdd, reduceCtorEq]
 refine call_ev hf ?_
 simp only [go_sem, Nat.reduceEqDiff, reduceCtorEq, hx]
 have hl : c.length < 1000000 := by
  unfold farA at hfar
  simp only [Bool.or_eq_false_iff, decide_eq_false_iff_not] at hfar
  omega
 refine xa_cut hs.hm ?_
 simp only [go_sem, Nat.reduceEqDiff, Nat.reduceAdd, reduceCtorEq]
 refine call_ev (hAr hl) ?_
 simp only [go_sem, Nat.reduceEqDiff, Nat.reduceAdd, reduceCtorEq, Nat.reduceLT]
 refine xa_joinR [.box [.int .i64 k, .int .i64 r, .int .i64 l0, .int .i64 l1, lst (AV.int .i64) .ro c]] hs.hm [(1, .str x)] ?_ fun R => ?_
 ·by_cases hE : Lat.arrE ⟨k, r, l0, l1, c⟩ = 0
  ·have eA : arrayR (pcK k) ⟨k, r, l0, l1, c⟩ = (arrT (pcK k) ⟨k, r, l0, l1, c⟩, 0) := if_neg (by omega)
   have hal := arrT_len hE hv
   have hPE := hPa hE
   dsimp only at hal hPE
   have hP := ev_ParseK hX hs he (arrT (pcK k) ⟨k, r, l0, l1, c⟩) (by omega)
   rw [hPE] at hP
   have hsm := ev_same6 hX hs ⟨k, r, l0, l1, c⟩ ⟨k, r, l0, l1, c⟩ hl
   rw [Go.Tb.sameA_refl] at hsm
   simp only [arrV, grV] at hP hsm
   rw [eA]
   simp only [go_sem, Nat.reduceEqDiff, reduceCtorEq]
   refine call_ev hP ?_
   simp only [go_sem, Nat.reduceEqDiff, Nat.reduceAdd, reduceCtorEq, Nat.reduceLT]
   refine call_ev hsm ?_
   simp only [go_sem, Nat.reduceEqDiff, reduceCtorEq]
   exact ⟨_, rfl⟩
  ·have eA : arrayR (pcK k) ⟨k, r, l0, l1, c⟩ = ([], Lat.arrE ⟨k, r, l0, l1, c⟩) := if_pos hE
   rw [eA]
   simp only [go_sem, Nat.reduceEqDiff, reduceCtorEq, hE]
   exact ⟨_, rfl⟩
 ·have hP := ev_ParseK hX hs he x (by omega)
  have hbk := fun a i h => parse_back (s := x) (a := a) (i := i) h
  have hr64 := parse_R64 x
  generalize parseR cfK x = T at hP hbk hr64
  obtain ⟨⟨gk, gr, g0, g1, gc⟩, i, e⟩ := T
  simp only [grV, arrV] at hP
  refine xa_last hs.hm ?_
  simp only [go_sem, Nat.reduceEqDiff]
  refine call_ev hP ?_
  simp only [go_sem, Nat.reduceEqDiff, Nat.reduceAdd, Nat.reduceLT]
  refine ⟨fun h => ?_, fun h => ?_⟩
  ·refine call_ev hsh ?_
   simp only [go_sem, Nat.reduceEqDiff]
   exact ⟨⟨_, rfl⟩, rfl⟩
  ·subst h
   have hb := hbk _ _ rfl
   have hE2 := arrayR_0 hb
   have hg4 := (arrG hE2).2.2.2.1
   have hA2 := ev_ArrayK hX hs he ⟨gk, gr, g0, g1, gc⟩ hr64 (by omega)
   rw [hb] at hA2
   simp only [arrV] at hA2
   refine call_ev hA2 ?_
   simp only [go_sem, Nat.reduceEqDiff, Nat.reduceAdd, Nat.reduceLT]
   refine call_ev hsh ?_
   simp only [go_sem, Nat.reduceEqDiff]
   exact ⟨⟨_, rfl⟩, rfl⟩
end
theorem ev_LBack {X : Cx} (hX : X.P = Go.Proofs.Tryz.prog) (hs : Std X) (he : CEnv X) (a : Lat.Arr) (x : List UInt8) (hv : ∀ v ∈ a.c, -9223372036854775808 ≤ v ∧ v ≤ 9223372036854775807) : Ev X F_lf_Back [arrV a, .str x] (.bool true) := ev_FormatBack hX hs he a x hv
end Go.Avm
