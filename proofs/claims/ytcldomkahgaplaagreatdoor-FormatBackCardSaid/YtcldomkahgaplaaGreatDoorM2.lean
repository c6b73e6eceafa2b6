/- What the pictures of cells are. -/
import Derived.Test.YtcldomkahgaplaaGreatDoorM1
import Derived.Lib.ItoaLen
import Derived.Lib.Repeat
import Derived.Lib.Join
import Derived.Lib.FieldsP
import Derived.Lib.TrimUEq
set_option linter.all false
namespace Go.Fm
open Go
def cellS (k v : Int) : List UInt8 := if k = 1 then Lib.itoa v else if 32 ≤ v ∧ v ≤ 126 then [UInt8.ofNat v.toNat] else [46]
def blk (n : Nat) : List UInt8 := List.replicate n 32
def wid (k : Int) (l : List Int) (n : Nat) : Nat := l.foldl (fun m v => max m (cellS k v).length) n
theorem repeat_rep (c : UInt8) (n : Nat) : Lib.repeatL [c] n = List.replicate n c := by
 induction n with
 | zero => rfl
 | succ n ih => rw [Lib.repeatL, ih, List.replicate_succ]; rfl
theorem cellS_len {k v : Int} (h : -9223372036854775808 ≤ v ∧ v ≤ 9223372036854775807) : (cellS k v).length ≤ 21 := by
 have := Lib.itoa_length_le v h.1 h.2
 by_cases h1 : k = 1
 ·rw [cellS, if_pos h1]; exact this
 ·rw [cellS, if_neg h1]
  split <;> simp
structure Col where
 c : List (List UInt8)
 w : Nat
 r : Bool
 deriving Inhabited
def stk (k : Int) (l : List Int) (n : Nat) : Col := ⟨l.map (cellS k), wid k l n, decide (k = 1)⟩
theorem wid_take {k : Int} {l : List Int} {n i : Nat} (h : i < l.length) : wid k (l.take (i + 1)) n = max (wid k (l.take i) n) (cellS k (l.getD i 0)).length := by
 rw [List.take_succ_eq_append_getElem h, wid, List.foldl_append, List.getD_eq_getElem?_getD, List.getElem?_eq_getElem h]
 rfl
theorem wid_le {k : Int} {l : List Int} {n m : Nat} (h : ∀ v ∈ l, -9223372036854775808 ≤ v ∧ v ≤ 9223372036854775807) (hn : n ≤ m) (hm : 21 ≤ m) : wid k l n ≤ m := by
 induction l generalizing n with
 | nil => exact hn
 | cons a l ih =>
  refine ih (fun v hv => h v (List.mem_cons_of_mem _ hv)) ?_
  have := cellS_len (k := k) (h a List.mem_cons_self)
  show max n (cellS k a).length ≤ m
  omega
theorem enc_small {v : Int} (h : 32 ≤ v ∧ v ≤ 126) : (Utf8.encode (IntKind.i32.wrap v)).data.toList = [UInt8.ofNat v.toNat] := by
 have : ∀ n : Nat, n < 127 → 32 ≤ n → (Utf8.encode (IntKind.i32.wrap (n : Int))).data.toList = [UInt8.ofNat n] := by decide +kernel
 have h1 := this v.toNat (by omega) (by omega)
 rwa [show ((v.toNat : Nat) : Int) = v by omega] at h1
theorem joinT_len (sep : List UInt8) (m : Nat) (r : List (List UInt8)) (h : ∀ x ∈ r, x.length ≤ m) : (Lib.joinTail sep r).length ≤ r.length * (sep.length + m) := by
 induction r with
 | nil => simp [Lib.joinTail]
 | cons a r ih =>
  have h1 := ih fun x hx => h x (List.mem_cons_of_mem _ hx)
  have h2 := h a List.mem_cons_self
  rw [show Lib.joinTail sep (a :: r) = (sep ++ a) ++ Lib.joinTail sep r from rfl, List.length_append, List.length_append, List.length_cons, Nat.succ_mul]
  omega
theorem join_len (sep : List UInt8) (m : Nat) (l : List (List UInt8)) (h : ∀ x ∈ l, x.length ≤ m) : (Lib.join l sep).length ≤ l.length * (sep.length + m) := by
 cases l with
 | nil => simp [Lib.join_nil]
 | cons a r =>
  have h1 := joinT_len sep m r fun x hx => h x (List.mem_cons_of_mem _ hx)
  have h2 := h a List.mem_cons_self
  rw [Lib.join_cons, List.length_append, List.length_cons, Nat.succ_mul]
  omega
def nums (l : List Int) : List UInt8 := Lib.join (l.map Lib.itoa) [32]
end Go.Fm
namespace Go.Fm
open Go
def padB (r : Bool) (w : Nat) (s : List UInt8) : List UInt8 := if r then blk (w - s.length) ++ s else s ++ blk (w - s.length)
def colL (l1 m j : Nat) (c : List Int) : List Int := (List.range m).map fun i => c.getD (j + i * l1) 0
def colsP (k : Int) (c : List Int) (l0 l1 n : Nat) : List Col := (List.range n).map fun j => stk k (colL l1 l0 j c) 0
def rowS (cs : List Col) (i : Nat) : List (List UInt8) := cs.map fun c => padB c.r c.w (c.c.getD i [])
def rowP (cs : List Col) (gap : List UInt8) (i : Nat) : List UInt8 := Lib.join (rowS cs i) gap ++ [10]
def picP (cs : List Col) (gap : List UInt8) (n : Nat) : List UInt8 := (List.range n).flatMap (rowP cs gap)
def gapS (k : Int) : List UInt8 := if k = 1 then [32] else []
def pic1 (a : Lat.Arr) : List UInt8 := if a.r < 2 then Lib.join (a.c.map (cellS a.k)) (gapS a.k) ++ [10] else picP (colsP a.k a.c a.l0.toNat a.l1.toNat a.l1.toNat) (gapS a.k) a.l0.toNat
def picR (a : Lat.Arr) : List UInt8 × Int := if Lat.arrE a ≠ 0 then ([], Lat.arrE a) else (pic1 a, 0)
theorem picP_succ (cs : List Col) (gap : List UInt8) (n : Nat) : picP cs gap (n + 1) = picP cs gap n ++ rowP cs gap n := by
 simp [picP, List.range_succ]
theorem colL_succ (l1 m j : Nat) (c : List Int) : colL l1 (m + 1) j c = colL l1 m j c ++ [c.getD (j + m * l1) 0] := by
 simp [colL, List.range_succ]
theorem colsP_succ (k : Int) (c : List Int) (l0 l1 n : Nat) : colsP k c l0 l1 (n + 1) = colsP k c l0 l1 n ++ [stk k (colL l1 l0 n c) 0] := by
 simp [colsP, List.range_succ]
theorem colL_len (l1 m j : Nat) (c : List Int) : (colL l1 m j c).length = m := by simp [colL]
theorem colsP_len (k : Int) (c : List Int) (l0 l1 n : Nat) : (colsP k c l0 l1 n).length = n := by simp [colsP]
theorem padB_len (r : Bool) (w : Nat) (s : List UInt8) : (padB r w s).length = max w s.length := by
 unfold padB blk
 cases r
 ·rw [if_neg (by decide), List.length_append, List.length_replicate]; omega
 ·rw [if_pos rfl, List.length_append, List.length_replicate]; omega
structure ColOk (c : Col) (n : Nat) : Prop where
 w : c.w ≤ 1000
 len : c.c.length = n
 all : ∀ s ∈ c.c, s.length ≤ 21
theorem ok_pad {c : Col} {n i : Nat} (h : ColOk c n) : (padB c.r c.w (c.c.getD i [])).length ≤ 1000 := by
 rw [padB_len]
 have := h.w
 have : (c.c.getD i []).length ≤ 21 := by
  rw [List.getD_eq_getElem?_getD]
  cases e : c.c[i]? with
  | none => simp
  | some s => exact h.all s (List.mem_of_getElem? e)
 omega
def I64 (v : Int) : Prop := -9223372036854775808 ≤ v ∧ v ≤ 9223372036854775807
theorem stk_ok {k : Int} {l : List Int} {n : Nat} (h : ∀ v ∈ l, -9223372036854775808 ≤ v ∧ v ≤ 9223372036854775807) (hn : n ≤ 1000) : ColOk (stk k l n) l.length where
 w := wid_le h hn (by decide)
 len := List.length_map _
 all := fun s hs => by
  obtain ⟨v, hv, rfl⟩ := List.mem_map.1 hs
  exact cellS_len (h v hv)
theorem colL_in {c : List Int} (h : ∀ v ∈ c, -9223372036854775808 ≤ v ∧ v ≤ 9223372036854775807) (l1 m j : Nat) : ∀ v ∈ colL l1 m j c, -9223372036854775808 ≤ v ∧ v ≤ 9223372036854775807 := fun v hv => by
 obtain ⟨i, _, rfl⟩ := List.mem_map.1 hv
 rw [List.getD_eq_getElem?_getD]
 cases e : c[j + i * l1]? with
 | none => exact ⟨by decide, by decide⟩
 | some s => exact h s (List.mem_of_getElem? e)
theorem colsP_ok {k : Int} {c : List Int} (h : ∀ v ∈ c, -9223372036854775808 ≤ v ∧ v ≤ 9223372036854775807) (l0 l1 n : Nat) : ∀ x ∈ colsP k c l0 l1 n, ColOk x l0 := fun x hx => by
 obtain ⟨j, _, rfl⟩ := List.mem_map.1 hx
 have := stk_ok (k := k) (l := colL l1 l0 j c) (n := 0) (colL_in h _ _ _) (by decide)
 rwa [colL_len] at this
theorem rowP_len {cs : List Col} {gap : List UInt8} {n i : Nat} (h : ∀ c ∈ cs, ColOk c n) (hg : gap.length ≤ 2) : (rowP cs gap i).length ≤ cs.length * 1002 + 1 := by
 have := join_len gap 1000 (rowS cs i) fun x hx => by
  obtain ⟨c, hc, rfl⟩ := List.mem_map.1 hx
  exact ok_pad (h c hc)
 rw [rowP, List.length_append, List.length_singleton]
 have e : (rowS cs i).length = cs.length := List.length_map _
 rw [e] at this
 have : cs.length * (gap.length + 1000) ≤ cs.length * 1002 := Nat.mul_le_mul (Nat.le_refl _) (by omega)
 omega
theorem picP_len {cs : List Col} {gap : List UInt8} {n : Nat} (h : ∀ c ∈ cs, ColOk c n) (hg : gap.length ≤ 2) (m : Nat) : (picP cs gap m).length ≤ m * (cs.length * 1002 + 1) := by
 induction m with
 | zero => simp [picP]
 | succ m ih =>
  have := rowP_len (i := m) h hg
  rw [picP_succ, List.length_append, Nat.succ_mul]
  omega
theorem arr2 {a : Lat.Arr} (h : Lat.arrE a = 0) (hr : ¬ a.r < 2) : ∃ l0 l1 : Nat, a.l0 = l0 ∧ a.l1 = l1 ∧ a.c.length = l0 * l1 ∧ l0 ≤ 400 ∧ l1 ≤ 400 ∧ a.r = 2 := by
 obtain ⟨h1, h2, h3⟩ := Lat.arrE_0 h
 unfold Lat.shapeE at h2
 have hm : Lat.many a.r a.l0 a.l1 = a.l0 * a.l1 := if_pos (by omega)
 split at h2
 ·omega
 ·split at h2
  ·omega
  ·split at h2
   ·omega
   ·split at h2
    ·omega
    ·obtain ⟨l0, e0⟩ : ∃ n : Nat, a.l0 = n := ⟨a.l0.toNat, by omega⟩
     obtain ⟨l1, e1⟩ : ∃ n : Nat, a.l1 = n := ⟨a.l1.toNat, by omega⟩
     refine ⟨l0, l1, e0, e1, ?_, by omega, by omega, by omega⟩
     rw [hm, e0, e1] at h3
     exact_mod_cast h3
end Go.Fm
namespace Go.Fm
open Go Go.Tb
def drawnL (t : Tab) (n : Nat) : List Col := (List.range n).map fun i => stk (t.col i).k (t.col i).c (t.n.getD i default).length
def drawnR (t : Tab) : List Col × Int := if (chk t).2 ≠ 0 then ([], (chk t).2) else (drawnL t t.c.length, 0)
theorem drawnL_succ (t : Tab) (n : Nat) : drawnL t (n + 1) = drawnL t n ++ [stk (t.col n).k (t.col n).c (t.n.getD n default).length] := by
 simp [drawnL, List.range_succ]
theorem drawnL_len (t : Tab) (n : Nat) : (drawnL t n).length = n := by simp [drawnL]
end Go.Fm
namespace Go.Fm
open Go Go.Tb
def lineP (g : Nat → List UInt8) (n : Nat) : List UInt8 := Lib.join ((List.range n).map g) [32, 32] ++ [10]
def colAt (cs : List Col) (i : Nat) : Col := cs.getD i default
def headG (ns : List (List UInt8)) (cs : List Col) (i : Nat) : List UInt8 := padB (colAt cs i).r (colAt cs i).w (ns.getD i [])
def dashG (cs : List Col) (i : Nat) : List UInt8 := List.replicate (colAt cs i).w 45
def cellG (cs : List Col) (row i : Nat) : List UInt8 := padB (colAt cs i).r (colAt cs i).w ((colAt cs i).c.getD row [])
def headP (ns : List (List UInt8)) (cs : List Col) : List UInt8 := lineP (headG ns cs) cs.length ++ lineP (dashG cs) cs.length
def tabP2 (ns : List (List UInt8)) (cs : List Col) (n : Nat) : List UInt8 := headP ns cs ++ (List.range n).flatMap fun row => lineP (cellG cs row) cs.length
def tableR (t : Tab) : List UInt8 × Int := if (drawnR t).2 ≠ 0 ∨ (drawnR t).1 = [] then ([], (drawnR t).2) else (tabP2 t.n (drawnR t).1 (colAt (drawnR t).1 0).c.length, 0)
theorem tabP2_succ (ns : List (List UInt8)) (cs : List Col) (n : Nat) : tabP2 ns cs (n + 1) = tabP2 ns cs n ++ lineP (cellG cs n) cs.length := by
 simp [tabP2, List.range_succ]
theorem lineP_len {g : Nat → List UInt8} {n : Nat} (h : ∀ i, i < n → (g i).length ≤ 1000) : (lineP g n).length ≤ n * 1002 + 1 := by
 have := join_len [32, 32] 1000 ((List.range n).map g) fun x hx => by
  obtain ⟨i, hi, rfl⟩ := List.mem_map.1 hx
  exact h i (List.mem_range.1 hi)
 rw [List.length_map, List.length_range] at this
 rw [lineP, List.length_append, List.length_singleton]
 simp only [List.length_cons, List.length_nil] at this
 omega
structure TabOk (ns : List (List UInt8)) (cs : List Col) (m : Nat) : Prop where
 n : cs.length = ns.length
 c : cs.length ≤ 16
 mm : m ≤ 400
 col : ∀ i, i < cs.length → ColOk (colAt cs i) m
 nm : ∀ i, i < cs.length → (ns.getD i []).length ≤ 16
theorem TabOk.head {ns : List (List UInt8)} {cs : List Col} {m : Nat} (h : TabOk ns cs m) : ∀ i, i < cs.length → (headG ns cs i).length ≤ 1000 := fun i hi => by
 rw [headG, padB_len]
 have := (h.col i hi).w
 have := h.nm i hi
 omega
theorem TabOk.dash {ns : List (List UInt8)} {cs : List Col} {m : Nat} (h : TabOk ns cs m) : ∀ i, i < cs.length → (dashG cs i).length ≤ 1000 := fun i hi => by
 rw [dashG, List.length_replicate]
 exact (h.col i hi).w
theorem TabOk.cell {ns : List (List UInt8)} {cs : List Col} {m : Nat} (h : TabOk ns cs m) (row : Nat) : ∀ i, i < cs.length → (cellG cs row i).length ≤ 1000 := fun i hi => ok_pad (h.col i hi)
theorem TabOk.len {ns : List (List UInt8)} {cs : List Col} {m : Nat} (h : TabOk ns cs m) (n : Nat) : (tabP2 ns cs n).length ≤ (n + 2) * 20000 := by
 have h1 := lineP_len h.head
 have h2 := lineP_len h.dash
 have hc := h.c
 induction n with
 | zero =>
  rw [tabP2, headP, List.range_zero, List.flatMap_nil, List.append_nil, List.length_append]
  omega
 | succ n ih =>
  have h3 := lineP_len (h.cell n)
  rw [tabP2_succ, List.length_append]
  omega
theorem col_in {t : Tab} {i : Nat} (h : i < t.c.length) : t.col i ∈ t.c := by
 unfold Tab.col
 rw [List.getD_eq_getElem?_getD, List.getElem?_eq_getElem h]
 exact List.getElem_mem h
theorem colAt_drawn (t : Tab) {n i : Nat} (h : i < n) : colAt (drawnL t n) i = stk (t.col i).k (t.col i).c (t.n.getD i default).length := by
 unfold colAt drawnL
 rw [List.getD_eq_getElem?_getD, List.getElem?_map, List.getElem?_range h]
 rfl
theorem tab_ok {t : Tab} (hg : Tb.Good t) (hv : ∀ a ∈ t.c, ∀ v ∈ a.c, -9223372036854775808 ≤ v ∧ v ≤ 9223372036854775807) : TabOk t.n (drawnL t t.c.length) (Tb.many t).toNat where
 n := by rw [drawnL_len]; exact hg.eq
 c := by rw [drawnL_len, hg.eq]; exact hg.len
 mm := by have := hg.many; omega
 col := fun i hi => by
  rw [drawnL_len] at hi
  have hin : i < t.n.length := by have := hg.eq; omega
  rw [colAt_drawn t hi]
  have hnm := nm_len (colE_0 (hg.col i hin)).1
  have hl : (t.n.getD i default).length ≤ 1000 := by
   have e : t.n.getD i default = t.nm i := by
    unfold Tab.nm
    rw [List.getD_eq_getElem?_getD, List.getD_eq_getElem?_getD, List.getElem?_eq_getElem hin]; rfl
   rw [e]; omega
  have h1 := stk_ok (k := (t.col i).k) (l := (t.col i).c) (n := (t.n.getD i default).length) (hv _ (col_in hi)) hl
  have h2 := (hg.at hin).2.2.1
  rwa [show (t.col i).c.length = (Tb.many t).toNat by omega] at h1
 nm := fun i hi => by
  rw [drawnL_len] at hi
  have hin : i < t.n.length := by have := hg.eq; omega
  have hnm := nm_len (colE_0 (hg.col i hin)).1
  have e : t.n.getD i [] = t.nm i := by
    unfold Tab.nm
    simp [List.getD_eq_getElem?_getD, List.getElem?_eq_getElem hin]
  rw [e]; omega
end Go.Fm
namespace Go.Fm
open Go
def ne0 (x : List UInt8) : Bool := !x.isEmpty
def fldB (s : List UInt8) : List (List UInt8) := (Wo.splC 32 s).filter ne0
theorem splC_pre {c : UInt8} {u v : List UInt8} (h : c ∉ u) {a : List UInt8} {t : List (List UInt8)} (hv : Wo.splC c v = a :: t) : Wo.splC c (u ++ v) = (u ++ a) :: t := by
 induction u with
 | nil => exact hv
 | cons b r ih =>
  have h1 : ¬ b = c := fun e => h (by rw [e]; exact List.mem_cons_self)
  have h2 := ih fun e => h (List.mem_cons_of_mem _ e)
  rw [List.cons_append, Wo.splC, if_neg h1, h2]
  rfl
theorem splC_cons (c : UInt8) (v : List UInt8) : ∃ a t, Wo.splC c v = a :: t := List.exists_cons_of_ne_nil (Wo.splC_ne c v)
theorem getD_ne {l : List UInt8} {i : Nat} (h : 64 ≤ (l.getD i 0).toNat) : l.getD i 0 ≠ 32 := fun e => by rw [e] at h; simp at h
theorem lt_of_getD {l : List UInt8} {i : Nat} (h : 64 ≤ (l.getD i 0).toNat) : i < l.length := by
 rcases Nat.lt_or_ge i l.length with h1 | h1
 ·exact h1
 ·rw [List.getD_eq_getElem?_getD, List.getElem?_eq_none h1] at h; simp at h
theorem dec_cases (s : ByteArray) (pos : Nat) (hp : pos < s.data.toList.length) : (s.data.toList.getD pos 0 = 32 ∧ Utf8.decode s pos = (32, 1)) ∨ ((Utf8.decode s pos).1 ≠ 32 ∧ 1 ≤ (Utf8.decode s pos).2 ∧ pos + (Utf8.decode s pos).2 ≤ s.data.toList.length ∧ ∀ k, k < (Utf8.decode s pos).2 → s.data.toList.getD (pos + k) 0 ≠ 32) := by
 rw [Lib.decode_N]
 generalize hl : s.data.toList = l at hp
 have one : l.getD pos 0 ≠ 32 → ∀ k, k < 1 → l.getD (pos + k) 0 ≠ 32 := fun h k hk => by rw [show k = 0 by omega, Nat.add_zero]; exact h
 unfold Lib.decodeN
 by_cases h0 : (l.getD pos 0).toNat < 128
 ·rw [if_pos h0]
  by_cases e : l.getD pos 0 = 32
  ·exact .inl ⟨e, by rw [e]; rfl⟩
  ·refine .inr ⟨fun h => e ?_, Nat.le_refl _, by dsimp only; omega, one e⟩
   dsimp only at h
   apply UInt8.toNat_inj.1
   rw [h]; rfl
 ·have e : l.getD pos 0 ≠ 32 := getD_ne (by omega)
  rw [if_neg h0]
  right
  split
  ·rename_i h
   obtain ⟨_, h1, h2⟩ := h
   split
   ·have h3 : 64 ≤ (l.getD (pos + 1) 0).toNat := by omega
    have h4 := lt_of_getD h3
    refine ⟨by dsimp only; omega, by dsimp only; omega, by dsimp only; omega, fun k hk => ?_⟩
    dsimp only at hk
    rcases (show k = 0 ∨ k = 1 by omega) with rfl | rfl
    ·exact e
    ·exact getD_ne h3
   ·exact ⟨by dsimp only; omega, Nat.le_refl _, by dsimp only; omega, one e⟩
  ·split
   ·rename_i h
    obtain ⟨_, ⟨_, h1⟩, _, h2⟩ := h
    split
    ·have h3 : 64 ≤ (l.getD (pos + 1) 0).toNat := by omega
     have h4 : 64 ≤ (l.getD (pos + 2) 0).toNat := by omega
     have h5 := lt_of_getD h4
     refine ⟨by dsimp only; omega, by dsimp only; omega, by dsimp only; omega, fun k hk => ?_⟩
     dsimp only at hk
     rcases (show k = 0 ∨ k = 1 ∨ k = 2 by omega) with rfl | rfl | rfl
     ·exact e
     ·exact getD_ne h3
     ·exact getD_ne h4
    ·exact ⟨by dsimp only; omega, Nat.le_refl _, by dsimp only; omega, one e⟩
   ·split
    ·rename_i h
     obtain ⟨_, ⟨_, h1⟩, ⟨_, h2⟩, _, h3⟩ := h
     split
     ·have h4 : 64 ≤ (l.getD (pos + 1) 0).toNat := by omega
      have h5 : 64 ≤ (l.getD (pos + 2) 0).toNat := by omega
      have h6 : 64 ≤ (l.getD (pos + 3) 0).toNat := by omega
      have h7 := lt_of_getD h6
      refine ⟨by dsimp only; omega, by dsimp only; omega, by dsimp only; omega, fun k hk => ?_⟩
      dsimp only at hk
      rcases (show k = 0 ∨ k = 1 ∨ k = 2 ∨ k = 3 by omega) with rfl | rfl | rfl | rfl
      ·exact e
      ·exact getD_ne h4
      ·exact getD_ne h5
      ·exact getD_ne h6
     ·exact ⟨by dsimp only; omega, Nat.le_refl _, by dsimp only; omega, one e⟩
    ·exact ⟨by dsimp only; omega, Nat.le_refl _, by dsimp only; omega, one e⟩
def pce (l : List UInt8) (x : Nat × Nat) : List UInt8 := (l.drop x.1).take (x.2 - x.1)
def rst (l : List UInt8) (pos : Nat) : Option Nat → List (List UInt8)
 | none => (Wo.splC 32 (l.drop pos)).filter ne0
 | some a => match Wo.splC 32 (l.drop pos) with
  | h :: t => (pce l (a, pos) ++ h) :: t.filter ne0
  | [] => []
theorem drop_one {l : List UInt8} {pos : Nat} (h : pos < l.length) : l.drop pos = l.getD pos 0 :: l.drop (pos + 1) := by
 rw [List.drop_eq_getElem_cons h, List.getD_eq_getElem?_getD, List.getElem?_eq_getElem h]; rfl
theorem take_no {l : List UInt8} {pos n : Nat} (h : ∀ k, k < n → l.getD (pos + k) 0 ≠ 32) (hn : pos + n ≤ l.length) : (32 : UInt8) ∉ (l.drop pos).take n := fun hm => by
 obtain ⟨k, hk, e⟩ := List.getElem_of_mem hm
 rw [List.length_take, List.length_drop] at hk
 refine h k (by omega) ?_
 rw [List.getD_eq_getElem?_getD, List.getElem?_eq_getElem (by omega)]
 rw [List.getElem_take, List.getElem_drop] at e
 exact e
theorem spans_fin (s : ByteArray) (f pos : Nat) (st : Option Nat) (acc : List (Nat × Nat)) (hn : ¬ pos < s.data.toList.length) (hp : pos ≤ s.data.toList.length) :
  (Lib.closeSpans s (Lib.spansFromP (fun r => decide (r = 32)) s f pos st acc)).map (pce s.data.toList) = acc.map (pce s.data.toList) ++ rst s.data.toList pos st := by
 have hsz : s.size = s.data.toList.length := by rw [Array.length_toList]; rfl
 rw [Lib.spansFromP_end _ _ _ _ _ _ (by rw [hsz]; exact hn)]
 have ep : pos = s.data.toList.length := by omega
 have ed : s.data.toList.drop pos = [] := List.drop_of_length_le (by omega)
 cases st with
 | none => simp [Lib.closeSpans, rst, ed, Wo.splC, ne0]
 | some a => simp only [Lib.closeSpans, rst, ed, Wo.splC, List.map_append, List.map_cons, List.map_nil, List.filter_nil, List.append_nil, hsz, ← ep]
theorem spans_eq (s : ByteArray) (f pos : Nat) (st : Option Nat) (acc : List (Nat × Nat)) (hf : s.data.toList.length ≤ pos + f) (hp : pos ≤ s.data.toList.length) (hst : ∀ a, st = some a → a < pos) :
  (Lib.closeSpans s (Lib.spansFromP (fun r => decide (r = 32)) s f pos st acc)).map (pce s.data.toList) = acc.map (pce s.data.toList) ++ rst s.data.toList pos st := by
 have hsz : s.size = s.data.toList.length := by rw [Array.length_toList]; rfl
 induction f generalizing pos st acc with
 | zero => exact spans_fin s 0 pos st acc (by omega) hp
 | succ f ih =>
  by_cases hlt : pos < s.data.toList.length
  ·have hlt' : pos < s.size := by rw [hsz]; exact hlt
   unfold Lib.spansFromP
   rw [if_pos hlt']
   rcases dec_cases s pos hlt with ⟨h1, h2⟩ | ⟨h1, h2, h3, h4⟩
   ·rw [h2]
    have e1 : s.data.toList.drop pos = 32 :: s.data.toList.drop (pos + 1) := by rw [drop_one hlt, h1]
    have e2 : Wo.splC 32 (s.data.toList.drop pos) = [] :: Wo.splC 32 (s.data.toList.drop (pos + 1)) := by rw [e1, Wo.splC, if_pos rfl]
    simp only [decide_true, if_true]
    cases st with
    | none =>
     dsimp only
     rw [ih (pos + 1) none acc (by omega) (by omega) (fun a h => by cases h)]
     simp only [rst, e2]
     rfl
    | some a =>
     dsimp only
     rw [ih (pos + 1) none (acc ++ [(a, pos)]) (by omega) (by omega) (fun a h => by cases h)]
     simp only [rst, e2, List.map_append, List.map_cons, List.map_nil, List.append_assoc, List.append_nil, List.cons_append, List.nil_append]
   ·generalize hD : Utf8.decode s pos = D at h1 h2 h3 h4
    obtain ⟨r, n⟩ := D
    dsimp only at h1 h2 h3 h4
    have ed : decide (r = 32) = false := decide_eq_false h1
    have e1 : s.data.toList.drop pos = (s.data.toList.drop pos).take n ++ s.data.toList.drop (pos + n) := by
     rw [← List.drop_drop, List.take_append_drop]
    obtain ⟨a0, t0, e2⟩ := splC_cons 32 (s.data.toList.drop (pos + n))
    have e3 : Wo.splC 32 (s.data.toList.drop pos) = ((s.data.toList.drop pos).take n ++ a0) :: t0 := by
     rw [e1]
     have := splC_pre (take_no h4 h3) e2
     rw [← e1]
     rw [← e1] at this
     exact this
    have hne : ne0 ((s.data.toList.drop pos).take n ++ a0) = true := by
     have : ((s.data.toList.drop pos).take n).length = n := by rw [List.length_take, List.length_drop]; omega
     unfold ne0
     cases e : (s.data.toList.drop pos).take n with
     | nil => rw [e] at this; simp at this; omega
     | cons b u => rfl
    simp only [ed, Bool.false_eq_true, if_false]
    cases st with
    | none =>
     dsimp only
     rw [ih (pos + n) (some pos) acc (by omega) (by omega) (fun a h => by cases h; omega)]
     simp only [rst, e2, e3, pce, Nat.add_sub_cancel_left, List.filter_cons, hne, if_true]
    | some a =>
     have ha := hst a rfl
     dsimp only
     rw [ih (pos + n) (some a) acc (by omega) (by omega) (fun b h => by cases h; omega)]
     have e4 : (s.data.toList.drop a).take (pos + n - a) = (s.data.toList.drop a).take (pos - a) ++ (s.data.toList.drop pos).take n := by
      rw [show pos + n - a = (pos - a) + n by omega, List.take_add, List.drop_drop, show a + (pos - a) = pos by omega]
     simp only [rst, e2, e3, pce, e4, List.append_assoc]
  ·exact spans_fin s _ pos st acc hlt hp
theorem flds_eq (s : List UInt8) : (Lib.goFieldsP (fun r => decide (r = 32)) ⟨s.toArray⟩).map (fun x => x.data.toList) = fldB s := by
 have h := spans_eq ⟨s.toArray⟩ s.length 0 none [] (by simp) (Nat.zero_le _) (fun a h => by cases h)
 have hsz : (⟨s.toArray⟩ : ByteArray).size = s.length := by show s.toArray.size = _; simp
 unfold Lib.goFieldsP Lib.spansOfP
 rw [hsz, List.map_map]
 have h2 : (fun x : ByteArray => x.data.toList) ∘ (fun x : Nat × Nat => (⟨s.toArray⟩ : ByteArray).extract x.1 x.2) = pce s := by
  funext x
  simp [pce, ByteArray.data_extract]
 rw [h2]
 have h3 : (⟨s.toArray⟩ : ByteArray).data.toList = s := rfl
 rw [h3] at h
 rw [h]
 simp [rst, fldB]
end Go.Fm
namespace Go.Fm
open Go
def gI (s : List UInt8) : Int × Int := Wo.intS s (-9223372036854775808) 9223372036854775807
theorem gI_e (s : List UInt8) : (gI s).2 = 0 ∨ (gI s).2 = 6 ∨ (gI s).2 = 7 := by
 unfold gI Wo.intS
 split
 ·exact .inr (.inl rfl)
 ·split
  ·exact .inr (.inr rfl)
  ·exact .inl rfl
def gE (fs : List (List UInt8)) : Int := if fs.any (fun f => decide ((gI f).2 = 7)) then 7 else 0
def gN (fs : List (List UInt8)) : List Int := fs.map fun f => (gI f).1
def rowL (fs : List (List UInt8)) : List Int × Int := if fs.any (fun f => decide ((gI f).2 = 6)) then ([], 6) else if fs = [] then ([], 6) else (gN fs, gE fs)
def rowR (s : List UInt8) : List Int × Int := rowL (fldB s)
theorem gE_take {fs : List (List UInt8)} {i : Nat} (h : i < fs.length) : gE (fs.take (i + 1)) = if (gI (fs.getD i [])).2 = 7 then 7 else gE (fs.take i) := by
 unfold gE
 rw [List.take_succ_eq_append_getElem h, List.any_append, List.getD_eq_getElem?_getD, List.getElem?_eq_getElem h]
 simp only [List.any_cons, List.any_nil, Bool.or_false, Option.getD_some]
 by_cases h7 : (gI fs[i]).2 = 7
 ·simp [h7]
 ·simp [h7]
theorem gN_take {fs : List (List UInt8)} {i : Nat} (h : i < fs.length) : gN (fs.take (i + 1)) = gN (fs.take i) ++ [(gI (fs.getD i [])).1] := by
 unfold gN
 rw [List.take_succ_eq_append_getElem h, List.map_append, List.getD_eq_getElem?_getD, List.getElem?_eq_getElem h]
 rfl
theorem any_take {fs : List (List UInt8)} {p : List UInt8 → Bool} {i : Nat} (h : i < fs.length) : (fs.take (i + 1)).any p = ((fs.take i).any p || p (fs.getD i [])) := by
 rw [List.take_succ_eq_append_getElem h, List.any_append, List.getD_eq_getElem?_getD, List.getElem?_eq_getElem h]
 simp
theorem fldB_len (s : List UInt8) : (fldB s).length ≤ s.length + 1 := by
 unfold fldB
 have h1 := List.length_filter_le ne0 (Wo.splC 32 s)
 have h2 := Wo.splC_count 32 s
 have h3 := List.count_le_length (a := (32 : UInt8)) (l := s)
 omega
theorem fldB_mlen {s p : List UInt8} (h : p ∈ fldB s) : p.length ≤ s.length := Wo.splC_mlen (List.mem_filter.1 h).1
theorem rowR_len (s : List UInt8) : (rowR s).1.length ≤ s.length + 1 := by
 unfold rowR rowL
 split
 ·simp
 ·split
  ·simp
  ·have := fldB_len s
   simpa [gN] using this
def zA : Lat.Arr := ⟨0, 0, 0, 0, []⟩
def rowAt (ls : List (List UInt8)) (i : Nat) : List Int × Int := rowR (ls.getD i [])
def rowBad (ls : List (List UInt8)) (i : Nat) : Int := if (rowAt ls i).2 ≠ 0 then (rowAt ls i).2 else if 0 < i ∧ (rowAt ls i).1.length ≠ (rowAt ls 0).1.length then 11 else 0
def cellsG (ls : List (List UInt8)) (i : Nat) : List Int := (List.range i).flatMap fun j => (rowAt ls j).1
def gridL (ls : List (List UInt8)) : Lat.Arr × Int × Int := match Lat.ff ls.length (fun i => decide (rowBad ls i ≠ 0)) with
 | some i => (zA, i + 1, rowBad ls i)
 | none => if 400 < (cellsG ls ls.length).length then (zA, 0, 15) else (⟨1, 2, ls.length, (rowAt ls 0).1.length, cellsG ls ls.length⟩, 0, 0)
def gridR (s : List UInt8) : Lat.Arr × Int × Int := if (Wo.linesS s).2 ≠ 0 then (zA, 0, (Wo.linesS s).2) else if (Wo.linesS s).1 = [] then (zA, 0, 6) else gridL (Wo.linesS s).1
theorem cellsG_succ (ls : List (List UInt8)) (i : Nat) : cellsG ls (i + 1) = cellsG ls i ++ (rowAt ls i).1 := by
 simp [cellsG, List.range_succ]
theorem cellsG_len {ls : List (List UInt8)} {m : Nat} (h : ∀ p ∈ ls, p.length ≤ m) (i : Nat) : (cellsG ls i).length ≤ i * (m + 1) := by
 induction i with
 | zero => simp [cellsG]
 | succ i ih =>
  have h1 := rowR_len (ls.getD i [])
  have h2 : (ls.getD i []).length ≤ m := by
   rw [List.getD_eq_getElem?_getD]
   cases e : ls[i]? with
   | none => simp
   | some s => exact h s (List.mem_of_getElem? e)
  have h3 : (rowAt ls i).1.length ≤ m + 1 := by unfold rowAt; omega
  rw [cellsG_succ, List.length_append, Nat.succ_mul]
  omega
theorem lines_len (s : List UInt8) : (Wo.linesS s).1.length ≤ 5000 := by
 unfold Wo.linesS
 split
 ·simp
 ·split
  ·simp
  ·split
   ·simp
   ·split
    ·simp
    ·dsimp only; omega
theorem lines_mlen {s p : List UInt8} (h : p ∈ (Wo.linesS s).1) : p.length ≤ s.length := by
 unfold Wo.linesS at h
 split at h
 ·simp at h
 ·split at h
  ·simp at h
  ·split at h
   ·simp at h
   ·split at h
    ·simp at h
    ·have := Wo.splC_mlen h
     rw [List.length_take] at this
     omega
theorem rowAt_ok {ls : List (List UInt8)} {i : Nat} (h : rowBad ls i = 0) : (rowAt ls i).2 = 0 ∧ (0 < i → (rowAt ls i).1.length = (rowAt ls 0).1.length) := by
 unfold rowBad at h
 split at h
 ·exact absurd h (by assumption)
 ·split at h
  ·omega
  ·rename_i h1 h2
   exact ⟨Classical.not_not.1 h1, fun h0 => Classical.byContradiction fun hc => h2 ⟨h0, hc⟩⟩
end Go.Fm
namespace Go.Fm
open Go
def headA (a : Lat.Arr) : List UInt8 := (if a.k = 2 then [99, 104, 97, 114, 32] else [105, 110, 116, 32]) ++ (nums ([a.r, a.l0, a.l1].take (a.r.toNat + 1)) ++ [10])
def pcsA (pc : List Int → List UInt8) (c : List Int) (i : Nat) : List UInt8 := (List.range i).flatMap fun j => pc ((c.drop (j * 20)).take 20) ++ [10]
def nch (n : Nat) : Nat := (n + 19) / 20
def arrT (pc : List Int → List UInt8) (a : Lat.Arr) : List UInt8 := headA a ++ pcsA pc a.c (nch a.c.length)
def arrayR (pc : List Int → List UInt8) (a : Lat.Arr) : List UInt8 × Int := if Lat.arrE a ≠ 0 then ([], Lat.arrE a) else (arrT pc a, 0)
theorem pcsA_succ (pc : List Int → List UInt8) (c : List Int) (i : Nat) : pcsA pc c (i + 1) = pcsA pc c i ++ (pc ((c.drop (i * 20)).take 20) ++ [10]) := by
 simp [pcsA, List.range_succ]
theorem pcsA_len {pc : List Int → List UInt8} {c : List Int} (h : ∀ j, (pc ((c.drop (j * 20)).take 20)).length ≤ 2000) (i : Nat) : (pcsA pc c i).length ≤ i * 2001 := by
 induction i with
 | zero => simp [pcsA]
 | succ i ih =>
  have := h i
  rw [pcsA_succ, List.length_append, List.length_append, List.length_singleton]
  omega
theorem nch_lt {j n : Nat} : j < nch n ↔ j * 20 < n := by unfold nch; omega
theorem nums_len {l : List Int} (h : ∀ v ∈ l, -9223372036854775808 ≤ v ∧ v ≤ 9223372036854775807) : (nums l).length ≤ l.length * 22 := by
 have := join_len [32] 21 (l.map Lib.itoa) fun x hx => by
  obtain ⟨v, h1, rfl⟩ := List.mem_map.1 hx
  exact Lib.itoa_length_le v (h v h1).1 (h v h1).2
 rw [List.length_map] at this
 simpa [nums] using this
theorem arrG {a : Lat.Arr} (h : Lat.arrE a = 0) : (a.r = 0 ∨ a.r = 1 ∨ a.r = 2) ∧ (0 ≤ a.l0 ∧ a.l0 ≤ 400) ∧ (0 ≤ a.l1 ∧ a.l1 ≤ 400) ∧ a.c.length ≤ 400 ∧ (a.k = 1 ∨ a.k = 2) := by
 obtain ⟨h1, h2, h3⟩ := Lat.arrE_0 h
 unfold Lat.shapeE at h2
 split at h2
 ·omega
 ·split at h2
  ·omega
  ·split at h2
   ·omega
   ·split at h2
    ·omega
    ·exact ⟨by omega, by omega, by omega, by omega, h1⟩
end Go.Fm
namespace Go.Fm
open Go
def wI (high : Int) (f : List UInt8) : Int × Int := Wo.intS f (-1 - high) high
def wOk (high : Int) (f : List UInt8) : Bool := decide ((wI high f).2 = 0) && !(decide (high < 9223372036854775807) && decide ((wI high f).1 < 0))
def wN (high : Int) (fs : List (List UInt8)) : List Int := fs.map fun f => (wI high f).1
def wholeR (high : Int) (fs : List (List UInt8)) : List Int × Bool := if fs.all (wOk high) then (wN high fs, true) else ([], false)
theorem wN_take {high : Int} {fs : List (List UInt8)} {i : Nat} (h : i < fs.length) : wN high (fs.take (i + 1)) = wN high (fs.take i) ++ [(wI high (fs.getD i [])).1] := by
 unfold wN
 rw [List.take_succ_eq_append_getElem h, List.map_append, List.getD_eq_getElem?_getD, List.getElem?_eq_getElem h]
 rfl
theorem all_take {fs : List (List UInt8)} {p : List UInt8 → Bool} {i : Nat} (h : i < fs.length) : (fs.take (i + 1)).all p = ((fs.take i).all p && p (fs.getD i [])) := by
 rw [List.take_succ_eq_append_getElem h, List.all_append, List.getD_eq_getElem?_getD, List.getElem?_eq_getElem h]
 simp
def kindW (w : List UInt8) : Int := if w = [105, 110, 116] then 1 else if w = [99, 104, 97, 114] then 2 else 0
def headL (k : Int) (l : List Int) : Lat.Arr × Int × Bool := match l with
 | [r] => if r = 0 then (⟨k, 0, 0, 0, []⟩, 1, true) else (zA, 0, false)
 | [r, a] => if r = 1 then (⟨k, 1, a, 0, []⟩, a, true) else (zA, 0, false)
 | [r, a, b] => if r = 2 then (⟨k, 2, a, b, []⟩, a * b, true) else (zA, 0, false)
 | _ => (zA, 0, false)
def begunF (fs : List (List UInt8)) : Lat.Arr × Int × Bool := match fs with
 | [] => (zA, 0, false)
 | w :: fs => if kindW w = 0 then (zA, 0, false) else if (wholeR 1000000000 fs).2 then headL (kindW w) (wholeR 1000000000 fs).1 else (zA, 0, false)
def begunR (s : List UInt8) : Lat.Arr × Int × Bool := begunF (Wo.splC 32 s)
theorem headL_bad {k r : Int} {t : List Int} (h : ¬ (r = t.length ∧ t.length ≤ 2)) : headL k (r :: t) = (zA, 0, false) := by
 match t, h with
 | [], h => exact if_neg fun e => h ⟨by simpa using e, by simp⟩
 | [a], h => exact if_neg fun e => h ⟨by simpa using e, by simp⟩
 | [a, b], h => exact if_neg fun e => h ⟨by simpa using e, by simp⟩
 | _ :: _ :: _ :: _, h => rfl
theorem headL_ok {k : Int} {t : List Int} (h : t.length ≤ 2) : headL k ((t.length : Int) :: t) = (⟨k, t.length, t.getD 0 0, t.getD 1 0, []⟩, t.foldl (· * ·) 1, true) := by
 match t, h with
 | [], _ => rfl
 | [a], _ => simp [headL]
 | [a, b], _ => simp [headL]
theorem whole_in {fs : List (List UInt8)} (h : (wholeR 1000000000 fs).2 = true) : ∀ v ∈ (wholeR 1000000000 fs).1, 0 ≤ v ∧ v ≤ 1000000000 := by
 unfold wholeR at h ⊢
 split at h
 ·rename_i ha
  rw [if_pos ha]
  intro v hv
  obtain ⟨f, hf, rfl⟩ := List.mem_map.1 hv
  have h1 := List.all_eq_true.1 ha f hf
  unfold wOk at h1
  simp only [Bool.and_eq_true, decide_eq_true_eq, Bool.not_eq_true', Bool.and_eq_false_iff, decide_eq_false_iff_not] at h1
  have h2 : (wI 1000000000 f).1 ≤ 1000000000 := by
   unfold wI Wo.intS
   split
   ·simp
   ·split
    ·simp
    ·dsimp only; omega
  omega
 ·cases h
end Go.Fm
namespace Go.Fm
open Go
abbrev CF := Int → List UInt8 → Nat → List Int × Bool
def lineN (many j : Nat) : Nat := min (many - 20 * j) 20
def pcl (cf : CF) (k : Int) (ls : List (List UInt8)) (many j : Nat) : List Int × Bool := cf k (ls.getD (j + 1) []) (lineN many j)
def pBad (cf : CF) (k : Int) (ls : List (List UInt8)) (many j : Nat) : Bool := decide (ls.length ≤ j + 1) || !(pcl cf k ls many j).2
def accP (cf : CF) (k : Int) (ls : List (List UInt8)) (many i : Nat) : List Int := (List.range i).flatMap fun j => (pcl cf k ls many j).1
def parseE (a : Lat.Arr) : Lat.Arr × Int × Int := if Lat.arrE a ≠ 0 then (zA, 0, Lat.arrE a) else (a, 0, 0)
def parseB (cf : CF) (ls : List (List UInt8)) (a : Lat.Arr) (many : Nat) : Lat.Arr × Int × Int := match Lat.ff (nch many) (pBad cf a.k ls many) with
 | some j => (zA, (j : Int) + 2, 6)
 | none => if nch many + 1 < ls.length then (zA, (nch many : Int) + 2, 6) else parseE ⟨a.k, a.r, a.l0, a.l1, accP cf a.k ls many (nch many)⟩
def parseL (cf : CF) (ls : List (List UInt8)) : Lat.Arr × Int × Int := if (begunR (ls.getD 0 [])).2.2 = false then (zA, 1, 6) else if 400 < (begunR (ls.getD 0 [])).2.1 then (zA, 1, 15) else parseB cf ls (begunR (ls.getD 0 [])).1 (begunR (ls.getD 0 [])).2.1.toNat
def parseR (cf : CF) (s : List UInt8) : Lat.Arr × Int × Int := if (Wo.linesS s).2 ≠ 0 then (zA, 0, (Wo.linesS s).2) else if (Wo.linesS s).1 = [] then (zA, 1, 6) else parseL cf (Wo.linesS s).1
def cellI (s : List UInt8) (m : Nat) : List Int × Bool := ((wholeR 9223372036854775807 (Wo.splC 32 s)).1, decide ((wholeR 9223372036854775807 (Wo.splC 32 s)).1.length = m) && decide (nums (wholeR 9223372036854775807 (Wo.splC 32 s)).1 = s))
theorem accP_succ (cf : CF) (k : Int) (ls : List (List UInt8)) (many i : Nat) : accP cf k ls many (i + 1) = accP cf k ls many i ++ (pcl cf k ls many i).1 := by
 simp [accP, List.range_succ]
theorem headL_many {k : Int} {l : List Int} (h : ∀ v ∈ l, 0 ≤ v) : 0 ≤ (headL k l).2.1 := by
 match l, h with
 | [], _ => exact Int.le_refl _
 | [r], _ => by_cases h1 : r = 0 <;> simp [headL, h1]
 | [r, a], h => by_cases h1 : r = 1 <;> simp [headL, h1, h a (by simp)]
 | [r, a, b], h => by_cases h1 : r = 2 <;> simp [headL, h1, Int.mul_nonneg (h a (by simp)) (h b (by simp))]
 | _ :: _ :: _ :: _ :: _, _ => exact Int.le_refl _
theorem begunR_many (s : List UInt8) : 0 ≤ (begunR s).2.1 := by
 unfold begunR begunF
 split
 ·decide
 ·split
  ·decide
  ·split
   ·rename_i h
    exact headL_many fun v hv => (whole_in h v hv).1
   ·decide
theorem headL_k {k : Int} {l : List Int} (h : (headL k l).2.2 = true) : (headL k l).1.k = k := by
 match l, h with
 | [], h => cases h
 | [r], h => by_cases h1 : r = 0 <;> simp [headL, h1] at h ⊢
 | [r, a], h => by_cases h1 : r = 1 <;> simp [headL, h1] at h ⊢
 | [r, a, b], h => by_cases h1 : r = 2 <;> simp [headL, h1] at h ⊢
 | _ :: _ :: _ :: _ :: _, h => cases h
theorem begunR_k {s : List UInt8} (h : (begunR s).2.2 = true) : (begunR s).1.k = 1 ∨ (begunR s).1.k = 2 := by
 unfold begunR begunF at h ⊢
 split at h
 ·cases h
 ·split at h
  ·cases h
  ·split at h
   ·rename_i w fs _ h1 h2
    rw [if_neg h1, if_pos h2, headL_k h]
    unfold kindW at h1 ⊢
    split at h1
    ·rename_i hw; rw [if_pos hw]; exact .inl rfl
    ·rename_i hw
     rw [if_neg hw]
     split at h1
     ·rename_i hw2; rw [if_pos hw2]; exact .inr rfl
     ·exact absurd rfl h1
   ·cases h
theorem accP_len {cf : CF} {k : Int} {ls : List (List UInt8)} {many : Nat} (hc : ∀ p m, (cf k p m).2 = true → (cf k p m).1.length = m) (i : Nat) (h : ∀ j, j < i → pBad cf k ls many j = false) : (accP cf k ls many i).length = min many (20 * i) := by
 induction i with
 | zero => simp [accP]
 | succ i ih =>
  have h1 := ih fun j hj => h j (by omega)
  have h2 := h i (by omega)
  unfold pBad at h2
  simp only [Bool.or_eq_false_iff, Bool.not_eq_false'] at h2
  have h3 := hc _ _ h2.2
  have h4 : (pcl cf k ls many i).1.length = lineN many i := h3
  rw [accP_succ, List.length_append, h1, h4]
  unfold lineN
  omega
theorem whole_I (fs : List (List UInt8)) : ∀ v ∈ (wholeR 9223372036854775807 fs).1, -9223372036854775808 ≤ v ∧ v ≤ 9223372036854775807 := fun v hv => by
 unfold wholeR at hv
 split at hv
 ·obtain ⟨f, _, rfl⟩ := List.mem_map.1 hv
  unfold wI Wo.intS
  split
  ·simp
  ·split
   ·simp
   ·dsimp only; omega
 ·simp at hv
theorem whole_len (high : Int) (fs : List (List UInt8)) : (wholeR high fs).1.length ≤ fs.length := by
 unfold wholeR
 split
 ·simp [wN]
 ·simp
end Go.Fm
namespace Go.Fm
open Go
theorem splC_hd {c : UInt8} {u v : List UInt8} (h : c ∉ u) : Wo.splC c (u ++ c :: v) = u :: Wo.splC c v := by
 have := splC_pre (v := c :: v) (a := []) (t := Wo.splC c v) h (by rw [Wo.splC, if_pos rfl])
 rwa [List.append_nil] at this
theorem splC_all {c : UInt8} {u : List UInt8} (h : c ∉ u) : Wo.splC c u = [u] := by
 have := splC_pre (v := []) (a := []) (t := []) h rfl
 simpa using this
theorem lin_ok {u : List UInt8} (hl : u.length ≤ 100000) : Wo.linesS (u ++ [10]) = if 5000 < (Wo.splC 10 u).length then ([], 3) else (Wo.splC 10 u, 0) := by
 have h1 : (u ++ [(10 : UInt8)]).length = u.length + 1 := by simp
 have hg : (u ++ [(10 : UInt8)]).getD ((u ++ [(10 : UInt8)]).length - 1) 0 = 10 := by simp [List.getD_eq_getElem?_getD]
 have e3 : (u ++ [(10 : UInt8)]).take ((u ++ [(10 : UInt8)]).length - 1) = u := by simp
 unfold Wo.linesS
 rw [if_neg (by omega), if_neg (by simp), if_neg (by rw [hg]; simp), e3]
end Go.Fm
namespace Go.Fm
open Go
end Go.Fm
namespace Go.Fm
open Go
end Go.Fm
namespace Go.Fm
open Go
def txt (ls : List (List UInt8)) : List UInt8 := ls.flatMap fun l => l ++ [10]
theorem txt_cons (l : List UInt8) (r : List (List UInt8)) : txt (l :: r) = l ++ 10 :: txt r := by simp [txt]
theorem txt_app (a b : List (List UInt8)) : txt (a ++ b) = txt a ++ txt b := List.flatMap_append
theorem splC_txt {ls : List (List UInt8)} (h : ∀ l ∈ ls, (10 : UInt8) ∉ l) {u : List UInt8} (hu : (10 : UInt8) ∉ u) : Wo.splC 10 (txt ls ++ u) = ls ++ [u] := by
 induction ls with
 | nil => exact splC_all hu
 | cons l r ih => rw [txt_cons, List.append_assoc, List.cons_append, splC_hd (h l List.mem_cons_self), ih fun x hx => h x (List.mem_cons_of_mem _ hx)]; rfl
theorem lines_txt {ls : List (List UInt8)} (h : ∀ l ∈ ls, (10 : UInt8) ∉ l) (h0 : ls ≠ []) (hl : (txt ls).length ≤ 100000) (h5 : ls.length ≤ 5000) : Wo.linesS (txt ls) = (ls, 0) := by
 obtain ⟨a, l, rfl⟩ : ∃ a l, ls = a ++ [l] := ⟨ls.dropLast, ls.getLast h0, (List.dropLast_concat_getLast h0).symm⟩
 have e : txt (a ++ [l]) = (txt a ++ l) ++ [10] := by rw [txt_app]; simp [txt]
 have e2 := splC_txt (ls := a) (u := l) (fun x hx => h x (List.mem_append_left _ hx)) (h l (by simp))
 rw [e] at hl ⊢
 rw [List.length_append, List.length_singleton] at hl
 rw [lin_ok (by omega), e2, if_neg (by omega)]
theorem itoa_ch {n : Int} {c : UInt8} (h : c ∈ Lib.itoa n) : c = 45 ∨ (48 ≤ c.toNat ∧ c.toNat ≤ 57) := by
 rcases Int.lt_or_le n 0 with h0 | h0
 ·rw [Wo.itoa_neg h0] at h
  rcases List.mem_cons.1 h with h1 | h1
  ·exact .inl h1
  ·have a := Wo.natS_itoa (n := -n) (by omega)
   exact .inr (Wo.dg_rng ((Wo.natS_dg a.1).2 c h1))
 ·have a := Wo.natS_itoa h0
  exact .inr (Wo.dg_rng ((Wo.natS_dg a.1).2 c h))
theorem itoa_no {n : Int} {b : UInt8} (h1 : b ≠ 45) (h2 : b.toNat < 48 ∨ 57 < b.toNat) : b ∉ Lib.itoa n := fun h => by
 rcases itoa_ch h with h3 | h3
 ·exact h1 h3
 ·omega
theorem join_mem {b : UInt8} {l : List (List UInt8)} {sep : List UInt8} (h : b ∈ Lib.join l sep) : (∃ x ∈ l, b ∈ x) ∨ b ∈ sep := by
 cases l with
 | nil => rw [Lib.join_nil] at h; cases h
 | cons a r =>
  rw [Lib.join_cons, List.mem_append] at h
  rcases h with h | h
  ·exact .inl ⟨a, List.mem_cons_self, h⟩
  ·unfold Lib.joinTail at h
   obtain ⟨y, hy, hb⟩ := List.mem_flatten.1 h
   obtain ⟨x, hx, rfl⟩ := List.mem_map.1 hy
   rcases List.mem_append.1 hb with hb | hb
   ·exact .inr hb
   ·exact .inl ⟨x, List.mem_cons_of_mem _ hx, hb⟩
end Go.Fm
