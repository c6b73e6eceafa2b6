/- Bytes as masks. -/
import Derived.Test.YtcldomkahgaplaaGreatDoorA8
import Derived.Test.YtcldomkahgaplaaGreatDoorM1
import Derived.SliceStrings
import Derived.Lib.SmallJoins
import Derived.ChangeMaps5
import Derived.OpenShut
import Derived.SizedLaws
import Derived.Handed
set_option linter.all false
namespace Go.Avm
open Go
theorem nxt1 {n i : Nat} {P : Nat → Prop} (hi : i < n) (h : ∀ j, j < i → P j) (hp : P i) (hn : n < 9223372036854775807) :
  ∃ j, n - j < n - i ∧ (j ≤ n ∧ ∀ k, k < j → P k) ∧ AV.int .i64 (IntKind.i64.wrap ((i : Int) + 1)) = AV.int .i64 (j : Int) :=
 ⟨i + 1, by omega, ⟨by omega, fun k hk => by
  by_cases e : k = i
  ·rw [e]; exact hp
  ·exact h k (by omega)⟩, by rw [wi64 (by omega)]; rfl⟩
theorem no_lt0 {P : Nat → Prop} (j : Nat) (h : j < 0) : P j := absurd h (Nat.not_lt_zero j)
def tb (n : Nat) (f : Nat → AV) : List AV := (List.range n).map f
theorem tb_len (n : Nat) (f : Nat → AV) : (tb n f).length = n := by simp [tb]
theorem tb_get? {n i : Nat} (f : Nat → AV) (h : i < n) : (tb n f)[i]? = some (f i) := by simp [tb, List.getElem?_range h]
theorem tb_getD {n i : Nat} (f : Nat → AV) (d : AV) (h : i < n) : (tb n f).getD i d = f i := by
 rw [List.getD_eq_getElem?_getD, tb_get? f h]; rfl
theorem tb_congr {n : Nat} {f f' : Nat → AV} (h : ∀ i, i < n → f i = f' i) : tb n f = tb n f' :=
 List.map_congr_left fun i hi => h i (List.mem_range.1 hi)
theorem tb_set {n i : Nat} (f : Nat → AV) (v : AV) : (tb n f).set i v = tb n (fun j => if j = i then v else f j) := by
 apply List.ext_getElem?
 intro k
 rw [List.getElem?_set]
 by_cases hk : k < n
 ·rw [tb_get? _ hk, tb_len]
  by_cases hki : i = k
  ·subst hki; simp [hk, tb_get? _ hk]
  ·rw [if_neg hki, tb_get? _ hk, if_neg (fun e => hki e.symm)]
 ·have h1 : (tb n f)[k]? = none := by rw [List.getElem?_eq_none]; rw [tb_len]; omega
  have h2 : (tb n (fun j => if j = i then v else f j))[k]? = none := by rw [List.getElem?_eq_none]; rw [tb_len]; omega
  rw [h1, h2, tb_len]
  split <;> simp; omega
theorem tb_rep (n : Nat) (v : AV) : List.replicate n v = tb n (fun _ => v) := by
 apply List.ext_getElem
 ·simp [tb]
 ·intro i h1 h2; simp [tb]
theorem rc_1 (n : Nat) (v : AV) : repCells n [v] = tb n (fun _ => v) := tb_rep n v
abbrev n8 (m : Nat) : AV := .int .u8 (m : Int)
theorem ix_rsl (sz id0 off m cp s : Nat) (k : IntKind) (n : Int) : idxX sz (.rsl id0 off m cp s) (.int k n) = some (decide (0 ≤ n) && decide (n < m) && decide (s = sz), .ptr id0 (off + n.toNat * sz), none) := id rfl
theorem tb_all (n : Nat) (k : IntKind) (g : Nat → Int) : (tb n fun c => .int k (g c)).all scalarB = true := by simp [tb, scalarB]
theorem tb_fin (H : Heap) (m n : Nat) (k : IntKind) (g : Nat → Int) : (tb n fun c => .int k (g c)).map (fin H m) = tb n fun c => .int k (g c) := by
 simp only [tb, List.map_map]
 refine List.map_congr_left fun c _ => ?_
 simp only [Function.comp, fi_i]
theorem tb_take (n : Nat) (f : Nat → AV) : (tb n f).take n = tb n f := by
 rw [List.take_of_length_le (by rw [tb_len]; exact Nat.le_refl _)]
theorem tb_allb (n : Nat) (g : Nat → Bool) : (tb n fun c => .bool (g c)).all scalarB = true := by simp [tb, scalarB]
theorem tb_finb (H : Heap) (m n : Nat) (g : Nat → Bool) : (tb n fun c => .bool (g c)).map (fin H m) = tb n fun c => .bool (g c) := by
 simp only [tb, List.map_map]
 refine List.map_congr_left fun c _ => ?_
 simp only [Function.comp, fi_b]
theorem dryL_map : ∀ l : List AV, dryL l = l.map dry
 | [] => rfl
 | x :: l => by simp only [dryL, List.map_cons, dryL_map l]
theorem tb_dryb (n : Nat) (g : Nat → Bool) : dryL (tb n fun c => .bool (g c)) = tb n fun c => .bool (g c) := by
 rw [dryL_map]
 simp only [tb, List.map_map]
 exact List.map_congr_left fun c _ => rfl
theorem tb_dry (n : Nat) (k : IntKind) (g : Nat → Int) : dryL (tb n fun c => .int k (g c)) = tb n fun c => .int k (g c) := by
 rw [dryL_map]
 simp only [tb, List.map_map]
 exact List.map_congr_left fun c _ => rfl
theorem setCells_full : ∀ (vs cs : List AV) (pre : List AV), cs.length = vs.length → setCells (pre ++ cs) pre.length vs = pre ++ vs
 | [], cs, pre, h => by
  have : cs = [] := List.length_eq_zero_iff.1 h
  subst this; rfl
 | v :: vs, [], pre, h => by simp at h
 | v :: vs, c :: cs, pre, h => by
  simp only [setCells, List.set_append_right _ _ (Nat.le_refl _), Nat.sub_self, List.set_cons_zero]
  have := setCells_full vs cs (pre ++ [v]) (by simpa using h)
  simpa using this
theorem sc_full (n : Nat) (f g : Nat → AV) : setCells (tb n f) 0 (tb n g) = tb n g := by
 have := setCells_full (tb n g) (tb n f) [] (by rw [tb_len, tb_len])
 simpa using this
theorem ld_tb {H : Heap} {n i : Nat} (f : Nat → AV) (h : i < n) : ldX H (.vp ((tb n f).drop i)) = some (true, f i, none) := by
 have h1 : i < (tb n f).length := by rw [tb_len]; exact h
 rw [List.drop_eq_getElem_cons h1]
 have h2 := tb_get? f h
 rw [List.getElem?_eq_getElem h1] at h2
 simp only [Option.some.injEq] at h2
 rw [h2]
 rfl
theorem sc_any {n : Nat} {cs : List AV} (f : Nat → AV) (h : cs.length = n) : setCells cs 0 (tb n f) = tb n f := by
 have := setCells_full (tb n f) cs [] (by rw [tb_len, h])
 simpa using this
attribute [go_sem] ix_rsl tb_allb sc_any tb_finb tb_dryb tb_dry sc_full tb_all tb_fin tb_take tb_len Nat.le_refl rc_1
end Go.Avm
namespace Go.Avm
open Go Go.ChangeShapes Go.WideShapes Go.ChangeAt Go.WideElems Go.RowKit Go.Lib Go.Joins Go.ChangeMaps Go.Deep
section
variable {H : Type} {enc : TypeId × Value → H} {P : Program} {W : World}
theorem relL_strs {g : Gh} {w : World} : ∀ ss : List ByteArray, RelL (ss.map fun s => AV.str s.data.toList) g w (ss.map Value.string)
 | [] => by simp [RelL]
 | z :: t => by
  simp only [List.map_cons, RelL]
  exact ⟨_, _, rfl, by simp only [Rel]; exact ⟨z, rfl, rfl⟩, relL_strs t⟩
end
end Go.Avm
namespace Go.Avm
open Go Go.ChangeShapes Go.WideShapes Go.ChangeAt Go.WideElems Go.RowKit Go.Lib Go.Joins Go.ChangeMaps Go.Deep
inductive Lf where
 | int (k : IntKind)
 | str
 | bool
 | sl (ag : Bool) (ks : List Lf)
mutual
def LfR : Lf → AV → Prop
 | .int k, v => ∃ z, v = .int k z ∧ (Lit.int k z).wf = true
 | .str, v => ∃ s : List UInt8, v = .str s ∧ s.length ≤ maxLen
 | .bool, v => ∃ b, v = .bool b
 | .sl ag ks, v => ∃ es : List AV, v = .sl .ro es ∧ es.length ≤ maxLen ∧ ∀ e ∈ es, ∃ avs, LfL ks avs ∧ ((ag = true ∧ e = .agg avs) ∨ (ag = false ∧ avs = [e]))
def LfL : List Lf → List AV → Prop
 | [], vs => vs = []
 | k :: ks, vs => ∃ v rest, vs = v :: rest ∧ LfR k v ∧ LfL ks rest
end
def isAgg (P : Program) (t : TypeId) : Bool := match P.underlying t with
 | some (.struct _) | some (.array _ _) => true
 | _ => false
def leavesF (P : Program) (r : TypeId → Option (List Lf)) : List (TypeId × Nat) → Nat → Option (List Lf)
 | [], _ => some []
 | (t, o) :: fs, off => match r t with
  | some ks => if o = off ∧ ks.length = P.cellsOf t then match leavesF P r fs (off + ks.length) with
    | some rest => some (ks ++ rest)
    | none => none
   else none
  | none => none
def leaves (P : Program) : Nat → TypeId → Option (List Lf)
 | 0, _ => none
 | n + 1, t => match P.underlying t with
  | some .bool => some [.bool]
  | some (.int k) => some [.int k]
  | some .string => some [.str]
  | some (.slice e) => match leaves P n e with
   | some ks => if ks.length = P.cellsOf e ∧ 0 < ks.length ∧ (isAgg P e || ks.length == 1) = true then some [.sl (isAgg P e) ks] else none
   | none => none
  | some (.struct fs) => match leavesF P (leaves P n) (fs.toList.map fun f => (f.type, f.offset)) 0 with
   | some ks => if ks.length = P.cellsOf t then some ks else none
   | none => none
  | some (.array m e) => match leavesF P (leaves P n) ((List.range m).map fun i => (e, i * P.cellsOf e)) 0 with
   | some ks => if ks.length = P.cellsOf t then some ks else none
   | none => none
  | _ => none
theorem LfL.len : ∀ {ks : List Lf} {vs : List AV}, LfL ks vs → vs.length = ks.length
 | [], _, h => by simp only [LfL] at h; simp [h]
 | k :: ks, _, h => by
  simp only [LfL] at h
  obtain ⟨v, rest, rfl, _, h2⟩ := h
  simp [h2.len]
theorem LfL.append : ∀ {ks ls : List Lf} {vs ws : List AV}, LfL ks vs → LfL ls ws → LfL (ks ++ ls) (vs ++ ws)
 | [], _, _, _, h, h' => by simp only [LfL] at h; simpa [h] using h'
 | k :: ks, _, _, _, h, h' => by
  simp only [LfL] at h
  obtain ⟨v, rest, rfl, h1, h2⟩ := h
  simp only [List.cons_append, LfL]
  exact ⟨_, _, rfl, h1, h2.append h'⟩
theorem relL_len : ∀ {as : List AV} {g : Gh} {w : World} {vs : List Value}, RelL as g w vs → vs.length = as.length
 | [], _, _, _, h => by simp only [RelL] at h; simp [h]
 | a :: as, _, _, _, h => by
  simp only [RelL] at h
  obtain ⟨v, rest, rfl, _, h2⟩ := h
  simp [relL_len h2]
section
variable {H : Type} {enc : TypeId × Value → H} {P : Program} {W : World}
end
end Go.Avm
namespace Go.Avm
open Go
end Go.Avm
namespace Go.Avm
open Go Go.ChangeShapes Go.WideShapes Go.ChangeAt Go.WideElems Go.RowKit Go.Lib Go.Joins Go.ChangeMaps Go.Deep
section
variable {H : Type} {enc : TypeId × Value → H} {P : Program} {W : World}
end
end Go.Avm
namespace Go.Avm
open Go Go.ChangeShapes Go.WideShapes Go.ChangeAt Go.WideElems Go.RowKit Go.Lib Go.Joins Go.ChangeMaps Go.Deep
def inR64 (n : Int) : Prop := -9223372036854775808 ≤ n ∧ n ≤ 9223372036854775807
structure OkA (N : Nat) (a : Lat.Arr) : Prop where
 k : inR64 a.k
 r : inR64 a.r
 l0 : inR64 a.l0
 l1 : inR64 a.l1
 c : ∀ x ∈ a.c, inR64 x
 len : a.c.length ≤ N
section
variable {H : Type} {enc : TypeId × Value → H} {P : Program} {W : World}
end
end Go.Avm
