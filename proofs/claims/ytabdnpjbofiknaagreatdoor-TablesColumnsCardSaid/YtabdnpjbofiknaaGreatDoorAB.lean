/- Bytes as masks. -/
import Derived.Test.YtabdnpjbofiknaaGreatDoorA8
import Derived.Test.YtabdnpjbofiknaaGreatDoorM1
import Derived.SliceStrings
import Derived.Lib.SmallJoins
import Derived.ChangeMaps5
import Derived.OpenShut
import Derived.SizedLaws
import Derived.Handed
set_option linter.all false
/- Bytes as masks. -/
namespace Go.Avm
open Go
/-- The next round of a loop that counts. -/
theorem nxt1 {n i : Nat} {P : Nat → Prop} (hi : i < n) (h : ∀ j, j < i → P j) (hp : P i) (hn : n < 9223372036854775807) :
    ∃ j, n - j < n - i ∧ (j ≤ n ∧ ∀ k, k < j → P k) ∧ AV.int .i64 (IntKind.i64.wrap ((i : Int) + 1)) = AV.int .i64 (j : Int) :=
  ⟨i + 1, by omega, ⟨by omega, fun k hk => by
    by_cases e : k = i
    · rw [e]; exact hp
    · exact h k (by omega)⟩, by rw [wi64 (by omega)]; rfl⟩
theorem no_lt0 {P : Nat → Prop} (j : Nat) (h : j < 0) : P j := absurd h (Nat.not_lt_zero j)
/-- A table. -/
def tb (n : Nat) (f : Nat → AV) : List AV := (List.range n).map f
theorem tb_len (n : Nat) (f : Nat → AV) : (tb n f).length = n := by simp [tb]
theorem tb_get? {n i : Nat} (f : Nat → AV) (h : i < n) : (tb n f)[i]? = some (f i) := by simp [tb, List.getElem?_range h]
theorem tb_getD {n i : Nat} (f : Nat → AV) (d : AV) (h : i < n) : (tb n f).getD i d = f i := by
  rw [List.getD_eq_getElem?_getD, tb_get? f h]; rfl
theorem tb_congr {n : Nat} {f f' : Nat → AV} (h : ∀ i, i < n → f i = f' i) : tb n f = tb n f' :=
  List.map_congr_left fun i hi => h i (List.mem_range.1 hi)
theorem tb_set {n i : Nat} (f : Nat → AV) (v : AV) : (tb n f).set i v = tb n (fun j => if j = i then v else f j) := by
  apply List.ext_getElem?
  intro k
  rw [List.getElem?_set]
  by_cases hk : k < n
  · rw [tb_get? _ hk, tb_len]
    by_cases hki : i = k
    · subst hki; simp [hk, tb_get? _ hk]
    · rw [if_neg hki, tb_get? _ hk, if_neg (fun e => hki e.symm)]
  · have h1 : (tb n f)[k]? = none := by rw [List.getElem?_eq_none]; rw [tb_len]; omega
    have h2 : (tb n (fun j => if j = i then v else f j))[k]? = none := by rw [List.getElem?_eq_none]; rw [tb_len]; omega
    rw [h1, h2, tb_len]
    split <;> simp; omega
theorem tb_rep (n : Nat) (v : AV) : List.replicate n v = tb n (fun _ => v) := by
  apply List.ext_getElem
  · simp [tb]
  · intro i h1 h2; simp [tb]
theorem rc_1 (n : Nat) (v : AV) : repCells n [v] = tb n (fun _ => v) := tb_rep n v
theorem ix_rsl (sz id0 off m cp s : Nat) (k : IntKind) (n : Int) : idxX sz (.rsl id0 off m cp s) (.int k n) = some (decide (0 ≤ n) && decide (n < m) && decide (s = sz), .ptr id0 (off + n.toNat * sz), none) := id rfl
theorem tb_all (n : Nat) (k : IntKind) (g : Nat → Int) : (tb n fun c => .int k (g c)).all scalarB = true := by simp [tb, scalarB]
theorem tb_fin (H : Heap) (m n : Nat) (k : IntKind) (g : Nat → Int) : (tb n fun c => .int k (g c)).map (fin H m) = tb n fun c => .int k (g c) := by
  simp only [tb, List.map_map]
  refine List.map_congr_left fun c _ => ?_
  simp only [Function.comp, fi_i]
theorem tb_take (n : Nat) (f : Nat → AV) : (tb n f).take n = tb n f := by
  rw [List.take_of_length_le (by rw [tb_len]; exact Nat.le_refl _)]
theorem tb_allb (n : Nat) (g : Nat → Bool) : (tb n fun c => .bool (g c)).all scalarB = true := by simp [tb, scalarB]
theorem tb_finb (H : Heap) (m n : Nat) (g : Nat → Bool) : (tb n fun c => .bool (g c)).map (fin H m) = tb n fun c => .bool (g c) := by
  simp only [tb, List.map_map]
  refine List.map_congr_left fun c _ => ?_
  simp only [Function.comp, fi_b]
theorem dryL_map : ∀ l : List AV, dryL l = l.map dry
  | [] => rfl
  | x :: l => by simp only [dryL, List.map_cons, dryL_map l]
theorem tb_dryb (n : Nat) (g : Nat → Bool) : dryL (tb n fun c => .bool (g c)) = tb n fun c => .bool (g c) := by
  rw [dryL_map]
  simp only [tb, List.map_map]
  exact List.map_congr_left fun c _ => rfl
theorem tb_dry (n : Nat) (k : IntKind) (g : Nat → Int) : dryL (tb n fun c => .int k (g c)) = tb n fun c => .int k (g c) := by
  rw [dryL_map]
  simp only [tb, List.map_map]
  exact List.map_congr_left fun c _ => rfl
theorem setCells_full : ∀ (vs cs : List AV) (pre : List AV), cs.length = vs.length → setCells (pre ++ cs) pre.length vs = pre ++ vs
  | [], cs, pre, h => by
    have : cs = [] := List.length_eq_zero_iff.1 h
    subst this; rfl
  | v :: vs, [], pre, h => by simp at h
  | v :: vs, c :: cs, pre, h => by
    simp only [setCells, List.set_append_right _ _ (Nat.le_refl _), Nat.sub_self, List.set_cons_zero]
    have := setCells_full vs cs (pre ++ [v]) (by simpa using h)
    simpa using this
theorem sc_full (n : Nat) (f g : Nat → AV) : setCells (tb n f) 0 (tb n g) = tb n g := by
  have := setCells_full (tb n g) (tb n f) [] (by rw [tb_len, tb_len])
  simpa using this
theorem ld_tb {H : Heap} {n i : Nat} (f : Nat → AV) (h : i < n) : ldX H (.vp ((tb n f).drop i)) = some (true, f i, none) := by
  have h1 : i < (tb n f).length := by rw [tb_len]; exact h
  rw [List.drop_eq_getElem_cons h1]
  have h2 := tb_get? f h
  rw [List.getElem?_eq_getElem h1] at h2
  simp only [Option.some.injEq] at h2
  rw [h2]
  rfl
theorem sc_any {n : Nat} {cs : List AV} (f : Nat → AV) (h : cs.length = n) : setCells cs 0 (tb n f) = tb n f := by
  have := setCells_full (tb n f) cs [] (by rw [tb_len, h])
  simpa using this
theorem tb_sub {n o m : Nat} (f : Nat → AV) (h : o + m ≤ n) : ((tb n f).drop o).take m = tb m (fun k => f (o + k)) := by
  apply List.ext_getElem?
  intro i
  rw [List.getElem?_take]
  split
  · rename_i hi
    rw [List.getElem?_drop, tb_get? _ (by omega), tb_get? _ hi]
  · rename_i hi
    rw [eq_comm, List.getElem?_eq_none]; rw [tb_len]; omega
attribute [go_sem] ix_rsl tb_allb sc_any tb_finb tb_dryb tb_dry sc_full tb_all tb_fin tb_take tb_len Nat.le_refl rc_1
end Go.Avm

/- The start of a law's call: lattices, texts. -/
namespace Go.Avm
open Go Go.ChangeShapes Go.WideShapes Go.ChangeAt Go.WideElems Go.RowKit Go.Lib Go.Joins Go.ChangeMaps Go.Deep
section
variable {H : Type} {enc : TypeId × Value → H} {P : Program} {W : World}
theorem relL_strs {g : Gh} {w : World} : ∀ ss : List ByteArray, RelL (ss.map fun s => AV.str s.data.toList) g w (ss.map Value.string)
  | [] => by simp [RelL]
  | z :: t => by
    simp only [List.map_cons, RelL]
    exact ⟨_, _, rfl, by simp only [Rel]; exact ⟨z, rfl, rfl⟩, relL_strs t⟩
theorem lies_one {W : World} {b o : Nat} {vs : List Value} (h : ∀ i x, vs[i]? = some x → x.cells = #[x] ∧ W.cell? ⟨b, o + i, none⟩ = some x) : Lies (gAll W) W (some ⟨b, o, none⟩) 1 vs := by
  refine .inr ⟨b, o, rfl, fun i x hx => ?_⟩
  obtain ⟨h1, h2⟩ := h i x hx
  refine ⟨by rw [h1]; rfl, fun j c hj => ?_⟩
  rw [h1] at hj
  have hj0 : j = 0 ∧ c = x := by
    match j with
    | 0 => simp at hj; exact ⟨rfl, hj.symm⟩
    | j + 1 => simp at hj
  obtain ⟨rfl, rfl⟩ := hj0
  rw [Nat.mul_one, Nat.add_zero]
  exact ⟨S_of_cell h2, h2⟩
theorem rel_strs {t e : TypeId} {v : Value} {fuel : Nat} {x : DataW H × List MemPlace} (ht : P.underlying t = some (.slice e)) (he : P.underlying e = some .string) (hc : P.cellsOf e = 1)
    (h : DataW.trod enc P W 0 (fun _ => true) true fuel t [v] = some x) : ∃ ss : List (List UInt8), Rel (lst AV.str .ro ss) (gAll W) W v := by
  rcases open_strings ht he hc h with ⟨hcs, _⟩ | ⟨a, len, cap, ss, hcs, _, hlc, hm, hzl, _, hcell, hwf⟩
  · simp only [List.cons.injEq, and_true] at hcs
    subst hcs
    refine ⟨[], ?_⟩
    simp only [lst, Rel, List.map_nil, List.length_nil]
    exact ⟨_, _, [], 1, rfl, Nat.le_refl _, by simp [RelL], .inl rfl, trivial⟩
  · simp only [List.cons.injEq, and_true] at hcs
    subst hcs
    simp only [if_true] at hzl
    have htl : (ss.take len).length = len := by rw [List.length_take]; omega
    refine ⟨(ss.take len).map fun s => s.data.toList, ?_⟩
    simp only [lst, Rel, List.length_map, htl, List.map_map]
    refine ⟨some a, cap, (ss.take len).map Value.string, 1, rfl, hlc, relL_strs _, ?_, trivial⟩
    cases hl : len with
    | zero => left; simp
    | succ m =>
      have h0 := hcell 0 (by omega)
      have hsp := cell_plain h0
      simp only [Addr.add, if_true] at hsp
      obtain ⟨b, o, s⟩ := a
      simp only at hsp
      subst hsp
      refine lies_one fun i y hy => ?_
      simp only [List.getElem?_map, Option.map_eq_some_iff] at hy
      obtain ⟨z, hz, rfl⟩ := hy
      have hi : i < m + 1 := by
        rw [List.getElem?_take] at hz
        split at hz
        · assumption
        · cases hz
      rw [List.getElem?_take, if_pos hi] at hz
      have hz' : ss.getD i ByteArray.empty = z := by simp [List.getD, hz]
      have hci := hcell i (by omega)
      rw [hz'] at hci
      have had : (Addr.mk b o none).add i = ⟨b, o + i, none⟩ := by
        simp only [Addr.add]; split <;> simp_all
      rw [had] at hci
      exact ⟨rfl, hci⟩
theorem open_strW {t : TypeId} {v : Value} {d : DataW H} {p : List MemPlace} (ht : P.underlying t = some .string) {b0 : Nat} (hv : Value.okWide P W .any b0 t v) (h : DataW.Trod enc P W 0 (fun _ => true) true t v d p) :
    ∃ s : List UInt8, Rel (.str s) (gAll W) W v := by
  obtain ⟨s, rfl, _, _, _⟩ := open_string ht hv h
  exact ⟨s.data.toList, by simp only [Rel]; exact ⟨s, rfl, rfl⟩⟩
end
end Go.Avm

/- The start of a law's call: arguments of any shape without pointers. -/
namespace Go.Avm
open Go Go.ChangeShapes Go.WideShapes Go.ChangeAt Go.WideElems Go.RowKit Go.Lib Go.Joins Go.ChangeMaps Go.Deep
/-- What a cell holds. -/
inductive Lf where
  | int (k : IntKind)
  | str
  | bool
  | sl (ag : Bool) (ks : List Lf)
mutual
def LfR : Lf → AV → Prop
  | .int k, v => ∃ z, v = .int k z ∧ (Lit.int k z).wf = true
  | .str, v => ∃ s : List UInt8, v = .str s ∧ s.length ≤ maxLen
  | .bool, v => ∃ b, v = .bool b
  | .sl ag ks, v => ∃ es : List AV, v = .sl .ro es ∧ es.length ≤ maxLen ∧ ∀ e ∈ es, ∃ avs, LfL ks avs ∧ ((ag = true ∧ e = .agg avs) ∨ (ag = false ∧ avs = [e]))
def LfL : List Lf → List AV → Prop
  | [], vs => vs = []
  | k :: ks, vs => ∃ v rest, vs = v :: rest ∧ LfR k v ∧ LfL ks rest
end
def isAgg (P : Program) (t : TypeId) : Bool := match P.underlying t with
  | some (.struct _) | some (.array _ _) => true
  | _ => false
def leavesF (P : Program) (r : TypeId → Option (List Lf)) : List (TypeId × Nat) → Nat → Option (List Lf)
  | [], _ => some []
  | (t, o) :: fs, off => match r t with
    | some ks => if o = off ∧ ks.length = P.cellsOf t then match leavesF P r fs (off + ks.length) with
        | some rest => some (ks ++ rest)
        | none => none
      else none
    | none => none
def leaves (P : Program) : Nat → TypeId → Option (List Lf)
  | 0, _ => none
  | n + 1, t => match P.underlying t with
    | some .bool => some [.bool]
    | some (.int k) => some [.int k]
    | some .string => some [.str]
    | some (.slice e) => match leaves P n e with
      | some ks => if ks.length = P.cellsOf e ∧ 0 < ks.length ∧ (isAgg P e || ks.length == 1) = true then some [.sl (isAgg P e) ks] else none
      | none => none
    | some (.struct fs) => match leavesF P (leaves P n) (fs.toList.map fun f => (f.type, f.offset)) 0 with
      | some ks => if ks.length = P.cellsOf t then some ks else none
      | none => none
    | some (.array m e) => match leavesF P (leaves P n) ((List.range m).map fun i => (e, i * P.cellsOf e)) 0 with
      | some ks => if ks.length = P.cellsOf t then some ks else none
      | none => none
    | _ => none
theorem LfL.len : ∀ {ks : List Lf} {vs : List AV}, LfL ks vs → vs.length = ks.length
  | [], _, h => by simp only [LfL] at h; simp [h]
  | k :: ks, _, h => by
    simp only [LfL] at h
    obtain ⟨v, rest, rfl, _, h2⟩ := h
    simp [h2.len]
theorem LfL.append : ∀ {ks ls : List Lf} {vs ws : List AV}, LfL ks vs → LfL ls ws → LfL (ks ++ ls) (vs ++ ws)
  | [], _, _, _, h, h' => by simp only [LfL] at h; simpa [h] using h'
  | k :: ks, _, _, _, h, h' => by
    simp only [LfL] at h
    obtain ⟨v, rest, rfl, h1, h2⟩ := h
    simp only [List.cons_append, LfL]
    exact ⟨_, _, rfl, h1, h2.append h'⟩
theorem relL_len : ∀ {as : List AV} {g : Gh} {w : World} {vs : List Value}, RelL as g w vs → vs.length = as.length
  | [], _, _, _, h => by simp only [RelL] at h; simp [h]
  | a :: as, _, _, _, h => by
    simp only [RelL] at h
    obtain ⟨v, rest, rfl, _, h2⟩ := h
    simp [relL_len h2]
theorem relL_append : ∀ {as bs : List AV} {g : Gh} {w : World} {vs ws : List Value}, RelL as g w vs → RelL bs g w ws → RelL (as ++ bs) g w (vs ++ ws)
  | [], _, _, _, _, _, h, h' => by simp only [RelL] at h; simpa [h] using h'
  | a :: as, _, _, _, _, _, h, h' => by
    simp only [RelL] at h
    obtain ⟨v, rest, rfl, h1, h2⟩ := h
    simp only [List.cons_append, RelL]
    exact ⟨_, _, rfl, h1, relL_append h2 h'⟩
theorem relL_of {α : Type} {g : Gh} {w : World} (f : α → AV) (f' : α → Value) : ∀ (l : List α), (∀ x ∈ l, Rel (f x) g w (f' x)) → RelL (l.map f) g w (l.map f')
  | [], _ => by simp [RelL]
  | a :: l, h => by
    simp only [List.map_cons, RelL]
    exact ⟨_, _, rfl, h a (by simp), relL_of f f' l fun x hx => h x (by simp [hx])⟩
theorem choose_list {α : Type} {Q : Nat → α → Prop} (n : Nat) (h : ∀ i, i < n → ∃ a, Q i a) : ∃ l : List α, l.length = n ∧ ∀ (i : Nat) (a : α), l[i]? = some a → Q i a := by
  induction n with
  | zero => exact ⟨[], rfl, by simp⟩
  | succ n ih =>
    obtain ⟨l, hl, hq⟩ := ih fun i hi => h i (by omega)
    obtain ⟨a, ha⟩ := h n (by omega)
    refine ⟨l ++ [a], by simp [hl], fun i b hb => ?_⟩
    rw [List.getElem?_append] at hb
    split at hb
    · exact hq i b hb
    · have : i - l.length = 0 := by
        rcases Nat.eq_zero_or_pos (i - l.length) with h | h
        · exact h
        · rw [List.getElem?_eq_none (by simp; omega)] at hb; cases hb
      rw [this] at hb
      cases hb
      have : i = n := by omega
      exact this ▸ ha
section
variable {H : Type} {enc : TypeId × Value → H} {P : Program} {W : World}
/-- What is said of a type's cells. -/
def Opens (enc : TypeId × Value → H) (P : Program) (W : World) (t : TypeId) (ks : List Lf) : Prop :=
  ∀ (fuel : Nat) (cs : List Value) (x : DataW H × List MemPlace), DataW.trod enc P W 0 (fun _ => true) true fuel t cs = some x → ∃ avs, LfL ks avs ∧ RelL avs (gAll W) W cs
theorem opens_fields {r : TypeId → Option (List Lf)} (hr : ∀ t ks, r t = some ks → Opens enc P W t ks) {fuel : Nat} {cs : List Value} : ∀ (fs : List (TypeId × Nat)) (off : Nat) (ks : List Lf), leavesF P r fs off = some ks →
    (∀ f ∈ fs, ∃ x, DataW.trod enc P W 0 (fun _ => true) true fuel f.1 ((cs.drop f.2).take (P.cellsOf f.1)) = some x) → ∃ avs, LfL ks avs ∧ RelL avs (gAll W) W ((cs.drop off).take ks.length)
  | [], off, ks, h, _ => by
    simp only [leavesF, Option.some.injEq] at h
    subst h
    exact ⟨[], by simp [LfL], by simp [RelL]⟩
  | (t, o) :: fs, off, ks, h, hx => by
    simp only [leavesF] at h
    split at h
    · rename_i k1 h1
      split at h
      · rename_i hc
        obtain ⟨rfl, hlen⟩ := hc
        split at h
        · rename_i rest h2
          cases h
          obtain ⟨x, hx0⟩ := hx _ List.mem_cons_self
          obtain ⟨a1, l1, r1⟩ := hr t k1 h1 _ _ _ hx0
          obtain ⟨a2, l2, r2⟩ := opens_fields hr fs (o + k1.length) rest h2 fun f hf => hx f (List.mem_cons_of_mem _ hf)
          refine ⟨a1 ++ a2, l1.append l2, ?_⟩
          have : (cs.drop o).take (k1 ++ rest).length = (cs.drop o).take (P.cellsOf t) ++ (cs.drop (o + k1.length)).take rest.length := by
            rw [List.length_append, List.take_add, List.drop_drop, ← hlen]
          rw [this]
          exact relL_append r1 r2
        · cases h
      · cases h
    · cases h
theorem opens_slice {t e : TypeId} {ks : List Lf} (ht : P.underlying t = some (.slice e)) (he : Opens enc P W e ks) (hc : ks.length = P.cellsOf e) (hp : 0 < ks.length) (ha : (isAgg P e || ks.length == 1) = true)
    (hsc : isAgg P e = false → ∀ (cs : List Value) avs, LfL ks avs → RelL avs (gAll W) W cs → ∀ c, cs = [c] → c.cells = #[c]) : Opens enc P W t [.sl (isAgg P e) ks] := by
  intro fuel cs x h
  rcases DataW.trod_slice ht h with ⟨rfl, _⟩ | ⟨a, len, cap, elems, rest, n, _, rfl, _, _, hlc, hm, hel, hcell, _, _⟩
  · refine ⟨[.sl .ro []], ?_, ?_⟩
    · simp only [LfL, LfR]
      exact ⟨_, _, rfl, ⟨[], rfl, by simp, by simp⟩, rfl⟩
    · simp only [RelL, Rel, List.length_nil]
      exact ⟨_, _, rfl, ⟨_, _, [], 1, rfl, Nat.le_refl _, by simp [RelL], .inl rfl, trivial⟩, rfl⟩
  · have hq : ∀ i, i < len → ∃ q : AV × Value, (Rel q.1 (gAll W) W q.2 ∧ ∃ avs, LfL ks avs ∧ ((isAgg P e = true ∧ q.1 = .agg avs) ∨ (isAgg P e = false ∧ avs = [q.1]))) ∧ q.2.cells.size = ks.length ∧
        ∀ (j : Nat) c, q.2.cells[j]? = some c → W.cell? ((a.add (i * P.cellsOf e)).add j) = some c := by
      intro i hi
      have h1 := hcell i hi
      rw [List.getElem?_eq_getElem (by omega)] at h1
      simp only [Option.bind_eq_some_iff] at h1
      obtain ⟨ci, h2, h3⟩ := h1
      obtain ⟨avs, l1, r1⟩ := he _ _ _ h3
      have hln : ci.length = ks.length := by rw [relL_len r1, l1.len]
      have hcl : ∀ (j : Nat) c, ci[j]? = some c → W.cell? ((a.add (i * P.cellsOf e)).add j) = some c := by
        intro j c hj
        unfold World.cells? at h2
        split at h2
        · have hjl : j < P.cellsOf e := by
            rw [← hc, ← hln]
            exact (List.getElem?_eq_some_iff.1 hj).1
          have := mapM_some_get h2 j j (by simp [hjl])
          rw [this]; exact hj
        · cases h2
      cases hag : isAgg P e with
      | true =>
        refine ⟨(.agg avs, .agg ci.toArray), ⟨?_, avs, l1, .inl ⟨rfl, rfl⟩⟩, by simpa [Value.cells] using hln, fun j c hj => hcl j c (by simpa [Value.cells] using hj)⟩
        simp only [Rel]
        exact ⟨ci, rfl, r1⟩
      | false =>
        rw [hag] at ha
        simp only [Bool.false_or, beq_iff_eq] at ha
        match ci, avs, r1, l1, hln with
        | [c], [v], r1, l1, _ =>
          have hcc := hsc hag [c] [v] l1 r1 c rfl
          simp only [RelL] at r1
          obtain ⟨_, _, h5, h6, _⟩ := r1
          cases h5
          refine ⟨(v, c), ⟨h6, [v], l1, .inr ⟨rfl, rfl⟩⟩, by rw [hcc]; simp [ha], fun j c' hj => hcl j c' ?_⟩
          simp only at hj
          rw [hcc] at hj
          simpa using hj
        | [c], [], _, l1, _ => have := l1.len; simp at this; omega
        | [c], _ :: _ :: _, _, l1, _ => have := l1.len; simp at this; omega
        | [], _, _, _, hln => simp at hln; omega
        | _ :: _ :: _, _, _, _, hln => simp at hln; omega
    obtain ⟨l, hll, hlq⟩ := choose_list len hq
    refine ⟨[.sl .ro (l.map (·.1))], ?_, ?_⟩
    · simp only [LfL, LfR]
      refine ⟨_, _, rfl, ⟨_, rfl, by simp; omega, fun y hy => ?_⟩, rfl⟩
      obtain ⟨q, hqm, rfl⟩ := List.mem_map.1 hy
      obtain ⟨i, hi⟩ := List.getElem?_of_mem hqm
      exact (hlq i q hi).1.2
    · simp only [RelL, Rel]
      refine ⟨_, _, rfl, ⟨some a, cap, l.map (·.2), ks.length, by simp [hll], by simpa [hll] using hlc, relL_of _ _ l fun q hqm => ?_, ?_, trivial⟩, rfl⟩
      · obtain ⟨i, hi⟩ := List.getElem?_of_mem hqm
        exact (hlq i q hi).1.1
      · rcases Nat.eq_zero_or_pos len with h0 | h0
        · left
          have : l = [] := List.length_eq_zero_iff.1 (by omega)
          simp [this]
        · right
          have hl0 : 0 < l.length := by omega
          obtain ⟨_, s0, c0⟩ := hlq 0 l[0] (List.getElem?_eq_getElem hl0)
          have hz0 : 0 < l[0].2.cells.size := by omega
          have hcz := c0 0 _ (Array.getElem?_eq_getElem hz0)
          have hsp := cell_plain hcz
          simp only [Nat.zero_mul, Addr.add, if_true] at hsp
          obtain ⟨b, o, s⟩ := a
          simp only at hsp
          subst hsp
          refine ⟨b, o, rfl, fun i y hy => ?_⟩
          simp only [List.getElem?_map, Option.map_eq_some_iff] at hy
          obtain ⟨q, hqi, rfl⟩ := hy
          obtain ⟨_, s1, c1⟩ := hlq i q hqi
          refine ⟨s1, fun j c hj => ?_⟩
          have hcj := c1 j c hj
          have had : ((Addr.mk b o none).add (i * P.cellsOf e)).add j = ⟨b, o + i * ks.length + j, none⟩ := by
            rw [hc]
            simp only [Addr.add]
            split <;> split <;> simp_all
          rw [had] at hcj
          exact ⟨S_of_cell hcj, hcj⟩
theorem leaf_cells : ∀ {n : Nat} {t : TypeId} {ks : List Lf}, leaves P n t = some ks → isAgg P t = false → ∀ (cs : List Value) avs, LfL ks avs → RelL avs (gAll W) W cs → ∀ c, cs = [c] → c.cells = #[c]
  | 0, _, _, h, _ => by simp [leaves] at h
  | n + 1, t, ks, h, hg => by
    intro cs avs l r c hc
    subst hc
    unfold leaves at h
    have fin : ∀ k, ks = [k] → c.cells = #[c] := by
      rintro k rfl
      simp only [LfL] at l
      obtain ⟨v, _, rfl, l1, rfl⟩ := l
      simp only [RelL] at r
      obtain ⟨_, _, h5, r1, _⟩ := r
      cases h5
      cases k with
      | int k => simp only [LfR] at l1; obtain ⟨z, rfl, _⟩ := l1; simp only [Rel] at r1; subst r1; rfl
      | str => simp only [LfR] at l1; obtain ⟨z, rfl, _⟩ := l1; simp only [Rel] at r1; obtain ⟨s, rfl, _⟩ := r1; rfl
      | bool => simp only [LfR] at l1; obtain ⟨z, rfl⟩ := l1; simp only [Rel] at r1; subst r1; rfl
      | sl ag ks => simp only [LfR] at l1; obtain ⟨z, rfl, _⟩ := l1; simp only [Rel] at r1; obtain ⟨_, _, _, _, rfl, _⟩ := r1; rfl
    split at h
    · cases h; exact fin _ rfl
    · cases h; exact fin _ rfl
    · cases h; exact fin _ rfl
    · split at h
      · split at h
        · cases h; exact fin _ rfl
        · cases h
      · cases h
    · rename_i he; simp [isAgg, he] at hg
    · rename_i he; simp [isAgg, he] at hg
    · cases h
theorem opens_of : ∀ (n : Nat) (t : TypeId) (ks : List Lf), leaves P n t = some ks → Opens enc P W t ks
  | 0, _, _, h => by simp [leaves] at h
  | n + 1, t, ks, h => by
    unfold leaves at h
    split at h
    · rename_i ht
      cases h
      intro fuel cs x hx
      obtain ⟨b, rfl, _⟩ := DataW.trod_bool ht hx
      exact ⟨[.bool b], by simp only [LfL, LfR]; exact ⟨_, _, rfl, ⟨_, rfl⟩, rfl⟩, by simp only [RelL, Rel]; exact ⟨_, _, rfl, rfl, rfl⟩⟩
    · rename_i k ht
      cases h
      intro fuel cs x hx
      obtain ⟨z, rfl, _, hw⟩ := DataW.trod_int ht hx
      exact ⟨[.int k z], by simp only [LfL, LfR]; exact ⟨_, _, rfl, ⟨_, rfl, hw⟩, rfl⟩, by simp only [RelL, Rel]; exact ⟨_, _, rfl, rfl, rfl⟩⟩
    · rename_i ht
      cases h
      intro fuel cs x hx
      obtain ⟨s, rfl, _, hm⟩ := DataW.trod_string ht hx
      exact ⟨[.str s.data.toList], by simp only [LfL, LfR]; exact ⟨_, _, rfl, ⟨_, rfl, by rw [Array.length_toList]; exact hm⟩, rfl⟩, by simp only [RelL, Rel]; exact ⟨_, _, rfl, ⟨s, rfl, rfl⟩, rfl⟩⟩
    · rename_i e ht
      split at h
      · rename_i k1 h1
        split at h
        · rename_i hc
          cases h
          exact opens_slice ht (opens_of n e k1 h1) hc.1 hc.2.1 hc.2.2 (leaf_cells h1)
        · cases h
      · cases h
    · rename_i fs ht
      split at h
      · rename_i k1 h1
        split at h
        · rename_i hc
          cases h
          intro fuel cs x hx
          obtain ⟨xs, m, _, _, hl, hxl, hf⟩ := DataW.trod_struct ht hx
          obtain ⟨avs, l, r⟩ := opens_fields (fuel := m) (cs := cs) (opens_of n) _ 0 _ h1 fun f hf' => by
            obtain ⟨g, hg, rfl⟩ := List.mem_map.1 hf'
            obtain ⟨i, hi⟩ := List.getElem?_of_mem hg
            have hi' : fs[i]? = some g := by simpa using hi
            have := hf i g hi'
            have hlt : i < xs.length := by rw [hxl]; exact (Array.getElem?_eq_some_iff.1 hi').1
            rw [List.getElem?_eq_getElem hlt] at this
            exact ⟨_, this⟩
          refine ⟨avs, l, ?_⟩
          rw [List.drop_zero, hc, ← hl, List.take_length] at r
          exact r
        · cases h
      · cases h
    · rename_i m0 e ht
      split at h
      · rename_i k1 h1
        split at h
        · rename_i hc
          cases h
          intro fuel cs x hx
          obtain ⟨xs, m, _, _, hl, hxl, hf⟩ := DataW.trod_array ht hx
          obtain ⟨avs, l, r⟩ := opens_fields (fuel := m) (cs := cs) (opens_of n) _ 0 _ h1 fun f hf' => by
            obtain ⟨i, hg, rfl⟩ := List.mem_map.1 hf'
            have hi : i < m0 := List.mem_range.1 hg
            have := hf i hi
            rw [List.getElem?_eq_getElem (by omega)] at this
            exact ⟨_, this⟩
          refine ⟨avs, l, ?_⟩
          rw [List.drop_zero, hc, ← hl, List.take_length] at r
          exact r
        · cases h
      · cases h
    · cases h
end
end Go.Avm

/- What an argument's cells hold, as values of the logic: lattices, numbers, lists. -/
namespace Go.Avm
open Go
end Go.Avm

/- Bounds of strings, from the sizes that a claim asks for. -/
namespace Go.Avm
open Go Go.ChangeShapes Go.WideShapes Go.ChangeAt Go.WideElems Go.RowKit Go.Lib Go.Joins Go.ChangeMaps Go.Deep
section
variable {H : Type} {enc : TypeId × Value → H} {P : Program} {W : World}
theorem opens_sliceQ {t e : TypeId} {ks : List Lf} {Q : List AV → Prop} {C : DataW H → Prop} (ht : P.underlying t = some (.slice e)) (he : ∀ (fuel : Nat) (cs : List Value) (x : DataW H × List MemPlace), DataW.trod enc P W 0 (fun _ => true) true fuel e cs = some x → C x.1 → ∃ avs, (Q avs ∧ LfL ks avs) ∧ RelL avs (gAll W) W cs) (hc : ks.length = P.cellsOf e) (hp : 0 < ks.length) (ha : (isAgg P e || ks.length == 1) = true)
    (hsc : isAgg P e = false → ∀ (cs : List Value) avs, LfL ks avs → RelL avs (gAll W) W cs → ∀ c, cs = [c] → c.cells = #[c]) : ∀ (fuel : Nat) (cs : List Value) (x : DataW H × List MemPlace), DataW.trod enc P W 0 (fun _ => true) true fuel t cs = some x → (∀ els rest, x.1 = .slice els rest → ∀ y ∈ els, C y) → ∃ es, (es.length ≤ maxLen ∧ ∀ y ∈ es, ∃ avs, (Q avs ∧ LfL ks avs) ∧ ((isAgg P e = true ∧ y = .agg avs) ∨ (isAgg P e = false ∧ avs = [y]))) ∧ RelL [.sl .ro es] (gAll W) W cs := by
  intro fuel cs x h hC
  rcases DataW.trod_slice ht h with ⟨rfl, _⟩ | ⟨a, len, cap, elems, rest, n, _, rfl, hxe, _, hlc, hm, hel, hcell, _, _⟩
  · refine ⟨[], ⟨by simp, by simp⟩, ?_⟩
    simp only [RelL, Rel, List.length_nil]
    exact ⟨_, _, rfl, ⟨_, _, [], 1, rfl, Nat.le_refl _, by simp [RelL], .inl rfl, trivial⟩, rfl⟩
  · have hq : ∀ i, i < len → ∃ q : AV × Value, (Rel q.1 (gAll W) W q.2 ∧ ∃ avs, (Q avs ∧ LfL ks avs) ∧ ((isAgg P e = true ∧ q.1 = .agg avs) ∨ (isAgg P e = false ∧ avs = [q.1]))) ∧ q.2.cells.size = ks.length ∧
        ∀ (j : Nat) c, q.2.cells[j]? = some c → W.cell? ((a.add (i * P.cellsOf e)).add j) = some c := by
      intro i hi
      have h1 := hcell i hi
      rw [List.getElem?_eq_getElem (by omega)] at h1
      simp only [Option.bind_eq_some_iff] at h1
      obtain ⟨ci, h2, h3⟩ := h1
      obtain ⟨avs, l1, r1⟩ := he _ _ _ h3 (hC _ _ (by rw [hxe]) _ (List.mem_map_of_mem (List.getElem_mem (by omega))))
      have hln : ci.length = ks.length := by rw [relL_len r1, l1.2.len]
      have hcl : ∀ (j : Nat) c, ci[j]? = some c → W.cell? ((a.add (i * P.cellsOf e)).add j) = some c := by
        intro j c hj
        unfold World.cells? at h2
        split at h2
        · have hjl : j < P.cellsOf e := by
            rw [← hc, ← hln]
            exact (List.getElem?_eq_some_iff.1 hj).1
          have := mapM_some_get h2 j j (by simp [hjl])
          rw [this]; exact hj
        · cases h2
      cases hag : isAgg P e with
      | true =>
        refine ⟨(.agg avs, .agg ci.toArray), ⟨?_, avs, l1, .inl ⟨rfl, rfl⟩⟩, by simpa [Value.cells] using hln, fun j c hj => hcl j c (by simpa [Value.cells] using hj)⟩
        simp only [Rel]
        exact ⟨ci, rfl, r1⟩
      | false =>
        rw [hag] at ha
        simp only [Bool.false_or, beq_iff_eq] at ha
        match ci, avs, r1, l1, hln with
        | [c], [v], r1, l1, _ =>
          have hcc := hsc hag [c] [v] l1.2 r1 c rfl
          simp only [RelL] at r1
          obtain ⟨_, _, h5, h6, _⟩ := r1
          cases h5
          refine ⟨(v, c), ⟨h6, [v], l1, .inr ⟨rfl, rfl⟩⟩, by rw [hcc]; simp [ha], fun j c' hj => hcl j c' ?_⟩
          simp only at hj
          rw [hcc] at hj
          simpa using hj
        | [c], [], _, l1, _ => have := l1.2.len; simp at this; omega
        | [c], _ :: _ :: _, _, l1, _ => have := l1.2.len; simp at this; omega
        | [], _, _, _, hln => simp at hln; omega
        | _ :: _ :: _, _, _, _, hln => simp at hln; omega
    obtain ⟨l, hll, hlq⟩ := choose_list len hq
    refine ⟨l.map (·.1), ?_, ?_⟩
    · refine ⟨by simp; omega, fun y hy => ?_⟩
      obtain ⟨q, hqm, rfl⟩ := List.mem_map.1 hy
      obtain ⟨i, hi⟩ := List.getElem?_of_mem hqm
      exact (hlq i q hi).1.2
    · simp only [RelL, Rel]
      refine ⟨_, _, rfl, ⟨some a, cap, l.map (·.2), ks.length, by simp [hll], by simpa [hll] using hlc, relL_of _ _ l fun q hqm => ?_, ?_, trivial⟩, rfl⟩
      · obtain ⟨i, hi⟩ := List.getElem?_of_mem hqm
        exact (hlq i q hi).1.1
      · rcases Nat.eq_zero_or_pos len with h0 | h0
        · left
          have : l = [] := List.length_eq_zero_iff.1 (by omega)
          simp [this]
        · right
          have hl0 : 0 < l.length := by omega
          obtain ⟨_, s0, c0⟩ := hlq 0 l[0] (List.getElem?_eq_getElem hl0)
          have hz0 : 0 < l[0].2.cells.size := by omega
          have hcz := c0 0 _ (Array.getElem?_eq_getElem hz0)
          have hsp := cell_plain hcz
          simp only [Nat.zero_mul, Addr.add, if_true] at hsp
          obtain ⟨b, o, s⟩ := a
          simp only at hsp
          subst hsp
          refine ⟨b, o, rfl, fun i y hy => ?_⟩
          simp only [List.getElem?_map, Option.map_eq_some_iff] at hy
          obtain ⟨q, hqi, rfl⟩ := hy
          obtain ⟨_, s1, c1⟩ := hlq i q hqi
          refine ⟨s1, fun j c hj => ?_⟩
          have hcj := c1 j c hj
          have had : ((Addr.mk b o none).add (i * P.cellsOf e)).add j = ⟨b, o + i * ks.length + j, none⟩ := by
            rw [hc]
            simp only [Addr.add]
            split <;> split <;> simp_all
          rw [had] at hcj
          exact ⟨S_of_cell hcj, hcj⟩
theorem weights_mem_all {e : TypeId} : ∀ {ds : List (DataW H)} {d : DataW H}, d ∈ ds → ∀ n ∈ d.weights P e, n ∈ DataW.weightsAll P e ds
  | d0 :: ds, d, hd, n, hn => by
    simp only [DataW.weightsAll, List.mem_append]
    rcases List.mem_cons.1 hd with rfl | h
    · exact .inl hn
    · exact .inr (weights_mem_all h n hn)
theorem relL_at : ∀ {as : List AV} {g : Gh} {w : World} {vs : List Value} {i : Nat} {a : AV}, RelL as g w vs → as[i]? = some a → ∃ v, vs[i]? = some v ∧ Rel a g w v
  | [], _, _, _, _, _, _, h => by simp at h
  | b :: as, _, _, _, 0, a, h, ha => by
    simp only [RelL] at h
    obtain ⟨v, rest, rfl, h1, _⟩ := h
    simp at ha
    subst ha
    exact ⟨v, rfl, h1⟩
  | b :: as, _, _, _, i + 1, a, h, ha => by
    simp only [RelL] at h
    obtain ⟨v, rest, rfl, _, h2⟩ := h
    simpa using relL_at h2 (by simpa using ha)
end
end Go.Avm

/- The start of a law's call: tables (a list of names, a list of arrays), with bounds. -/
namespace Go.Avm
open Go Go.ChangeShapes Go.WideShapes Go.ChangeAt Go.WideElems Go.RowKit Go.Lib Go.Joins Go.ChangeMaps Go.Deep
def KAr : List Lf := [.int .i64, .int .i64, .int .i64, .int .i64, .sl false [.int .i64]]
def arA (a : Lat.Arr) : AV := .agg [.int .i64 a.k, .int .i64 a.r, .int .i64 a.l0, .int .i64 a.l1, lst (AV.int .i64) .ro a.c]
def inR64 (n : Int) : Prop := -9223372036854775808 ≤ n ∧ n ≤ 9223372036854775807
/-- An array whose numbers are numbers, and that has at most N cells. -/
structure OkA (N : Nat) (a : Lat.Arr) : Prop where
  k : inR64 a.k
  r : inR64 a.r
  l0 : inR64 a.l0
  l1 : inR64 a.l1
  c : ∀ x ∈ a.c, inR64 x
  len : a.c.length ≤ N
theorem wf_in {n : Int} (h : (Lit.int .i64 n).wf = true) : inR64 n := by
  have := wf_i64 h
  unfold inR64
  omega
theorem lf_intsW {v : AV} (h : LfR (.sl false [.int .i64]) v) : ∃ l : List Int, v = lst (AV.int .i64) .ro l ∧ ∀ x ∈ l, inR64 x := by
  unfold LfR at h
  obtain ⟨es, rfl, _, he⟩ := h
  have key : ∀ es : List AV, (∀ e ∈ es, ∃ avs, LfL [.int .i64] avs ∧ ((false = true ∧ e = .agg avs) ∨ (false = false ∧ avs = [e]))) → ∃ l : List Int, es = l.map (AV.int .i64) ∧ ∀ x ∈ l, inR64 x := by
    intro es
    induction es with
    | nil => exact fun _ => ⟨[], rfl, by simp⟩
    | cons e es ih =>
      intro h
      obtain ⟨l, rfl, hl⟩ := ih fun e he => h e (by simp [he])
      obtain ⟨avs, h1, h2 | h2⟩ := h e (by simp)
      · cases h2.1
      · obtain ⟨_, rfl⟩ := h2
        simp only [LfL, LfR] at h1
        obtain ⟨_, _, h3, ⟨z, rfl, hz⟩, rfl⟩ := h1
        cases h3
        refine ⟨z :: l, rfl, fun x hx => ?_⟩
        rcases List.mem_cons.1 hx with rfl | hx
        · exact wf_in hz
        · exact hl x hx
  obtain ⟨l, rfl, hl⟩ := key es he
  exact ⟨l, rfl, hl⟩
theorem lf_arA {avs : List AV} {N : Nat} (h : LfL KAr avs) (hn : ∀ l, avs[4]? = some (.sl .ro l) → l.length ≤ N) : ∃ a : Lat.Arr, AV.agg avs = arA a ∧ OkA N a := by
  simp only [KAr, LfL, LfR] at h
  obtain ⟨_, _, rfl, ⟨k, rfl, w1⟩, _, _, rfl, ⟨r, rfl, w2⟩, _, _, rfl, ⟨l0, rfl, w3⟩, _, _, rfl, ⟨l1, rfl, w4⟩, v, _, rfl, h5, rfl⟩ := h
  obtain ⟨c, rfl, hc⟩ := lf_intsW (by simpa only [LfR, LfL] using h5)
  refine ⟨⟨k, r, l0, l1, c⟩, rfl, wf_in w1, wf_in w2, wf_in w3, wf_in w4, hc, ?_⟩
  have := hn _ rfl
  simpa using this
section
variable {H : Type} {enc : TypeId × Value → H} {P : Program} {W : World}
/-- a list that is a field -/
theorem sl_field {e ei : TypeId} {fs : Array Field} {j : Nat} {f : Field} (he : P.underlying e = some (.struct fs)) (hf : fs[j]? = some f) (hs : P.underlying f.type = some (.slice ei)) (h1 : P.cellsOf f.type = 1) (hb : 0 < P.bytesOf ei) {fuel : Nat} {cs : List Value} {x : DataW H × List MemPlace} {N : Nat}
    (h : DataW.trod enc P W 0 (fun _ => true) true fuel e cs = some x) (hw : ∀ n ∈ x.1.weights P e, n ≤ N) : ∃ a len cap, cs[f.offset]? = some (.slice a len cap) ∧ len ≤ N := by
  obtain ⟨xs, n, rfl, hx, hl, hxl, hall⟩ := DataW.trod_struct he h
  have h2 := hall j f hf
  have hjl : j < xs.length := by rw [hxl]; exact (Array.getElem?_eq_some_iff.1 hf).1
  rw [List.getElem?_eq_getElem hjl] at h2
  have at0 : ∀ v : Value, (cs.drop f.offset).take (P.cellsOf f.type) = [v] → cs[f.offset]? = some v := fun v e1 => by
    rw [h1] at e1
    have := congrArg (·[0]?) e1
    simpa [List.getElem?_take, List.getElem?_drop] using this
  rcases DataW.trod_slice hs h2 with ⟨e1, _⟩ | ⟨a, len, cap, elems, rest, m, _, e1, e2, _, _, _, hel, _⟩
  · exact ⟨_, _, _, at0 _ e1, Nat.zero_le _⟩
  · refine ⟨_, _, _, at0 _ e1, ?_⟩
    have hm : (elems.length + rest.length) * P.bytesOf ei ≤ N := by
      refine hw _ ?_
      rw [hx]
      simp only [DataW.weights, he]
      refine DataW.weights_mem_each (j := j) (t := f.type) (d := (xs[j]).1) (by simp [hf]) (by simp [List.getElem?_eq_getElem hjl]) _ ?_
      rw [e2]
      simp [DataW.weights, hs]
    have : elems.length + rest.length ≤ (elems.length + rest.length) * P.bytesOf ei := Nat.le_mul_of_pos_right _ hb
    omega
/-- A list of arrays. -/
theorem rel_arrs {t e ei : TypeId} {fs : Array Field} {n : Nat} {f : Field} {N : Nat} (ht : P.underlying t = some (.slice e)) (he : P.underlying e = some (.struct fs)) (hk : leaves P n e = some KAr) (hf : fs[3]? = some f) (ho : f.offset = 4) (hs : P.underlying f.type = some (.slice ei)) (h1 : P.cellsOf f.type = 1) (hb : 0 < P.bytesOf ei) (hc : 5 = P.cellsOf e)
    {v : Value} {fuel : Nat} {x : DataW H × List MemPlace} (h : DataW.trod enc P W 0 (fun _ => true) true fuel t [v] = some x) (hw : ∀ n ∈ x.1.weights P t, n ≤ N) : ∃ l : List Lat.Arr, Rel (lst arA .ro l) (gAll W) W v ∧ ∀ a ∈ l, OkA N a := by
  have hag : isAgg P e = true := by unfold isAgg; rw [he]
  obtain ⟨es, ⟨q1, q2⟩, q3⟩ := opens_sliceQ (Q := fun avs => ∀ l, avs[4]? = some (.sl .ro l) → l.length ≤ N) (C := fun y => ∀ n ∈ y.weights P e, n ≤ N) (ks := KAr) ht (fun fuel cs x hx hC => by
    obtain ⟨avs, l, r⟩ := opens_of n e KAr hk _ _ _ hx
    obtain ⟨a, len, cap, s1, s2⟩ := sl_field he hf hs h1 hb hx hC
    refine ⟨avs, ⟨fun l' hl' => ?_, l⟩, r⟩
    obtain ⟨v, v1, v2⟩ := relL_at r hl'
    rw [ho] at s1
    rw [s1] at v1
    cases v1
    simp only [Rel] at v2
    obtain ⟨_, _, _, _, e3, _⟩ := v2
    cases e3
    exact s2) hc (by decide) (by rw [hag]; rfl) (fun h => by rw [hag] at h; cases h) _ _ _ h (fun els rest hx y hy n hn => hw n (by
      rw [hx]
      simp only [DataW.weights, ht, List.mem_cons, List.mem_append]
      exact .inr (.inl (weights_mem_all hy n hn))))
  have key : ∀ es : List AV, (∀ y ∈ es, ∃ avs, ((∀ l, avs[4]? = some (.sl .ro l) → l.length ≤ N) ∧ LfL KAr avs) ∧ ((isAgg P e = true ∧ y = .agg avs) ∨ (isAgg P e = false ∧ avs = [y]))) → ∃ l : List Lat.Arr, es = l.map arA ∧ ∀ a ∈ l, OkA N a := by
    intro es
    induction es with
    | nil => exact fun _ => ⟨[], rfl, by simp⟩
    | cons y es ih =>
      intro hh
      obtain ⟨l, rfl, hl⟩ := ih fun e he => hh e (by simp [he])
      obtain ⟨avs, ⟨a1, a2⟩, a3 | a3⟩ := hh y (by simp)
      · obtain ⟨a, e1, e2⟩ := lf_arA a2 a1
        refine ⟨a :: l, by rw [a3.2, e1]; rfl, fun x hx => ?_⟩
        rcases List.mem_cons.1 hx with rfl | hx
        · exact e2
        · exact hl x hx
      · rw [hag] at a3; cases a3.1
  obtain ⟨l, rfl, hl⟩ := key es q2
  refine ⟨l, ?_, hl⟩
  simp only [RelL] at q3
  obtain ⟨_, _, q4, q5, _⟩ := q3
  cases q4
  exact q5
/-- A table. -/
theorem open_tab {t t0 t1 e0 e1 ei : TypeId} {f0 f1 : Field} {fs : Array Field} {n : Nat} {f : Field} {N : Nat} {v : Value} {d : DataW H} {p : List MemPlace} (hs : P.underlying t = some (.struct #[f0, f1])) (hone : oneCellFields P #[f0, f1] = true) (hC : P.cellsOf t = 2)
    (h0 : f0.type = t0) (h1 : f1.type = t1) (u0 : P.underlying t0 = some (.slice e0)) (w0 : P.underlying e0 = some .string) (c0 : P.cellsOf e0 = 1)
    (u1 : P.underlying t1 = some (.slice e1)) (he : P.underlying e1 = some (.struct fs)) (hk : leaves P n e1 = some KAr) (hf : fs[3]? = some f) (ho : f.offset = 4) (hfs : P.underlying f.type = some (.slice ei)) (hf1 : P.cellsOf f.type = 1) (hb : 0 < P.bytesOf ei) (hc : 5 = P.cellsOf e1)
    {b0 : Nat} (hv : Value.okWide P W .any b0 t v) (h : DataW.Trod enc P W 0 (fun _ => true) true t v d p) (hw : ∀ n ∈ d.weights P t, n ≤ N) : ∃ (ns : List (List UInt8)) (cs : List Lat.Arr), Rel (.agg [lst AV.str .ro ns, lst arA .ro cs]) (gAll W) W v ∧ ∀ a ∈ cs, OkA N a := by
  obtain ⟨v0, v1, y0, y1, m, rfl, rfl, _, k0, k1⟩ := open_agg2 hs hone hC hv h
  subst h0; subst h1
  obtain ⟨ns, r0⟩ := rel_strs u0 w0 c0 k0
  obtain ⟨cs, r1, hcs⟩ := rel_arrs u1 he hk hf ho hfs hf1 hb hc k1 (fun n hn => hw n (by
    simp only [DataW.weights, hs]
    exact DataW.weights_mem_each (j := 1) (t := f1.type) (d := y1.1) (by simp) (by simp) _ hn))
  refine ⟨ns, cs, ?_, hcs⟩
  simp only [Rel]
  refine ⟨[v0, v1], rfl, ?_⟩
  simp only [RelL]
  exact ⟨_, _, rfl, r0, _, _, rfl, r1, rfl⟩
/-- An array. -/
theorem open_arr {e ei : TypeId} {fs : Array Field} {n : Nat} {f : Field} {N : Nat} (he : P.underlying e = some (.struct fs)) (hk : leaves P n e = some KAr) (hf : fs[3]? = some f) (ho : f.offset = 4) (hs : P.underlying f.type = some (.slice ei)) (h1 : P.cellsOf f.type = 1) (hb : 0 < P.bytesOf ei)
    {v : Value} {d : DataW H} {p : List MemPlace} {b0 : Nat} (hv : Value.okWide P W .any b0 e v) (h : DataW.Trod enc P W 0 (fun _ => true) true e v d p) (hw : ∀ n ∈ d.weights P e, n ≤ N) : ∃ a : Lat.Arr, Rel (arA a) (gAll W) W v ∧ OkA N a := by
  obtain ⟨cs, rfl, _⟩ := okWide_struct he hv
  obtain ⟨fuel, hfu⟩ := h
  obtain ⟨avs, l, r⟩ := opens_of n e KAr hk _ _ _ hfu
  obtain ⟨a, len, cap, s1, s2⟩ := sl_field he hf hs h1 hb hfu hw
  obtain ⟨x, e1, e2⟩ := lf_arA (N := N) l fun l' hl' => by
    obtain ⟨v, v1, v2⟩ := relL_at r hl'
    rw [ho] at s1
    rw [s1] at v1
    cases v1
    simp only [Rel] at v2
    obtain ⟨_, _, _, _, e3, _⟩ := v2
    cases e3
    exact s2
  refine ⟨x, ?_, e2⟩
  rw [← e1]
  simp only [Rel]
  exact ⟨cs.toList, by simp, r⟩
end
end Go.Avm
