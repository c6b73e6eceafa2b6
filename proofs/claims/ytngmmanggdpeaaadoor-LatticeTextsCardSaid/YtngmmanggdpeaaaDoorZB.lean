/- Bytes as masks. -/
import Derived.Test.YtngmmanggdpeaaaDoorZ8
import Derived.Test.YtngmmanggdpeaaaDoorN1
import Derived.SliceStrings
import Derived.Lib.SmallJoins
import Derived.ChangeMaps5
set_option linter.unusedSectionVars false
set_option linter.unusedSimpArgs false
set_option linter.unusedVariables false

/- Bytes as masks. -/
namespace Go.Avm
open Go
theorem nat8 {n : Nat} (h : n ≤ 8) (a : Nat) (ha : a < 2 ^ n) : a < 256 :=
  Nat.lt_of_lt_of_le ha (Nat.le_trans (Nat.pow_le_pow_right (by omega) h) (by decide))
theorem bu_and {a b : Nat} (ha : a < 256) (hb : b < 256) : bits .and .u8 (a : Int) (b : Int) = ((a &&& b : Nat) : Int) := (bits_nat .u8 8 (by decide) wraps_u8 a b ha hb).1
theorem bu_or {a b : Nat} (ha : a < 256) (hb : b < 256) : bits .or .u8 (a : Int) (b : Int) = ((a ||| b : Nat) : Int) := (bits_nat .u8 8 (by decide) wraps_u8 a b ha hb).2
theorem bu_andNot {a b : Nat} (ha : a < 256) (hb : b < 256) : bits .andNot .u8 (a : Int) (b : Int) = ((a &&& (255 - b) : Nat) : Int) := by
  have h1 : a % 256 = a := Nat.mod_eq_of_lt ha
  have h2 : b % 256 = b := Nat.mod_eq_of_lt hb
  have h3 : a &&& (255 - b) < 256 := Nat.lt_of_le_of_lt Nat.and_le_left ha
  have e : bits .andNot .u8 (a : Int) (b : Int) = IntKind.u8.wrap (((BitVec.ofNat 8 a &&& ~~~ BitVec.ofNat 8 b).toNat : Nat) : Int) := by
    simp only [bits, BitVec.ofInt_natCast]; rfl
  rw [e, BitVec.toNat_and, BitVec.toNat_not, BitVec.toNat_ofNat, BitVec.toNat_ofNat]
  have e2 : a % 2 ^ 8 &&& (2 ^ 8 - 1 - b % 2 ^ 8) = a &&& (255 - b) := by
    rw [show a % 2 ^ 8 = a from h1, show b % 2 ^ 8 = b from h2]
  rw [e2, wu8 (by omega)]
theorem andNot0 {a b : Nat} (ha : a < 256) (hb : b < 256) : a &&& (255 - b) = 0 ↔ a &&& b = a := by
  have e : 255 - b = 2 ^ 8 - (b + 1) := by omega
  have hb' : b < 2 ^ 8 := hb
  have ha' : a < 2 ^ 8 := ha
  rw [e]
  constructor
  · intro h
    refine Lat.eq_of_bits (n := 8) (Nat.lt_of_le_of_lt Nat.and_le_left ha') ha' fun i hi => ?_
    have h1 : (a &&& (2 ^ 8 - (b + 1))).testBit i = false := by rw [h]; simp
    rw [Nat.testBit_and, Nat.testBit_two_pow_sub_succ hb'] at h1
    rw [Nat.testBit_and]
    revert h1
    simp only [hi, decide_true, Bool.true_and]
    cases a.testBit i <;> cases b.testBit i <;> simp
  · intro h
    refine Lat.eq_of_bits (n := 8) (Nat.lt_of_le_of_lt Nat.and_le_left ha') (by decide) fun i hi => ?_
    have h1 : (a &&& b).testBit i = a.testBit i := by rw [h]
    rw [Nat.testBit_and] at h1
    rw [Nat.testBit_and, Nat.testBit_two_pow_sub_succ hb']
    revert h1
    simp only [hi, decide_true, Bool.true_and]
    cases a.testBit i <;> cases b.testBit i <;> simp
theorem shr8 {a : Nat} (b : Nat) (ha : a < 256) : (a : Int).fdiv (2 ^ min b 8) = ((a >>> b : Nat) : Int) := by
  rw [Int.fdiv_eq_ediv_of_nonneg _ (Int.pow_nonneg (by decide)), Nat.shiftRight_eq_div_pow]
  by_cases h : b ≤ 8
  · rw [Nat.min_eq_left h]; norm_cast
  · rw [Nat.min_eq_right (by omega)]
    have h1 : a / 2 ^ b = 0 := Nat.div_eq_of_lt (Nat.lt_of_lt_of_le ha (Nat.le_trans (by decide) (Nat.pow_le_pow_right (by omega) (show 8 ≤ b by omega))))
    rw [h1]
    omega
theorem bit1 (a b : Nat) : a >>> b &&& 1 = if a.testBit b then 1 else 0 := by
  rw [Nat.and_one_is_mod, Nat.shiftRight_eq_div_pow, Nat.testBit_eq_decide_div_mod_eq]
  simp only [decide_eq_true_eq]
  split <;> omega
theorem shr_lt {a : Nat} (b : Nat) (ha : a < 256) : a >>> b < 256 := by
  rw [Nat.shiftRight_eq_div_pow]
  exact Nat.lt_of_le_of_lt (Nat.div_le_self _ _) ha
/-- The test of a bit. -/
theorem bt_and {a : Nat} (b : Nat) (ha : a < 256) : bits .and .u8 ((a : Int).fdiv (2 ^ min b 8)) 1 = if a.testBit b then 1 else 0 := by
  rw [shr8 b ha]
  have := bu_and (a := a >>> b) (b := 1) (shr_lt b ha) (by decide)
  rw [show ((1 : Nat) : Int) = 1 from rfl] at this
  rw [this, bit1]
  split <;> rfl
theorem bt_rem {a : Nat} (b : Nat) (ha : a < 256) : ((a : Int).fdiv (2 ^ min b 8)).tmod 2 = if a.testBit b then 1 else 0 := by
  rw [shr8 b ha, Int.tmod_eq_emod_of_nonneg (Int.natCast_nonneg _)]
  have := bit1 a b
  rw [Nat.and_one_is_mod] at this
  have h2 : ((a >>> b : Nat) : Int) % 2 = ((a >>> b % 2 : Nat) : Int) := by omega
  rw [h2, this]
  split <;> rfl
theorem if1 (b : Bool) : ((if b = true then (1 : Int) else 0) = 1) = (b = true) := by cases b <;> simp
theorem if0 (b : Bool) : ((if b = true then (1 : Int) else 0) = 0) = (b = false) := by cases b <;> simp
/-- One shifted. -/
theorem shl8 {b : Nat} (hb : b < 8) : IntKind.u8.wrap (1 * 2 ^ min b 8) = ((1 <<< b : Nat) : Int) := by
  rw [Nat.min_eq_left (by omega), Nat.one_shiftLeft, Int.one_mul]
  have h1 : 2 ^ b < 256 := Nat.lt_of_lt_of_le (Nat.pow_lt_pow_right (by omega) hb) (by decide)
  have : ((2 : Int) ^ b) = ((2 ^ b : Nat) : Int) := by norm_cast
  rw [this, wu8 ⟨Int.natCast_nonneg _, by omega⟩]
theorem shl8if {b : Nat} (hb : b < 8) (t : Bool) : IntKind.u8.wrap ((if t = true then 1 else 0) * 2 ^ min b 8) = ((if t = true then 1 <<< b else 0 : Nat) : Int) := by
  cases t with
  | true => exact shl8 hb
  | false => simp only [Bool.false_eq_true, if_false, Int.zero_mul]; rw [wu8 (by omega)]; rfl
theorem all8 {n : Nat} (hn : n ≤ 8) : IntKind.u8.wrap (IntKind.u8.wrap (1 * 2 ^ min n 8) - 1) = ((2 ^ n - 1 : Nat) : Int) := by
  have : n = 0 ∨ n = 1 ∨ n = 2 ∨ n = 3 ∨ n = 4 ∨ n = 5 ∨ n = 6 ∨ n = 7 ∨ n = 8 := by omega
  rcases this with rfl | rfl | rfl | rfl | rfl | rfl | rfl | rfl | rfl <;> decide
/-- A list's byte as a number. -/
theorem msk_u8 (up : List UInt8) (a : Nat) : u8 (up.getD a default) = .int .u8 ((Lat.msk up a : Nat) : Int) := id rfl
theorem getD_def (up : List UInt8) (a : Nat) : ((up.getD a default).toNat : Int) = ((Lat.msk up a : Nat) : Int) := id rfl
theorem getD_zero (up : List UInt8) (a : Nat) : ((up.getD a 0).toNat : Int) = ((Lat.msk up a : Nat) : Int) := id rfl
theorem b64_and {a b : Nat} (ha : a < 2 ^ 63) (hb : b < 2 ^ 63) : bits .and .i64 (a : Int) (b : Int) = ((a &&& b : Nat) : Int) := (bits_nat .i64 63 (by decide) wraps_i64 a b ha hb).1
theorem shr64n {a : Nat} (b : Nat) (hb : b ≤ 64) : (a : Int).fdiv (2 ^ min b 64) = ((a / 2 ^ b : Nat) : Int) := by
  rw [Int.fdiv_eq_ediv_of_nonneg _ (Int.pow_nonneg (by decide)), Nat.min_eq_left hb]
  norm_cast
theorem all64 {n : Nat} (hn : n ≤ 8) : IntKind.i64.wrap (IntKind.i64.wrap (1 * 2 ^ min n 64) - 1) = ((2 ^ n - 1 : Nat) : Int) := by
  have : n = 0 ∨ n = 1 ∨ n = 2 ∨ n = 3 ∨ n = 4 ∨ n = 5 ∨ n = 6 ∨ n = 7 ∨ n = 8 := by omega
  rcases this with rfl | rfl | rfl | rfl | rfl | rfl | rfl | rfl | rfl <;> decide
theorem div_pos2 {a n : Nat} : (0 : Int) < ((a / 2 ^ n : Nat) : Int) ↔ ¬ a < 2 ^ n := by
  have h1 : (0 : Int) < ((a / 2 ^ n : Nat) : Int) ↔ 0 < a / 2 ^ n := by omega
  rw [h1, Nat.div_pos_iff]
  have := Nat.two_pow_pos n
  omega
theorem msk63 (up : List UInt8) (a : Nat) : Lat.msk up a < 2 ^ 63 := Nat.lt_trans (Lat.msk_lt up a) (by decide)
theorem mskw (up : List UInt8) (a : Nat) : IntKind.i64.wrap ((Lat.msk up a : Nat) : Int) = ((Lat.msk up a : Nat) : Int) := wi64 (by have := Lat.msk_lt up a; omega)
theorem p63 {n : Nat} (hn : n ≤ 8) : 2 ^ n - 1 < 2 ^ 63 := by
  have : 2 ^ n ≤ 2 ^ 8 := Nat.pow_le_pow_right (by omega) hn
  omega
/-- The next round of a loop that counts. -/
theorem nxt1 {n i : Nat} {P : Nat → Prop} (hi : i < n) (h : ∀ j, j < i → P j) (hp : P i) (hn : n < 9223372036854775807) :
    ∃ j, n - j < n - i ∧ (j ≤ n ∧ ∀ k, k < j → P k) ∧ AV.int .i64 (IntKind.i64.wrap ((i : Int) + 1)) = AV.int .i64 (j : Int) :=
  ⟨i + 1, by omega, ⟨by omega, fun k hk => by
    by_cases e : k = i
    · rw [e]; exact hp
    · exact h k (by omega)⟩, by rw [wi64 (by omega)]; rfl⟩
theorem no_lt0 {P : Nat → Prop} (j : Nat) (h : j < 0) : P j := absurd h (Nat.not_lt_zero j)
/-- The struct of a lattice. -/
def latV (names : List (List UInt8)) (up : List UInt8) : AV := .agg [lst AV.str .ro names, lst u8 .ro up]
/-- A table. -/
def tb (n : Nat) (f : Nat → AV) : List AV := (List.range n).map f
theorem tb_len (n : Nat) (f : Nat → AV) : (tb n f).length = n := by simp [tb]
theorem tb_get? {n i : Nat} (f : Nat → AV) (h : i < n) : (tb n f)[i]? = some (f i) := by simp [tb, List.getElem?_range h]
theorem tb_getD {n i : Nat} (f : Nat → AV) (d : AV) (h : i < n) : (tb n f).getD i d = f i := by
  rw [List.getD_eq_getElem?_getD, tb_get? f h]; rfl
theorem tb_congr {n : Nat} {f f' : Nat → AV} (h : ∀ i, i < n → f i = f' i) : tb n f = tb n f' :=
  List.map_congr_left fun i hi => h i (List.mem_range.1 hi)
theorem tb_set {n i : Nat} (f : Nat → AV) (v : AV) : (tb n f).set i v = tb n (fun j => if j = i then v else f j) := by
  apply List.ext_getElem?
  intro k
  rw [List.getElem?_set]
  by_cases hk : k < n
  · rw [tb_get? _ hk, tb_len]
    by_cases hki : i = k
    · subst hki; simp [hk, tb_get? _ hk]
    · rw [if_neg hki, tb_get? _ hk, if_neg (fun e => hki e.symm)]
  · have h1 : (tb n f)[k]? = none := by rw [List.getElem?_eq_none]; rw [tb_len]; omega
    have h2 : (tb n (fun j => if j = i then v else f j))[k]? = none := by rw [List.getElem?_eq_none]; rw [tb_len]; omega
    rw [h1, h2, tb_len]
    split <;> simp; omega
theorem tb_rep (n : Nat) (v : AV) : List.replicate n v = tb n (fun _ => v) := by
  apply List.ext_getElem
  · simp [tb]
  · intro i h1 h2; simp [tb]
theorem rc_1 (n : Nat) (v : AV) : repCells n [v] = tb n (fun _ => v) := tb_rep n v
theorem sc_1 (cs : List AV) (i : Nat) (v : AV) : setCells cs i [v] = cs.set i v := id rfl
theorem sc_tb (n i : Nat) (f : Nat → AV) (v : AV) : setCells (tb n f) i [v] = tb n (fun j => if j = i then v else f j) := tb_set f v
abbrev n8 (m : Nat) : AV := .int .u8 (m : Int)
theorem ix_rsl (sz id0 off m cp s : Nat) (k : IntKind) (n : Int) : idxX sz (.rsl id0 off m cp s) (.int k n) = some (decide (0 ≤ n) && decide (n < m) && decide (s = sz), .ptr id0 (off + n.toNat * sz), none) := id rfl
theorem tb_u8 {n : Nat} {g : Nat → Nat} (p : Perm) (h : ∀ c, c < n → g c < 256) : AV.sl p (tb n fun c => n8 (g c)) = lst u8 p ((List.range n).map fun c => UInt8.ofNat (g c)) := by
  simp only [lst, tb, List.map_map]
  congr 1
  refine List.map_congr_left fun c hc => ?_
  have := h c (List.mem_range.1 hc)
  simp only [n8, Function.comp, u8, UInt8.toNat_ofNat']
  rw [Nat.mod_eq_of_lt this]
theorem tb_all (n : Nat) (k : IntKind) (g : Nat → Int) : (tb n fun c => .int k (g c)).all scalarB = true := by simp [tb, scalarB]
theorem tb_fin (H : Heap) (m n : Nat) (k : IntKind) (g : Nat → Int) : (tb n fun c => .int k (g c)).map (fin H m) = tb n fun c => .int k (g c) := by
  simp only [tb, List.map_map]
  refine List.map_congr_left fun c _ => ?_
  simp only [Function.comp, fi_i]
theorem tb_take (n : Nat) (f : Nat → AV) : (tb n f).take n = tb n f := by
  rw [List.take_of_length_le (by rw [tb_len]; exact Nat.le_refl _)]
theorem tb_allb (n : Nat) (g : Nat → Bool) : (tb n fun c => .bool (g c)).all scalarB = true := by simp [tb, scalarB]
theorem tb_finb (H : Heap) (m n : Nat) (g : Nat → Bool) : (tb n fun c => .bool (g c)).map (fin H m) = tb n fun c => .bool (g c) := by
  simp only [tb, List.map_map]
  refine List.map_congr_left fun c _ => ?_
  simp only [Function.comp, fi_b]
theorem dryL_map : ∀ l : List AV, dryL l = l.map dry
  | [] => rfl
  | x :: l => by simp only [dryL, List.map_cons, dryL_map l]
theorem tb_dryb (n : Nat) (g : Nat → Bool) : dryL (tb n fun c => .bool (g c)) = tb n fun c => .bool (g c) := by
  rw [dryL_map]
  simp only [tb, List.map_map]
  exact List.map_congr_left fun c _ => rfl
theorem tb_dry (n : Nat) (k : IntKind) (g : Nat → Int) : dryL (tb n fun c => .int k (g c)) = tb n fun c => .int k (g c) := by
  rw [dryL_map]
  simp only [tb, List.map_map]
  exact List.map_congr_left fun c _ => rfl
theorem setCells_full : ∀ (vs cs : List AV) (pre : List AV), cs.length = vs.length → setCells (pre ++ cs) pre.length vs = pre ++ vs
  | [], cs, pre, h => by
    have : cs = [] := List.length_eq_zero_iff.1 h
    subst this; rfl
  | v :: vs, [], pre, h => by simp at h
  | v :: vs, c :: cs, pre, h => by
    simp only [setCells, List.set_append_right _ _ (Nat.le_refl _), Nat.sub_self, List.set_cons_zero]
    have := setCells_full vs cs (pre ++ [v]) (by simpa using h)
    simpa using this
theorem sc_full (n : Nat) (f g : Nat → AV) : setCells (tb n f) 0 (tb n g) = tb n g := by
  have := setCells_full (tb n g) (tb n f) [] (by rw [tb_len, tb_len])
  simpa using this
theorem ld_tb {H : Heap} {n i : Nat} (f : Nat → AV) (h : i < n) : ldX H (.vp ((tb n f).drop i)) = some (true, f i, none) := by
  have h1 : i < (tb n f).length := by rw [tb_len]; exact h
  rw [List.drop_eq_getElem_cons h1]
  have h2 := tb_get? f h
  rw [List.getElem?_eq_getElem h1] at h2
  simp only [Option.some.injEq] at h2
  rw [h2]
  rfl
theorem sc_any {n : Nat} {cs : List AV} (f : Nat → AV) (h : cs.length = n) : setCells cs 0 (tb n f) = tb n f := by
  have := setCells_full (tb n f) cs [] (by rw [tb_len, h])
  simpa using this
theorem tb_sub {n o m : Nat} (f : Nat → AV) (h : o + m ≤ n) : ((tb n f).drop o).take m = tb m (fun k => f (o + k)) := by
  apply List.ext_getElem?
  intro i
  rw [List.getElem?_take]
  split
  · rename_i hi
    rw [List.getElem?_drop, tb_get? _ (by omega), tb_get? _ hi]
  · rename_i hi
    rw [eq_comm, List.getElem?_eq_none]; rw [tb_len]; omega
attribute [go_sem] ix_rsl tb_allb sc_any tb_finb tb_dryb tb_dry sc_full tb_all tb_fin tb_take tb_len Nat.le_refl rc_1
end Go.Avm

/- The start of a law's call: lattices, texts. -/
namespace Go.Avm
open Go Go.ChangeShapes Go.WideShapes Go.ChangeAt Go.WideElems Go.RowKit Go.Lib Go.Joins Go.ChangeMaps Go.Deep
section
variable {H : Type} {enc : TypeId × Value → H} {P : Program} {W : World}
theorem relL_strs {g : Gh} {w : World} : ∀ ss : List ByteArray, RelL (ss.map fun s => AV.str s.data.toList) g w (ss.map Value.string)
  | [] => by simp [RelL]
  | z :: t => by
    simp only [List.map_cons, RelL]
    exact ⟨_, _, rfl, by simp only [Rel]; exact ⟨z, rfl, rfl⟩, relL_strs t⟩
theorem lies_one {W : World} {b o : Nat} {vs : List Value} (h : ∀ i x, vs[i]? = some x → x.cells = #[x] ∧ W.cell? ⟨b, o + i, none⟩ = some x) : Lies (gAll W) W (some ⟨b, o, none⟩) 1 vs := by
  refine .inr ⟨b, o, rfl, fun i x hx => ?_⟩
  obtain ⟨h1, h2⟩ := h i x hx
  refine ⟨by rw [h1]; rfl, fun j c hj => ?_⟩
  rw [h1] at hj
  have hj0 : j = 0 ∧ c = x := by
    match j with
    | 0 => simp at hj; exact ⟨rfl, hj.symm⟩
    | j + 1 => simp at hj
  obtain ⟨rfl, rfl⟩ := hj0
  rw [Nat.mul_one, Nat.add_zero]
  exact ⟨S_of_cell h2, h2⟩
theorem rel_ints {t e : TypeId} {k : IntKind} {v : Value} {fuel : Nat} {x : DataW H × List MemPlace} (ht : P.underlying t = some (.slice e)) (he : P.underlying e = some (.int k)) (hc : P.cellsOf e = 1)
    (h : DataW.trod enc P W 0 (fun _ => true) true fuel t [v] = some x) : ∃ zs : List Int, (∀ z ∈ zs, (Lit.int k z).wf = true) ∧ Rel (lst (AV.int k) .ro zs) (gAll W) W v := by
  rcases ChangeShapes.open_ints ht he hc h with ⟨hcs, _⟩ | ⟨a, len, cap, zs, hcs, _, hlc, hm, hzl, _, hcell, hwf⟩
  · simp only [List.cons.injEq, and_true] at hcs
    subst hcs
    refine ⟨[], by simp, ?_⟩
    simp only [lst, Rel, List.map_nil, List.length_nil]
    exact ⟨_, _, [], 1, rfl, Nat.le_refl _, by simp [RelL], .inl rfl, trivial⟩
  · simp only [List.cons.injEq, and_true] at hcs
    subst hcs
    simp only [if_true] at hzl
    have htl : (zs.take len).length = len := by rw [List.length_take]; omega
    refine ⟨zs.take len, fun z hz => hwf z (List.mem_of_mem_take hz), ?_⟩
    simp only [lst, Rel, List.length_map, htl]
    refine ⟨some a, cap, (zs.take len).map (Value.int k), 1, rfl, hlc, relL_ints k _, ?_, trivial⟩
    cases hl : len with
    | zero => left; simp
    | succ m =>
      have h0 := hcell 0 (by omega)
      have hsp := cell_plain h0
      simp only [Addr.add, if_true] at hsp
      obtain ⟨b, o, s⟩ := a
      simp only at hsp
      subst hsp
      refine lies_one fun i y hy => ?_
      simp only [List.getElem?_map, Option.map_eq_some_iff] at hy
      obtain ⟨z, hz, rfl⟩ := hy
      have hi : i < m + 1 := by
        rw [List.getElem?_take] at hz
        split at hz
        · assumption
        · cases hz
      rw [List.getElem?_take, if_pos hi] at hz
      have hz' : zs.getD i 0 = z := by simp [List.getD, hz]
      have hci := hcell i (by omega)
      rw [hz'] at hci
      have had : (Addr.mk b o none).add i = ⟨b, o + i, none⟩ := by
        simp only [Addr.add]; split <;> simp_all
      rw [had] at hci
      exact ⟨rfl, hci⟩
theorem rel_strs {t e : TypeId} {v : Value} {fuel : Nat} {x : DataW H × List MemPlace} (ht : P.underlying t = some (.slice e)) (he : P.underlying e = some .string) (hc : P.cellsOf e = 1)
    (h : DataW.trod enc P W 0 (fun _ => true) true fuel t [v] = some x) : ∃ ss : List (List UInt8), Rel (lst AV.str .ro ss) (gAll W) W v := by
  rcases open_strings ht he hc h with ⟨hcs, _⟩ | ⟨a, len, cap, ss, hcs, _, hlc, hm, hzl, _, hcell, hwf⟩
  · simp only [List.cons.injEq, and_true] at hcs
    subst hcs
    refine ⟨[], ?_⟩
    simp only [lst, Rel, List.map_nil, List.length_nil]
    exact ⟨_, _, [], 1, rfl, Nat.le_refl _, by simp [RelL], .inl rfl, trivial⟩
  · simp only [List.cons.injEq, and_true] at hcs
    subst hcs
    simp only [if_true] at hzl
    have htl : (ss.take len).length = len := by rw [List.length_take]; omega
    refine ⟨(ss.take len).map fun s => s.data.toList, ?_⟩
    simp only [lst, Rel, List.length_map, htl, List.map_map]
    refine ⟨some a, cap, (ss.take len).map Value.string, 1, rfl, hlc, relL_strs _, ?_, trivial⟩
    cases hl : len with
    | zero => left; simp
    | succ m =>
      have h0 := hcell 0 (by omega)
      have hsp := cell_plain h0
      simp only [Addr.add, if_true] at hsp
      obtain ⟨b, o, s⟩ := a
      simp only at hsp
      subst hsp
      refine lies_one fun i y hy => ?_
      simp only [List.getElem?_map, Option.map_eq_some_iff] at hy
      obtain ⟨z, hz, rfl⟩ := hy
      have hi : i < m + 1 := by
        rw [List.getElem?_take] at hz
        split at hz
        · assumption
        · cases hz
      rw [List.getElem?_take, if_pos hi] at hz
      have hz' : ss.getD i ByteArray.empty = z := by simp [List.getD, hz]
      have hci := hcell i (by omega)
      rw [hz'] at hci
      have had : (Addr.mk b o none).add i = ⟨b, o + i, none⟩ := by
        simp only [Addr.add]; split <;> simp_all
      rw [had] at hci
      exact ⟨rfl, hci⟩
def byteZ (z : Int) : UInt8 := UInt8.ofNat z.toNat
theorem u8_byteZ {z : Int} (h : 0 ≤ z ∧ z < 256) : u8 (byteZ z) = .int .u8 z := by
  simp only [u8, byteZ, UInt8.toNat_ofNat', AV.int.injEq, true_and]
  omega
theorem rel_bytes {W : World} {v : Value} {zs : List Int} (hz : ∀ z ∈ zs, (Lit.int .u8 z).wf = true) (h : Rel (lst (AV.int .u8) .ro zs) (gAll W) W v) : Rel (lst u8 .ro (zs.map byteZ)) (gAll W) W v := by
  have : lst u8 .ro (zs.map byteZ) = lst (AV.int .u8) .ro zs := by
    simp only [lst, List.map_map, AV.sl.injEq, true_and]
    exact List.map_congr_left fun z hzz => u8_byteZ (wf_u8 (hz z hzz))
  rw [this]; exact h
/-- A lattice. -/
theorem open_lat {t t0 t1 e0 e1 : TypeId} {f0 f1 : Field} {v : Value} {d : DataW H} {p : List MemPlace} (hs : P.underlying t = some (.struct #[f0, f1])) (hone : oneCellFields P #[f0, f1] = true) (hC : P.cellsOf t = 2)
    (h0 : f0.type = t0) (h1 : f1.type = t1) (u0 : P.underlying t0 = some (.slice e0)) (u1 : P.underlying t1 = some (.slice e1)) (w0 : P.underlying e0 = some .string) (w1 : P.underlying e1 = some (.int .u8)) (c0 : P.cellsOf e0 = 1) (c1 : P.cellsOf e1 = 1)
    {b0 : Nat} (hv : Value.okWide P W .any b0 t v) (h : DataW.Trod enc P W 0 (fun _ => true) true t v d p) : ∃ (ns : List (List UInt8)) (up : List UInt8), Rel (latV ns up) (gAll W) W v := by
  obtain ⟨v0, v1, y0, y1, n, rfl, _, _, k0, k1⟩ := open_agg2 hs hone hC hv h
  subst h0; subst h1
  obtain ⟨ns, r0⟩ := rel_strs u0 w0 c0 k0
  obtain ⟨zs, hz, r1⟩ := rel_ints u1 w1 c1 k1
  refine ⟨ns, zs.map byteZ, ?_⟩
  simp only [latV, Rel]
  refine ⟨[v0, v1], rfl, ?_⟩
  simp only [RelL]
  exact ⟨_, _, rfl, r0, _, _, rfl, rel_bytes hz r1, rfl⟩
theorem open_strsW {t e : TypeId} {v : Value} {d : DataW H} {p : List MemPlace} (ht : P.underlying t = some (.slice e)) (he : P.underlying e = some .string) (hc : P.cellsOf e = 1) {b0 : Nat} (hv : Value.okWide P W .any b0 t v) (h : DataW.Trod enc P W 0 (fun _ => true) true t v d p) :
    ∃ ss : List (List UInt8), Rel (lst AV.str .ro ss) (gAll W) W v := by
  obtain ⟨a0, len, cap, rfl⟩ := okWide_slice ht hv
  obtain ⟨fuel, hf⟩ := h
  exact rel_strs ht he hc hf
theorem open_strW {t : TypeId} {v : Value} {d : DataW H} {p : List MemPlace} (ht : P.underlying t = some .string) {b0 : Nat} (hv : Value.okWide P W .any b0 t v) (h : DataW.Trod enc P W 0 (fun _ => true) true t v d p) :
    ∃ s : List UInt8, Rel (.str s) (gAll W) W v := by
  obtain ⟨s, rfl, _, _, _⟩ := open_string ht hv h
  exact ⟨s.data.toList, by simp only [Rel]; exact ⟨s, rfl, rfl⟩⟩
end
end Go.Avm
