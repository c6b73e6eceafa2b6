/- Contracts of the functions that the statements reach. -/
import Derived.Test.YtpdhdilhlkpiaaaDoorT2
set_option linter.unusedSectionVars false
set_option linter.unusedSimpArgs false
set_option linter.unusedVariables false

namespace Go.Avm
open Go
/-- The table of first bytes. -/
def fb (a : Int) : Int := if a < 128 then 240 else if a < 194 then 241 else if a < 224 then 2 else if a = 224 then 19 else if a = 237 then 35 else if a < 240 then 3 else if a = 240 then 52 else if a < 244 then 4 else if a = 244 then 68 else 241
def tab0 : List AV := (List.range 256).map fun i : Nat => .int .u8 (fb i)
def tab1 : List AV := [128, 191, 160, 191, 128, 159, 144, 191, 128, 143, 0, 0, 0, 0, 0, 0, 0, 0, 0, 0, 0, 0, 0, 0, 0, 0, 0, 0, 0, 0, 0, 0].map (AV.int .u8)
theorem tab0_drop (l : List UInt8) (i : Nat) : List.drop ((bt l i).toNat * 1) tab0 = .int .u8 (fb (bt l i)) :: List.drop ((bt l i).toNat + 1) tab0 := by
  have h := bt_rng l i
  have : (bt l i).toNat < tab0.length := by simp only [tab0, List.length_map, List.length_range]; omega
  rw [Nat.mul_one, List.drop_eq_getElem_cons this]
  simp only [tab0, List.getElem_map, List.getElem_range]
  rw [Int.toNat_of_nonneg h.1]
theorem bt_def (l : List UInt8) (i : Nat) : (((l.getD i default).toNat : Nat) : Int) = bt l i := rfl
set_option maxRecDepth 4000
section
variable {X : Cx} (hX : X.P = Go.Proofs.Tryd.prog) (hs : Std X) (hG0 : X.G 0 = some tab0) (hG1 : X.G 1 = some tab1)
include hX hs hG0 hG1
theorem ev_dslow_in (l : List UInt8) (p : Perm) (h0 : ¬ (l.length : Int) < 1) (c sz q a b x y : Int) (tl : List AV) (hf : fb (bt l 0) = c) (k0 : ¬ 240 ≤ c) (k1 : bits .and .u8 c 7 = sz) (k2 : Int.fdiv c (2 ^ min 4 8) = q) (kq : 0 ≤ q ∧ q < 16) (k3 : List.drop (q.toNat * 2) tab1 = .int .u8 a :: .int .u8 b :: tl) (k4 : IntKind.i64.wrap sz = sz) (k5 : 2 ≤ sz ∧ sz ≤ 4)
    (hbad : l.length < sz ∨ bt l 1 < a ∨ b < bt l 1 ∨ 3 ≤ sz ∧ (bt l 2 < 128 ∨ 191 < bt l 2) ∨ 4 ≤ sz ∧ (bt l 3 < 128 ∨ 191 < bt l 3) → x = 65533 ∧ y = 1)
    (h2 : sz = 2 → 2 ≤ (l.length : Int) → a ≤ bt l 1 → bt l 1 ≤ b → x = bt l 0 % 32 * 64 + bt l 1 % 64 ∧ y = 2)
    (h3 : sz = 3 → 3 ≤ (l.length : Int) → a ≤ bt l 1 → bt l 1 ≤ b → 128 ≤ bt l 2 → bt l 2 ≤ 191 → x = bt l 0 % 16 * 4096 + bt l 1 % 64 * 64 + bt l 2 % 64 ∧ y = 3)
    (h4 : sz = 4 → 4 ≤ (l.length : Int) → a ≤ bt l 1 → bt l 1 ≤ b → 128 ≤ bt l 2 → bt l 2 ≤ 191 → 128 ≤ bt l 3 → bt l 3 ≤ 191 → x = bt l 0 % 8 * 262144 + bt l 1 % 64 * 4096 + bt l 2 % 64 * 64 + bt l 3 % 64 ∧ y = 4) :
    Ev X 50 [lst u8 p l] (.tuple [.int .i32 x, .int .i64 y]) := by
  have b0 := bt_rng l 0; have b1 := bt_rng l 1; have b2 := bt_rng l 2; have b3 := bt_rng l 3
  have n31 : ∀ z : Int, 0 ≤ z ∧ z < 256 → IntKind.i32.wrap (bits .and .u8 z 31) = z % 32 := fun z hz => by rw [u8_and31 z hz.1 hz.2, wi32 (by omega)]
  have n15 : ∀ z : Int, 0 ≤ z ∧ z < 256 → IntKind.i32.wrap (bits .and .u8 z 15) = z % 16 := fun z hz => by rw [u8_and15 z hz.1 hz.2, wi32 (by omega)]
  have n7 : ∀ z : Int, 0 ≤ z ∧ z < 256 → IntKind.i32.wrap (bits .and .u8 z 7) = z % 8 := fun z hz => by rw [u8_and7 z hz.1 hz.2, wi32 (by omega)]
  have n63 : ∀ z : Int, 0 ≤ z ∧ z < 256 → IntKind.i32.wrap (bits .and .u8 z 63) = z % 64 := fun z hz => by rw [u8_and63 z hz.1 hz.2, wi32 (by omega)]
  have s6 : ∀ z : Int, 0 ≤ z ∧ z < 64 → IntKind.i32.wrap (z * 2 ^ min 6 32) = z * 64 := fun z hz => wi32 (by have : (2:Int) ^ min 6 32 = 64 := by decide
                                                                                                             rw [this]; omega)
  have s12 : ∀ z : Int, 0 ≤ z ∧ z < 64 → IntKind.i32.wrap (z * 2 ^ min 12 32) = z * 4096 := fun z hz => wi32 (by have : (2:Int) ^ min 12 32 = 4096 := by decide
                                                                                                                 rw [this]; omega)
  have s18 : ∀ z : Int, 0 ≤ z ∧ z < 64 → IntKind.i32.wrap (z * 2 ^ min 18 32) = z * 262144 := fun z hz => wi32 (by have : (2:Int) ^ min 18 32 = 262144 := by decide
                                                                                                                   rw [this]; omega)
  refine ev_of_wpc hs (A50_ok hX) 0 ?_
  have hc : ∀ x y z w : AV, setCells [x, y] 0 [z, w] = [z, w] := fun _ _ _ _ => rfl
  have sB : ∀ k n, scalarB (.int k n) = true := fun _ _ => rfl
  simp only [A50, go_sem, Nat.reduceBEq, Nat.reduceEqDiff, Nat.reduceAdd, Int.reduceAdd, Nat.reduceMul, Nat.reduceSub, Int.reduceToNat, Int.reduceLE, Int.reduceLT, Int.reduceEq, Int.reduceNe, reduceCtorEq, Nat.reduceLT, Nat.reduceLeDiff, hG0, hG1, tab0_drop, bt_def, hf, k0, k1, k2, k3, kq.1, kq.2, k4, hc, sB, IntKind.bits, h0, n31 _ b0, n15 _ b0, n7 _ b0, n63 _ b1, n63 _ b2, n63 _ b3, AV.tuple.injEq, List.cons.injEq, AV.int.injEq]
  rw [s6 _ (by omega), s12 _ (by omega), s6 (bt l 1 % 64) (by omega), s18 _ (by omega), s12 (bt l 1 % 64) (by omega), s6 (bt l 2 % 64) (by omega)]
  rw [i32_or6 (x := bt l 0 % 32 * 64) (y := bt l 1 % 64) (by omega) (by omega) (by omega) (by omega) (by omega), i32_or12 (x := bt l 0 % 16 * 4096) (y := bt l 1 % 64 * 64) (by omega) (by omega) (by omega) (by omega) (by omega),
    i32_or6 (x := bt l 0 % 16 * 4096 + bt l 1 % 64 * 64) (y := bt l 2 % 64) (by omega) (by omega) (by omega) (by omega) (by omega),
    i32_or18 (x := bt l 0 % 8 * 262144) (y := bt l 1 % 64 * 4096) (by omega) (by omega) (by omega) (by omega) (by omega), i32_or12 (x := bt l 0 % 8 * 262144 + bt l 1 % 64 * 4096) (y := bt l 2 % 64 * 64) (by omega) (by omega) (by omega) (by omega) (by omega),
    i32_or6 (x := bt l 0 % 8 * 262144 + bt l 1 % 64 * 4096 + bt l 2 % 64 * 64) (y := bt l 3 % 64) (by omega) (by omega) (by omega) (by omega) (by omega)]
  clear s6 s12 s18 n31 n15 n7 n63 hf k1 k2 k3 k4 hc sB hX hs hG0 hG1
  have B := fun h => (⟨(hbad h).1.symm, (hbad h).2.symm⟩ : 65533 = x ∧ 1 = y)
  have B2 := fun a b c d => (⟨(h2 a b c d).1.symm, (h2 a b c d).2.symm⟩ : _ = x ∧ 2 = y)
  have B3 := fun a b c d e f => (⟨(h3 a b c d e f).1.symm, (h3 a b c d e f).2.symm⟩ : _ = x ∧ 3 = y)
  have B4 := fun a b c d e f g h => (⟨(h4 a b c d e f g h).1.symm, (h4 a b c d e f g h).2.symm⟩ : _ = x ∧ 4 = y)
  clear hbad h2 h3 h4
  generalize (l.length : Int) = n at *
  generalize bt l 0 = d0 at *
  generalize bt l 1 = d1 at *
  generalize bt l 2 = d2 at *
  generalize bt l 3 = d3 at *
  refine ⟨by omega, b0, fun c1 => B (.inl c1), fun c1 => ⟨by clear B B2 B3 B4; omega, fun c2 => B (.inr (.inl c2)), fun c2 => ⟨fun c3 => B (.inr (.inr (.inl c3))), fun c3 => ⟨fun c4 => B2 ?_ ?_ ?_ ?_, fun c4 => ⟨by clear B B2 B3 B4; omega, fun c5 => B ?_, fun c5 => ⟨fun c6 => B ?_, fun c6 => ⟨fun c7 => B3 ?_ ?_ ?_ ?_ ?_ ?_, fun c7 => ⟨by clear B B2 B3 B4; omega, fun c8 => B ?_, fun c8 => ⟨fun c9 => B ?_, fun c9 => B4 ?_ ?_ ?_ ?_ ?_ ?_ ?_ ?_⟩⟩⟩⟩⟩⟩⟩⟩⟩
  all_goals clear B B2 B3 B4
  all_goals omega
end
end Go.Avm

namespace Go.Avm
open Go
theorem i32_not0 {a : Int} (h : 0 ≤ a ∧ a < 256) : bits .or .i32 (bits .andNot .i32 (IntKind.i32.wrap a) 0) 0 = a := by
  have : ∀ n : Fin 256, bits .or .i32 (bits .andNot .i32 (IntKind.i32.wrap ((n.val : Nat) : Int)) 0) 0 = ((n.val : Nat) : Int) := by decide +kernel
  have := this ⟨a.toNat, by omega⟩
  simpa [Int.toNat_of_nonneg h.1] using this
theorem i32_notm {a : Int} (h : 0 ≤ a ∧ a < 256) : bits .or .i32 (bits .andNot .i32 (IntKind.i32.wrap a) (-1)) 65533 = 65533 := by
  have : ∀ n : Fin 256, bits .or .i32 (bits .andNot .i32 (IntKind.i32.wrap ((n.val : Nat) : Int)) (-1)) 65533 = 65533 := by decide +kernel
  have := this ⟨a.toNat, by omega⟩
  simpa [Int.toNat_of_nonneg h.1] using this
/-- what DecodeRune answers -/
def dvr (l : List UInt8) : Int := match dec l with | some (r, _) => r | none => 65533
def dvn (l : List UInt8) : Int := match dec l with | some (_, n) => (n : Int) | none => if l = [] then 0 else 1
theorem dec_nil : dec [] = none := rfl
theorem dv_some {l : List UInt8} {r : Int} {n : Nat} (h : dec l = some (r, n)) : r = dvr l ∧ (n : Int) = dvn l := by simp [dvr, dvn, h]
theorem dv_none {l : List UInt8} (h : dec l = none) (hl : l ≠ []) : 65533 = dvr l ∧ (1 : Int) = dvn l := by simp [dvr, dvn, h, hl]
section
variable {X : Cx} (hX : X.P = Go.Proofs.Tryd.prog) (hs : Std X) (hG0 : X.G 0 = some tab0) (hG1 : X.G 1 = some tab1)
include hX hs hG0 hG1
theorem ev_dslow (l : List UInt8) (p : Perm) : Ev X 50 [lst u8 p l] (.tuple [.int .i32 (dvr l), .int .i64 (dvn l)]) := by
  have b0 := bt_rng l 0; have b1 := bt_rng l 1; have b2 := bt_rng l 2; have b3 := bt_rng l 3
  have hd : dec l = decI l.length (bt l 0) (bt l 1) (bt l 2) (bt l 3) := rfl
  have hL := lohi (bt l 0)
  by_cases h0 : (l.length : Int) < 1
  · have : l = [] := List.length_eq_zero_iff.1 (by omega)
    subst this
    refine ev_of_wpc hs (A50_ok hX) 0 ?_
    simp only [A50, go_sem, Nat.reduceBEq, Nat.reduceEqDiff, Nat.reduceAdd, Int.reduceAdd, Nat.reduceMul, Nat.reduceSub, Int.reduceToNat, Int.reduceLE, Int.reduceLT, Int.reduceEq, Int.reduceNe, reduceCtorEq, Nat.reduceLT, Nat.reduceLeDiff, hG0, hG1, lst, show dvr [] = 65533 from rfl, show dvn [] = 0 from rfl]
  have hl : l ≠ [] := fun h => h0 (by subst h; decide)
  simp only [decI, if_neg h0] at hd
  by_cases c1 : bt l 0 < 128
  · rw [if_pos c1] at hd
    have k : fb (bt l 0) = 240 := by simp only [fb]; rw [if_pos c1]
    have k1 : Int.fdiv (IntKind.i32.wrap (IntKind.i32.wrap 240 * 2 ^ min 31 32)) (2 ^ min 31 32) = 0 := by decide
    have k2 : bits .and .i32 65533 0 = 0 := by decide
    refine ev_of_wpc hs (A50_ok hX) 0 ?_
    simp only [A50, go_sem, Nat.reduceBEq, Nat.reduceEqDiff, Nat.reduceAdd, Int.reduceAdd, Nat.reduceMul, Nat.reduceSub, Int.reduceToNat, Int.reduceLE, Int.reduceLT, Int.reduceEq, Int.reduceNe, reduceCtorEq, Nat.reduceLT, Nat.reduceLeDiff, hG0, hG1, tab0_drop, bt_def, k, h0, IntKind.bits, k1, k2]
    rw [i32_not0 b0, ← (dv_some hd).1, ← (dv_some hd).2]
    exact ⟨by omega, b0, by omega, rfl⟩
  rw [if_neg c1] at hd
  by_cases c2 : bt l 0 < 194 ∨ 245 ≤ bt l 0
  · rw [if_neg (by omega), if_neg (by omega), if_neg (by omega)] at hd
    have k : fb (bt l 0) = 241 := by simp only [fb]; grind
    have k1 : Int.fdiv (IntKind.i32.wrap (IntKind.i32.wrap 241 * 2 ^ min 31 32)) (2 ^ min 31 32) = -1 := by decide
    have k2 : bits .and .i32 65533 (-1) = 65533 := by decide
    refine ev_of_wpc hs (A50_ok hX) 0 ?_
    simp only [A50, go_sem, Nat.reduceBEq, Nat.reduceEqDiff, Nat.reduceAdd, Int.reduceAdd, Nat.reduceMul, Nat.reduceSub, Int.reduceToNat, Int.reduceLE, Int.reduceLT, Int.reduceEq, Int.reduceNe, reduceCtorEq, Nat.reduceLT, Nat.reduceLeDiff, hG0, hG1, tab0_drop, bt_def, k, h0, IntKind.bits, k1, k2]
    rw [i32_notm b0, ← (dv_none hd hl).1, ← (dv_none hd hl).2]
    exact ⟨by omega, b0, by omega, rfl⟩
  have main : ∀ (c sz q a b : Int) (tl : List AV), fb (bt l 0) = c → ¬ 240 ≤ c → bits .and .u8 c 7 = sz → Int.fdiv c (2 ^ min 4 8) = q → (0 ≤ q ∧ q < 16) → List.drop (q.toNat * 2) tab1 = .int .u8 a :: .int .u8 b :: tl → IntKind.i64.wrap sz = sz → (2 ≤ sz ∧ sz ≤ 4) → lo (bt l 0) = a → hi (bt l 0) = b →
      (sz = 2 → 194 ≤ bt l 0 ∧ bt l 0 < 224) → (sz = 3 → 224 ≤ bt l 0 ∧ bt l 0 < 240) → (sz = 4 → 240 ≤ bt l 0 ∧ bt l 0 < 245) → Ev X 50 [lst u8 p l] (.tuple [.int .i32 (dvr l), .int .i64 (dvn l)]) := by
    intro c sz q a b tl e1 e2 e3 e4 e5 e6 e7 e8 eL eH m2 m3 m4
    refine ev_dslow_in hX hs hG0 hG1 l p h0 c sz q a b _ _ tl e1 e2 e3 e4 e5 e6 e7 e8 (fun hb => ?_) (fun hz k1 k2 k3 => ?_) (fun hz k1 k2 k3 k4 k5 => ?_) (fun hz k1 k2 k3 k4 k5 k6 k7 => ?_)
    · refine (fun h : _ = _ ∧ _ = _ => ⟨h.1.symm, h.2.symm⟩) (dv_none ?_ hl)
      rw [hd]
      clear hL e1 e2 e3 e4 e5 e6 e7 hd
      rw [eL, eH]
      subst eL eH
      rcases (by omega : sz = 2 ∨ sz = 3 ∨ sz = 4) with h | h | h
      · have := m2 h; have := lohi (bt l 0); clear m2 m3 m4
        rw [if_neg (by omega), if_neg (by omega), if_neg (by omega)]
      · have := m3 h; clear m2 m3 m4
        rw [if_neg (by omega), if_neg (by omega), if_neg (by omega)]
      · have := m4 h; clear m2 m3 m4
        rw [if_neg (by omega), if_neg (by omega), if_neg (by omega)]
    · have hz' := m2 hz
      rw [if_pos (by omega)] at hd
      have := dv_some hd
      constructor
      · rw [← this.1]; omega
      · rw [← this.2]; rfl
    · have hz' := m3 hz
      rw [if_neg (by omega), if_pos (by omega)] at hd
      have := dv_some hd
      constructor
      · rw [← this.1]; omega
      · rw [← this.2]; rfl
    · have hz' := m4 hz
      rw [if_neg (by omega), if_neg (by omega), if_pos (by omega)] at hd
      have := dv_some hd
      constructor
      · rw [← this.1]; omega
      · rw [← this.2]; rfl
  by_cases h_2_0 : 194 ≤ bt l 0 ∧ bt l 0 < 224
  · exact main 2 2 0 128 191 _ (by simp only [fb]; grind) (by omega) (by decide) (by decide) (by decide) rfl (by decide) (by decide) (by omega) (by omega) (by omega) (by omega) (by omega)
  by_cases h_19_1 : bt l 0 = 224
  · exact main 19 3 1 160 191 _ (by simp only [fb]; grind) (by omega) (by decide) (by decide) (by decide) rfl (by decide) (by decide) (by omega) (by omega) (by omega) (by omega) (by omega)
  by_cases h_35_2 : bt l 0 = 237
  · exact main 35 3 2 128 159 _ (by simp only [fb]; grind) (by omega) (by decide) (by decide) (by decide) rfl (by decide) (by decide) (by omega) (by omega) (by omega) (by omega) (by omega)
  by_cases h_3_0 : 225 ≤ bt l 0 ∧ bt l 0 < 240 ∧ bt l 0 ≠ 237
  · exact main 3 3 0 128 191 _ (by simp only [fb]; grind) (by omega) (by decide) (by decide) (by decide) rfl (by decide) (by decide) (by omega) (by omega) (by omega) (by omega) (by omega)
  by_cases h_52_3 : bt l 0 = 240
  · exact main 52 4 3 144 191 _ (by simp only [fb]; grind) (by omega) (by decide) (by decide) (by decide) rfl (by decide) (by decide) (by omega) (by omega) (by omega) (by omega) (by omega)
  by_cases h_68_4 : bt l 0 = 244
  · exact main 68 4 4 128 143 _ (by simp only [fb]; grind) (by omega) (by decide) (by decide) (by decide) rfl (by decide) (by decide) (by omega) (by omega) (by omega) (by omega) (by omega)
  by_cases h_4_0 : 241 ≤ bt l 0 ∧ bt l 0 < 244
  · exact main 4 4 0 128 191 _ (by simp only [fb]; grind) (by omega) (by decide) (by decide) (by decide) rfl (by decide) (by decide) (by omega) (by omega) (by omega) (by omega) (by omega)
  omega
end
end Go.Avm

namespace Go.Avm
open Go
theorem dec_small {l : List UInt8} (h0 : ¬ (l.length : Int) < 1) (h : bt l 0 < 128) : dec l = some (bt l 0, 1) := by
  simp only [dec, decI]; rw [if_neg h0, if_pos h]
/-- what Decode answers -/
def dcv (l : List UInt8) : AV := match dec l with
  | some (r, n) => .tuple [.int .i64 r, .int .i64 n, .int .i64 0]
  | none => .tuple [.int .i64 0, .int .i64 0, .int .i64 (if more l then 370 else 6)]
theorem dec_rng {l : List UInt8} {r : Int} {n : Nat} (h : dec l = some (r, n)) : 0 ≤ r ∧ r ≤ 1114111 ∧ 1 ≤ n ∧ n ≤ 4 ∧ n ≤ l.length := by
  have := dec_some h
  have h1 := valid_rng this.1; have h2 := enc_len_pos this.1
  omega
set_option maxRecDepth 4000
section
variable {X : Cx} (hX : X.P = Go.Proofs.Tryd.prog) (hs : Std X) (hG0 : X.G 0 = some tab0) (hG1 : X.G 1 = some tab1)
include hX hs hG0 hG1
theorem ev_decodeRune (l : List UInt8) (p : Perm) : Ev X 34 [lst u8 p l] (.tuple [.int .i32 (dvr l), .int .i64 (dvn l)]) := by
  have b0 := bt_rng l 0
  refine ev_of_wpc hs (A34_ok hX) 0 ?_
  simp only [A34, go_sem, Nat.reduceBEq, Nat.reduceEqDiff, Nat.reduceAdd, Int.reduceAdd, Nat.reduceMul, Nat.reduceSub, Int.reduceToNat, Int.reduceLE, Int.reduceLT, Int.reduceEq, Int.reduceNe, reduceCtorEq, Nat.reduceLT, Nat.reduceLeDiff]
  refine w_loop' hs.hm (ι := Nat) (fun i => i = 0) (fun _ => [(0, lst u8 p l), (6, lst u8 p l), (7, .int .i64 l.length), (8, .int .i64 0)]) (fun _ => []) (fun i => 1 - i) 0 ?_ fun i hi => ?_
  · simp only [go_sem, Nat.reduceBEq, Nat.reduceEqDiff, Nat.reduceAdd, Int.reduceAdd, Nat.reduceMul, Nat.reduceSub, Int.reduceToNat, Int.reduceLE, Int.reduceLT, Int.reduceEq, Int.reduceNe, reduceCtorEq, Nat.reduceLT, Nat.reduceLeDiff]
  · subst hi
    simp only [A34L0, go_sem, Nat.reduceBEq, Nat.reduceEqDiff, Nat.reduceAdd, Int.reduceAdd, Nat.reduceMul, Nat.reduceSub, Int.reduceToNat, Int.reduceLE, Int.reduceLT, Int.reduceEq, Int.reduceNe, reduceCtorEq, Nat.reduceLT, Nat.reduceLeDiff, bt_def]
    refine ⟨fun c1 => ⟨by omega, fun c2 => ?_, fun c2 => ?_⟩, fun c1 => ?_⟩
    · have hd := dv_some (dec_small (by omega) c2)
      rw [wi32 (by omega), ← hd.1, ← hd.2]; rfl
    · refine call_ev (ev_dslow hX hs hG0 hG1 l .ro) ?_
      simp only [go_sem, Nat.reduceBEq, Nat.reduceEqDiff, Nat.reduceAdd, Int.reduceAdd, Nat.reduceMul, Nat.reduceSub, Int.reduceToNat, Int.reduceLE, Int.reduceLT, Int.reduceEq, Int.reduceNe, reduceCtorEq, Nat.reduceLT, Nat.reduceLeDiff]
    · refine call_ev (ev_dslow hX hs hG0 hG1 l .ro) ?_
      simp only [go_sem, Nat.reduceBEq, Nat.reduceEqDiff, Nat.reduceAdd, Int.reduceAdd, Nat.reduceMul, Nat.reduceSub, Int.reduceToNat, Int.reduceLE, Int.reduceLT, Int.reduceEq, Int.reduceNe, reduceCtorEq, Nat.reduceLT, Nat.reduceLeDiff]
theorem ev_full_in (l : List UInt8) (p : Perm) (h0 : (l.length : Int) ≠ 0) (c sz q a b : Int) (y : Bool) (tl : List AV) (hf : fb (bt l 0) = c) (k1 : bits .and .u8 c 7 = sz) (k2 : Int.fdiv c (2 ^ min 4 8) = q) (kq : 0 ≤ q ∧ q < 16) (k3 : List.drop (q.toNat * 2) tab1 = .int .u8 a :: .int .u8 b :: tl) (k4 : IntKind.i64.wrap sz = sz)
    (hy : y = true ↔ (sz ≤ l.length ∨ 1 < (l.length : Int) ∧ (bt l 1 < a ∨ b < bt l 1) ∨ 2 < (l.length : Int) ∧ (bt l 2 < 128 ∨ 191 < bt l 2))) :
    Ev X 35 [lst u8 p l] (.bool y) := by
  have b0 := bt_rng l 0
  have hn : (0:Int) ≤ l.length := by omega
  have hc : ∀ x y z w : AV, setCells [x, y] 0 [z, w] = [z, w] := fun _ _ _ _ => rfl
  have sB : ∀ k n, scalarB (.int k n) = true := fun _ _ => rfl
  refine ev_of_wpc hs (A35_ok hX) 0 ?_
  simp only [A35, go_sem, Nat.reduceBEq, Nat.reduceEqDiff, Nat.reduceAdd, Int.reduceAdd, Nat.reduceMul, Nat.reduceSub, Int.reduceToNat, Int.reduceLE, Int.reduceLT, Int.reduceEq, Int.reduceNe, reduceCtorEq, Nat.reduceLT, Nat.reduceLeDiff, hG0, hG1, tab0_drop, bt_def, hf, k1, k2, k3, kq.1, kq.2, k4, hc, sB, IntKind.bits, h0, AV.bool.injEq]
  have y1 : (true = y) = (sz ≤ l.length ∨ 1 < (l.length : Int) ∧ (bt l 1 < a ∨ b < bt l 1) ∨ 2 < (l.length : Int) ∧ (bt l 2 < 128 ∨ 191 < bt l 2)) := by rw [← hy, eq_comm (a := true)]
  have y2 : (false = y) = ¬(sz ≤ l.length ∨ 1 < (l.length : Int) ∧ (bt l 1 < a ∨ b < bt l 1) ∨ 2 < (l.length : Int) ∧ (bt l 2 < 128 ∨ 191 < bt l 2)) := by rw [← hy, eq_comm (a := false), Bool.not_eq_true]
  simp only [y1, y2]
  clear y1 y2 hy hf k1 k2 k3 k4 kq hX hs hG0 hG1 hc sB
  generalize (l.length : Int) = n at *
  generalize bt l 0 = d0 at *
  generalize bt l 1 = d1 at *
  generalize bt l 2 = d2 at *
  omega
theorem ev_fullRune (l : List UInt8) (h0 : ¬ (l.length : Int) < 1) : Ev X 35 [lst u8 .ro l] (.bool (!more l)) := by
  have b0 := bt_rng l 0
  have hL := lohi (bt l 0)
  have main : ∀ (c sz q a b : Int) (tl : List AV), fb (bt l 0) = c → bits .and .u8 c 7 = sz → Int.fdiv c (2 ^ min 4 8) = q → (0 ≤ q ∧ q < 16) → List.drop (q.toNat * 2) tab1 = .int .u8 a :: .int .u8 b :: tl → IntKind.i64.wrap sz = sz → (2 ≤ sz → lo (bt l 0) = a ∧ hi (bt l 0) = b) →
      (sz = 2 ∧ 194 ≤ bt l 0 ∧ bt l 0 < 224 ∨ sz = 3 ∧ 224 ≤ bt l 0 ∧ bt l 0 < 240 ∨ sz = 4 ∧ 240 ≤ bt l 0 ∧ bt l 0 < 245 ∨ sz ≤ 1 ∧ (bt l 0 < 194 ∨ 245 ≤ bt l 0)) → Ev X 35 [lst u8 .ro l] (.bool (!more l)) := by
    intro c sz q a b tl e1 e2 e3 e4 e5 e6 e7 e8
    refine ev_full_in hX hs hG0 hG1 l .ro (by omega) c sz q a b _ tl e1 e2 e3 e4 e5 e6 ?_
    clear hX hs hG0 hG1 e1 e2 e3 e4 e5 e6
    simp only [more, moreI, Bool.not_eq_true', Bool.or_eq_false_iff, decide_eq_false_iff_not]
    generalize (l.length : Int) = n at *
    generalize bt l 1 = d1 at *
    generalize bt l 2 = d2 at *
    rcases e8 with e8 | e8 | e8 | e8
    · have := e7 (by omega); clear e7
      rw [this.1, this.2]; omega
    · have := e7 (by omega); clear e7
      rw [this.1, this.2]; omega
    · have := e7 (by omega); clear e7
      rw [this.1, this.2]; omega
    · clear e7 hL
      omega
  by_cases h0 : bt l 0 < 128
  · exact main 240 0 15 0 0 _ (by simp only [fb]; grind) (by decide) (by decide) (by decide) rfl (by decide) (by omega) (by omega)
  by_cases h1 : bt l 0 < 194 ∨ 245 ≤ bt l 0
  · exact main 241 1 15 0 0 _ (by simp only [fb]; grind) (by decide) (by decide) (by decide) rfl (by decide) (by omega) (by omega)
  by_cases h2 : 194 ≤ bt l 0 ∧ bt l 0 < 224
  · exact main 2 2 0 128 191 _ (by simp only [fb]; grind) (by decide) (by decide) (by decide) rfl (by decide) (by omega) (by omega)
  by_cases h3 : bt l 0 = 224
  · exact main 19 3 1 160 191 _ (by simp only [fb]; grind) (by decide) (by decide) (by decide) rfl (by decide) (by omega) (by omega)
  by_cases h4 : bt l 0 = 237
  · exact main 35 3 2 128 159 _ (by simp only [fb]; grind) (by decide) (by decide) (by decide) rfl (by decide) (by omega) (by omega)
  by_cases h5 : 225 ≤ bt l 0 ∧ bt l 0 < 240 ∧ bt l 0 ≠ 237
  · exact main 3 3 0 128 191 _ (by simp only [fb]; grind) (by decide) (by decide) (by decide) rfl (by decide) (by omega) (by omega)
  by_cases h6 : bt l 0 = 240
  · exact main 52 4 3 144 191 _ (by simp only [fb]; grind) (by decide) (by decide) (by decide) rfl (by decide) (by omega) (by omega)
  by_cases h7 : bt l 0 = 244
  · exact main 68 4 4 128 143 _ (by simp only [fb]; grind) (by decide) (by decide) (by decide) rfl (by decide) (by omega) (by omega)
  by_cases h8 : 241 ≤ bt l 0 ∧ bt l 0 < 244
  · exact main 4 4 0 128 191 _ (by simp only [fb]; grind) (by decide) (by decide) (by decide) rfl (by decide) (by omega) (by omega)
  omega
theorem ev_Decode (l : List UInt8) (i : Int) (hi : 0 ≤ i ∧ i < l.length) : Ev X 12 [lst u8 .ro l, .int .i64 i] (dcv (l.drop i.toNat)) := by
  have h0 : ¬ ((l.drop i.toNat).length : Int) < 1 := by rw [List.length_drop]; omega
  have h1 : l.drop i.toNat ≠ [] := fun h => h0 (by rw [h]; decide)
  refine ev_of_wpc hs (A12_ok hX) 0 ?_
  simp only [A12, go_sem, Nat.reduceBEq, Nat.reduceEqDiff, Nat.reduceAdd, Int.reduceAdd, Nat.reduceMul, Nat.reduceSub, Int.reduceToNat, Int.reduceLE, Int.reduceLT, Int.reduceEq, Int.reduceNe, reduceCtorEq, Nat.reduceLT, Nat.reduceLeDiff]
  refine ⟨fun h => by omega, fun _ => ⟨fun h => by omega, fun _ => ⟨by omega, ?_⟩⟩⟩
  refine call_ev (ev_decodeRune hX hs hG0 hG1 _ .ro) ?_
  simp only [go_sem, Nat.reduceBEq, Nat.reduceEqDiff, Nat.reduceAdd, Int.reduceAdd, Nat.reduceMul, Nat.reduceSub, Int.reduceToNat, Int.reduceLE, Int.reduceLT, Int.reduceEq, Int.reduceNe, reduceCtorEq, Nat.reduceLT, Nat.reduceLeDiff]
  cases hd : dec (l.drop i.toNat) with
  | some x =>
    obtain ⟨r, n⟩ := x
    have hr := dec_rng hd
    simp only [dvr, dvn, dcv, hd]
    refine ⟨fun c => ?_, fun c => ⟨fun c2 => ?_, fun c2 => ?_⟩⟩
    · rw [wi64 (by omega)]
    · rw [wi64 (by omega)]
    · exfalso
      have h4 := dec_some hd
      have h5 := h4.2.2.2
      rw [enc_len h4.1, c] at h5
      simp at h5
      omega
  | none =>
    simp only [dvr, dvn, dcv, hd, if_neg h1, go_sem, Nat.reduceBEq, Nat.reduceEqDiff, Nat.reduceAdd, Int.reduceAdd, Nat.reduceMul, Nat.reduceSub, Int.reduceToNat, Int.reduceLE, Int.reduceLT, Int.reduceEq, Int.reduceNe, reduceCtorEq, Nat.reduceLT, Nat.reduceLeDiff]
    refine ⟨by omega, ?_⟩
    refine call_ev (ev_fullRune hX hs hG0 hG1 _ h0) ?_
    simp only [go_sem, Nat.reduceBEq, Nat.reduceEqDiff, Nat.reduceAdd, Int.reduceAdd, Nat.reduceMul, Nat.reduceSub, Int.reduceToNat, Int.reduceLE, Int.reduceLT, Int.reduceEq, Int.reduceNe, reduceCtorEq, Nat.reduceLT, Nat.reduceLeDiff]
    cases more (l.drop i.toNat) <;> simp
theorem ev_DecodeOut (l : List UInt8) (i : Int) (hi : ¬ (0 ≤ i ∧ i < l.length)) : Ev X 12 [lst u8 .ro l, .int .i64 i] (.tuple [.int .i64 0, .int .i64 0, .int .i64 7]) := by
  refine ev_of_wpc hs (A12_ok hX) 0 ?_
  simp only [A12, go_sem, Nat.reduceBEq, Nat.reduceEqDiff, Nat.reduceAdd, Int.reduceAdd, Nat.reduceMul, Nat.reduceSub, Int.reduceToNat, Int.reduceLE, Int.reduceLT, Int.reduceEq, Int.reduceNe, reduceCtorEq, Nat.reduceLT, Nat.reduceLeDiff]
  exact fun h1 h2 => by omega
end
end Go.Avm
