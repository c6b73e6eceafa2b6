/- The reader: class, while. -/
import Derived.Test.YtpkgglpiboeogaaGreatDoorAR
import Derived.Test.YtpkgglpiboeogaaGreatDoorM3
import Derived.Test.YtpkgglpiboeogaaGreatDoorAW
import Derived.Test.YtpkgglpiboeogaaGreatDoorAS
import Derived.Test.YtpkgglpiboeogaaGreatDoorM2
import Derived.Shelf.Strconv.ParseIntPublic10
import Derived.Shelf.Strconv.ToError
import Derived.Shelf.Strconv.ParseIntEmpty
import Derived.Shelf.Unicode.ValidAny
set_option linter.unusedSectionVars false
set_option linter.unusedSimpArgs false
set_option linter.unusedVariables false

/- The reader: class, while. -/
namespace Go.Avm
open Go Go.Rn Go.Lx
/-- the class at a place -/
def clsAt (s : List UInt8) (p : Nat) : Int := if p < s.length then classI ((s.getD p 0).toNat : Int) else 10
def rdr (s : List UInt8) (p : Int) : Blk := .box [.str s, .int .i64 p]
set_option maxRecDepth 10000
section
variable {X : Cx} (hX : X.P = Go.Proofs.Tryz.prog) (hs : Std X)
include hX hs
theorem ev_classG (i : Nat) (s : List UInt8) (a : AV) (p : Nat) (H : Heap) (hH : H[i]? = some (.box [.str s, a])) (hl : s.length ≤ 9223372036854775807) (hp : p ≤ 9223372036854775807) :
    EvM X F_lexer_reader_class [.ptr i 0, .int .i64 p] H fun r H' => r = .int .i64 (clsAt s p) ∧ H' = H := by
  refine evM_of_wpc hs (A_lexer_reader_class_ok hX) ?_
  simp only [A_lexer_reader_class, go_sem, Nat.reduceMod, Nat.reduceBNe, Nat.reduceBEq, Nat.reduceEqDiff, Nat.reduceAdd, Int.reduceAdd, Nat.reduceMul, Nat.reduceSub, Int.reduceToNat, Int.reduceLE, Int.reduceLT, Int.reduceEq, Int.reduceNe, reduceCtorEq, Nat.reduceLT, Nat.reduceLeDiff, hH]
  refine ⟨fun h => ?_, fun h => ⟨by omega, ?_⟩⟩
  · simp only [clsAt]; rw [if_neg (by omega)]
  · have hb := (s.getD p 0).toNat_lt
    rw [wi64 (by omega)]
    refine call_ev (ev_Class hX hs ((s.getD p 0).toNat : Int) (by omega) (by omega)) ?_
    simp only [go_sem, Nat.reduceMod, Nat.reduceBNe, Nat.reduceBEq, Nat.reduceEqDiff, Nat.reduceAdd, Int.reduceAdd, Nat.reduceMul, Nat.reduceSub, Int.reduceToNat, Int.reduceLE, Int.reduceLT, Int.reduceEq, Int.reduceNe, reduceCtorEq, Nat.reduceLT, Nat.reduceLeDiff, clsAt, if_pos (show p < s.length by omega)]
theorem ev_class (i : Nat) (s : List UInt8) (a : AV) (p : Nat) (H : Heap) (hH : H[i]? = some (.box [.str s, a])) (hl : s.length < 1000000) (hp : p < 1000000000) :
    EvM X F_lexer_reader_class [.ptr i 0, .int .i64 p] H fun r H' => r = .int .i64 (clsAt s p) ∧ H' = H := ev_classG hX hs i s a p H hH (by omega) (by omega)
def clP (a b : Int) (c : UInt8) : Bool := decide (classI (c.toNat : Int) = a) || decide (classI (c.toNat : Int) = b)
omit hX hs in
theorem rset_get {H : Heap} {i : Nat} {x y : Blk} (h : H[i]? = some x) : (H.set i y)[i]? = some y := by
  rw [List.getElem?_set_self (List.getElem?_eq_some_iff.1 h).1]
omit hX hs in
theorem rset_id {H : Heap} {i : Nat} {x : Blk} (h : H[i]? = some x) : H.set i x = H := by
  obtain ⟨h1, h2⟩ := List.getElem?_eq_some_iff.1 h
  rw [← h2, List.set_getElem_self]
theorem ev_whileG (i : Nat) (s : List UInt8) (p : Nat) (a b : Int) (H : Heap) (hH : H[i]? = some (rdr s p)) (hl : s.length ≤ 9223372036854775807) (hp : p ≤ s.length) (hab : a ≠ 10 ∧ b ≠ 10) :
    EvM X F_lexer_reader_while [.ptr i 0, .int .i64 a, .int .i64 b] H fun r H' => r = .str ((s.drop p).take (cnt (clP a b) (s.drop p))) ∧ H' = H.set i (rdr s ((p + cnt (clP a b) (s.drop p) : Nat) : Int)) := by
  have hH0 := hH
  unfold rdr at hH
  refine evM_of_wpc hs (A_lexer_reader_while_ok hX) ?_
  simp only [A_lexer_reader_while, go_sem, Nat.reduceMod, Nat.reduceBNe, Nat.reduceBEq, Nat.reduceEqDiff, Nat.reduceAdd, Int.reduceAdd, Nat.reduceMul, Nat.reduceSub, Int.reduceToNat, Int.reduceLE, Int.reduceLT, Int.reduceEq, Int.reduceNe, reduceCtorEq, Nat.reduceLT, Nat.reduceLeDiff, hH]
  refine call_evm (ev_classG hX hs i s _ p H hH hl (by omega)) ?_
  rintro r H' ⟨rfl, rfl⟩
  simp only [go_sem, Nat.reduceMod, Nat.reduceBNe, Nat.reduceBEq, Nat.reduceEqDiff, Nat.reduceAdd, Int.reduceAdd, Nat.reduceMul, Nat.reduceSub, Int.reduceToNat, Int.reduceLE, Int.reduceLT, Int.reduceEq, Int.reduceNe, reduceCtorEq, Nat.reduceLT, Nat.reduceLeDiff]
  have hle := cnt_le (clP a b) (s.drop p)
  rw [List.length_drop] at hle
  generalize hk : cnt (clP a b) (s.drop p) = k at *
  refine w_loop' hs.hm (ι := Nat) (fun j => j ≤ k) (fun j => [(0, .ptr i 0), (1, .int .i64 a), (2, .int .i64 b), (7, .int .i64 p), (8, .int .i64 (clsAt s (p + j)))]) (fun j => H'.set i (rdr s ((p + j : Nat) : Int))) (fun j => k - j) 0 ?_ fun j hj => ?_
  · simp only [go_sem, Nat.reduceMod, Nat.reduceBNe, Nat.reduceBEq, Nat.reduceEqDiff, Nat.reduceAdd, Int.reduceAdd, Nat.reduceMul, Nat.reduceSub, Int.reduceToNat, Int.reduceLE, Int.reduceLT, Int.reduceEq, Int.reduceNe, reduceCtorEq, Nat.reduceLT, Nat.reduceLeDiff]
    simp only [Nat.add_zero, rset_id hH0]
    exact ⟨Nat.zero_le _, trivial, trivial⟩
  · have hg : ∀ n : Int, (H'.set i (rdr s n))[i]? = some (.box [.str s, .int .i64 n]) := fun n => rset_get hH0
    have hend : p + j = s.length → clsAt s (p + j) = 10 := fun h => by simp only [clsAt]; rw [if_neg (by omega)]
    by_cases hlt : p + j < s.length
    case neg =>
      have e10 := hend (by omega)
      have hj2 : j = k := by omega
      subst hj2
      have n1 : ¬ (10 : Int) = a := fun e => hab.1 e.symm
      have n2 : ¬ (10 : Int) = b := fun e => hab.2 e.symm
      simp only [A_lexer_reader_whileL0, go_sem, Nat.reduceMod, Nat.reduceBNe, Nat.reduceBEq, Nat.reduceEqDiff, Nat.reduceAdd, Int.reduceAdd, Nat.reduceMul, Nat.reduceSub, Int.reduceToNat, Int.reduceLE, Int.reduceLT, Int.reduceEq, Int.reduceNe, reduceCtorEq, Nat.reduceLT, Nat.reduceLeDiff, hg, e10, n1, n2]
      refine ⟨⟨⟨⟨by omega, by omega⟩, by omega⟩, by omega⟩, ?_⟩
      rw [List.drop_take]; congr 2; omega
    have hw : IntKind.i64.wrap (((p + j : Nat) : Int) + 1) = ((p + (j + 1) : Nat) : Int) := by rw [wi64 (by omega)]; omega
    have hg2 : ∀ x y, ((H'.set i x).set i y) = H'.set i y := fun x y => List.set_set ..
    have hst : ∀ n : Int, H'.set i (.box [.str s, .int .i64 n]) = H'.set i (rdr s n) := fun _ => rfl
    simp only [A_lexer_reader_whileL0, go_sem, Nat.reduceMod, Nat.reduceBNe, Nat.reduceBEq, Nat.reduceEqDiff, Nat.reduceAdd, Int.reduceAdd, Nat.reduceMul, Nat.reduceSub, Int.reduceToNat, Int.reduceLE, Int.reduceLT, Int.reduceEq, Int.reduceNe, reduceCtorEq, Nat.reduceLT, Nat.reduceLeDiff, hg, hg2, hst, hw]
    have hsm : p + (j + 1) ≤ 9223372036854775807 := by omega
    have hgj : p + j < s.length → (s.drop p).getD j 0 = s.getD (p + j) 0 := fun _ => by simp [List.getD_eq_getElem?_getD, List.getElem?_drop]
    have hcl : p + j < s.length → (clsAt s (p + j) = a ∨ clsAt s (p + j) = b ↔ clP a b ((s.drop p).getD j 0) = true) := fun h => by
      rw [hgj h]; simp only [clsAt, if_pos h, clP, Bool.or_eq_true, decide_eq_true_eq]
    have go : clsAt s (p + j) = a ∨ clsAt s (p + j) = b → j < k := fun h => by
      rcases Nat.lt_or_ge j k with h1 | h1
      · exact h1
      · exfalso
        have : j = k := by omega
        subst this
        by_cases h2 : p + j < s.length
        · have h3 := cnt_stop (clP a b) (s.drop p) (by rw [hk, List.length_drop]; omega)
          rw [hk, (hcl h2).1 h] at h3
          cases h3
        · have := hend (by omega); omega
    have no : ¬ (clsAt s (p + j) = a ∨ clsAt s (p + j) = b) → j = k := fun h => by
      rcases Nat.lt_or_ge j k with h1 | h1
      · exact absurd ((hcl (by omega)).2 (cnt_lt _ _ _ (by omega))) h
      · omega
    have again : j < k → ∃ j', k - j' < k - j ∧ j' ≤ k ∧ (AV.int IntKind.i64 (clsAt s (p + (j + 1))) = AV.int IntKind.i64 (clsAt s (p + j'))) ∧ H'.set i (rdr s ((p + (j + 1) : Nat) : Int)) = H'.set i (rdr s ((p + j' : Nat) : Int)) := fun h => by
      have h1 : k - (j + 1) < k - j := by clear go no hcl; omega
      have h2 : j + 1 ≤ k := h
      exact ⟨j + 1, h1, h2, rfl, rfl⟩
    refine ⟨fun h => ?_, fun h1 => ⟨fun h => ?_, fun h2 => ?_⟩⟩
    · refine call_evm (ev_classG hX hs i s _ (p + (j + 1)) _ (hg _) hl hsm) ?_
      rintro r H2 ⟨rfl, rfl⟩
      simp only [go_sem, Nat.reduceMod, Nat.reduceBNe, Nat.reduceBEq, Nat.reduceEqDiff, Nat.reduceAdd, Int.reduceAdd, Nat.reduceMul, Nat.reduceSub, Int.reduceToNat, Int.reduceLE, Int.reduceLT, Int.reduceEq, Int.reduceNe, reduceCtorEq, Nat.reduceLT, Nat.reduceLeDiff]
      exact again (go (.inl h))
    · refine call_evm (ev_classG hX hs i s _ (p + (j + 1)) _ (hg _) hl hsm) ?_
      rintro r H2 ⟨rfl, rfl⟩
      simp only [go_sem, Nat.reduceMod, Nat.reduceBNe, Nat.reduceBEq, Nat.reduceEqDiff, Nat.reduceAdd, Int.reduceAdd, Nat.reduceMul, Nat.reduceSub, Int.reduceToNat, Int.reduceLE, Int.reduceLT, Int.reduceEq, Int.reduceNe, reduceCtorEq, Nat.reduceLT, Nat.reduceLeDiff]
      exact again (go (.inr h))
    · have hj2 := no (fun h => h.elim h1 h2)
      subst hj2
      refine ⟨⟨⟨⟨by omega, by omega⟩, by omega⟩, by omega⟩, ?_, rfl⟩
      rw [List.drop_take]; congr 2; omega
theorem ev_while (i : Nat) (s : List UInt8) (p : Nat) (a b : Int) (H : Heap) (hH : H[i]? = some (rdr s p)) (hl : s.length < 1000000) (hp : p ≤ s.length) (hab : a ≠ 10 ∧ b ≠ 10) :
    EvM X F_lexer_reader_while [.ptr i 0, .int .i64 a, .int .i64 b] H fun r H' => r = .str ((s.drop p).take (cnt (clP a b) (s.drop p))) ∧ H' = H.set i (rdr s ((p + cnt (clP a b) (s.drop p) : Nat) : Int)) := ev_whileG hX hs i s p a b H hH (by omega) hp hab
end
end Go.Avm

/- The reader: word, number. -/
namespace Go.Avm
open Go Go.Rn Go.Lx
/-- a heap with a reader -/
def RH (s : List UInt8) (p : Int) (G : Heap) : Heap := .dead :: rdr s p :: G
def tkV (t : Tok) (a b : Int) : AV := .agg [.int .i64 t.kind, .int .i64 a, .int .i64 b, .int .i64 t.n, .str t.s]
def outV (p : Nat) : Out → AV
  | .ok t _ => .tuple [tkV t 0 0, .agg [.int .i64 0, .int .i64 0]]
  | .bad d e => .tuple [tkV ⟨0, 0, []⟩ 0 0, .agg [.int .i64 ((p + d : Nat) : Int), .int .i64 e]]
def OutQ (s : List UInt8) (p : Nat) (G : Heap) (o : Out) (r : AV) (H' : Heap) : Prop := ∃ G' p', H' = RH s p' (G ++ G') ∧ r = outV p o ∧ ∀ t k, o = .ok t k → p' = ((p + k : Nat) : Int)
theorem gx0 {α : Type} (G : List α) (x : α) (r : List α) : (G ++ x :: r)[G.length]? = some x := by simp
theorem gx1 {α : Type} (G : List α) (x y : α) (r : List α) : (G ++ x :: y :: r)[G.length + 1]? = some y := by
  rw [List.getElem?_append_right (by omega), show G.length + 1 - G.length = 1 by omega]; rfl
theorem gs0 {α : Type} (G : List α) (x z : α) (r : List α) : (G ++ x :: r).set G.length z = G ++ z :: r := by
  rw [List.set_append_right _ _ (Nat.le_refl _), Nat.sub_self]; rfl
theorem gs1 {α : Type} (G : List α) (x y z : α) (r : List α) : (G ++ x :: y :: r).set (G.length + 1) z = G ++ x :: z :: r := by
  rw [List.set_append_right _ _ (by omega), show G.length + 1 - G.length = 1 by omega]; rfl
theorem gl2 {α : Type} (G : List α) (x : α) : (G ++ [x]).length = G.length + 1 := by simp
theorem gl3 {α : Type} (G : List α) (x y : α) : (G ++ [x, y]).length = G.length + 2 := by simp
theorem cls_tab : ∀ n : Nat, n < 256 → ((decide (classI n = 8) || decide (classI n = 6)) = ((decide (97 ≤ n) && decide (n ≤ 122)) || (decide (48 ≤ n) && decide (n ≤ 57)))) ∧ (decide (classI n = 6) || decide (classI n = 6)) = (decide (48 ≤ n) && decide (n ≤ 57)) ∧ decide (classI n = 8) = (decide (97 ≤ n) && decide (n ≤ 122)) := by decide +kernel
theorem cls_al (c : UInt8) : clP 8 6 c = al c := (cls_tab c.toNat c.toNat_lt).1
theorem cls_dg (c : UInt8) : clP 6 6 c = dg c := (cls_tab c.toNat c.toNat_lt).2.1
theorem cls_ltr (c : UInt8) : decide (classI (c.toNat : Int) = 8) = ltr c := (cls_tab c.toNat c.toNat_lt).2.2
set_option maxRecDepth 10000
section
variable {X : Cx} (hX : X.P = Go.Proofs.Tryz.prog) (hs : Std X) (hN : X.G 2 = some [.int .i64 0, .int .i64 0])
include hX hs hN
theorem ev_word (s : List UInt8) (p : Nat) (G : Heap) (hl : s.length < 1000000) (hp : p < s.length) :
    EvM X F_lexer_reader_word [.ptr 1 0] (RH s p G) (OutQ s p G (wordO (s.drop p))) := by
  refine evM_of_wpc hs (A_lexer_reader_word_ok hX) ?_
  unfold RH
  simp only [A_lexer_reader_word, go_sem, Nat.reduceMod, Nat.reduceBNe, Nat.reduceBEq, Nat.reduceEqDiff, Nat.reduceAdd, Int.reduceAdd, Nat.reduceMul, Nat.reduceSub, Int.reduceToNat, Int.reduceLE, Int.reduceLT, Int.reduceEq, Int.reduceNe, reduceCtorEq, Nat.reduceLT, Nat.reduceLeDiff, rdr, List.append_assoc, gx0, gx1, gs0, gs1, gl2]
  refine call_evm (ev_while hX hs 1 s p 8 6 _ (by rfl) hl (by omega) (by decide)) ?_
  rintro r H' ⟨rfl, rfl⟩
  rw [show clP 8 6 = al from funext cls_al]
  have hc := cnt_le al (s.drop p)
  rw [List.length_drop] at hc
  have hlen : ((s.drop p).take (cnt al (s.drop p))).length = cnt al (s.drop p) := by rw [List.length_take, List.length_drop]; omega
  simp only [go_sem, Nat.reduceMod, Nat.reduceBNe, Nat.reduceBEq, Nat.reduceEqDiff, Nat.reduceAdd, Int.reduceAdd, Nat.reduceMul, Nat.reduceSub, Int.reduceToNat, Int.reduceLE, Int.reduceLT, Int.reduceEq, Int.reduceNe, reduceCtorEq, Nat.reduceLT, Nat.reduceLeDiff, rdr, List.append_assoc, gx0, gx1, gs0, gs1, gl2, hlen, hN]
  refine ⟨fun h => ⟨_, _, rfl, ?_, fun t k e => ?_⟩, fun h => ⟨_, _, rfl, ?_, fun t k e => ?_⟩⟩
  · have hq : wordO (s.drop p) = .bad 16 3 := by unfold wordO; rw [if_pos (by omega)]
    simp only [hq, outV, tkV]
    rw [wi64 (by omega)]; rfl
  · have hq : wordO (s.drop p) = .bad 16 3 := by unfold wordO; rw [if_pos (by omega)]
    rw [hq] at e; cases e
  · have hq : wordO (s.drop p) = .ok ⟨1, 0, (s.drop p).take (cnt al (s.drop p))⟩ (cnt al (s.drop p)) := by unfold wordO; rw [if_neg (by omega)]
    simp only [hq, outV, tkV]
  · have hq : wordO (s.drop p) = .ok ⟨1, 0, (s.drop p).take (cnt al (s.drop p))⟩ (cnt al (s.drop p)) := by unfold wordO; rw [if_neg (by omega)]
    rw [hq] at e; cases e; rfl
end
end Go.Avm

/- More of the shelf at this seat's numbers: builders, numerals. -/
namespace Go.Avm
open Go Go.Proofs Go.Shelf
theorem yPiL : LaysC.n174 Go.Proofs.Tryz.prog lRen := by
  constructor <;> first | kernel_rfl | (intro w; kernel_rfl) | (constructor <;> first | kernel_rfl | (intro w; kernel_rfl) | (constructor <;> first | kernel_rfl | (intro w; kernel_rfl)))
theorem yTeL : LaysC.n245 Go.Proofs.Tryz.prog lRen := by
  constructor <;> first | kernel_rfl | (intro w; kernel_rfl) | (constructor <;> first | kernel_rfl | (intro w; kernel_rfl) | (constructor <;> first | kernel_rfl | (intro w; kernel_rfl)))
theorem yIpL : Lays.n247 Go.Proofs.Tryz.prog lRen := by
  constructor <;> first | kernel_rfl | (intro w; kernel_rfl) | (constructor <;> first | kernel_rfl | (intro w; kernel_rfl) | (constructor <;> first | kernel_rfl | (intro w; kernel_rfl)))
theorem yFiL : LaysM.n173 Go.Proofs.Tryz.prog lRen := by
  constructor <;> first | kernel_rfl | (intro w; kernel_rfl) | (constructor <;> first | kernel_rfl | (intro w; kernel_rfl) | (constructor <;> first | kernel_rfl | (intro w; kernel_rfl)))
theorem yVsL : Lays.n196 Go.Proofs.Tryz.prog lRen := by
  constructor <;> first | kernel_rfl | (intro w; kernel_rfl) | (constructor <;> first | kernel_rfl | (intro w; kernel_rfl) | (constructor <;> first | kernel_rfl | (intro w; kernel_rfl)))
def sRen : Ren where
  f := fun x => match x with | 166 => 14 | 167 => 13 | 168 => 43 | 169 => 17 | 170 => 16 | 240 => 29 | 242 => 58 | 276 => 44 | 278 => 80 | n => n
  t := fun x => match x with | 0 => 0 | 3 => 3 | 4 => 4 | 5 => 5 | 9 => 9 | 20 => 20 | 21 => 21 | 37 => 36 | 46 => 75 | 51 => 123 | 70 => 35 | 72 => 38 | 75 => 40 | 80 => 46 | 127 => 64 | 164 => 85 | n => n
  g := fun x => match x with | n => n
theorem sn166 : Lays.n166 Go.Proofs.Tryz.prog sRen := by
  constructor <;> first | kernel_rfl | (intro w; kernel_rfl)
theorem sn167 : Lays.n167 Go.Proofs.Tryz.prog sRen := by
  constructor <;> first | kernel_rfl | (intro w; kernel_rfl)
theorem sn168 : Lays.n168 Go.Proofs.Tryz.prog sRen := by
  constructor <;> first | kernel_rfl | (intro w; kernel_rfl)
theorem sn169 : Lays.n169 Go.Proofs.Tryz.prog sRen := by
  constructor <;> first | kernel_rfl | (intro w; kernel_rfl)
theorem sn170 : Lays.n170 Go.Proofs.Tryz.prog sRen := by
  constructor <;> first | kernel_rfl | (intro w; kernel_rfl)
theorem bExtra : Builder.Extra Go.Proofs.Tryz.prog sRen where
  sizeBuilder := by kernel_rfl
  liesBuilder := by kernel_rfl
  t5 := by kernel_rfl
  a5 := by intro w; kernel_rfl
  z5 := by intro w; kernel_rfl
  v5 := by intro w; kernel_rfl
  infoByte := by kernel_rfl
  cellsByte := by kernel_rfl
  sizeByte := by kernel_rfl
  neB5 := by decide
section
variable {X : Cx} (hX : X.P = Go.Proofs.Tryz.prog) (hs : Std X) {H : Heap}
include hX
theorem ev_bWS {i : Nat} {l : List UInt8} (s : List UInt8) (hH : H[i]? = some (.bld 38 5 l)) (hlen : l.length + s.length ≤ 140737488355328) :
    EvM X F_strings_Builder_WriteString [.ptr i 0, .str s] H fun r H' => r = .tuple [.int .i64 s.length, .nilI] ∧ H' = H.set i (.bld 38 5 (l ++ s)) := by
  refine evM_bpost ⟨Go.Proofs.Tryz.f14, by rw [hX]; exact Go.Proofs.Tryz.func14, by decide, by kernel_rfl⟩ (by decide) hH fun g w vs b p v hwf hhr hvs hbx hb hp hv => ?_
  simp only [RelL, Rel] at hvs
  obtain ⟨v1, r1, rfl, ⟨b', rfl, h2⟩, v2, r2, rfl, ⟨sb, rfl, h3⟩, rfl⟩ := hvs
  rw [hbx] at h2
  cases h2
  subst h3
  rw [hX]
  refine (b_WriteString (C := X) hX sn166 bExtra sb hb hp hv (by simpa using hlen)).mono ?_
  rintro e w' ⟨rfl, h⟩
  exact ⟨_, rfl, fun g' => by simp [Rel, RelL], h⟩
theorem ev_bWB {i : Nat} {l : List UInt8} (c : UInt8) (hH : H[i]? = some (.bld 38 5 l)) (hlen : l.length + 1 ≤ 140737488355328) :
    EvM X F_strings_Builder_WriteByte [.ptr i 0, u8 c] H fun r H' => r = .nilI ∧ H' = H.set i (.bld 38 5 (l ++ [c])) := by
  refine evM_bpost ⟨Go.Proofs.Tryz.f13, by rw [hX]; exact Go.Proofs.Tryz.func13, by decide, by kernel_rfl⟩ (by decide) hH fun g w vs b p v hwf hhr hvs hbx hb hp hv => ?_
  simp only [RelL, Rel, u8] at hvs
  obtain ⟨v1, r1, rfl, ⟨b', rfl, h2⟩, v2, r2, rfl, rfl, rfl⟩ := hvs
  rw [hbx] at h2
  cases h2
  rw [hX]
  refine (b_WriteByte (C := X) hX sn167 bExtra c hb hp hv hlen).mono ?_
  rintro e w' ⟨rfl, h⟩
  exact ⟨_, rfl, fun g' => by simp [Rel], h⟩
theorem ev_bWR {i : Nat} {l : List UInt8} (r : Int) (hv : Rn.valid r = true) (hH : H[i]? = some (.bld 38 5 l)) (hlen : l.length + 4 ≤ 140737488355328) :
    EvM X F_strings_Builder_WriteRune [.ptr i 0, .int .i32 r] H fun q H' => q = .tuple [.int .i64 ((Rn.enc r).length : Nat), .nilI] ∧ H' = H.set i (.bld 38 5 (l ++ Rn.enc r)) := by
  have hr := Rn.valid_rng hv
  have hvi := (Rn.valid_iff r).1 hv
  have e : encR r = Rn.enc r := by
    rw [Rn.enc_eq hv]
    unfold encR Rn.encI
    by_cases c1 : r ≤ 127
    · rw [if_pos c1, if_pos (show r < 128 by omega)]; rfl
    rw [if_neg c1, if_neg (show ¬ r < 128 by omega)]
    by_cases c2 : r ≤ 2047
    · rw [if_pos c2, if_pos (show r < 2048 by omega)]; rfl
    rw [if_neg c2, if_neg (show ¬ r < 2048 by omega)]
    by_cases c3 : r ≤ 65535
    · rw [if_pos c3, if_pos (show r < 65536 by omega)]; rfl
    rw [if_neg c3, if_neg (show ¬ r < 65536 by omega)]; rfl
  refine evM_bpost ⟨Go.Proofs.Tryz.f43, by rw [hX]; exact Go.Proofs.Tryz.func43, by decide, by kernel_rfl⟩ (by decide) hH fun g w vs b p v hwf hhr hvs hbx hb hp hv => ?_
  simp only [RelL, Rel] at hvs
  obtain ⟨v1, r1, rfl, ⟨b', rfl, h2⟩, v2, r2, rfl, rfl, rfl⟩ := hvs
  rw [hbx] at h2
  cases h2
  rw [hX]
  refine (b_rune (C := X) hX sn168 bExtra r hr.1 hr.2 (by omega) hb hp hv hlen).mono ?_
  rintro e' w' ⟨rfl, h⟩
  rw [e] at h ⊢
  exact ⟨_, rfl, fun g' => by simp [Rel, RelL], h⟩
theorem ev_bString {i : Nat} {l : List UInt8} (hH : H[i]? = some (.bld 38 5 l)) :
    EvM X F_strings_Builder_String [.ptr i 0] H fun r H' => r = .str l ∧ H' = H.set i .dead := by
  refine evM_spost ⟨Go.Proofs.Tryz.f17, by rw [hX]; exact Go.Proofs.Tryz.func17, by decide, by kernel_rfl⟩ (T := 38) (e := 5) (by decide) hH fun w b p v hb hv => ?_
  rw [hX]
  by_cases h0 : l = []
  · subst h0
    exact b_String0 sn169 bExtra hb hv
  · exact b_String sn169 bExtra hb hv h0
theorem ev_bStringS {i : Nat} {l : List UInt8} (hH : H[i]? = some (.bld 38 5 l)) : CallS X F_strings_Builder_String [.ptr i 0] H (.str l) (H.set i .dead) :=
  callS_of (T := 38) (e := 5) (fun _ hh => ev_bString hX hh) hH
theorem ev_bLen {i : Nat} {l : List UInt8} (hH : H[i]? = some (.bld 38 5 l)) :
    EvM X F_strings_Builder_Len [.ptr i 0] H fun r H' => r = .int .i64 l.length ∧ H' = H := by
  refine evM_lpost ⟨Go.Proofs.Tryz.f16, by rw [hX]; exact Go.Proofs.Tryz.func16, by decide, by kernel_rfl⟩ hH fun w b p v hb hv => ?_
  rw [hX]
  exact b_Len sn170 hb hv
omit hX in
theorem laid_cell {G : Consts} {g : Gh} {w : World} (hwf : Wf G g w) {x : Nat} {cs : List AV} (hG : G x = some cs) {i : Nat} {k : IntKind} {z : Int} (hi : cs[i]? = some (.int k z)) : w.cell? ⟨x, i, none⟩ = some (.int k z) := by
  have hl := hwf.laid _ _ hG
  simp only [Rel] at hl
  obtain ⟨b, o, us, e1, e2, e3⟩ := hl
  simp only [Value.pointer.injEq, Option.some.injEq, Addr.mk.injEq, and_true] at e1
  obtain ⟨rfl, rfl⟩ := e1
  obtain ⟨u, hu, hr⟩ := e2.get' i hi
  simp only [Rel] at hr
  have hc := (e3 i u hu).2
  rw [hr, Nat.zero_add] at hc
  exact hc
theorem ev_FormatInt (hP : X.G 3 = some (Lib.pow10Tab.map (AV.int .u64))) (n : Int) (h : -9223372036854775808 ≤ n ∧ n ≤ 9223372036854775807) : Ev X F_strconv_FormatInt [.int .i64 n, .int .i64 10] (.str (Lib.itoa n)) :=
  ev_s_FormatInt (X := X) (ρ := lRen) (by rw [hX]; exact yFiL) (by rw [hX]; kernel_rfl) hP n h
def tab0 : List AV := (List.range 256).map fun i : Nat => .int .u8 (Lib.firstT i)
def tab1 : List AV := (List.range 16).flatMap fun i : Nat => [.int .u8 (Lib.accLo i), .int .u8 (Lib.accHi i)]
omit hX in
theorem tab1_at : ∀ i, i < 16 → tab1[2 * i]? = some (.int .u8 (Lib.accLo i)) ∧ tab1[2 * i + 1]? = some (.int .u8 (Lib.accHi i)) := by
  intro i hi
  match i, hi with
  | 0, _ | 1, _ | 2, _ | 3, _ | 4, _ | 5, _ | 6, _ | 7, _ | 8, _ | 9, _ | 10, _ | 11, _ | 12, _ | 13, _ | 14, _ | 15, _ => exact ⟨rfl, rfl⟩
  | n + 16, h => omega
theorem ev_ValidStringG (h0 : X.G 0 = some tab0) (h1 : X.G 1 = some tab1) (s : List UInt8) (hl : s.length ≤ 9223372036854775807) : Ev X F_utf8_ValidString [.str s] (.bool (Rn.okT s)) := by
  refine ev_below ⟨Go.Proofs.Tryz.f22, by rw [hX]; exact Go.Proofs.Tryz.func22, by decide, by kernel_rfl⟩ fun g w vs hwf hvs => ?_
  simp only [RelL, Rel] at hvs
  obtain ⟨v1, r1, rfl, ⟨s1, rfl, h2⟩, rfl⟩ := hvs
  rw [hX]
  refine (Any.utf8_ValidString yVsL s1 w ?_ ⟨fun c hc => ?_, fun i hi => ⟨?_, ?_⟩⟩).mono ?_
  · have : s1.size = s1.data.toList.length := by simp
    rw [h2] at this
    omega
  · exact laid_cell hwf h0 (by simp [tab0, hc])
  · exact laid_cell hwf h1 (tab1_at i hi).1
  · exact laid_cell hwf h1 (tab1_at i hi).2
  · rintro e w' ⟨rfl, hw⟩
    refine ⟨_, rfl, fun g => ?_, hw⟩
    simp only [Rel, h2]
    rw [Rn.validD_ok _ _ (Nat.le_refl _)]
/-- what ParseInt returns at base 10 -/
def prsI (s : List UInt8) : AV := match Lib.parseIntB 64 s with
  | .ok v => .tuple [.int .i64 v, .nilI]
  | _ => .tuple [.int .i64 (Lib.intSat 64 s), .ifc (lRen.t 168) .undef]
theorem ev_ParseInt {te : Nat} (hR : X.G 5 = some [.ifc te .undef]) (s : List UInt8) (hd1 : Wo.mg s ≠ []) (hd2 : ∀ c ∈ Wo.mg s, Wo.digB c = true) (hl : s.length < 1000000) : Ev X F_strconv_ParseInt [.str s, .int .i64 10, .int .i64 64] (prsI s) := by
  refine ev_below ⟨Go.Proofs.Tryz.f41, by rw [hX]; exact Go.Proofs.Tryz.func41, by decide, by kernel_rfl⟩ fun g w vs hwf hvs => ?_
  simp only [RelL, Rel] at hvs
  obtain ⟨v1, r1, rfl, ⟨s1, rfl, h1⟩, v2, r2, rfl, rfl, v3, r3, rfl, rfl, rfl⟩ := hvs
  rw [hX]
  have hp := Lx.parseIG hd1 hd2
  rw [← h1] at hp hl
  have hsz : s1.size < 1000000 := by
    have : s1.size = s1.data.toList.length := by simp
    omega
  unfold prsI
  rw [← h1]
  by_cases hv : -9223372036854775808 ≤ Wo.valS s1.data.toList ∧ Wo.valS s1.data.toList ≤ 9223372036854775807
  · rw [if_pos hv] at hp
    rw [hp]
    refine (Any.strconv_ParseInt_10_at64_ok yPiL s1 (by omega) _ hp w).mono ?_
    rintro e w' ⟨rfl, hw⟩
    refine ⟨_, rfl, fun g => ?_, ?_⟩
    · simp only [Rel, RelL]
      exact ⟨_, rfl, _, _, rfl, rfl, _, _, rfl, rfl, rfl⟩
    · rcases hw with rfl | ⟨t, rfl⟩
      · exact RowKit.Below.refl _ _
      · exact Lib.bytesWorld_below _ _ _
  · rw [if_neg hv] at hp
    rw [hp]
    have hl := hwf.laid _ _ hR
    simp only [Rel] at hl
    obtain ⟨b, o, vs, e1, e2, e3⟩ := hl
    simp only [RelL, Rel] at e2
    obtain ⟨v, vr, rfl, ⟨u, rfl, _⟩, rfl⟩ := e2
    simp only [Value.pointer.injEq, Option.some.injEq, Addr.mk.injEq, and_true] at e1
    obtain ⟨rfl, rfl⟩ := e1
    have hc := (e3 0 _ rfl).2
    refine (Any.strconv_ParseInt_10_at64_range yPiL s1 (by omega) hp _ w hc (.inr ⟨_, _, rfl⟩)).mono ?_
    rintro e w' ⟨M, rfl, _, _, hw⟩
    refine ⟨_, rfl, fun g => ?_, hw⟩
    simp only [Rel, RelL]
    exact ⟨_, rfl, _, _, rfl, rfl, _, _, rfl, ⟨_, rfl, trivial⟩, rfl⟩
theorem ev_ipEmpty (base bits : Int) : Ev X F_strconv_ParseInt_53 [.str [], .int .i64 base, .int .i64 bits] (.tuple [.int .i64 0, .ifc (lRen.t 167) (.int .i64 2)]) := by
  refine ev_below ⟨Go.Proofs.Tryz.f53, by rw [hX]; exact Go.Proofs.Tryz.func53, by decide, by kernel_rfl⟩ fun g w vs hwf hvs => ?_
  simp only [RelL, Rel] at hvs
  obtain ⟨v1, r1, rfl, ⟨s1, rfl, h1⟩, v2, r2, rfl, rfl, v3, r3, rfl, rfl, rfl⟩ := hvs
  have e1 : s1 = ⟨#[]⟩ := by
    cases s1 with
    | mk d => congr; exact Array.toList_inj.1 h1
  subst e1
  rw [hX]
  refine (Any.internal_strconv_ParseInt_empty yIpL base bits w).mono ?_
  rintro e w' ⟨rfl, rfl⟩
  refine ⟨_, rfl, fun g => ?_, RowKit.Below.refl _ _⟩
  simp only [Rel, RelL]
  exact ⟨_, rfl, _, _, rfl, rfl, _, _, rfl, ⟨_, rfl, rfl⟩, rfl⟩
theorem ev_toError {te : Nat} (hR : X.G 4 = some [.ifc te .undef]) (fn s : List UInt8) (base bits : Int) (hl : s.length < 1000000) : Ev X F_strconv_toError [.str fn, .str s, .int .i64 base, .int .i64 bits, .ifc (lRen.t 167) (.int .i64 2)] (.ifc (lRen.t 168) .undef) := by
  refine ev_below ⟨Go.Proofs.Tryz.f54, by rw [hX]; exact Go.Proofs.Tryz.func54, by decide, by kernel_rfl⟩ fun g w vs hwf hvs => ?_
  simp only [RelL, Rel] at hvs
  obtain ⟨v0, r0, rfl, ⟨s0, rfl, h0⟩, v1, r1, rfl, ⟨s1, rfl, h1⟩, v2, r2, rfl, rfl, v3, r3, rfl, rfl, v4, r4, rfl, ⟨v5, rfl, rfl⟩, rfl⟩ := hvs
  rw [hX]
  have hsz : s1.size < 1000000 := by
    have : s1.size = s1.data.toList.length := by simp
    rw [h1] at this
    omega
  have hl := hwf.laid _ _ hR
  simp only [Rel] at hl
  obtain ⟨b, o, vs, e1, e2, e3⟩ := hl
  simp only [RelL, Rel] at e2
  obtain ⟨v, vr, rfl, ⟨u, rfl, _⟩, rfl⟩ := e2
  simp only [Value.pointer.injEq, Option.some.injEq, Addr.mk.injEq, and_true] at e1
  obtain ⟨rfl, rfl⟩ := e1
  have hc := (e3 0 _ rfl).2
  refine (Any.strconv_toError_syntax yTeL s0 s1 base bits _ w (by omega) hc (.inr ⟨_, _, rfl⟩)).mono ?_
  rintro e w' ⟨M, rfl, _, _, hw⟩
  refine ⟨_, rfl, fun g => ?_, hw⟩
  simp only [Rel]
  exact ⟨_, rfl, trivial⟩
end
end Go.Avm

/- FormatInt at base 16. -/
namespace Go.Avm
open Go Go.Rn Go.Lx
def db64 : List Int := [0, 1, 56, 2, 57, 49, 28, 3, 61, 58, 42, 50, 38, 29, 17, 4, 62, 47, 59, 36, 45, 43, 51, 22, 53, 39, 33, 30, 24, 18, 12, 5, 63, 55, 48, 27, 60, 41, 37, 16, 46, 35, 44, 21, 52, 32, 23, 11, 54, 26, 40, 15, 34, 20, 31, 10, 25, 14, 19, 9, 13, 8, 7, 6]
def tabB : List AV := db64.map (AV.int .u8)
def hexS : List UInt8 := [48, 49, 50, 51, 52, 53, 54, 55, 56, 57, 97, 98, 99, 100, 101, 102, 103, 104, 105, 106, 107, 108, 109, 110, 111, 112, 113, 114, 115, 116, 117, 118, 119, 120, 121, 122]
theorem hexS_at : ∀ n : Nat, n < 16 → hexS.getD n 0 = Wo.hexd n := by decide
theorem hexL_at {n : Nat} (h : n < 16) : List.getD [48, 49, 50, 51, 52, 53, 54, 55, 56, 57, 97, 98, 99, 100, 101, 102, 103, 104, 105, 106, 107, 108, 109, 110, 111, 112, 113, 114, 115, 116, 117, 118, 119, 120, 121, 122] n (0 : UInt8) = Wo.hexd n := hexS_at n h
/-- the array, filled from its end -/
def bufA (t : List UInt8) : List AV := List.replicate (65 - t.length) (.int .u8 0) ++ t.map u8
theorem bufA_len {t : List UInt8} (h : t.length ≤ 65) : (bufA t).length = 65 := by simp [bufA]; omega
theorem bufA_set {t : List UInt8} (h : t.length < 65) (d : UInt8) : (bufA t).set (65 - t.length - 1) (u8 d) = bufA (d :: t) := by
  unfold bufA
  obtain ⟨k, hk⟩ : ∃ k, 65 - t.length = k + 1 := ⟨64 - t.length, by omega⟩
  rw [hk, List.length_cons, show 65 - (t.length + 1) = k by omega, show k + 1 - 1 = k by omega, List.replicate_succ', List.append_assoc]
  rw [List.set_append_right _ _ (by simp), List.length_replicate, Nat.sub_self]
  rfl
theorem bufA_drop (t : List UInt8) (h : t.length ≤ 65) : (bufA t).drop (65 - t.length) = t.map u8 := by
  unfold bufA
  rw [List.drop_append_of_le_length (by simp), List.drop_eq_nil_of_le (by simp), List.nil_append]
theorem and15 {u : Int} (h0 : 0 ≤ u) (h1 : u < 2 ^ 64) : bits .and .u64 u 15 = u % 16 := by
  have := bits_mask .u64 64 (by decide) wraps_u64 4 (by decide) u h0 h1
  simpa using this
set_option maxRecDepth 10000
section
variable {X : Cx} (hX : X.P = Go.Proofs.Tryz.prog) (hs : Std X)
include hX hs
theorem ev_tz16 (hB : X.G 8 = some tabB) : Ev X F_bits_TrailingZeros [.int .u64 16] (.int .i64 4) := by
  have h64 : Ev X F_bits_TrailingZeros64 [.int .u64 16] (.int .i64 4) := by
    refine ev_of_wpc hs (A_bits_TrailingZeros64_ok hX) 0 ?_
    have e1 : IntKind.u64.wrap (0 - 16) = 18446744073709551600 := by decide
    have e2 : bits .and .u64 16 18446744073709551600 = 16 := by decide
    have e3 : IntKind.u64.wrap (16 * 285870213051353865) = 4573923408821661840 := by decide
    have e4 : Int.fdiv 4573923408821661840 (2 ^ min 58 64) = 15 := by decide
    have e5 : IntKind.i64.wrap 4 = 4 := by decide
    have e6 : tabB.drop 15 = .int .u8 4 :: tabB.drop 16 := rfl
    simp only [A_bits_TrailingZeros64, go_sem, Nat.reduceMod, Nat.reduceBNe, Nat.reduceBEq, Nat.reduceEqDiff, Nat.reduceAdd, Int.reduceAdd, Nat.reduceMul, Nat.reduceSub, Int.reduceToNat, Int.reduceLE, Int.reduceLT, Int.reduceEq, Int.reduceNe, reduceCtorEq, Nat.reduceLT, Nat.reduceLeDiff, hB, e1, e2, e3, e4, e5, e6]
  refine ev_of_wpc hs (A_bits_TrailingZeros_ok hX) 0 ?_
  simp only [A_bits_TrailingZeros, go_sem, Nat.reduceMod, Nat.reduceBNe, Nat.reduceBEq, Nat.reduceEqDiff, Nat.reduceAdd, Int.reduceAdd, Nat.reduceMul, Nat.reduceSub, Int.reduceToNat, Int.reduceLE, Int.reduceLT, Int.reduceEq, Int.reduceNe, reduceCtorEq, Nat.reduceLT, Nat.reduceLeDiff]
  refine call_ev h64 ?_
  simp only [go_sem, Nat.reduceMod, Nat.reduceBNe, Nat.reduceBEq, Nat.reduceEqDiff, Nat.reduceAdd, Int.reduceAdd, Nat.reduceMul, Nat.reduceSub, Int.reduceToNat, Int.reduceLE, Int.reduceLT, Int.reduceEq, Int.reduceNe, reduceCtorEq, Nat.reduceLT, Nat.reduceLeDiff]
theorem ev_pow2 : Ev X F_strconv_isPowerOfTwo [.int .i64 16] (.bool true) := by
  refine ev_of_wpc hs (A_strconv_isPowerOfTwo_ok hX) 0 ?_
  have e1 : IntKind.i64.wrap (16 - 1) = 15 := by decide
  have e2 : bits .and .i64 16 15 = 0 := by decide
  simp only [A_strconv_isPowerOfTwo, go_sem, Nat.reduceMod, Nat.reduceBNe, Nat.reduceBEq, Nat.reduceEqDiff, Nat.reduceAdd, Int.reduceAdd, Nat.reduceMul, Nat.reduceSub, Int.reduceToNat, Int.reduceLE, Int.reduceLT, Int.reduceEq, Int.reduceNe, reduceCtorEq, Nat.reduceLT, Nat.reduceLeDiff, e1, e2]
theorem ev_formatBits (hB : X.G 8 = some tabB) (n : Nat) (hn : n < 1114112) : Ev X F_strconv_formatBits [.sl .ro [], .int .u64 n, .int .i64 16, .bool false, .bool false] (.tuple [.sl .ex [], .str (hexs n)]) := by
  refine ev_of_wpc hs (A_strconv_formatBits_ok hX) 0 ?_
  simp only [A_strconv_formatBits, go_sem, Nat.reduceMod, Nat.reduceBNe, Nat.reduceBEq, Nat.reduceEqDiff, Nat.reduceAdd, Int.reduceAdd, Nat.reduceMul, Nat.reduceSub, Int.reduceToNat, Int.reduceLE, Int.reduceLT, Int.reduceEq, Int.reduceNe, reduceCtorEq, Nat.reduceLT, Nat.reduceLeDiff]
  refine call_ev (ev_pow2 hX hs) ?_
  simp only [go_sem, Nat.reduceMod, Nat.reduceBNe, Nat.reduceBEq, Nat.reduceEqDiff, Nat.reduceAdd, Int.reduceAdd, Nat.reduceMul, Nat.reduceSub, Int.reduceToNat, Int.reduceLE, Int.reduceLT, Int.reduceEq, Int.reduceNe, reduceCtorEq, Nat.reduceLT, Nat.reduceLeDiff]
  have k1 : IntKind.u64.wrap 16 = 16 := by decide
  have k2 : IntKind.u64.wrap 4 = 4 := by decide
  have k3 : IntKind.u64.wrap (16 - 1) = 15 := by decide
  rw [k1]
  refine call_ev (ev_tz16 hX hs hB) ?_
  simp only [go_sem, Nat.reduceMod, Nat.reduceBNe, Nat.reduceBEq, Nat.reduceEqDiff, Nat.reduceAdd, Int.reduceAdd, Nat.reduceMul, Nat.reduceSub, Int.reduceToNat, Int.reduceLE, Int.reduceLT, Int.reduceEq, Int.reduceNe, reduceCtorEq, Nat.reduceLT, Nat.reduceLeDiff, k1, k2, k3]
  have hl6 : (hexs n).length ≤ 6 := hexs_len 5 n (by rw [show (16 : Nat) ^ (5 + 1) = 16777216 by rfl]; omega)
  refine w_loop' hs.hm (ι := Nat × List UInt8) (fun x => hexs x.1 ++ x.2 = hexs n ∧ x.1 < 1114112) (fun x => [(0, .sl .ro []), (1, .int .u64 x.1), (2, .int .i64 16), (3, .bool false), (4, .bool false), (10, .sl .ex []), (11, .str []), (12, .ptr 0 0), (13, .int .i64 ((65 - x.2.length : Nat) : Int)), (14, .int .u64 4), (15, .int .u64 16), (16, .int .u64 15)]) (fun x => [.box (bufA x.2)]) (fun x => x.1) (n, []) ?_ fun x hx => ?_
  · simp only [go_sem, Nat.reduceMod, Nat.reduceBNe, Nat.reduceBEq, Nat.reduceEqDiff, Nat.reduceAdd, Int.reduceAdd, Nat.reduceMul, Nat.reduceSub, Int.reduceToNat, Int.reduceLE, Int.reduceLT, Int.reduceEq, Int.reduceNe, reduceCtorEq, Nat.reduceLT, Nat.reduceLeDiff]
    exact ⟨hn, rfl⟩
  · obtain ⟨u, t⟩ := x
    obtain ⟨h1, h2⟩ := hx
    dsimp only at h1 h2 ⊢
    have hpos : 1 ≤ (hexs u).length := by
      cases hq : hexs u with
      | nil => exact absurd hq (hexs_all u).2.2
      | cons => simp
    have htl : t.length ≤ 5 := by
      have := congrArg List.length h1
      rw [List.length_append] at this
      omega
    have hbl := bufA_len (t := t) (by omega)
    have w13 : IntKind.i64.wrap (((65 - t.length : Nat) : Int) - 1) = ((65 - t.length - 1 : Nat) : Int) := by rw [wi64 (by omega)]; omega
    have a15 : bits .and .u64 (u : Int) 15 = ((u % 16 : Nat) : Int) := by rw [and15 (by omega) (by omega)]; omega
    have sh4 : Int.fdiv (u : Int) (2 ^ min 4 64) = ((u / 16 : Nat) : Int) := by
      rw [show (2 : Int) ^ min 4 64 = 16 by decide, Int.fdiv_eq_ediv_of_nonneg _ (by omega)]; omega
    have hm : u % 16 < 16 := Nat.mod_lt _ (by decide)
    have hsc : ∀ c : UInt8, setCells (bufA t) (65 - t.length - 1) [.int .u8 ((c.toNat : Nat) : Int)] = bufA (c :: t) := fun c => bufA_set (by omega) c
    simp only [A_strconv_formatBitsL0, go_sem, Nat.reduceMod, Nat.reduceBNe, Nat.reduceBEq, Nat.reduceEqDiff, Nat.reduceAdd, Int.reduceAdd, Nat.reduceMul, Nat.reduceSub, Int.reduceToNat, Int.reduceLE, Int.reduceLT, Int.reduceEq, Int.reduceNe, reduceCtorEq, Nat.reduceLT, Nat.reduceLeDiff, w13, a15, sh4, hexL_at hm, hbl, hsc, Nat.mul_one]
    refine ⟨fun c => ⟨⟨by omega, by omega⟩, ⟨by omega, by omega⟩, by omega, (u / 16, Wo.hexd (u % 16) :: t), ?_, ⟨?_, ?_⟩, ⟨rfl, ?_⟩, rfl⟩, fun c => ⟨⟨by omega, by omega⟩, ⟨by omega, by omega⟩, by omega, ⟨by omega, by omega⟩, ?_⟩⟩
    · exact Nat.div_lt_self (by omega) (by decide)
    · rw [← h1, hexs_big (n := u) (by omega), List.append_assoc]; rfl
    · exact Nat.lt_of_le_of_lt (Nat.div_le_self _ _) h2
    · simp only [List.length_cons]; congr 1
    · have hu : u < 16 := by omega
      rw [hexL_at hu]
      have e1 : b2sA [Blk.box (bufA (Wo.hexd u :: t))] (AV.rsl 0 (65 - t.length - 1) (65 - (65 - t.length - 1)) (65 - (65 - t.length - 1)) 1) = lst u8 .ro (Wo.hexd u :: t) := by
        have hd := bufA_drop (Wo.hexd u :: t) (by simp only [List.length_cons]; omega)
        rw [List.length_cons, show 65 - (t.length + 1) = 65 - t.length - 1 by omega] at hd
        have hb := bufA_len (t := Wo.hexd u :: t) (by simp only [List.length_cons]; omega)
        simp only [b2sA, cpySrc, List.getElem?_cons_zero]
        rw [if_pos ⟨trivial, by rw [hb]; omega⟩, hd]
        simp only
        rw [List.take_of_length_le (by rw [List.length_map, List.length_cons]; omega)]; rfl
      rw [e1]
      simp only [go_sem, Nat.reduceMod, Nat.reduceBNe, Nat.reduceBEq, Nat.reduceEqDiff, Nat.reduceAdd, Int.reduceAdd, Nat.reduceMul, Nat.reduceSub, Int.reduceToNat, Int.reduceLE, Int.reduceLT, Int.reduceEq, Int.reduceNe, reduceCtorEq, Nat.reduceLT, Nat.reduceLeDiff]
      rw [← h1, hexs_small hu]; rfl
theorem ev_FormatHex (hB : X.G 8 = some tabB) (n : Nat) (hn : n < 1114112) : Ev X F_strconv_FormatInt [.int .i64 n, .int .i64 16] (.str (hexs n)) := by
  refine ev_of_wpc hs (A_strconv_FormatInt_ok hX) 0 ?_
  simp only [A_strconv_FormatInt, go_sem, Nat.reduceMod, Nat.reduceBNe, Nat.reduceBEq, Nat.reduceEqDiff, Nat.reduceAdd, Int.reduceAdd, Nat.reduceMul, Nat.reduceSub, Int.reduceToNat, Int.reduceLE, Int.reduceLT, Int.reduceEq, Int.reduceNe, reduceCtorEq, Nat.reduceLT, Nat.reduceLeDiff]
  refine call_ev (r := .str (hexs n)) ?_ ?_
  · refine ev_of_wpc hs (A_strconv_FormatInt_45_ok hX) 0 ?_
    have h0 : ¬ (n : Int) < 0 := by omega
    have hw : IntKind.u64.wrap (n : Int) = n := wu64 (by omega)
    simp only [A_strconv_FormatInt_45, go_sem, Nat.reduceMod, Nat.reduceBNe, Nat.reduceBEq, Nat.reduceEqDiff, Nat.reduceAdd, Int.reduceAdd, Nat.reduceMul, Nat.reduceSub, Int.reduceToNat, Int.reduceLE, Int.reduceLT, Int.reduceEq, Int.reduceNe, reduceCtorEq, Nat.reduceLT, Nat.reduceLeDiff, h0, hw]
    refine call_ev (ev_formatBits hX hs hB n hn) ?_
    simp only [go_sem, Nat.reduceMod, Nat.reduceBNe, Nat.reduceBEq, Nat.reduceEqDiff, Nat.reduceAdd, Int.reduceAdd, Nat.reduceMul, Nat.reduceSub, Int.reduceToNat, Int.reduceLE, Int.reduceLT, Int.reduceEq, Int.reduceNe, reduceCtorEq, Nat.reduceLT, Nat.reduceLeDiff]
  · simp only [go_sem, Nat.reduceMod, Nat.reduceBNe, Nat.reduceBEq, Nat.reduceEqDiff, Nat.reduceAdd, Int.reduceAdd, Nat.reduceMul, Nat.reduceSub, Int.reduceToNat, Int.reduceLE, Int.reduceLT, Int.reduceEq, Int.reduceNe, reduceCtorEq, Nat.reduceLT, Nat.reduceLeDiff]
end
end Go.Avm
