/- The reader: text. -/
import Derived.Test.YtcldomkahgaplaaGreatDoorAR3
import Derived.Test.YtcldomkahgaplaaGreatDoorAR2
import Derived.Test.YtcldomkahgaplaaGreatDoorML2
set_option linter.all false
namespace Go.Avm
open Go Go.Rn Go.Lx
set_option maxRecDepth 10000
structure TS where
  q : Nat
  j : Nat
  c : List UInt8
def fz : Blk := .box [.int .i64 0, .int .i64 0]
section
variable {X : Cx} (hX : X.P = Go.Proofs.Tryz.prog) (hs : Std X) (hN : X.G 2 = some [.int .i64 0, .int .i64 0]) {te : Nat} (hR : X.G 5 = some [.ifc te .undef])
include hX hs hN hR
end
end Go.Avm
namespace Go.Avm
open Go Go.Rn Go.Lx
set_option maxRecDepth 10000
section
variable {X : Cx} (hX : X.P = Go.Proofs.Tryz.prog) (hs : Std X)
include hX hs
set_option maxHeartbeats 1000000 in
theorem ev_quoted (hB : X.G 8 = some tabB) (s : List UInt8) (ht : okT s = true) (hl : s.length < 1000000) : Ev X F_lexer_quoted [.str s] (.str (qt s)) := by
 refine ev_of_wpc hs (A_lexer_quoted_ok hX) 0 ?_
 simp only [A_lexer_quoted, go_sem, Nat.reduceEqDiff, reduceCtorEq]
 refine call_evm (ev_bWB hX (i := 0) (l := []) 34 (by rfl) (by decide)) ?_
 rintro r H' ⟨rfl, rfl⟩
 simp only [go_sem, Nat.reduceEqDiff, reduceCtorEq]
 refine w_loop' hs.hm (ι := QS) (QI s) (fun x => [(0, .str s), (3, .ptr 0 0), (8, .ptr 1 0)]) (fun x => [.bld 61 5 (34 :: x.pre.flatMap escR), .sit s x.q]) (fun x => s.length - x.q) ⟨0, []⟩ ?_ fun x hx => ?_
 ·simp only [go_sem, Nat.reduceEqDiff, reduceCtorEq]
  exact ⟨QI_0 ht, rfl⟩
 by_cases hq : x.q < s.length
 ·obtain ⟨r, n, hd, hv, hn, hI⟩ := QI_step hx hq
  have hx4 := hx.2.2.2.1
  have hr := valid_rng hv
  have hlp := enc_len_pos hv
  have hne : s.drop x.q ≠ [] := fun e => by have := congrArg List.length e; rw [List.length_drop] at this; simp at this; omega
  have hde := dec_of (s.drop x.q) hne
  rw [hd] at hde
  have d1 : (((dec (s.drop x.q)).1 : Nat) : Int) = r := by rw [hde]; simp only [pr]; omega
  have d2 : (dec (s.drop x.q)).2 = n := by rw [hde]; rfl
  have hfl : (34 :: x.pre.flatMap escR).length ≤ 10000000 := by rw [List.length_cons]; omega
  have fin : ∀ bs, bs = escR r → ∃ j : QS, s.length - j.q < s.length - x.q ∧ QI s j ∧ [Blk.bld 61 5 (34 :: x.pre.flatMap escR ++ bs), Blk.sit s (x.q + n)] = [Blk.bld 61 5 (34 :: j.pre.flatMap escR), Blk.sit s j.q] := fun bs hb => by
   refine ⟨⟨x.q + n, x.pre ++ [r]⟩, by dsimp only; omega, hI, ?_⟩
   subst hb
   dsimp only
   rw [List.flatMap_append]
   simp
  simp only [A_lexer_quotedL0, go_sem, Nat.reduceEqDiff, Nat.reduceAdd, reduceCtorEq, Nat.reduceLT, hq, d1, d2]
  by_cases c34 : r = 34
  ·simp only [go_sem, Int.reduceLE, Int.reduceLT, Int.reduceEq, c34]
   refine call_evm (ev_bWB hX (i := 0) 92 (by rfl) (by omega)) ?_
   rintro r2 H2 ⟨rfl, rfl⟩
   simp only [go_sem, Nat.reduceEqDiff, reduceCtorEq]
   refine call_evm (ev_bWR hX (i := 0) 34 (by decide) (by rfl) (by simp only [List.length_cons, List.length_append, List.length_nil] at hfl ⊢; omega)) ?_
   rintro r2 H2 ⟨rfl, rfl⟩
   simp only [go_sem, Nat.reduceEqDiff, reduceCtorEq]
   have := fin ([92] ++ enc 34) (by rw [c34]; rfl)
   rw [← List.append_assoc] at this
   exact this
  by_cases c92 : r = 92
  ·simp only [go_sem, Int.reduceLE, Int.reduceLT, Int.reduceEq, c92]
   refine call_evm (ev_bWB hX (i := 0) 92 (by rfl) (by omega)) ?_
   rintro r2 H2 ⟨rfl, rfl⟩
   simp only [go_sem, Nat.reduceEqDiff, reduceCtorEq]
   refine call_evm (ev_bWR hX (i := 0) 92 (by decide) (by rfl) (by simp only [List.length_cons, List.length_append, List.length_nil] at hfl ⊢; omega)) ?_
   rintro r2 H2 ⟨rfl, rfl⟩
   simp only [go_sem, Nat.reduceEqDiff, reduceCtorEq]
   have := fin ([92] ++ enc 92) (by rw [c92]; rfl)
   rw [← List.append_assoc] at this
   exact this
  have n1 : ¬ (r = 34 ∨ r = 92) := fun e => e.elim c34 c92
  by_cases c10 : r = 10
  ·simp only [go_sem, Int.reduceLE, Int.reduceLT, Int.reduceEq, c10]
   refine call_evm (ev_bWS hX (i := 0) [92, 110] (by rfl) (by simp only [List.length_cons, List.length_nil] at hfl ⊢; omega)) ?_
   rintro r2 H2 ⟨rfl, rfl⟩
   simp only [go_sem, Nat.reduceEqDiff, Nat.reduceAdd, reduceCtorEq]
   exact fin [92, 110] (by rw [c10]; rfl)
  by_cases cp : 32 ≤ r ∧ r < 127
  ·have e : enc r = escR r := by
    unfold escR; rw [if_neg n1, if_neg c10, if_pos (by omega)]
   simp only [go_sem, c34, c92, c10, cp.1, cp.2]
   refine call_evm (ev_bWR hX (i := 0) r hv (by rfl) (by omega)) ?_
   rintro r2 H2 ⟨rfl, rfl⟩
   simp only [go_sem, Nat.reduceEqDiff, reduceCtorEq]
   exact fin (enc r) e
  ·have e : escR r = 92 :: 117 :: (Lx.hexs r.toNat ++ [59]) := by
    unfold escR; rw [if_neg n1, if_neg c10, if_neg (by omega)]
   have hlen : (Lx.hexs r.toNat).length ≤ 6 := hexs_len 5 r.toNat (by rw [show (16 : Nat) ^ (5 + 1) = 16777216 by rfl]; omega)
   have hw : IntKind.i64.wrap r = ((r.toNat : Nat) : Int) := by rw [wi64 (by omega)]; omega
   have go : ∀ (K : Fr → Heap → Prop) (d : Option Nat) (fr : Fr) (H : Heap), K (fr.updo d (.str (Lx.hexs r.toNat))) H → CallOk X F_strconv_FormatInt [.int .i64 ((r.toNat : Nat) : Int), .int .i64 16] d fr H K := fun K d fr H hK => call_ev (ev_FormatHex hX hs hB r.toNat (by omega)) hK
   by_cases c32 : 32 ≤ r
   ·have c127 : ¬ r < 127 := fun h => cp ⟨c32, h⟩
    simp only [go_sem, c34, c92, c10, c32, c127, hw]
    refine go _ _ _ _ ?_
    simp only [go_sem, Nat.reduceEqDiff, Nat.reduceAdd, reduceCtorEq, Nat.reduceLeDiff]
    refine ⟨by omega, by omega, ?_⟩
    refine call_evm (ev_bWS hX (i := 0) (92 :: 117 :: (Lx.hexs r.toNat ++ [59])) (by rfl) (by simp only [List.length_cons, List.length_append, List.length_nil] at hfl ⊢; omega)) ?_
    rintro r2 H2 ⟨rfl, rfl⟩
    simp only [go_sem, Nat.reduceEqDiff, reduceCtorEq]
    exact fin _ e.symm
   ·simp only [go_sem, c34, c92, c10, c32, hw]
    refine go _ _ _ _ ?_
    simp only [go_sem, Nat.reduceEqDiff, Nat.reduceAdd, reduceCtorEq, Nat.reduceLeDiff]
    refine ⟨by omega, by omega, ?_⟩
    refine call_evm (ev_bWS hX (i := 0) (92 :: 117 :: (Lx.hexs r.toNat ++ [59])) (by rfl) (by simp only [List.length_cons, List.length_append, List.length_nil] at hfl ⊢; omega)) ?_
    rintro r2 H2 ⟨rfl, rfl⟩
    simp only [go_sem, Nat.reduceEqDiff, reduceCtorEq]
    exact fin _ e.symm
 ·have he := QI_end hx hq
  have hx4 := hx.2.2.2.1
  have hx1 := hx.1
  simp only [A_lexer_quotedL0, go_sem, Nat.reduceEqDiff, Nat.reduceAdd, reduceCtorEq, Nat.reduceLT, hq]
  refine call_evm (ev_bWB hX (i := 0) 34 (by rfl) (by rw [List.length_cons]; omega)) ?_
  rintro r2 H2 ⟨rfl, rfl⟩
  simp only [go_sem, Nat.reduceEqDiff, reduceCtorEq]
  refine call_evm (ev_bStringA hX (i := 0) (by rfl)) ?_
  rintro r2 H2 ⟨rfl, rfl⟩
  simp only [go_sem, Nat.reduceEqDiff, reduceCtorEq, he]
  rfl
end
end Go.Avm
namespace Go.Avm
open Go Go.Rn Go.Lx
set_option maxRecDepth 10000
section
variable {X : Cx} (hX : X.P = Go.Proofs.Tryz.prog) (hs : Std X) (hN : X.G 2 = some [.int .i64 0, .int .i64 0]) (hB : X.G 8 = some tabB) (hP : X.G 4 = some (Lib.pow10Tab.map (AV.int .u64)))
include hX hs hN hB hP
omit hN hP in
theorem ev_Quote (h0 : X.G 0 = some tab0) (h1 : X.G 1 = some tab1) (s : List UInt8) (hl : s.length < 1000000) : Ev X F_lexer_Quote [.str s] (if 2000 < s.length then .tuple [.str [], .int .i64 3] else if okT s = false then .tuple [.str [], .int .i64 6] else .tuple [.str (qt s), .int .i64 0]) := by
  refine ev_of_wpc hs (A_lexer_Quote_ok hX) 0 ?_
  simp only [A_lexer_Quote, go_sem, Nat.reduceEqDiff, reduceCtorEq]
  refine ⟨fun h => by rw [if_pos (by omega)], fun h => ?_⟩
  rw [if_neg (by omega)]
  refine call_ev (ev_ValidString hX h0 h1 s hl) ?_
  cases hv : okT s with
  | true =>
    simp only [go_sem, Nat.reduceEqDiff, reduceCtorEq]
    refine call_ev (ev_quoted hX hs hB s hv hl) ?_
    simp only [go_sem, Nat.reduceEqDiff, reduceCtorEq]
  | false =>
    simp only [go_sem, Nat.reduceEqDiff, reduceCtorEq]
end
end Go.Avm
namespace Go.Avm
open Go Go.Rn Go.Lx
set_option maxRecDepth 10000
instance : Inhabited Tok := ⟨⟨0, 0, []⟩⟩
def ptV (x : PT) : AV := tkV x.1 (x.2.1 : Nat) (x.2.2 : Nat)
instance : Elt ptV 5 := ⟨fun _ => rfl, fun _ => rfl, fun _ => rfl, fun _ => rfl⟩
end Go.Avm
namespace Go.Lx
def LR.pre (l : List PT) : LR → LR
 | .ok m => .ok (l ++ m)
 | .bad d e => .bad d e
end Go.Lx
namespace Go.Avm
open Go Go.Rn Go.Lx
set_option maxRecDepth 10000
structure LS where
 p : Nat
 l : List PT
 G : Heap
theorem ev_of_wpcDd {X : Cx} (hs : Std X) {f : FuncId} {hint : Nat → Bool} {af : AFun} (hc : compileFun X.P f hint = some af) {args : List AV} {r : AV} (k : Nat)
  (h : wpc X af.n af.code (kq X af.n (RetIs af.res fun r' H' => dry (fin H' k r') = r) []) (FL.get (args.zipIdx.map fun p => (p.2, p.1))) [.dead]) : Ev X f args r := by
 have h0 := (evM_of_wpcD (Hin := []) hs hc h).evF
 exact ⟨h0.1, fun g w vs h1 h2 h3 => (h0.2 g w vs h1 h2 h3).mono fun e w' ⟨v, r', g', H', k1, k2, k3, k4, k5, k6⟩ => by
  subst k6
  exact ⟨v, _, finG g' w', [], k1, finG_flat ▸ dry_rel _ (fin_rel k4 k r' k2), finG_wf k3, hr_nil (fun _ => rfl) (fun _ => rfl) (fun _ => rfl), k5.trans finG_ext, rfl, rfl⟩⟩
section
variable {X : Cx} (hX : X.P = Go.Proofs.Tryz.prog) (hs : Std X) (hN : X.G 2 = some [.int .i64 0, .int .i64 0]) (hB : X.G 8 = some tabB) (hP : X.G 4 = some (Lib.pow10Tab.map (AV.int .u64))) {te te' : Nat} (hR : X.G 6 = some [.ifc te .undef]) (hR4 : X.G 5 = some [.ifc te' .undef])
include hX hs hN hB hP hR hR4
end
end Go.Avm
