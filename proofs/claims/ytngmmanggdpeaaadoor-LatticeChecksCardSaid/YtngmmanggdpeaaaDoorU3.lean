/- LatticeAlgebra. -/
import Derived.Test.YtngmmanggdpeaaaDoorU2
set_option linter.unusedSectionVars false
set_option linter.unusedSimpArgs false
set_option linter.unusedVariables false

/- LatticeAlgebra. -/
namespace Go.Avm
open Go
/-- a table of joins as it is filled -/
def gJ (J : Nat → Nat → Nat) (n a b k : Nat) : Nat := if k / 8 < n ∧ k % 8 < n ∧ (k / 8 < a ∨ (k / 8 = a ∧ k % 8 < b)) then J (k / 8) (k % 8) else 0
theorem gJ_set (J : Nat → Nat → Nat) {n a b : Nat} (n8 : n ≤ 8) (ha : a < n) (hb : b < n) (k : Nat) : (if k = a * 8 + b then J a b else gJ J n a b k) = gJ J n a (b + 1) k := by
  have e : k = a * 8 + b ↔ (k / 8 = a ∧ k % 8 = b) := by omega
  unfold gJ
  by_cases h : k / 8 = a ∧ k % 8 = b
  · rw [if_pos (e.2 h), if_pos (by omega), h.1, h.2]
  · rw [if_neg (fun x => h (e.1 x))]
    by_cases h2 : k / 8 < n ∧ k % 8 < n ∧ (k / 8 < a ∨ (k / 8 = a ∧ k % 8 < b))
    · rw [if_pos h2, if_pos (by omega)]
    · rw [if_neg h2, if_neg (by omega)]
theorem gJ_row (J : Nat → Nat → Nat) {n a b : Nat} (hb : n ≤ b) (k : Nat) : gJ J n a b k = gJ J n (a + 1) 0 k := by
  unfold gJ
  by_cases h2 : k / 8 < n ∧ k % 8 < n ∧ (k / 8 < a ∨ (k / 8 = a ∧ k % 8 < b))
  · rw [if_pos h2, if_pos (by omega)]
  · rw [if_neg h2, if_neg (by omega)]
theorem gJ_0 (J : Nat → Nat → Nat) (n k : Nat) : gJ J n 0 0 k = 0 := by
  unfold gJ
  rw [if_neg (by omega)]
theorem gJ_get (J : Nat → Nat → Nat) {n a b : Nat} (n8 : n ≤ 8) (ha : a < n) (hb : b < n) : gJ J n n 0 (a * 8 + b) = J a b := by
  unfold gJ
  have h1 : (a * 8 + b) / 8 = a := by omega
  have h2 : (a * 8 + b) % 8 = b := by omega
  rw [h1, h2, if_pos (by omega)]
def tJ (J : Nat → Nat → Nat) (n a b : Nat) : List AV := tb 64 fun k => .int .i64 (gJ J n a b k : Nat)
theorem tJ_len (J : Nat → Nat → Nat) (n a b : Nat) : (tJ J n a b).length = 64 := tb_len _ _
theorem tJ_0 (J : Nat → Nat → Nat) (n : Nat) : tb 64 (fun _ => AV.int .i64 0) = tJ J n 0 0 := by
  refine tb_congr fun k _ => ?_
  rw [gJ_0]
  rfl
theorem tJ_set (J : Nat → Nat → Nat) {n a b : Nat} (n8 : n ≤ 8) (ha : a < n) (hb : b < n) : (tJ J n a b).set (a * 8 + b) (.int .i64 (J a b : Nat)) = tJ J n a (b + 1) := by
  rw [tJ, tb_set]
  refine tb_congr fun k _ => ?_
  rw [← gJ_set J n8 ha hb k]
  by_cases h : k = a * 8 + b
  · rw [if_pos h, if_pos h]
  · rw [if_neg h, if_neg h]
theorem tJ_row (J : Nat → Nat → Nat) {n a b : Nat} (hb : n ≤ b) : tJ J n a b = tJ J n (a + 1) 0 := tb_congr fun k _ => by rw [gJ_row J hb]
theorem tJ_get (J : Nat → Nat → Nat) {n a b : Nat} (n8 : n ≤ 8) (ha : a < n) (hb : b < n) : (tJ J n n 0).getD (a * 8 + b) .undef = .int .i64 (J a b : Nat) := by
  rw [tJ, tb_getD _ _ (by omega), gJ_get J n8 ha hb]
set_option maxRecDepth 10000
section
variable {X : Cx} (hX : X.P = Go.Proofs.Tryd.prog) (hs : Std X)
include hX hs
set_option maxHeartbeats 4000000 in
theorem ev_lAlgebra (ns : List (List UInt8)) (up : List UInt8) : Ev X F_law03_LatticeAlgebra [latV ns up] (.bool true) := by
  refine ev_of_wpc hs (A_law03_LatticeAlgebra_ok hX) 1 ?_
  simp only [A_law03_LatticeAlgebra, latV, tb_rep, go_sem, Nat.reduceBEq, Nat.reduceEqDiff, Nat.reduceAdd, Int.reduceAdd, Nat.reduceMul, Nat.reduceSub, Int.reduceToNat, Int.reduceLE, Int.reduceLT, Int.reduceEq, Int.reduceNe, reduceCtorEq, Nat.reduceLT, Nat.reduceLeDiff]
  refine call_ev (ev_Far hX hs ns up) ?_
  cases hf : farS ns up with
  | true =>
    simp only [go_sem, Nat.reduceBEq, Nat.reduceEqDiff, Nat.reduceAdd, Int.reduceAdd, Nat.reduceMul, Nat.reduceSub, Int.reduceToNat, Int.reduceLE, Int.reduceLT, Int.reduceEq, Int.reduceNe, reduceCtorEq, Nat.reduceLT, Nat.reduceLeDiff]
    refine call_ev (ev_awake hX hs) ?_
    simp only [go_sem, Nat.reduceBEq, Nat.reduceEqDiff, Nat.reduceAdd, Int.reduceAdd, Nat.reduceMul, Nat.reduceSub, Int.reduceToNat, Int.reduceLE, Int.reduceLT, Int.reduceEq, Int.reduceNe, reduceCtorEq, Nat.reduceLT, Nat.reduceLeDiff]
  | false =>
    simp only [go_sem, Nat.reduceBEq, Nat.reduceEqDiff, Nat.reduceAdd, Int.reduceAdd, Nat.reduceMul, Nat.reduceSub, Int.reduceToNat, Int.reduceLE, Int.reduceLT, Int.reduceEq, Int.reduceNe, reduceCtorEq, Nat.reduceLT, Nat.reduceLeDiff]
    refine call_ev (ev_Check hX hs ns up) ?_
    by_cases h : (Lat.checkS ns up).2 = 0
    · have hv := chk_val h
      have n8 := hv.le8
      have n0 := hv.pos
      have n8' : ¬ (8 : Int) < ns.length := by omega
      simp only [h, n8', go_sem, Nat.reduceBEq, Nat.reduceEqDiff, Nat.reduceAdd, Int.reduceAdd, Nat.reduceMul, Nat.reduceSub, Int.reduceToNat, Int.reduceLE, Int.reduceLT, Int.reduceEq, Int.reduceNe, reduceCtorEq, Nat.reduceLT, Nat.reduceLeDiff]
      have jN' := @jN X hX hs ns up h
      have mN' := @mN X hX hs ns up h
      have Jlt := fun {a b : Nat} => @Lat.Ord.jn_lt ns.length (Lat.msk up) hv.ou a b
      have Mlt := fun {a b : Nat} => @Lat.Ord.jn_lt ns.length (fun c => Lat.dn up c ns.length) hv.od a b
      have Jself := fun {a : Nat} => @Lat.Ord.jn_self ns.length (Lat.msk up) hv.ou a
      have Mself := fun {a : Nat} => @Lat.Ord.jn_self ns.length (fun c => Lat.dn up c ns.length) hv.od a
      have Jcomm := fun {a b : Nat} => @Lat.Ord.jn_comm ns.length (Lat.msk up) hv.ou a b
      have Mcomm := fun {a b : Nat} => @Lat.Ord.jn_comm ns.length (fun c => Lat.dn up c ns.length) hv.od a b
      have Jass := fun {a b c : Nat} => @Lat.Ord.jn_assoc ns.length (Lat.msk up) hv.ou a b c
      have Mass := fun {a b c : Nat} => @Lat.Ord.jn_assoc ns.length (fun c => Lat.dn up c ns.length) hv.od a b c
      have Jle := fun {a b : Nat} => @Lat.Ord.jn_le ns.length (Lat.msk up) hv.ou a b
      have Mle := fun {a b : Nat} => @Lat.Ord.jn_le ns.length (fun c => Lat.dn up c ns.length) hv.od a b
      have Jr : ∀ {a b : Nat}, a < ns.length → b < ns.length → Lat.le up a (Lat.jn (Lat.msk up) ns.length a b) = true := fun {a b} ha hb => by
        have h1 := hv.ou.jn_bit (x := Lat.jn (Lat.msk up) ns.length a b) ha hb
        have h2 : (Lat.msk up (Lat.jn (Lat.msk up) ns.length a b)).testBit (Lat.jn (Lat.msk up) ns.length a b) = true := hv.refl _ (hv.ou.jn_lt ha hb)
        rw [h2, eq_comm, Bool.and_eq_true] at h1
        exact h1.1
      have Mr : ∀ {a b : Nat}, a < ns.length → b < ns.length → Lat.le up (Lat.jn (fun c => Lat.dn up c ns.length) ns.length a b) a = true := fun {a b} ha hb => by
        have hm := hv.od.jn_lt ha hb
        have h1 := hv.od.jn_bit (x := Lat.jn (fun c => Lat.dn up c ns.length) ns.length a b) ha hb
        simp only [Lat.dn_in hm] at h1
        rw [hv.refl _ hm, eq_comm, Bool.and_eq_true] at h1
        exact h1.1
      have A1 : ∀ {a b : Nat}, a < ns.length → b < ns.length → Lat.jn (Lat.msk up) ns.length a (Lat.jn (fun c => Lat.dn up c ns.length) ns.length a b) = a := fun {a b} ha hb => by
        have hm := hv.od.jn_lt ha hb
        rw [Jcomm ha hm]
        exact (Jle hm ha).2 (Mr ha hb)
      have A2 : ∀ {a b : Nat}, a < ns.length → b < ns.length → Lat.jn (fun c => Lat.dn up c ns.length) ns.length a (Lat.jn (Lat.msk up) ns.length a b) = a := fun {a b} ha hb => by
        have hj := hv.ou.jn_lt ha hb
        rw [Mcomm ha hj]
        refine (Mle hj ha).2 ?_
        rw [Lat.dn_in ha]
        exact Jr ha hb
      have leJ : ∀ {a b : Nat}, a < ns.length → b < ns.length → (Lat.le up a b = true ↔ Lat.jn (Lat.msk up) ns.length a b = b) := fun {a b} ha hb => (Jle ha hb).symm
      generalize Lat.jn (Lat.msk up) ns.length = J at *
      generalize Lat.jn (fun c => Lat.dn up c ns.length) ns.length = M at *
      clear Jle Mle Jr Mr
      have t0 : tJ J ns.length 0 0 = tJ M ns.length 0 0 := (tJ_0 J _).symm.trans (tJ_0 M _)
      rw [tJ_0 J ns.length]
      refine w_loop' hs.hm (ι := Nat) (fun a => a ≤ ns.length) (fun a => [(8, .int .i64 a), (7, .ptr 2 0), (6, .ptr 1 0), (3, .int .i64 ns.length), (1, .ptr 0 0)]) (fun a => [.box [lst AV.str .ro ns, lst u8 .ro up], .box (tJ J ns.length a 0), .box (tJ M ns.length a 0)]) (fun a => ns.length - a) 0 ?_ fun a hi => ?_
      · simp only [go_sem, Nat.reduceBEq, Nat.reduceEqDiff, Nat.reduceAdd, Int.reduceAdd, Nat.reduceMul, Nat.reduceSub, Int.reduceToNat, Int.reduceLE, Int.reduceLT, Int.reduceEq, Int.reduceNe, reduceCtorEq, Nat.reduceLT, Nat.reduceLeDiff]
        exact ⟨Nat.zero_le _, by rw [t0]⟩
      · simp only [A_law03_LatticeAlgebraL0, go_sem, Nat.reduceBEq, Nat.reduceEqDiff, Nat.reduceAdd, Int.reduceAdd, Nat.reduceMul, Nat.reduceSub, Int.reduceToNat, Int.reduceLE, Int.reduceLT, Int.reduceEq, Int.reduceNe, reduceCtorEq, Nat.reduceLT, Nat.reduceLeDiff]
        refine ⟨fun ca => ?_, fun ca => ?_⟩
        · have ha : a < ns.length := by omega
          refine w_loop' hs.hm (ι := Nat) (fun b => b ≤ ns.length) (fun b => [(9, .int .i64 b), (8, .int .i64 a), (7, .ptr 2 0), (6, .ptr 1 0), (3, .int .i64 ns.length), (1, .ptr 0 0)]) (fun b => [.box [lst AV.str .ro ns, lst u8 .ro up], .box (tJ J ns.length a b), .box (tJ M ns.length a b)]) (fun a => ns.length - a) 0 ?_ fun b hi => ?_
          · simp only [go_sem, Nat.reduceBEq, Nat.reduceEqDiff, Nat.reduceAdd, Int.reduceAdd, Nat.reduceMul, Nat.reduceSub, Int.reduceToNat, Int.reduceLE, Int.reduceLT, Int.reduceEq, Int.reduceNe, reduceCtorEq, Nat.reduceLT, Nat.reduceLeDiff]
            exact Nat.zero_le _
          · simp only [A_law03_LatticeAlgebraL1, go_sem, Nat.reduceBEq, Nat.reduceEqDiff, Nat.reduceAdd, Int.reduceAdd, Nat.reduceMul, Nat.reduceSub, Int.reduceToNat, Int.reduceLE, Int.reduceLT, Int.reduceEq, Int.reduceNe, reduceCtorEq, Nat.reduceLT, Nat.reduceLeDiff]
            refine ⟨fun cb => ?_, fun cb => ?_⟩
            · have hb : b < ns.length := by omega
              have hj := Jlt ha hb
              have hm := Mlt ha hb
              have x1 : ¬ ((J a b : Nat) : Int) < 0 := by omega
              have x2 : ¬ (ns.length : Int) ≤ ((J a b : Nat) : Int) := by omega
              have x3 : ¬ ((M a b : Nat) : Int) < 0 := by omega
              have x4 : ¬ (ns.length : Int) ≤ ((M a b : Nat) : Int) := by omega
              refine call_ev (jN' ha hb) ?_
              simp only [go_sem, Nat.reduceBEq, Nat.reduceEqDiff, Nat.reduceAdd, Int.reduceAdd, Nat.reduceMul, Nat.reduceSub, Int.reduceToNat, Int.reduceLE, Int.reduceLT, Int.reduceEq, Int.reduceNe, reduceCtorEq, Nat.reduceLT, Nat.reduceLeDiff]
              refine call_ev (mN' ha hb) ?_
              simp only [go_sem, Nat.reduceBEq, Nat.reduceEqDiff, Nat.reduceAdd, Int.reduceAdd, Nat.reduceMul, Nat.reduceSub, Int.reduceToNat, Int.reduceLE, Int.reduceLT, Int.reduceEq, Int.reduceNe, reduceCtorEq, Nat.reduceLT, Nat.reduceLeDiff, x1, x2, x3, x4, Nat.mul_one, tJ_len, tJ_set J n8 ha hb, tJ_set M n8 ha hb]
              refine ⟨by omega, by omega, by omega, by omega, by omega, by omega, b + 1, by omega, by omega, by rw [wi64 (by omega)]; rfl, rfl⟩
            · exact ⟨a + 1, by omega, by omega, by rw [wi64 (by omega)]; rfl, by rw [tJ_row J (show ns.length ≤ b by omega), tJ_row M (show ns.length ≤ b by omega)]⟩
        · obtain rfl : a = ns.length := by omega
          refine w_loop' hs.hm (ι := Nat) (fun a => a ≤ ns.length) (fun a => [(14, .int .i64 a), (7, .ptr 2 0), (6, .ptr 1 0), (3, .int .i64 ns.length), (1, .ptr 0 0)]) (fun _ => [.box [lst AV.str .ro ns, lst u8 .ro up], .box (tJ J ns.length ns.length 0), .box (tJ M ns.length ns.length 0)]) (fun a => ns.length - a) 0 ?_ fun a hi => ?_
          · simp only [go_sem, Nat.reduceBEq, Nat.reduceEqDiff, Nat.reduceAdd, Int.reduceAdd, Nat.reduceMul, Nat.reduceSub, Int.reduceToNat, Int.reduceLE, Int.reduceLT, Int.reduceEq, Int.reduceNe, reduceCtorEq, Nat.reduceLT, Nat.reduceLeDiff]
            exact Nat.zero_le _
          · by_cases ha : a < ns.length
            · simp only [A_law03_LatticeAlgebraL2, go_sem, Nat.reduceBEq, Nat.reduceEqDiff, Nat.reduceAdd, Int.reduceAdd, Nat.reduceMul, Nat.reduceSub, Int.reduceToNat, Int.reduceLE, Int.reduceLT, Int.reduceEq, Int.reduceNe, reduceCtorEq, Nat.reduceLT, Nat.reduceLeDiff, Nat.mul_one, tJ_len, tJ_get J n8 ha ha, tJ_get M n8 ha ha, Jself ha, Mself ha]
              refine ⟨fun ca => ⟨by omega, by omega, by omega, by omega, by omega, by omega, ?_⟩, fun ca => by omega⟩
              refine w_loop' hs.hm (ι := Nat) (fun b => b ≤ ns.length) (fun b => [(15, .int .i64 b), (14, .int .i64 a), (7, .ptr 2 0), (6, .ptr 1 0), (3, .int .i64 ns.length), (1, .ptr 0 0)]) (fun _ => [.box [lst AV.str .ro ns, lst u8 .ro up], .box (tJ J ns.length ns.length 0), .box (tJ M ns.length ns.length 0)]) (fun a => ns.length - a) 0 ?_ fun b hi => ?_
              · simp only [go_sem, Nat.reduceBEq, Nat.reduceEqDiff, Nat.reduceAdd, Int.reduceAdd, Nat.reduceMul, Nat.reduceSub, Int.reduceToNat, Int.reduceLE, Int.reduceLT, Int.reduceEq, Int.reduceNe, reduceCtorEq, Nat.reduceLT, Nat.reduceLeDiff]
                exact Nat.zero_le _
              · by_cases hb : b < ns.length
                · have hj := Jlt ha hb
                  have hm := Mlt ha hb
                  simp only [A_law03_LatticeAlgebraL3, go_sem, Nat.reduceBEq, Nat.reduceEqDiff, Nat.reduceAdd, Int.reduceAdd, Nat.reduceMul, Nat.reduceSub, Int.reduceToNat, Int.reduceLE, Int.reduceLT, Int.reduceEq, Int.reduceNe, reduceCtorEq, Nat.reduceLT, Nat.reduceLeDiff, Nat.mul_one, tJ_len, tJ_get J n8 ha hb, tJ_get J n8 hb ha, tJ_get M n8 ha hb, tJ_get M n8 hb ha, Jcomm hb ha, Mcomm hb ha, tJ_get J n8 ha hm, tJ_get M n8 ha hj, A1 ha hb, A2 ha hb]
                  refine ⟨fun cb => ⟨by omega, by omega, by omega, by omega, by omega, by omega, by omega, by omega, by omega, by omega, by omega, by omega, by omega, by omega, by omega, by omega, by omega, by omega, by omega, by omega, by omega, by omega, by omega, by omega, callq_ev (bN hX hs h ha hb) ?_⟩, fun cb => by omega⟩
                  have fin4 : True := trivial
                  cases hl : Lat.le up a b with
                  | true =>
                    have e1 : J a b = b := (leJ ha hb).1 hl
                    have g1 := tJ_get J n8 ha hb
                    rw [e1] at g1
                    simp only [go_sem, Nat.reduceBEq, Nat.reduceEqDiff, Nat.reduceAdd, Int.reduceAdd, Nat.reduceMul, Nat.reduceSub, Int.reduceToNat, Int.reduceLE, Int.reduceLT, Int.reduceEq, Int.reduceNe, reduceCtorEq, Nat.reduceLT, Nat.reduceLeDiff, qr, Nat.mul_one, tJ_len, e1, g1]
                    refine ⟨by omega, by omega, by omega, ?_⟩
                    refine w_loop' hs.hm (ι := Nat) (fun c => c ≤ ns.length) (fun c => [(16, .int .i64 c), (15, .int .i64 b), (14, .int .i64 a), (7, .ptr 2 0), (6, .ptr 1 0), (3, .int .i64 ns.length), (1, .ptr 0 0)]) (fun _ => [.box [lst AV.str .ro ns, lst u8 .ro up], .box (tJ J ns.length ns.length 0), .box (tJ M ns.length ns.length 0)]) (fun a => ns.length - a) 0 ?_ fun c hi => ?_
                    · simp only [go_sem, Nat.reduceBEq, Nat.reduceEqDiff, Nat.reduceAdd, Int.reduceAdd, Nat.reduceMul, Nat.reduceSub, Int.reduceToNat, Int.reduceLE, Int.reduceLT, Int.reduceEq, Int.reduceNe, reduceCtorEq, Nat.reduceLT, Nat.reduceLeDiff]
                      exact Nat.zero_le _
                    · by_cases hc : c < ns.length
                      · have hbc := Jlt hb hc
                        have hbm := Mlt hb hc
                        have hj2 := Jlt ha hb
                        simp only [A_law03_LatticeAlgebraL4, go_sem, Nat.reduceBEq, Nat.reduceEqDiff, Nat.reduceAdd, Int.reduceAdd, Nat.reduceMul, Nat.reduceSub, Int.reduceToNat, Int.reduceLE, Int.reduceLT, Int.reduceEq, Int.reduceNe, reduceCtorEq, Nat.reduceLT, Nat.reduceLeDiff, Nat.mul_one, tJ_len, tJ_get J n8 ha hb, tJ_get J n8 hj2 hc, tJ_get J n8 hb hc, tJ_get J n8 ha hbc, Jass ha hb hc, tJ_get M n8 ha hb, tJ_get M n8 hm hc, tJ_get M n8 hb hc, tJ_get M n8 ha hbm, Mass ha hb hc]
                        exact ⟨fun cc => ⟨by omega, by omega, by omega, by omega, by omega, by omega, by omega, by omega, by omega, by omega, by omega, by omega, by omega, by omega, by omega, by omega, by omega, by omega, by omega, by omega, by omega, by omega, by omega, by omega, c + 1, by omega, by omega, by rw [wi64 (by omega)]; rfl⟩, fun cc => by omega⟩
                      · simp only [A_law03_LatticeAlgebraL4, go_sem, Nat.reduceBEq, Nat.reduceEqDiff, Nat.reduceAdd, Int.reduceAdd, Nat.reduceMul, Nat.reduceSub, Int.reduceToNat, Int.reduceLE, Int.reduceLT, Int.reduceEq, Int.reduceNe, reduceCtorEq, Nat.reduceLT, Nat.reduceLeDiff, show ¬ (c : Int) < ns.length by omega]
                        exact ⟨b + 1, by omega, by omega, by rw [wi64 (by omega)]; rfl⟩
                  | false =>
                    have e1 : ¬ J a b = b := fun x => by
                      rw [(leJ ha hb).2 x] at hl
                      cases hl
                    have e2 : ¬ ((J a b : Nat) : Int) = b := by omega
                    simp only [go_sem, Nat.reduceBEq, Nat.reduceEqDiff, Nat.reduceAdd, Int.reduceAdd, Nat.reduceMul, Nat.reduceSub, Int.reduceToNat, Int.reduceLE, Int.reduceLT, Int.reduceEq, Int.reduceNe, reduceCtorEq, Nat.reduceLT, Nat.reduceLeDiff, qr, Nat.mul_one, tJ_len, tJ_get J n8 ha hb, e2]
                    refine ⟨by omega, by omega, by omega, ?_⟩
                    refine w_loop' hs.hm (ι := Nat) (fun c => c ≤ ns.length) (fun c => [(16, .int .i64 c), (15, .int .i64 b), (14, .int .i64 a), (7, .ptr 2 0), (6, .ptr 1 0), (3, .int .i64 ns.length), (1, .ptr 0 0)]) (fun _ => [.box [lst AV.str .ro ns, lst u8 .ro up], .box (tJ J ns.length ns.length 0), .box (tJ M ns.length ns.length 0)]) (fun a => ns.length - a) 0 ?_ fun c hi => ?_
                    · simp only [go_sem, Nat.reduceBEq, Nat.reduceEqDiff, Nat.reduceAdd, Int.reduceAdd, Nat.reduceMul, Nat.reduceSub, Int.reduceToNat, Int.reduceLE, Int.reduceLT, Int.reduceEq, Int.reduceNe, reduceCtorEq, Nat.reduceLT, Nat.reduceLeDiff]
                      exact Nat.zero_le _
                    · by_cases hc : c < ns.length
                      · have hbc := Jlt hb hc
                        have hbm := Mlt hb hc
                        have hj2 := Jlt ha hb
                        simp only [A_law03_LatticeAlgebraL4, go_sem, Nat.reduceBEq, Nat.reduceEqDiff, Nat.reduceAdd, Int.reduceAdd, Nat.reduceMul, Nat.reduceSub, Int.reduceToNat, Int.reduceLE, Int.reduceLT, Int.reduceEq, Int.reduceNe, reduceCtorEq, Nat.reduceLT, Nat.reduceLeDiff, Nat.mul_one, tJ_len, tJ_get J n8 ha hb, tJ_get J n8 hj2 hc, tJ_get J n8 hb hc, tJ_get J n8 ha hbc, Jass ha hb hc, tJ_get M n8 ha hb, tJ_get M n8 hm hc, tJ_get M n8 hb hc, tJ_get M n8 ha hbm, Mass ha hb hc]
                        exact ⟨fun cc => ⟨by omega, by omega, by omega, by omega, by omega, by omega, by omega, by omega, by omega, by omega, by omega, by omega, by omega, by omega, by omega, by omega, by omega, by omega, by omega, by omega, by omega, by omega, by omega, by omega, c + 1, by omega, by omega, by rw [wi64 (by omega)]; rfl⟩, fun cc => by omega⟩
                      · simp only [A_law03_LatticeAlgebraL4, go_sem, Nat.reduceBEq, Nat.reduceEqDiff, Nat.reduceAdd, Int.reduceAdd, Nat.reduceMul, Nat.reduceSub, Int.reduceToNat, Int.reduceLE, Int.reduceLT, Int.reduceEq, Int.reduceNe, reduceCtorEq, Nat.reduceLT, Nat.reduceLeDiff, show ¬ (c : Int) < ns.length by omega]
                        exact ⟨b + 1, by omega, by omega, by rw [wi64 (by omega)]; rfl⟩
                · simp only [A_law03_LatticeAlgebraL3, go_sem, Nat.reduceBEq, Nat.reduceEqDiff, Nat.reduceAdd, Int.reduceAdd, Nat.reduceMul, Nat.reduceSub, Int.reduceToNat, Int.reduceLE, Int.reduceLT, Int.reduceEq, Int.reduceNe, reduceCtorEq, Nat.reduceLT, Nat.reduceLeDiff, show ¬ (b : Int) < ns.length by omega]
                  exact ⟨a + 1, by omega, by omega, by rw [wi64 (by omega)]; rfl⟩
            · simp only [A_law03_LatticeAlgebraL2, go_sem, Nat.reduceBEq, Nat.reduceEqDiff, Nat.reduceAdd, Int.reduceAdd, Nat.reduceMul, Nat.reduceSub, Int.reduceToNat, Int.reduceLE, Int.reduceLT, Int.reduceEq, Int.reduceNe, reduceCtorEq, Nat.reduceLT, Nat.reduceLeDiff, show ¬ (a : Int) < ns.length by omega]
              refine call_ev (ev_awake hX hs) ?_
              simp only [go_sem, Nat.reduceBEq, Nat.reduceEqDiff, Nat.reduceAdd, Int.reduceAdd, Nat.reduceMul, Nat.reduceSub, Int.reduceToNat, Int.reduceLE, Int.reduceLT, Int.reduceEq, Int.reduceNe, reduceCtorEq, Nat.reduceLT, Nat.reduceLeDiff]
    · simp only [h, go_sem, Nat.reduceBEq, Nat.reduceEqDiff, Nat.reduceAdd, Int.reduceAdd, Nat.reduceMul, Nat.reduceSub, Int.reduceToNat, Int.reduceLE, Int.reduceLT, Int.reduceEq, Int.reduceNe, reduceCtorEq, Nat.reduceLT, Nat.reduceLeDiff]
      refine call_ev (ev_awake hX hs) ?_
      simp only [go_sem, Nat.reduceBEq, Nat.reduceEqDiff, Nat.reduceAdd, Int.reduceAdd, Nat.reduceMul, Nat.reduceSub, Int.reduceToNat, Int.reduceLE, Int.reduceLT, Int.reduceEq, Int.reduceNe, reduceCtorEq, Nat.reduceLT, Nat.reduceLeDiff]
end
end Go.Avm
