/- LatticeDuals. -/
import Derived.Test.YtngmmanggdpeaaaDoorXQ6
import Derived.Test.YtngmmanggdpeaaaDoorN5
set_option linter.unusedSectionVars false
set_option linter.unusedSimpArgs false
set_option linter.unusedVariables false

/- LatticeDuals. -/
namespace Go.Avm
open Go
/-- a table of truth values -/
def tR (R : Nat → Nat → Bool) : List AV := tb 64 fun k => .bool (R (k / 8) (k % 8))
theorem tR_len (R : Nat → Nat → Bool) : (tR R).length = 64 := tb_len _ _
theorem tR_get (R : Nat → Nat → Bool) {a b : Nat} (ha : a < 8) (hb : b < 8) : (tR R).getD (a * 8 + b) .undef = .bool (R a b) := by
  rw [tR, tb_getD _ _ (by omega), show (a * 8 + b) / 8 = a by omega, show (a * 8 + b) % 8 = b by omega]
theorem tR_set (R R' : Nat → Nat → Bool) {a b : Nat} {t : Bool} (hb : b < 8) (h : ∀ x y, R' x y = if x = a ∧ y = b then t else R x y) : (tR R).set (a * 8 + b) (.bool t) = tR R' := by
  rw [tR, tb_set]
  refine tb_congr fun k _ => ?_
  rw [h]
  have e : k = a * 8 + b ↔ (k / 8 = a ∧ k % 8 = b) := by omega
  by_cases c : k = a * 8 + b
  · rw [if_pos c, if_pos (e.1 c)]
  · rw [if_neg c, if_neg (fun x => c (e.2 x))]
theorem tR_0 : tb 64 (fun _ => AV.bool false) = tR fun x y => x == y && decide (x < 0) := by
  refine tb_congr fun k _ => ?_
  simp
theorem near_congr {M M' : Nat → Nat} {n a b : Nat} (h : ∀ c, c < n → M c = M' c) (ha : a < n) (hb : b < n) : Lat.near M n a b = Lat.near M' n a b := by
  unfold Lat.near
  refine Lat.ff_congr fun c hc => ?_
  rw [h c hc, h a ha, h b hb]
theorem jn_congr {M M' : Nat → Nat} {n a b : Nat} (h : ∀ c, c < n → M c = M' c) (ha : a < n) (hb : b < n) : Lat.jn M n a b = Lat.jn M' n a b := by
  unfold Lat.jn
  rw [near_congr h ha hb]
theorem foldJ_congr {M M' : Nat → Nat} {n : Nat} (ho : Lat.Ord n M) (hn : 0 < n) (h : ∀ c, c < n → M c = M' c) : ∀ k, k ≤ n → Lat.foldJ M n k = Lat.foldJ M' n k := by
  intro k
  induction k with
  | zero => intro _; rfl
  | succ k ih =>
    intro hk
    simp only [Lat.foldJ]
    rw [← ih (by omega)]
    exact jn_congr h (by omega) (ho.fold hn k (by omega)).1
theorem chk_dual {ns : List (List UInt8)} {up : List UInt8} (h : (Lat.checkS ns up).2 = 0) : Lat.checkS ns (Lat.dual up ns.length) = (0, 0) := (chk_val h).dual.check (Lat.checkS_val h).1
set_option maxRecDepth 10000
section
variable {X : Cx} (hX : X.P = Go.Proofs.Tryd.prog) (hs : Std X)
include hX hs
set_option maxHeartbeats 4000000 in
theorem ev_lDuals (ns : List (List UInt8)) (up : List UInt8) : Ev X F_law03_LatticeDuals [latV ns up] (.bool true) := by
  refine ev_of_wpc hs (A_law03_LatticeDuals_ok hX) 1 ?_
  simp only [A_law03_LatticeDuals, latV, tb_rep, go_sem, Nat.reduceMod, Nat.reduceBNe, Nat.reduceBEq, Nat.reduceEqDiff, Nat.reduceAdd, Int.reduceAdd, Nat.reduceMul, Nat.reduceSub, Int.reduceToNat, Int.reduceLE, Int.reduceLT, Int.reduceEq, Int.reduceNe, reduceCtorEq, Nat.reduceLT, Nat.reduceLeDiff]
  refine call_ev (ev_Far hX hs ns up) ?_
  cases hf : farS ns up with
  | true =>
    simp only [go_sem, Nat.reduceMod, Nat.reduceBNe, Nat.reduceBEq, Nat.reduceEqDiff, Nat.reduceAdd, Int.reduceAdd, Nat.reduceMul, Nat.reduceSub, Int.reduceToNat, Int.reduceLE, Int.reduceLT, Int.reduceEq, Int.reduceNe, reduceCtorEq, Nat.reduceLT, Nat.reduceLeDiff]
    refine call_ev (ev_awake hX hs) ?_
    simp only [go_sem, Nat.reduceMod, Nat.reduceBNe, Nat.reduceBEq, Nat.reduceEqDiff, Nat.reduceAdd, Int.reduceAdd, Nat.reduceMul, Nat.reduceSub, Int.reduceToNat, Int.reduceLE, Int.reduceLT, Int.reduceEq, Int.reduceNe, reduceCtorEq, Nat.reduceLT, Nat.reduceLeDiff]
  | false =>
    simp only [go_sem, Nat.reduceMod, Nat.reduceBNe, Nat.reduceBEq, Nat.reduceEqDiff, Nat.reduceAdd, Int.reduceAdd, Nat.reduceMul, Nat.reduceSub, Int.reduceToNat, Int.reduceLE, Int.reduceLT, Int.reduceEq, Int.reduceNe, reduceCtorEq, Nat.reduceLT, Nat.reduceLeDiff]
    refine call_ev (ev_Dual hX hs ns up) ?_
    by_cases h : (Lat.checkS ns up).2 = 0
    · have hv := chk_val h
      have n8 := hv.le8
      have n0 := hv.pos
      have hd := chk_dual h
      have hd2 : (Lat.checkS ns (Lat.dual up ns.length)).2 = 0 := by rw [hd]
      have hvd := hv.dual
      have ebt : topS ns (Lat.dual up ns.length) = botS ns up := by
        rw [topS, botS, if_pos h, if_pos hd2]
        rw [foldJ_congr hvd.ou n0 (fun c hc => Lat.dual_msk up n8 hc) ns.length (Nat.le_refl _)]
      have ejm : ∀ a b, a < ns.length → b < ns.length → Lat.jn (fun c => Lat.dn (Lat.dual up ns.length) c ns.length) ns.length a b = Lat.jn (Lat.msk up) ns.length a b := fun a b ha hb =>
        jn_congr (fun c hc => hv.dual_dn hc) ha hb
      have ele : ∀ a b, a < ns.length → b < ns.length → Lat.le (Lat.dual up ns.length) b a = Lat.le up a b := fun a b ha hb => Lat.dual_le up n8 hb ha
      have D2 := ev_Dual hX hs ns (Lat.dual up ns.length)
      have S2 := ev_rSame hX hs ns up ns up (by omega) (by rw [hv.len]; omega)
      simp only [dualV, hd, hv.dual_dual, if_true, latV] at D2
      simp only [and_self, decide_true, latV] at S2
      have T2 := ev_Top hX hs ns (Lat.dual up ns.length)
      rw [ebt, hd] at T2
      simp only [dualV, h, latV, go_sem, Nat.reduceMod, Nat.reduceBNe, Nat.reduceBEq, Nat.reduceEqDiff, Nat.reduceAdd, Int.reduceAdd, Nat.reduceMul, Nat.reduceSub, Int.reduceToNat, Int.reduceLE, Int.reduceLT, Int.reduceEq, Int.reduceNe, reduceCtorEq, Nat.reduceLT, Nat.reduceLeDiff]
      have jN' := @jN X hX hs ns up h
      have mN' := @mN X hX hs ns (Lat.dual up ns.length) hd2
      have bN' := @bN X hX hs ns up h
      have bD' := @bN X hX hs ns (Lat.dual up ns.length) hd2
      have dl : (Lat.dual up ns.length).length = ns.length := Lat.dual_len up ns.length
      generalize Lat.dual up ns.length = D at *
      refine call_ev D2 ?_
      simp only [go_sem, Nat.reduceMod, Nat.reduceBNe, Nat.reduceBEq, Nat.reduceEqDiff, Nat.reduceAdd, Int.reduceAdd, Nat.reduceMul, Nat.reduceSub, Int.reduceToNat, Int.reduceLE, Int.reduceLT, Int.reduceEq, Int.reduceNe, reduceCtorEq, Nat.reduceLT, Nat.reduceLeDiff]
      refine call_ev (ev_Bottom hX hs ns up) ?_
      simp only [h, go_sem, Nat.reduceMod, Nat.reduceBNe, Nat.reduceBEq, Nat.reduceEqDiff, Nat.reduceAdd, Int.reduceAdd, Nat.reduceMul, Nat.reduceSub, Int.reduceToNat, Int.reduceLE, Int.reduceLT, Int.reduceEq, Int.reduceNe, reduceCtorEq, Nat.reduceLT, Nat.reduceLeDiff]
      refine call_ev T2 ?_
      simp only [go_sem, Nat.reduceMod, Nat.reduceBNe, Nat.reduceBEq, Nat.reduceEqDiff, Nat.reduceAdd, Int.reduceAdd, Nat.reduceMul, Nat.reduceSub, Int.reduceToNat, Int.reduceLE, Int.reduceLT, Int.reduceEq, Int.reduceNe, reduceCtorEq, Nat.reduceLT, Nat.reduceLeDiff]
      refine call_ev (ev_Covers hX hs ns up) ?_
      simp only [h, go_sem, Nat.reduceMod, Nat.reduceBNe, Nat.reduceBEq, Nat.reduceEqDiff, Nat.reduceAdd, Int.reduceAdd, Nat.reduceMul, Nat.reduceSub, Int.reduceToNat, Int.reduceLE, Int.reduceLT, Int.reduceEq, Int.reduceNe, reduceCtorEq, Nat.reduceLT, Nat.reduceLeDiff]
      refine call_ev S2 ?_
      simp only [go_sem, Nat.reduceMod, Nat.reduceBNe, Nat.reduceBEq, Nat.reduceEqDiff, Nat.reduceAdd, Int.reduceAdd, Nat.reduceMul, Nat.reduceSub, Int.reduceToNat, Int.reduceLE, Int.reduceLT, Int.reduceEq, Int.reduceNe, reduceCtorEq, Nat.reduceLT, Nat.reduceLeDiff]
      have ecv : covS ns up = Lat.covs up ns.length ns.length := by rw [covS, if_pos h]
      rw [ecv, tR_0]
      refine w_loop' hs.hm (ι := Nat) (fun a => a ≤ ns.length) (fun a => [(14, .int .i64 a), (13, .ptr 3 0), (12, .int .i64 ns.length), (10, lst prV .ro (Lat.covs up ns.length ns.length)), (3, .ptr 1 0), (1, .ptr 0 0)]) (fun a => [.box [lst AV.str .ro ns, lst u8 .ro up], .box [lst AV.str .ro ns, lst u8 .ro D], .box [lst AV.str .ro ns, lst u8 .ro up], .box (tR fun x y => x == y && decide (x < a))]) (fun a => ns.length - a) 0 ?_ fun a ha => ?_
      · simp only [go_sem, Nat.reduceMod, Nat.reduceBNe, Nat.reduceBEq, Nat.reduceEqDiff, Nat.reduceAdd, Int.reduceAdd, Nat.reduceMul, Nat.reduceSub, Int.reduceToNat, Int.reduceLE, Int.reduceLT, Int.reduceEq, Int.reduceNe, reduceCtorEq, Nat.reduceLT, Nat.reduceLeDiff]
        exact Nat.zero_le _
      by_cases han : a < ns.length
      · simp only [A_law03_LatticeDualsL0, go_sem, Nat.reduceMod, Nat.reduceBNe, Nat.reduceBEq, Nat.reduceEqDiff, Nat.reduceAdd, Int.reduceAdd, Nat.reduceMul, Nat.reduceSub, Int.reduceToNat, Int.reduceLE, Int.reduceLT, Int.reduceEq, Int.reduceNe, reduceCtorEq, Nat.reduceLT, Nat.reduceLeDiff, Nat.mul_one, tR_len]
        refine ⟨fun ca => ⟨by omega, by omega, by omega, a + 1, by omega, by omega, by rw [wi64 (by omega)]; rfl, ?_⟩, fun ca => by omega⟩
        rw [tR_set _ (fun x y => x == y && decide (x < a + 1)) (by omega) fun x y => ?_]
        by_cases e : x = a ∧ y = a
        · obtain ⟨rfl, rfl⟩ := e
          simp
        · rw [if_neg e]
          by_cases e2 : x = y
          · subst e2
            have : ¬ x = a := fun k => e ⟨k, k⟩
            simp; omega
          · have e3 : (x == y) = false := beq_eq_false_iff_ne.2 e2
            show (x == y && decide (x < a + 1)) = (x == y && decide (x < a))
            rw [e3]
            rfl
      obtain rfl : a = ns.length := by omega
      have hn : ¬ (ns.length : Int) < ns.length := by omega
      simp only [A_law03_LatticeDualsL0, go_sem, Nat.reduceMod, Nat.reduceBNe, Nat.reduceBEq, Nat.reduceEqDiff, Nat.reduceAdd, Int.reduceAdd, Nat.reduceMul, Nat.reduceSub, Int.reduceToNat, Int.reduceLE, Int.reduceLT, Int.reduceEq, Int.reduceNe, reduceCtorEq, Nat.reduceLT, Nat.reduceLeDiff, hn]
      have R0 := Lat.Rc.init hv
      have c64 : (Lat.covs up ns.length ns.length).length ≤ 64 := by
        have h1 := Lat.covs_len up ns.length ns.length
        have : ns.length * ns.length ≤ 8 * 8 := Nat.mul_le_mul (by omega) (by omega)
        omega
      refine w_loop' hs.hm (ι := Nat × (Nat → Nat → Bool)) (fun x => x.1 ≤ ns.length ∧ Lat.Rc up ns.length (Lat.covs up ns.length ns.length) x.1 0 0 x.2) (fun x => [(15, .int .i64 x.1), (13, .ptr 3 0), (12, .int .i64 ns.length), (10, lst prV .ro (Lat.covs up ns.length ns.length)), (3, .ptr 1 0), (1, .ptr 0 0)]) (fun x => [.box [lst AV.str .ro ns, lst u8 .ro up], .box [lst AV.str .ro ns, lst u8 .ro D], .box [lst AV.str .ro ns, lst u8 .ro up], .box (tR x.2)]) (fun x => ns.length - x.1) (0, fun x y => x == y && decide (x < ns.length)) ?_ fun x hx => ?_
      · simp only [go_sem, Nat.reduceMod, Nat.reduceBNe, Nat.reduceBEq, Nat.reduceEqDiff, Nat.reduceAdd, Int.reduceAdd, Nat.reduceMul, Nat.reduceSub, Int.reduceToNat, Int.reduceLE, Int.reduceLT, Int.reduceEq, Int.reduceNe, reduceCtorEq, Nat.reduceLT, Nat.reduceLeDiff]
        exact ⟨Nat.zero_le _, R0⟩
      obtain ⟨k, R⟩ := x
      obtain ⟨hk, hR⟩ := hx
      simp only at hk hR
      by_cases hkn : k < ns.length
      · simp only [A_law03_LatticeDualsL1, go_sem, Nat.reduceMod, Nat.reduceBNe, Nat.reduceBEq, Nat.reduceEqDiff, Nat.reduceAdd, Int.reduceAdd, Nat.reduceMul, Nat.reduceSub, Int.reduceToNat, Int.reduceLE, Int.reduceLT, Int.reduceEq, Int.reduceNe, reduceCtorEq, Nat.reduceLT, Nat.reduceLeDiff]
        refine ⟨fun ck => ?_, fun ck => by omega⟩
        refine w_loop' hs.hm (ι := Nat × (Nat → Nat → Bool)) (fun x => x.1 ≤ (Lat.covs up ns.length ns.length).length ∧ Lat.Rc up ns.length (Lat.covs up ns.length ns.length) k x.1 0 x.2) (fun x => [(16, .int .i64 x.1), (15, .int .i64 k), (13, .ptr 3 0), (12, .int .i64 ns.length), (10, lst prV .ro (Lat.covs up ns.length ns.length)), (3, .ptr 1 0), (1, .ptr 0 0)]) (fun x => [.box [lst AV.str .ro ns, lst u8 .ro up], .box [lst AV.str .ro ns, lst u8 .ro D], .box [lst AV.str .ro ns, lst u8 .ro up], .box (tR x.2)]) (fun x => (Lat.covs up ns.length ns.length).length - x.1) (0, R) ?_ fun x hx => ?_
        · simp only [go_sem, Nat.reduceMod, Nat.reduceBNe, Nat.reduceBEq, Nat.reduceEqDiff, Nat.reduceAdd, Int.reduceAdd, Nat.reduceMul, Nat.reduceSub, Int.reduceToNat, Int.reduceLE, Int.reduceLT, Int.reduceEq, Int.reduceNe, reduceCtorEq, Nat.reduceLT, Nat.reduceLeDiff]
          exact ⟨Nat.zero_le _, hR⟩
        obtain ⟨i, R⟩ := x
        obtain ⟨hi, hR⟩ := hx
        simp only at hi hR
        by_cases hin : i < (Lat.covs up ns.length ns.length).length
        · simp only [A_law03_LatticeDualsL2, go_sem, Nat.reduceMod, Nat.reduceBNe, Nat.reduceBEq, Nat.reduceEqDiff, Nat.reduceAdd, Int.reduceAdd, Nat.reduceMul, Nat.reduceSub, Int.reduceToNat, Int.reduceLE, Int.reduceLT, Int.reduceEq, Int.reduceNe, reduceCtorEq, Nat.reduceLT, Nat.reduceLeDiff]
          refine ⟨fun ci => ?_, fun ci => by omega⟩
          refine w_loop' hs.hm (ι := Nat × (Nat → Nat → Bool)) (fun x => x.1 ≤ ns.length ∧ Lat.Rc up ns.length (Lat.covs up ns.length ns.length) k i x.1 x.2) (fun x => [(17, .int .i64 x.1), (16, .int .i64 i), (15, .int .i64 k), (13, .ptr 3 0), (12, .int .i64 ns.length), (10, lst prV .ro (Lat.covs up ns.length ns.length)), (3, .ptr 1 0), (1, .ptr 0 0)]) (fun x => [.box [lst AV.str .ro ns, lst u8 .ro up], .box [lst AV.str .ro ns, lst u8 .ro D], .box [lst AV.str .ro ns, lst u8 .ro up], .box (tR x.2)]) (fun x => ns.length - x.1) (0, R) ?_ fun x hx => ?_
          · simp only [go_sem, Nat.reduceMod, Nat.reduceBNe, Nat.reduceBEq, Nat.reduceEqDiff, Nat.reduceAdd, Int.reduceAdd, Nat.reduceMul, Nat.reduceSub, Int.reduceToNat, Int.reduceLE, Int.reduceLT, Int.reduceEq, Int.reduceNe, reduceCtorEq, Nat.reduceLT, Nat.reduceLeDiff]
            exact ⟨Nat.zero_le _, hR⟩
          obtain ⟨a, R⟩ := x
          obtain ⟨ha, hR⟩ := hx
          simp only at ha hR
          by_cases han : a < ns.length
          · have hR' := hR.step hv hin han
            have hm : (Lat.covs up ns.length ns.length).getD i (0, 0) ∈ Lat.covs up ns.length ns.length := by
              rw [List.getD_eq_getElem?_getD, List.getElem?_eq_getElem hin]
              exact List.getElem_mem _
            obtain ⟨p1, p2, p3⟩ := (Lat.covs_mem ns.length).1 hm
            obtain ⟨⟨p, q⟩, hpq⟩ : ∃ c : Nat × Nat, (Lat.covs up ns.length ns.length).getD i default = c := ⟨_, rfl⟩
            have hpq' : (Lat.covs up ns.length ns.length).getD i (0, 0) = (p, q) := hpq
            rw [hpq'] at p1 p2 p3 hR'
            simp only at p1 p2 p3 hR'
            have a8 : a < 8 := by omega
            have st : ∀ t, (R a q || R a p) = t → (tR R).set (a * 8 + q) (.bool t) = tR (Lat.rset R a p q) := fun t e => tR_set R _ (by omega) fun x y => by
              unfold Lat.rset
              split
              · rename_i h; obtain ⟨rfl, rfl⟩ := h; exact e
              · rfl
            have nx : ∀ t, (R a q || R a p) = t → ∃ j : Nat × (Nat → Nat → Bool), ns.length - j.1 < ns.length - a ∧ (j.1 ≤ ns.length ∧ Lat.Rc up ns.length (Lat.covs up ns.length ns.length) k i j.1 j.2) ∧ AV.int IntKind.i64 (IntKind.i64.wrap (a + 1)) = AV.int IntKind.i64 j.1 ∧ [Blk.box [lst AV.str .ro ns, lst u8 .ro up], Blk.box [lst AV.str .ro ns, lst u8 .ro D], Blk.box [lst AV.str .ro ns, lst u8 .ro up], Blk.box ((tR R).set (a * 8 + q) (.bool t))] = [Blk.box [lst AV.str .ro ns, lst u8 .ro up], Blk.box [lst AV.str .ro ns, lst u8 .ro D], Blk.box [lst AV.str .ro ns, lst u8 .ro up], Blk.box (tR j.2)] := fun t e =>
              ⟨(a + 1, Lat.rset R a p q), by simp only; omega, ⟨by simp only; omega, hR'⟩, by simp only; rw [wi64 (by omega)]; rfl, by rw [st t e]⟩
            cases hq : R a q with
            | true =>
              rw [hq] at nx
              simp only [A_law03_LatticeDualsL3, go_sem, Nat.reduceMod, Nat.reduceBNe, Nat.reduceBEq, Nat.reduceEqDiff, Nat.reduceAdd, Int.reduceAdd, Nat.reduceMul, Nat.reduceSub, Int.reduceToNat, Int.reduceLE, Int.reduceLT, Int.reduceEq, Int.reduceNe, reduceCtorEq, Nat.reduceLT, Nat.reduceLeDiff, prV, hpq, Nat.mul_one, tR_len, tR_get R a8 (show p < 8 by omega), tR_get R a8 (show q < 8 by omega), hq]
              exact ⟨fun ca => ⟨⟨by omega, by omega⟩, ⟨by omega, by omega⟩, by omega, by omega, by omega, by omega, by omega, by omega, nx true rfl⟩, fun ca => by omega⟩
            | false =>
              rw [hq] at nx
              simp only [A_law03_LatticeDualsL3, go_sem, Nat.reduceMod, Nat.reduceBNe, Nat.reduceBEq, Nat.reduceEqDiff, Nat.reduceAdd, Int.reduceAdd, Nat.reduceMul, Nat.reduceSub, Int.reduceToNat, Int.reduceLE, Int.reduceLT, Int.reduceEq, Int.reduceNe, reduceCtorEq, Nat.reduceLT, Nat.reduceLeDiff, prV, hpq, Nat.mul_one, tR_len, tR_get R a8 (show p < 8 by omega), tR_get R a8 (show q < 8 by omega), hq]
              exact ⟨fun ca => ⟨⟨by omega, by omega⟩, ⟨by omega, by omega⟩, by omega, by omega, by omega, ⟨by omega, by omega⟩, by omega, by omega, by omega, by omega, by omega, by omega, nx (R a p) (Bool.false_or _)⟩, fun ca => by omega⟩
          · obtain rfl : a = ns.length := by omega
            have hn : ¬ (ns.length : Int) < ns.length := by omega
            simp only [A_law03_LatticeDualsL3, go_sem, Nat.reduceMod, Nat.reduceBNe, Nat.reduceBEq, Nat.reduceEqDiff, Nat.reduceAdd, Int.reduceAdd, Nat.reduceMul, Nat.reduceSub, Int.reduceToNat, Int.reduceLE, Int.reduceLT, Int.reduceEq, Int.reduceNe, reduceCtorEq, Nat.reduceLT, Nat.reduceLeDiff, hn]
            exact ⟨(i + 1, R), by simp only; omega, ⟨by simp only; omega, hR.nexta hv⟩, ⟨by simp only; rw [wi64 (by omega)]; rfl, rfl⟩⟩
        · obtain rfl : i = (Lat.covs up ns.length ns.length).length := by omega
          have hn : ¬ ((Lat.covs up ns.length ns.length).length : Int) < (Lat.covs up ns.length ns.length).length := by omega
          simp only [A_law03_LatticeDualsL2, go_sem, Nat.reduceMod, Nat.reduceBNe, Nat.reduceBEq, Nat.reduceEqDiff, Nat.reduceAdd, Int.reduceAdd, Nat.reduceMul, Nat.reduceSub, Int.reduceToNat, Int.reduceLE, Int.reduceLT, Int.reduceEq, Int.reduceNe, reduceCtorEq, Nat.reduceLT, Nat.reduceLeDiff, hn]
          exact ⟨(k + 1, R), by simp only; omega, ⟨by simp only; omega, hR.nextk hv⟩, ⟨by simp only; rw [wi64 (by omega)]; rfl, rfl⟩⟩
      obtain rfl : k = ns.length := by omega
      have hfin := fun a b (ha : a < ns.length) (hb : b < ns.length) => hR.fin hv ha hb
      simp only [A_law03_LatticeDualsL1, go_sem, Nat.reduceMod, Nat.reduceBNe, Nat.reduceBEq, Nat.reduceEqDiff, Nat.reduceAdd, Int.reduceAdd, Nat.reduceMul, Nat.reduceSub, Int.reduceToNat, Int.reduceLE, Int.reduceLT, Int.reduceEq, Int.reduceNe, reduceCtorEq, Nat.reduceLT, Nat.reduceLeDiff, hn]
      refine w_loop' hs.hm (ι := Nat) (fun a => a ≤ ns.length) (fun a => [(18, .int .i64 a), (13, .ptr 3 0), (12, .int .i64 ns.length), (3, .ptr 1 0), (1, .ptr 0 0)]) (fun _ => [.box [lst AV.str .ro ns, lst u8 .ro up], .box [lst AV.str .ro ns, lst u8 .ro D], .box [lst AV.str .ro ns, lst u8 .ro up], .box (tR R)]) (fun a => ns.length - a) 0 ?_ fun a ha => ?_
      · simp only [go_sem, Nat.reduceMod, Nat.reduceBNe, Nat.reduceBEq, Nat.reduceEqDiff, Nat.reduceAdd, Int.reduceAdd, Nat.reduceMul, Nat.reduceSub, Int.reduceToNat, Int.reduceLE, Int.reduceLT, Int.reduceEq, Int.reduceNe, reduceCtorEq, Nat.reduceLT, Nat.reduceLeDiff]
        exact Nat.zero_le _
      by_cases han : a < ns.length
      · simp only [A_law03_LatticeDualsL4, go_sem, Nat.reduceMod, Nat.reduceBNe, Nat.reduceBEq, Nat.reduceEqDiff, Nat.reduceAdd, Int.reduceAdd, Nat.reduceMul, Nat.reduceSub, Int.reduceToNat, Int.reduceLE, Int.reduceLT, Int.reduceEq, Int.reduceNe, reduceCtorEq, Nat.reduceLT, Nat.reduceLeDiff]
        refine ⟨fun ca => ?_, fun ca => by omega⟩
        refine w_loop' hs.hm (ι := Nat) (fun b => b ≤ ns.length) (fun b => [(19, .int .i64 b), (18, .int .i64 a), (13, .ptr 3 0), (12, .int .i64 ns.length), (3, .ptr 1 0), (1, .ptr 0 0)]) (fun _ => [.box [lst AV.str .ro ns, lst u8 .ro up], .box [lst AV.str .ro ns, lst u8 .ro D], .box [lst AV.str .ro ns, lst u8 .ro up], .box (tR R)]) (fun b => ns.length - b) 0 ?_ fun b hb => ?_
        · simp only [go_sem, Nat.reduceMod, Nat.reduceBNe, Nat.reduceBEq, Nat.reduceEqDiff, Nat.reduceAdd, Int.reduceAdd, Nat.reduceMul, Nat.reduceSub, Int.reduceToNat, Int.reduceLE, Int.reduceLT, Int.reduceEq, Int.reduceNe, reduceCtorEq, Nat.reduceLT, Nat.reduceLeDiff]
          exact Nat.zero_le _
        by_cases hbn : b < ns.length
        · simp only [A_law03_LatticeDualsL5, go_sem, Nat.reduceMod, Nat.reduceBNe, Nat.reduceBEq, Nat.reduceEqDiff, Nat.reduceAdd, Int.reduceAdd, Nat.reduceMul, Nat.reduceSub, Int.reduceToNat, Int.reduceLE, Int.reduceLT, Int.reduceEq, Int.reduceNe, reduceCtorEq, Nat.reduceLT, Nat.reduceLeDiff]
          refine ⟨fun cb => ?_, fun cb => by omega⟩
          refine call_ev (jN' han hbn) ?_
          simp only [go_sem, Nat.reduceMod, Nat.reduceBNe, Nat.reduceBEq, Nat.reduceEqDiff, Nat.reduceAdd, Int.reduceAdd, Nat.reduceMul, Nat.reduceSub, Int.reduceToNat, Int.reduceLE, Int.reduceLT, Int.reduceEq, Int.reduceNe, reduceCtorEq, Nat.reduceLT, Nat.reduceLeDiff]
          refine call_ev (mN' han hbn) ?_
          simp only [go_sem, Nat.reduceMod, Nat.reduceBNe, Nat.reduceBEq, Nat.reduceEqDiff, Nat.reduceAdd, Int.reduceAdd, Nat.reduceMul, Nat.reduceSub, Int.reduceToNat, Int.reduceLE, Int.reduceLT, Int.reduceEq, Int.reduceNe, reduceCtorEq, Nat.reduceLT, Nat.reduceLeDiff, ejm a b han hbn, Nat.mul_one, tR_len, tR_get R (show a < 8 by omega) (show b < 8 by omega)]
          refine ⟨by omega, by omega, by omega, callq_ev (bN' han hbn) ?_⟩
          rw [hfin a b han hbn]
          simp only [go_sem, Nat.reduceMod, Nat.reduceBNe, Nat.reduceBEq, Nat.reduceEqDiff, Nat.reduceAdd, Int.reduceAdd, Nat.reduceMul, Nat.reduceSub, Int.reduceToNat, Int.reduceLE, Int.reduceLT, Int.reduceEq, Int.reduceNe, reduceCtorEq, Nat.reduceLT, Nat.reduceLeDiff, qr]
          refine callq_ev (bN' han hbn) ?_
          simp only [go_sem, Nat.reduceMod, Nat.reduceBNe, Nat.reduceBEq, Nat.reduceEqDiff, Nat.reduceAdd, Int.reduceAdd, Nat.reduceMul, Nat.reduceSub, Int.reduceToNat, Int.reduceLE, Int.reduceLT, Int.reduceEq, Int.reduceNe, reduceCtorEq, Nat.reduceLT, Nat.reduceLeDiff, qr]
          refine callq_ev (bD' hbn han) ?_
          rw [ele a b han hbn]
          cases hl : Lat.le up a b with
          | true =>
            simp only [go_sem, Nat.reduceMod, Nat.reduceBNe, Nat.reduceBEq, Nat.reduceEqDiff, Nat.reduceAdd, Int.reduceAdd, Nat.reduceMul, Nat.reduceSub, Int.reduceToNat, Int.reduceLE, Int.reduceLT, Int.reduceEq, Int.reduceNe, reduceCtorEq, Nat.reduceLT, Nat.reduceLeDiff, qr]
            exact ⟨b + 1, by omega, by omega, by rw [wi64 (by omega)]; rfl⟩
          | false =>
            simp only [go_sem, Nat.reduceMod, Nat.reduceBNe, Nat.reduceBEq, Nat.reduceEqDiff, Nat.reduceAdd, Int.reduceAdd, Nat.reduceMul, Nat.reduceSub, Int.reduceToNat, Int.reduceLE, Int.reduceLT, Int.reduceEq, Int.reduceNe, reduceCtorEq, Nat.reduceLT, Nat.reduceLeDiff, qr]
            exact ⟨b + 1, by omega, by omega, by rw [wi64 (by omega)]; rfl⟩
        · obtain rfl : b = ns.length := by omega
          simp only [A_law03_LatticeDualsL5, go_sem, Nat.reduceMod, Nat.reduceBNe, Nat.reduceBEq, Nat.reduceEqDiff, Nat.reduceAdd, Int.reduceAdd, Nat.reduceMul, Nat.reduceSub, Int.reduceToNat, Int.reduceLE, Int.reduceLT, Int.reduceEq, Int.reduceNe, reduceCtorEq, Nat.reduceLT, Nat.reduceLeDiff, hn]
          exact ⟨a + 1, by omega, by omega, by rw [wi64 (by omega)]; rfl⟩
      obtain rfl : a = ns.length := by omega
      simp only [A_law03_LatticeDualsL4, go_sem, Nat.reduceMod, Nat.reduceBNe, Nat.reduceBEq, Nat.reduceEqDiff, Nat.reduceAdd, Int.reduceAdd, Nat.reduceMul, Nat.reduceSub, Int.reduceToNat, Int.reduceLE, Int.reduceLT, Int.reduceEq, Int.reduceNe, reduceCtorEq, Nat.reduceLT, Nat.reduceLeDiff, hn]
      refine call_ev (ev_awake hX hs) ?_
      simp only [go_sem, Nat.reduceMod, Nat.reduceBNe, Nat.reduceBEq, Nat.reduceEqDiff, Nat.reduceAdd, Int.reduceAdd, Nat.reduceMul, Nat.reduceSub, Int.reduceToNat, Int.reduceLE, Int.reduceLT, Int.reduceEq, Int.reduceNe, reduceCtorEq, Nat.reduceLT, Nat.reduceLeDiff]
    · simp only [dualV, h, latV, go_sem, Nat.reduceMod, Nat.reduceBNe, Nat.reduceBEq, Nat.reduceEqDiff, Nat.reduceAdd, Int.reduceAdd, Nat.reduceMul, Nat.reduceSub, Int.reduceToNat, Int.reduceLE, Int.reduceLT, Int.reduceEq, Int.reduceNe, reduceCtorEq, Nat.reduceLT, Nat.reduceLeDiff]
      refine call_ev (ev_awake hX hs) ?_
      simp only [go_sem, Nat.reduceMod, Nat.reduceBNe, Nat.reduceBEq, Nat.reduceEqDiff, Nat.reduceAdd, Int.reduceAdd, Nat.reduceMul, Nat.reduceSub, Int.reduceToNat, Int.reduceLE, Int.reduceLT, Int.reduceEq, Int.reduceNe, reduceCtorEq, Nat.reduceLT, Nat.reduceLeDiff]
end
end Go.Avm
