/- Labels: sorted lists: Sort, Down, Up, both. -/
import Derived.Test.YtebnoigmepfdcaaGreatDoorAQ5
set_option linter.unusedSectionVars false
set_option linter.unusedSimpArgs false
set_option linter.unusedVariables false

/- Labels: sorted lists: Sort, Down, Up, both. -/
namespace Go.Avm
open Go
def lsI (l : List Int) : AV := lst (AV.int .i64) .ro l
def stL (ns : List (List UInt8)) (up : List UInt8) (l : List Int) : List Int := if ckE ns up l = 0 then nl (Lat.srt up ns.length (l.map Int.toNat)) else []
/-- of a label, what is so -/
def bdL (ns : List (List UInt8)) (up : List UInt8) (a : Int) (p : Nat → Bool) : List Int := if ckE ns up [a] = 0 then nl (Lat.srt up ns.length ((List.range ns.length).filter p)) else []
theorem stL_nl {ns : List (List UInt8)} {up : List UInt8} {k : List Nat} (h : ckE ns up (nl k) = 0) : stL ns up (nl k) = nl (Lat.srt up ns.length k) := by
  rw [stL, if_pos h]
  congr 2
  rw [nl, List.map_map]
  exact (List.map_congr_left fun x _ => by simp).trans (List.map_id _)
theorem ev_of_wpcd {X : Cx} (hs : Std X) {f : FuncId} {hint : Nat → Bool} {af : AFun} (hc : compileFun X.P f hint = some af) {args : List AV} {r : AV} (k : Nat)
    (h : wpc X af.n af.code (kq X af.n (RetIs af.res fun r' H' => dry (fin H' k r') = r) []) (FL.get (args.zipIdx.map fun p => (p.2, p.1))) []) : Ev X f args r := by
  have h0 := (evM_of_wpc hs hc h).evF
  exact ⟨h0.1, fun g w vs h1 h2 h3 => (h0.2 g w vs h1 h2 h3).mono fun e w' ⟨v, r', g', H', k1, k2, k3, k4, k5, k6⟩ => by
    subst k6
    exact ⟨v, _, finG g' w', [], k1, finG_flat ▸ dry_rel _ (fin_rel k4 k r' k2), finG_wf k3, hr_nil (fun _ => rfl) (fun _ => rfl) (fun _ => rfl), k5.trans finG_ext, rfl, rfl⟩⟩
theorem dry_tup (p : Perm) (l : List Int) (e : Int) : dry (.tuple [lst (AV.int .i64) p l, .int .i64 e]) = .tuple [lst (AV.int .i64) .ro l, .int .i64 e] := rfl
/-- below a label, above a label -/
def dnP (up : List UInt8) (a : Int) (b : Nat) : Bool := Lat.le up b a.toNat
def upP (up : List UInt8) (a : Int) (b : Nat) : Bool := Lat.le up a.toNat b
theorem ck_one {ns : List (List UInt8)} {up : List UInt8} {a : Int} (h : ckE ns up [a] = 0) : ∃ x : Nat, a = x ∧ x < ns.length ∧ Lat.Val ns.length up := by
  obtain ⟨h1, h2, h3⟩ := ck_ok h
  have := h3 a (by simp)
  exact ⟨a.toNat, by omega, by omega, chk_val h1⟩
set_option maxRecDepth 10000
section
variable {X : Cx} (hX : X.P = Go.Proofs.Tryz.prog) (hs : Std X)
include hX hs
theorem ev_lSort (ns : List (List UInt8)) (up : List UInt8) (l : List Int) (hl : l.length < 1000000) : Ev X F_labels_Sort [latV ns up, lst (AV.int .i64) .ro l] (.tuple [lst (AV.int .i64) .ro (stL ns up l), .int .i64 (ckE ns up l)]) := by
  refine ev_of_wpcd hs (A_labels_Sort_ok hX) 1 ?_
  simp only [A_labels_Sort, latV, go_sem, Nat.reduceMod, Nat.reduceBNe, Nat.reduceBEq, Nat.reduceEqDiff, Nat.reduceAdd, Int.reduceAdd, Nat.reduceMul, Nat.reduceSub, Int.reduceToNat, Int.reduceLE, Int.reduceLT, Int.reduceEq, Int.reduceNe, reduceCtorEq, Nat.reduceLT, Nat.reduceLeDiff]
  refine call_ev (ev_lCheck hX hs ns up l hl) ?_
  by_cases h : ckE ns up l = 0
  · obtain ⟨h1, h2, h3⟩ := ck_ok h
    obtain ⟨k, rfl, hk⟩ := nl_ex h3
    rw [nl_len] at hl h2
    rw [stL_nl h]
    simp only [h, go_sem, Nat.reduceMod, Nat.reduceBNe, Nat.reduceBEq, Nat.reduceEqDiff, Nat.reduceAdd, Int.reduceAdd, Nat.reduceMul, Nat.reduceSub, Int.reduceToNat, Int.reduceLE, Int.reduceLT, Int.reduceEq, Int.reduceNe, reduceCtorEq, Nat.reduceLT, Nat.reduceLeDiff]
    refine call_evm (ev_sorted hX hs ns up (chk_val h1) k hk hl) fun r H' hr => ?_
    simp only [go_sem, Nat.reduceMod, Nat.reduceBNe, Nat.reduceBEq, Nat.reduceEqDiff, Nat.reduceAdd, Int.reduceAdd, Nat.reduceMul, Nat.reduceSub, Int.reduceToNat, Int.reduceLE, Int.reduceLT, Int.reduceEq, Int.reduceNe, reduceCtorEq, Nat.reduceLT, Nat.reduceLeDiff]
    rw [hr, dry_tup]
  · simp only [h, go_sem, Nat.reduceMod, Nat.reduceBNe, Nat.reduceBEq, Nat.reduceEqDiff, Nat.reduceAdd, Int.reduceAdd, Nat.reduceMul, Nat.reduceSub, Int.reduceToNat, Int.reduceLE, Int.reduceLT, Int.reduceEq, Int.reduceNe, reduceCtorEq, Nat.reduceLT, Nat.reduceLeDiff, stL]
    rfl
theorem ev_rlSort (ns : List (List UInt8)) (up : List UInt8) (l : List Int) (hl : l.length < 1000000) : Ev X F_ref04_Sort [latV ns up, lst (AV.int .i64) .ro l] (.tuple [lst (AV.int .i64) .ro (stL ns up l), .int .i64 (ckE ns up l)]) := by
  refine ev_of_wpcd hs (A_ref04_Sort_ok hX) 1 ?_
  simp only [A_ref04_Sort, latV, go_sem, Nat.reduceMod, Nat.reduceBNe, Nat.reduceBEq, Nat.reduceEqDiff, Nat.reduceAdd, Int.reduceAdd, Nat.reduceMul, Nat.reduceSub, Int.reduceToNat, Int.reduceLE, Int.reduceLT, Int.reduceEq, Int.reduceNe, reduceCtorEq, Nat.reduceLT, Nat.reduceLeDiff]
  refine call_ev (ev_rlCheck hX hs ns up l hl) ?_
  by_cases h : ckE ns up l = 0
  · obtain ⟨h1, h2, h3⟩ := ck_ok h
    obtain ⟨k, rfl, hk⟩ := nl_ex h3
    rw [nl_len] at hl h2
    rw [stL_nl h]
    simp only [h, go_sem, Nat.reduceMod, Nat.reduceBNe, Nat.reduceBEq, Nat.reduceEqDiff, Nat.reduceAdd, Int.reduceAdd, Nat.reduceMul, Nat.reduceSub, Int.reduceToNat, Int.reduceLE, Int.reduceLT, Int.reduceEq, Int.reduceNe, reduceCtorEq, Nat.reduceLT, Nat.reduceLeDiff]
    refine call_ev (ev_rsorted hX hs ns up (chk_val h1) k hl) ?_
    simp only [go_sem, Nat.reduceMod, Nat.reduceBNe, Nat.reduceBEq, Nat.reduceEqDiff, Nat.reduceAdd, Int.reduceAdd, Nat.reduceMul, Nat.reduceSub, Int.reduceToNat, Int.reduceLE, Int.reduceLT, Int.reduceEq, Int.reduceNe, reduceCtorEq, Nat.reduceLT, Nat.reduceLeDiff]
    rw [dry_tup]
  · simp only [h, go_sem, Nat.reduceMod, Nat.reduceBNe, Nat.reduceBEq, Nat.reduceEqDiff, Nat.reduceAdd, Int.reduceAdd, Nat.reduceMul, Nat.reduceSub, Int.reduceToNat, Int.reduceLE, Int.reduceLT, Int.reduceEq, Int.reduceNe, reduceCtorEq, Nat.reduceLT, Nat.reduceLeDiff, stL]
    rfl
theorem ev_beyond (ns : List (List UInt8)) (up : List UInt8) (a : Int) (F : Nat) (p : Nat → Bool) (hF : ckE ns up [a] = 0 → ∀ b, b < ns.length → Ev X F [latP ns up, .int .i64 b, .vp [.int .i64 a]] (.bool (p b))) :
    EvM X F_labels_beyond [latV ns up, .int .i64 a, .clo F [] [.ptr 1 0]] [.box [lst AV.str .ro ns, lst u8 .ro up], .box [.int .i64 a]] fun r H' => ∃ r1, r = .tuple [r1, .int .i64 (ckE ns up [a])] ∧ dry (fin H' 1 r1) = lst (AV.int .i64) .ro (bdL ns up a p) := by
  refine evM_of_wpc hs (A_labels_beyond_ok hX) ?_
  simp only [A_labels_beyond, latV, go_sem, Nat.reduceMod, Nat.reduceBNe, Nat.reduceBEq, Nat.reduceEqDiff, Nat.reduceAdd, Int.reduceAdd, Nat.reduceMul, Nat.reduceSub, Int.reduceToNat, Int.reduceLE, Int.reduceLT, Int.reduceEq, Int.reduceNe, reduceCtorEq, Nat.reduceLT, Nat.reduceLeDiff]
  refine call_ev (ev_lCheck hX hs ns up [a] (by simp)) ?_
  by_cases h : ckE ns up [a] = 0
  · obtain ⟨h1, h2, h3⟩ := ck_ok h
    have hv := chk_val h1
    have h8 := hv.le8
    simp only [h, go_sem, Nat.reduceMod, Nat.reduceBNe, Nat.reduceBEq, Nat.reduceEqDiff, Nat.reduceAdd, Int.reduceAdd, Nat.reduceMul, Nat.reduceSub, Int.reduceToNat, Int.reduceLE, Int.reduceLT, Int.reduceEq, Int.reduceNe, reduceCtorEq, Nat.reduceLT, Nat.reduceLeDiff]
    refine w_loop hs.hm (ι := Nat) (fun b => b ≤ ns.length) (fun b => [(27, .int .i64 b), (26, .int .i64 ns.length), (11, lst (AV.int .i64) (.tok 4 1) (nl ((List.range b).filter p))), (2, .clo F [] [.ptr 1 0]), (10, .ptr 3 0), (3, .ptr 2 0)]) (fun b => [.box [lst AV.str .ro ns, lst u8 .ro up], .box [.int .i64 a], .box [lst AV.str .ro ns, lst u8 .ro up], .box [lst AV.str .ro ns, lst u8 .ro up], .tok (nl ((List.range b).filter p)).length]) (fun b => ns.length - b) 0 ⟨Nat.zero_le _, _, _, wk_tok 11 1 rfl, ⟨by simp only [go_sem, Nat.reduceMod, Nat.reduceBNe, Nat.reduceBEq, Nat.reduceEqDiff, Nat.reduceAdd, Int.reduceAdd, Nat.reduceMul, Nat.reduceSub, Int.reduceToNat, Int.reduceLE, Int.reduceLT, Int.reduceEq, Int.reduceNe, reduceCtorEq, Nat.reduceLT, Nat.reduceLeDiff]; rfl, rfl⟩⟩ fun b hb => ?_
    simp only [A_labels_beyondL0, go_sem, Nat.reduceMod, Nat.reduceBNe, Nat.reduceBEq, Nat.reduceEqDiff, Nat.reduceAdd, Int.reduceAdd, Nat.reduceMul, Nat.reduceSub, Int.reduceToNat, Int.reduceLE, Int.reduceLT, Int.reduceEq, Int.reduceNe, reduceCtorEq, Nat.reduceLT, Nat.reduceLeDiff]
    refine ⟨fun c => ?_, fun c => ?_⟩
    · have hbn : b < ns.length := by omega
      have hlen : ((List.range b).filter p).length ≤ b := Nat.le_trans (List.length_filter_le _ _) (by simp)
      refine call_lend (hF h b hbn) rfl ?_
      cases e : p b with
      | true =>
        have h2 : nl ((List.range b).filter p) ++ [(b : Int)] = nl ((List.range (b + 1)).filter p) := by
          rw [List.range_succ, List.filter_append, nl_app]
          simp only [List.filter_cons, e, if_true, List.filter_nil]
          rfl
        simp only [go_sem, Nat.reduceMod, Nat.reduceBNe, Nat.reduceBEq, Nat.reduceEqDiff, Nat.reduceAdd, Int.reduceAdd, Nat.reduceMul, Nat.reduceSub, Int.reduceToNat, Int.reduceLE, Int.reduceLT, Int.reduceEq, Int.reduceNe, reduceCtorEq, Nat.reduceLT, Nat.reduceLeDiff]
        have hlen' : (nl ((List.range b).filter p)).length ≤ b := by rw [nl_len]; exact hlen
        refine ⟨⟨by omega, by omega⟩, b + 1, by omega, by omega, ⟨by rw [wi64 (by omega)]; rfl, by rw [h2]⟩, ?_⟩
        rw [← h2, List.length_append]
        rfl
      | false =>
        have h2 : (List.range b).filter p = (List.range (b + 1)).filter p := by
          rw [List.range_succ, List.filter_append]
          simp only [List.filter_cons, e, Bool.false_eq_true, if_false, List.filter_nil, List.append_nil]
        simp only [go_sem, Nat.reduceMod, Nat.reduceBNe, Nat.reduceBEq, Nat.reduceEqDiff, Nat.reduceAdd, Int.reduceAdd, Nat.reduceMul, Nat.reduceSub, Int.reduceToNat, Int.reduceLE, Int.reduceLT, Int.reduceEq, Int.reduceNe, reduceCtorEq, Nat.reduceLT, Nat.reduceLeDiff]
        exact ⟨b + 1, by omega, by omega, ⟨by rw [wi64 (by omega)]; rfl, by rw [h2]⟩, by rw [h2]⟩
    · obtain rfl : b = ns.length := by omega
      rw [nl_len]
      refine call_evm (ev_sortedT hX hs ns up a hv ((List.range ns.length).filter p) (fun x hx => List.mem_range.1 (List.mem_filter.1 hx).1) (Nat.lt_of_le_of_lt (List.length_filter_le _ _) (by simp; omega))) fun r H' hr => ?_
      simp only [go_sem, Nat.reduceMod, Nat.reduceBNe, Nat.reduceBEq, Nat.reduceEqDiff, Nat.reduceAdd, Int.reduceAdd, Nat.reduceMul, Nat.reduceSub, Int.reduceToNat, Int.reduceLE, Int.reduceLT, Int.reduceEq, Int.reduceNe, reduceCtorEq, Nat.reduceLT, Nat.reduceLeDiff]
      exact ⟨r, rfl, by rw [hr, bdL, if_pos h]; rfl⟩
  · simp only [h, go_sem, Nat.reduceMod, Nat.reduceBNe, Nat.reduceBEq, Nat.reduceEqDiff, Nat.reduceAdd, Int.reduceAdd, Nat.reduceMul, Nat.reduceSub, Int.reduceToNat, Int.reduceLE, Int.reduceLT, Int.reduceEq, Int.reduceNe, reduceCtorEq, Nat.reduceLT, Nat.reduceLeDiff, bdL]
    exact ⟨_, rfl, rfl⟩
theorem ev_lDown (ns : List (List UInt8)) (up : List UInt8) (a : Int) : Ev X F_labels_Down [latV ns up, .int .i64 a] (.tuple [lst (AV.int .i64) .ro (bdL ns up a (dnP up a)), .int .i64 (ckE ns up [a])]) := by
  refine ev_of_wpcd hs (A_labels_Down_ok hX) 1 ?_
  simp only [A_labels_Down, latV, go_sem, Nat.reduceMod, Nat.reduceBNe, Nat.reduceBEq, Nat.reduceEqDiff, Nat.reduceAdd, Int.reduceAdd, Nat.reduceMul, Nat.reduceSub, Int.reduceToNat, Int.reduceLE, Int.reduceLT, Int.reduceEq, Int.reduceNe, reduceCtorEq, Nat.reduceLT, Nat.reduceLeDiff]
  refine call_evm (ev_beyond hX hs ns up a F_labels_Down_1 (dnP up a) fun h b hb => ?_) fun r H' hr => ?_
  · obtain ⟨x, rfl, hx, hv⟩ := ck_one h
    have h8 := hv.le8
    have hup := hv.len
    refine ev_of_wpc hs (A_labels_Down_1_ok hX) 1 ?_
    simp only [A_labels_Down_1, latP, go_sem, Nat.reduceMod, Nat.reduceBNe, Nat.reduceBEq, Nat.reduceEqDiff, Nat.reduceAdd, Int.reduceAdd, Nat.reduceMul, Nat.reduceSub, Int.reduceToNat, Int.reduceLE, Int.reduceLT, Int.reduceEq, Int.reduceNe, reduceCtorEq, Nat.reduceLT, Nat.reduceLeDiff]
    refine call_ev (ev_obelow hX hs ns up b x (by omega) (by omega)) ?_
    simp only [go_sem, Nat.reduceMod, Nat.reduceBNe, Nat.reduceBEq, Nat.reduceEqDiff, Nat.reduceAdd, Int.reduceAdd, Nat.reduceMul, Nat.reduceSub, Int.reduceToNat, Int.reduceLE, Int.reduceLT, Int.reduceEq, Int.reduceNe, reduceCtorEq, Nat.reduceLT, Nat.reduceLeDiff, dnP, Int.toNat_natCast]
  · obtain ⟨r1, rfl, hr⟩ := hr
    simp only [go_sem, Nat.reduceMod, Nat.reduceBNe, Nat.reduceBEq, Nat.reduceEqDiff, Nat.reduceAdd, Int.reduceAdd, Nat.reduceMul, Nat.reduceSub, Int.reduceToNat, Int.reduceLE, Int.reduceLT, Int.reduceEq, Int.reduceNe, reduceCtorEq, Nat.reduceLT, Nat.reduceLeDiff]
    show AV.tuple [dry (fin H' 1 r1), .int .i64 (ckE ns up [a])] = _
    rw [hr]
theorem ev_lUp (ns : List (List UInt8)) (up : List UInt8) (a : Int) : Ev X F_labels_Up [latV ns up, .int .i64 a] (.tuple [lst (AV.int .i64) .ro (bdL ns up a (upP up a)), .int .i64 (ckE ns up [a])]) := by
  refine ev_of_wpcd hs (A_labels_Up_ok hX) 1 ?_
  simp only [A_labels_Up, latV, go_sem, Nat.reduceMod, Nat.reduceBNe, Nat.reduceBEq, Nat.reduceEqDiff, Nat.reduceAdd, Int.reduceAdd, Nat.reduceMul, Nat.reduceSub, Int.reduceToNat, Int.reduceLE, Int.reduceLT, Int.reduceEq, Int.reduceNe, reduceCtorEq, Nat.reduceLT, Nat.reduceLeDiff]
  refine call_evm (ev_beyond hX hs ns up a F_labels_Up_1 (upP up a) fun h b hb => ?_) fun r H' hr => ?_
  · obtain ⟨x, rfl, hx, hv⟩ := ck_one h
    have h8 := hv.le8
    have hup := hv.len
    refine ev_of_wpc hs (A_labels_Up_1_ok hX) 1 ?_
    simp only [A_labels_Up_1, latP, go_sem, Nat.reduceMod, Nat.reduceBNe, Nat.reduceBEq, Nat.reduceEqDiff, Nat.reduceAdd, Int.reduceAdd, Nat.reduceMul, Nat.reduceSub, Int.reduceToNat, Int.reduceLE, Int.reduceLT, Int.reduceEq, Int.reduceNe, reduceCtorEq, Nat.reduceLT, Nat.reduceLeDiff]
    refine call_ev (ev_obelow hX hs ns up x b (by omega) (by omega)) ?_
    simp only [go_sem, Nat.reduceMod, Nat.reduceBNe, Nat.reduceBEq, Nat.reduceEqDiff, Nat.reduceAdd, Int.reduceAdd, Nat.reduceMul, Nat.reduceSub, Int.reduceToNat, Int.reduceLE, Int.reduceLT, Int.reduceEq, Int.reduceNe, reduceCtorEq, Nat.reduceLT, Nat.reduceLeDiff, upP, Int.toNat_natCast]
  · obtain ⟨r1, rfl, hr⟩ := hr
    simp only [go_sem, Nat.reduceMod, Nat.reduceBNe, Nat.reduceBEq, Nat.reduceEqDiff, Nat.reduceAdd, Int.reduceAdd, Nat.reduceMul, Nat.reduceSub, Int.reduceToNat, Int.reduceLE, Int.reduceLT, Int.reduceEq, Int.reduceNe, reduceCtorEq, Nat.reduceLT, Nat.reduceLeDiff]
    show AV.tuple [dry (fin H' 1 r1), .int .i64 (ckE ns up [a])] = _
    rw [hr]
end
end Go.Avm

/- Labels: Down, Up, Same of the references. -/
namespace Go.Avm
open Go
set_option maxRecDepth 10000
section
variable {X : Cx} (hX : X.P = Go.Proofs.Tryz.prog) (hs : Std X)
include hX hs
theorem ev_rlDown (ns : List (List UInt8)) (up : List UInt8) (a : Int) : Ev X F_ref04_Down [latV ns up, .int .i64 a] (.tuple [lst (AV.int .i64) .ro (bdL ns up a (dnP up a)), .int .i64 (ckE ns up [a])]) := by
  refine ev_of_wpcd hs (A_ref04_Down_ok hX) 1 ?_
  simp only [A_ref04_Down, latV, go_sem, Nat.reduceMod, Nat.reduceBNe, Nat.reduceBEq, Nat.reduceEqDiff, Nat.reduceAdd, Int.reduceAdd, Nat.reduceMul, Nat.reduceSub, Int.reduceToNat, Int.reduceLE, Int.reduceLT, Int.reduceEq, Int.reduceNe, reduceCtorEq, Nat.reduceLT, Nat.reduceLeDiff]
  refine call_ev (ev_rlCheck hX hs ns up [a] (by simp)) ?_
  by_cases h : ckE ns up [a] = 0
  · obtain ⟨x, rfl, hx, hv⟩ := ck_one h
    have h8 := hv.le8
    have hup := hv.len
    simp only [h, go_sem, Nat.reduceMod, Nat.reduceBNe, Nat.reduceBEq, Nat.reduceEqDiff, Nat.reduceAdd, Int.reduceAdd, Nat.reduceMul, Nat.reduceSub, Int.reduceToNat, Int.reduceLE, Int.reduceLT, Int.reduceEq, Int.reduceNe, reduceCtorEq, Nat.reduceLT, Nat.reduceLeDiff]
    refine w_loop hs.hm (ι := Nat) (fun b => b ≤ ns.length) (fun b => [(9, .int .i64 b), (8, lst (AV.int .i64) (.tok 1 1) (nl ((List.range b).filter (dnP up x)))), (1, .int .i64 x), (2, .ptr 0 0)]) (fun b => [.box [lst AV.str .ro ns, lst u8 .ro up], .tok (nl ((List.range b).filter (dnP up x))).length]) (fun b => ns.length - b) 0 ⟨Nat.zero_le _, _, _, wk_tok 8 1 rfl, ⟨by simp only [go_sem, Nat.reduceMod, Nat.reduceBNe, Nat.reduceBEq, Nat.reduceEqDiff, Nat.reduceAdd, Int.reduceAdd, Nat.reduceMul, Nat.reduceSub, Int.reduceToNat, Int.reduceLE, Int.reduceLT, Int.reduceEq, Int.reduceNe, reduceCtorEq, Nat.reduceLT, Nat.reduceLeDiff]; rfl, rfl⟩⟩ fun b hb => ?_
    simp only [A_ref04_DownL0, go_sem, Nat.reduceMod, Nat.reduceBNe, Nat.reduceBEq, Nat.reduceEqDiff, Nat.reduceAdd, Int.reduceAdd, Nat.reduceMul, Nat.reduceSub, Int.reduceToNat, Int.reduceLE, Int.reduceLT, Int.reduceEq, Int.reduceNe, reduceCtorEq, Nat.reduceLT, Nat.reduceLeDiff]
    refine ⟨fun c => ?_, fun c => ?_⟩
    · have hbn : b < ns.length := by omega
      have hlen : ((List.range b).filter (dnP up x)).length ≤ b := Nat.le_trans (List.length_filter_le _ _) (by simp)
      refine call_ev (ev_Below hX hs ns up _ _) ?_
      rw [below_nat up b x (by omega)]
      cases e : Lat.le up b x with
      | true =>
        have e' : dnP up x b = true := by simp only [dnP, Int.toNat_natCast, e]
        have h2 : nl ((List.range b).filter (dnP up x)) ++ [(b : Int)] = nl ((List.range (b + 1)).filter (dnP up x)) := by
          rw [List.range_succ, List.filter_append, nl_app]
          simp only [List.filter_cons, e', if_true, List.filter_nil]
          rfl
        simp only [go_sem, Nat.reduceMod, Nat.reduceBNe, Nat.reduceBEq, Nat.reduceEqDiff, Nat.reduceAdd, Int.reduceAdd, Nat.reduceMul, Nat.reduceSub, Int.reduceToNat, Int.reduceLE, Int.reduceLT, Int.reduceEq, Int.reduceNe, reduceCtorEq, Nat.reduceLT, Nat.reduceLeDiff]
        have hlen' : (nl ((List.range b).filter (dnP up x))).length ≤ b := by rw [nl_len]; exact hlen
        refine ⟨⟨by omega, by omega⟩, b + 1, by omega, by omega, ⟨by rw [wi64 (by omega)]; rfl, by rw [h2]⟩, ?_⟩
        rw [← h2, List.length_append]
        rfl
      | false =>
        have e' : dnP up x b = false := by simp only [dnP, Int.toNat_natCast, e]
        have h2 : (List.range b).filter (dnP up x) = (List.range (b + 1)).filter (dnP up x) := by
          rw [List.range_succ, List.filter_append]
          simp only [List.filter_cons, e', Bool.false_eq_true, if_false, List.filter_nil, List.append_nil]
        simp only [go_sem, Nat.reduceMod, Nat.reduceBNe, Nat.reduceBEq, Nat.reduceEqDiff, Nat.reduceAdd, Int.reduceAdd, Nat.reduceMul, Nat.reduceSub, Int.reduceToNat, Int.reduceLE, Int.reduceLT, Int.reduceEq, Int.reduceNe, reduceCtorEq, Nat.reduceLT, Nat.reduceLeDiff]
        exact ⟨b + 1, by omega, by omega, ⟨by rw [wi64 (by omega)]; rfl, by rw [h2]⟩, by rw [h2]⟩
    · obtain rfl : b = ns.length := by omega
      refine call_ev (ev_rsorted hX hs ns up hv _ (Nat.lt_of_le_of_lt (List.length_filter_le _ _) (by simp; omega))) ?_
      simp only [go_sem, Nat.reduceMod, Nat.reduceBNe, Nat.reduceBEq, Nat.reduceEqDiff, Nat.reduceAdd, Int.reduceAdd, Nat.reduceMul, Nat.reduceSub, Int.reduceToNat, Int.reduceLE, Int.reduceLT, Int.reduceEq, Int.reduceNe, reduceCtorEq, Nat.reduceLT, Nat.reduceLeDiff]
      rw [dry_tup, bdL, if_pos h]
  · simp only [h, go_sem, Nat.reduceMod, Nat.reduceBNe, Nat.reduceBEq, Nat.reduceEqDiff, Nat.reduceAdd, Int.reduceAdd, Nat.reduceMul, Nat.reduceSub, Int.reduceToNat, Int.reduceLE, Int.reduceLT, Int.reduceEq, Int.reduceNe, reduceCtorEq, Nat.reduceLT, Nat.reduceLeDiff, bdL]
    rfl
theorem ev_rlUp (ns : List (List UInt8)) (up : List UInt8) (a : Int) : Ev X F_ref04_Up [latV ns up, .int .i64 a] (.tuple [lst (AV.int .i64) .ro (bdL ns up a (upP up a)), .int .i64 (ckE ns up [a])]) := by
  refine ev_of_wpcd hs (A_ref04_Up_ok hX) 1 ?_
  simp only [A_ref04_Up, latV, go_sem, Nat.reduceMod, Nat.reduceBNe, Nat.reduceBEq, Nat.reduceEqDiff, Nat.reduceAdd, Int.reduceAdd, Nat.reduceMul, Nat.reduceSub, Int.reduceToNat, Int.reduceLE, Int.reduceLT, Int.reduceEq, Int.reduceNe, reduceCtorEq, Nat.reduceLT, Nat.reduceLeDiff]
  refine call_ev (ev_rlCheck hX hs ns up [a] (by simp)) ?_
  by_cases h : ckE ns up [a] = 0
  · obtain ⟨x, rfl, hx, hv⟩ := ck_one h
    have h8 := hv.le8
    have hup := hv.len
    simp only [h, go_sem, Nat.reduceMod, Nat.reduceBNe, Nat.reduceBEq, Nat.reduceEqDiff, Nat.reduceAdd, Int.reduceAdd, Nat.reduceMul, Nat.reduceSub, Int.reduceToNat, Int.reduceLE, Int.reduceLT, Int.reduceEq, Int.reduceNe, reduceCtorEq, Nat.reduceLT, Nat.reduceLeDiff]
    refine w_loop hs.hm (ι := Nat) (fun b => b ≤ ns.length) (fun b => [(9, .int .i64 b), (8, lst (AV.int .i64) (.tok 1 1) (nl ((List.range b).filter (upP up x)))), (1, .int .i64 x), (2, .ptr 0 0)]) (fun b => [.box [lst AV.str .ro ns, lst u8 .ro up], .tok (nl ((List.range b).filter (upP up x))).length]) (fun b => ns.length - b) 0 ⟨Nat.zero_le _, _, _, wk_tok 8 1 rfl, ⟨by simp only [go_sem, Nat.reduceMod, Nat.reduceBNe, Nat.reduceBEq, Nat.reduceEqDiff, Nat.reduceAdd, Int.reduceAdd, Nat.reduceMul, Nat.reduceSub, Int.reduceToNat, Int.reduceLE, Int.reduceLT, Int.reduceEq, Int.reduceNe, reduceCtorEq, Nat.reduceLT, Nat.reduceLeDiff]; rfl, rfl⟩⟩ fun b hb => ?_
    simp only [A_ref04_UpL0, go_sem, Nat.reduceMod, Nat.reduceBNe, Nat.reduceBEq, Nat.reduceEqDiff, Nat.reduceAdd, Int.reduceAdd, Nat.reduceMul, Nat.reduceSub, Int.reduceToNat, Int.reduceLE, Int.reduceLT, Int.reduceEq, Int.reduceNe, reduceCtorEq, Nat.reduceLT, Nat.reduceLeDiff]
    refine ⟨fun c => ?_, fun c => ?_⟩
    · have hbn : b < ns.length := by omega
      have hlen : ((List.range b).filter (upP up x)).length ≤ b := Nat.le_trans (List.length_filter_le _ _) (by simp)
      refine call_ev (ev_Below hX hs ns up _ _) ?_
      rw [below_nat up x b (by omega)]
      cases e : Lat.le up x b with
      | true =>
        have e' : upP up x b = true := by simp only [upP, Int.toNat_natCast, e]
        have h2 : nl ((List.range b).filter (upP up x)) ++ [(b : Int)] = nl ((List.range (b + 1)).filter (upP up x)) := by
          rw [List.range_succ, List.filter_append, nl_app]
          simp only [List.filter_cons, e', if_true, List.filter_nil]
          rfl
        simp only [go_sem, Nat.reduceMod, Nat.reduceBNe, Nat.reduceBEq, Nat.reduceEqDiff, Nat.reduceAdd, Int.reduceAdd, Nat.reduceMul, Nat.reduceSub, Int.reduceToNat, Int.reduceLE, Int.reduceLT, Int.reduceEq, Int.reduceNe, reduceCtorEq, Nat.reduceLT, Nat.reduceLeDiff]
        have hlen' : (nl ((List.range b).filter (upP up x))).length ≤ b := by rw [nl_len]; exact hlen
        refine ⟨⟨by omega, by omega⟩, b + 1, by omega, by omega, ⟨by rw [wi64 (by omega)]; rfl, by rw [h2]⟩, ?_⟩
        rw [← h2, List.length_append]
        rfl
      | false =>
        have e' : upP up x b = false := by simp only [upP, Int.toNat_natCast, e]
        have h2 : (List.range b).filter (upP up x) = (List.range (b + 1)).filter (upP up x) := by
          rw [List.range_succ, List.filter_append]
          simp only [List.filter_cons, e', Bool.false_eq_true, if_false, List.filter_nil, List.append_nil]
        simp only [go_sem, Nat.reduceMod, Nat.reduceBNe, Nat.reduceBEq, Nat.reduceEqDiff, Nat.reduceAdd, Int.reduceAdd, Nat.reduceMul, Nat.reduceSub, Int.reduceToNat, Int.reduceLE, Int.reduceLT, Int.reduceEq, Int.reduceNe, reduceCtorEq, Nat.reduceLT, Nat.reduceLeDiff]
        exact ⟨b + 1, by omega, by omega, ⟨by rw [wi64 (by omega)]; rfl, by rw [h2]⟩, by rw [h2]⟩
    · obtain rfl : b = ns.length := by omega
      refine call_ev (ev_rsorted hX hs ns up hv _ (Nat.lt_of_le_of_lt (List.length_filter_le _ _) (by simp; omega))) ?_
      simp only [go_sem, Nat.reduceMod, Nat.reduceBNe, Nat.reduceBEq, Nat.reduceEqDiff, Nat.reduceAdd, Int.reduceAdd, Nat.reduceMul, Nat.reduceSub, Int.reduceToNat, Int.reduceLE, Int.reduceLT, Int.reduceEq, Int.reduceNe, reduceCtorEq, Nat.reduceLT, Nat.reduceLeDiff]
      rw [dry_tup, bdL, if_pos h]
  · simp only [h, go_sem, Nat.reduceMod, Nat.reduceBNe, Nat.reduceBEq, Nat.reduceEqDiff, Nat.reduceAdd, Int.reduceAdd, Nat.reduceMul, Nat.reduceSub, Int.reduceToNat, Int.reduceLE, Int.reduceLT, Int.reduceEq, Int.reduceNe, reduceCtorEq, Nat.reduceLT, Nat.reduceLeDiff, bdL]
    rfl
theorem ev_rlSame (a b : List Int) (ha : a.length < 1000000) (hb : b.length < 1000000) : Ev X F_ref04_Same [lst (AV.int .i64) .ro a, lst (AV.int .i64) .ro b] (.bool (decide (a = b))) := by
  refine ev_of_wpc hs (A_ref04_Same_ok hX) 1 ?_
  simp only [A_ref04_Same, go_sem, Nat.reduceMod, Nat.reduceBNe, Nat.reduceBEq, Nat.reduceEqDiff, Nat.reduceAdd, Int.reduceAdd, Nat.reduceMul, Nat.reduceSub, Int.reduceToNat, Int.reduceLE, Int.reduceLT, Int.reduceEq, Int.reduceNe, reduceCtorEq, Nat.reduceLT, Nat.reduceLeDiff]
  refine ⟨fun c => ?_, fun c => ?_⟩
  · have : ¬ a = b := fun e => c (by rw [e])
    rw [decide_eq_false this]
  · have hab : a.length = b.length := by omega
    refine w_loop' hs.hm (ι := Nat) (fun i => i ≤ a.length ∧ ∀ j, j < i → a.getD j 0 = b.getD j 0) (fun i => [(5, .int .i64 i), (0, lst (AV.int .i64) .ro a), (1, lst (AV.int .i64) .ro b)]) (fun _ => []) (fun i => a.length - i) 0 ?_ fun i hi => ?_
    · simp only [go_sem, Nat.reduceMod, Nat.reduceBNe, Nat.reduceBEq, Nat.reduceEqDiff, Nat.reduceAdd, Int.reduceAdd, Nat.reduceMul, Nat.reduceSub, Int.reduceToNat, Int.reduceLE, Int.reduceLT, Int.reduceEq, Int.reduceNe, reduceCtorEq, Nat.reduceLT, Nat.reduceLeDiff]
      exact ⟨Nat.zero_le _, no_lt0⟩
    · obtain ⟨i1, i2⟩ := hi
      simp only [A_ref04_SameL0, go_sem, Nat.reduceMod, Nat.reduceBNe, Nat.reduceBEq, Nat.reduceEqDiff, Nat.reduceAdd, Int.reduceAdd, Nat.reduceMul, Nat.reduceSub, Int.reduceToNat, Int.reduceLE, Int.reduceLT, Int.reduceEq, Int.reduceNe, reduceCtorEq, Nat.reduceLT, Nat.reduceLeDiff]
      refine ⟨fun c => ⟨⟨by omega, c⟩, ⟨by omega, by omega⟩, fun e => ?_, fun e => nxt1 (by omega) i2 e (by omega)⟩, fun c => ?_⟩
      · have : ¬ a = b := fun e' => e (by rw [e'])
        rw [decide_eq_false this]
      · have : a = b := by
          refine List.ext_getElem hab fun j h1 h2 => ?_
          have := i2 j (by omega)
          rwa [List.getD_eq_getElem?_getD, List.getD_eq_getElem?_getD, List.getElem?_eq_getElem h1, List.getElem?_eq_getElem h2] at this
        rw [decide_eq_true this]
end
end Go.Avm

/- Labels: chains. -/
namespace Go.Avm
open Go
theorem chS_iff (up : List UInt8) : ∀ (S : List Nat), Lat.chS up S = true ↔ ∀ j, j + 1 < S.length → Lat.le up (S.getD j 0) (S.getD (j + 1) 0) = true
  | [] => by simp [Lat.chS]
  | [a] => by simp [Lat.chS]
  | a :: b :: r => by
    simp only [Lat.chS, Bool.and_eq_true, chS_iff up (b :: r)]
    constructor
    · rintro ⟨h1, h2⟩ j hj
      cases j with
      | zero => exact h1
      | succ j => exact h2 j (by simpa using hj)
    · intro h
      exact ⟨h 0 (by simp), fun j hj => h (j + 1) (by simpa using hj)⟩
def chV (ns : List (List UInt8)) (up : List UInt8) (l : List Int) : Bool := decide (ckE ns up l = 0) && Lat.chB up (l.map Int.toNat)
theorem nl_toNat (k : List Nat) : (nl k).map Int.toNat = k := by
  rw [nl, List.map_map]
  exact (List.map_congr_left fun x _ => by simp).trans (List.map_id _)
theorem chV_nl {ns : List (List UInt8)} {up : List UInt8} {k : List Nat} (h : ckE ns up (nl k) = 0) : chV ns up (nl k) = Lat.chB up k := by
  rw [chV, nl_toNat, decide_eq_true h, Bool.true_and]
theorem chB_no {up : List UInt8} {k : List Nat} {i j : Nat} (hi : i < k.length) (hj : j < k.length) (h1 : Lat.le up (k.getD i 0) (k.getD j 0) = false) (h2 : Lat.le up (k.getD j 0) (k.getD i 0) = false) : Lat.chB up k = false := by
  rw [← Bool.not_eq_true]
  intro h
  simp only [Lat.chB, List.all_eq_true, Bool.or_eq_true] at h
  rw [List.getD_eq_getElem?_getD, List.getD_eq_getElem?_getD, List.getElem?_eq_getElem hi, List.getElem?_eq_getElem hj] at h1 h2
  simp only [Option.getD_some] at h1 h2
  rcases h k[i] (List.getElem_mem _) k[j] (List.getElem_mem _) with h | h
  · rw [h1] at h; cases h
  · rw [h2] at h; cases h
theorem chB_yes {n : Nat} {up : List UInt8} (hv : Lat.Val n up) {k : List Nat} (hk : ∀ x ∈ k, x < n) (h : ∀ i, i < k.length → ∀ j, j < i → Lat.le up (k.getD i 0) (k.getD j 0) = true ∨ Lat.le up (k.getD j 0) (k.getD i 0) = true) : Lat.chB up k = true := by
  simp only [Lat.chB, List.all_eq_true, Bool.or_eq_true]
  intro a ha b hb
  obtain ⟨i, hi, rfl⟩ := List.getElem_of_mem ha
  obtain ⟨j, hj, rfl⟩ := List.getElem_of_mem hb
  have e : ∀ x (hx : x < k.length), k.getD x 0 = k[x] := fun x hx => by rw [List.getD_eq_getElem?_getD, List.getElem?_eq_getElem hx]; rfl
  rcases Nat.lt_trichotomy i j with h' | h' | h'
  · have := h j hj i h'
    rw [e i hi, e j hj] at this
    exact this.symm
  · subst h'
    exact .inl (hv.refl _ (hk _ (List.getElem_mem _)))
  · have := h i hi j h'
    rw [e i hi, e j hj] at this
    exact this
theorem nl_get (k : List Nat) (i : Nat) : (nl k).getD i default = (k.getD i 0 : Nat) := nl_getD k i
theorem getD_lt {n : Nat} {k : List Nat} (hk : ∀ x ∈ k, x < n) {i : Nat} (hi : i < k.length) : k.getD i 0 < n := by
  rw [List.getD_eq_getElem?_getD, List.getElem?_eq_getElem hi]
  exact hk _ (List.getElem_mem _)
set_option maxRecDepth 10000
section
variable {X : Cx} (hX : X.P = Go.Proofs.Tryz.prog) (hs : Std X)
include hX hs
theorem ev_lChain (ns : List (List UInt8)) (up : List UInt8) (l : List Int) (hl : l.length < 1000000) : Ev X F_labels_Chain [latV ns up, lst (AV.int .i64) .ro l] (.tuple [.bool (chV ns up l), .int .i64 (ckE ns up l)]) := by
  refine ev_of_wpc hs (A_labels_Chain_ok hX) 1 ?_
  simp only [A_labels_Chain, latV, go_sem, Nat.reduceMod, Nat.reduceBNe, Nat.reduceBEq, Nat.reduceEqDiff, Nat.reduceAdd, Int.reduceAdd, Nat.reduceMul, Nat.reduceSub, Int.reduceToNat, Int.reduceLE, Int.reduceLT, Int.reduceEq, Int.reduceNe, reduceCtorEq, Nat.reduceLT, Nat.reduceLeDiff]
  refine call_ev (ev_lSort hX hs ns up l hl) ?_
  by_cases h : ckE ns up l = 0
  · obtain ⟨h1, h2, h3⟩ := ck_ok h
    obtain ⟨k, rfl, hk⟩ := nl_ex h3
    have hv := chk_val h1
    have h8 := hv.le8
    have hup := hv.len
    rw [stL_nl h, chV_nl h, ← Lat.chain_eq hv hk]
    have hm : ∀ x ∈ Lat.srt up ns.length k, x < ns.length := fun x hx => ((Lat.mem_srt hv).1 hx).1
    have hlen : (Lat.srt up ns.length k).length < 1000000 := by
      rw [← sA_all]
      have := sA_len up ns.length k ns.length
      have : ns.length * ns.length ≤ 8 * 8 := Nat.mul_le_mul h8 h8
      omega
    generalize Lat.srt up ns.length k = S at hm hlen ⊢
    simp only [h, go_sem, Nat.reduceMod, Nat.reduceBNe, Nat.reduceBEq, Nat.reduceEqDiff, Nat.reduceAdd, Int.reduceAdd, Nat.reduceMul, Nat.reduceSub, Int.reduceToNat, Int.reduceLE, Int.reduceLT, Int.reduceEq, Int.reduceNe, reduceCtorEq, Nat.reduceLT, Nat.reduceLeDiff]
    refine w_loop' hs.hm (ι := Nat) (fun i => i ≤ S.length ∧ ∀ j, j < i → Lat.le up (S.getD j 0) (S.getD (j + 1) 0) = true) (fun i => [(9, .int .i64 (i + 1 : Nat)), (6, lst (AV.int .i64) .ro (nl S)), (8, .ptr 1 0)]) (fun _ => [.box [lst AV.str .ro ns, lst u8 .ro up], .box [lst AV.str .ro ns, lst u8 .ro up]]) (fun i => S.length - i) 0 ?_ fun i hi => ?_
    · simp only [go_sem, Nat.reduceMod, Nat.reduceBNe, Nat.reduceBEq, Nat.reduceEqDiff, Nat.reduceAdd, Int.reduceAdd, Nat.reduceMul, Nat.reduceSub, Int.reduceToNat, Int.reduceLE, Int.reduceLT, Int.reduceEq, Int.reduceNe, reduceCtorEq, Nat.reduceLT, Nat.reduceLeDiff]
      exact ⟨Nat.zero_le _, no_lt0⟩
    · obtain ⟨i1, i2⟩ := hi
      simp only [A_labels_ChainL0, go_sem, Nat.reduceMod, Nat.reduceBNe, Nat.reduceBEq, Nat.reduceEqDiff, Nat.reduceAdd, Int.reduceAdd, Nat.reduceMul, Nat.reduceSub, Int.reduceToNat, Int.reduceLE, Int.reduceLT, Int.reduceEq, Int.reduceNe, reduceCtorEq, Nat.reduceLT, Nat.reduceLeDiff, nl_len]
      refine ⟨fun c => ?_, fun c => ?_⟩
      · have e1 : IntKind.i64.wrap (((i + 1 : Nat) : Int) - 1) = (i : Int) := by rw [wi64 (by omega)]; omega
        rw [e1, Int.toNat_natCast, nl_get, nl_get]
        refine ⟨⟨by omega, by omega⟩, ⟨by omega, by omega⟩, ?_⟩
        have hi1 : S.getD i 0 < ns.length := getD_lt hm (by omega)
        have hi2 : S.getD (i + 1) 0 < ns.length := getD_lt hm (by omega)
        refine callq_lend (ev_obelow hX hs ns up (S.getD i 0) (S.getD (i + 1) 0) (by omega) (by omega)) rfl ?_
        cases e : Lat.le up (S.getD i 0) (S.getD (i + 1) 0) with
        | true =>
          simp only [go_sem, Nat.reduceMod, Nat.reduceBNe, Nat.reduceBEq, Nat.reduceEqDiff, Nat.reduceAdd, Int.reduceAdd, Nat.reduceMul, Nat.reduceSub, Int.reduceToNat, Int.reduceLE, Int.reduceLT, Int.reduceEq, Int.reduceNe, reduceCtorEq, Nat.reduceLT, Nat.reduceLeDiff]
          exact ⟨i + 1, by omega, ⟨by omega, fun j hj => by
            by_cases ej : j = i
            · rw [ej]; exact e
            · exact i2 j (by omega)⟩, by rw [wi64 (by omega)]; rfl⟩
        | false =>
          simp only [go_sem, Nat.reduceMod, Nat.reduceBNe, Nat.reduceBEq, Nat.reduceEqDiff, Nat.reduceAdd, Int.reduceAdd, Nat.reduceMul, Nat.reduceSub, Int.reduceToNat, Int.reduceLE, Int.reduceLT, Int.reduceEq, Int.reduceNe, reduceCtorEq, Nat.reduceLT, Nat.reduceLeDiff]
          have : Lat.chS up S = false := by
            rw [← Bool.not_eq_true, chS_iff]
            intro hc
            have := hc i (by omega)
            rw [e] at this
            cases this
          rw [this]
      · have : Lat.chS up S = true := (chS_iff up S).2 fun j hj => i2 j (by omega)
        rw [this]
  · simp only [h, go_sem, Nat.reduceMod, Nat.reduceBNe, Nat.reduceBEq, Nat.reduceEqDiff, Nat.reduceAdd, Int.reduceAdd, Nat.reduceMul, Nat.reduceSub, Int.reduceToNat, Int.reduceLE, Int.reduceLT, Int.reduceEq, Int.reduceNe, reduceCtorEq, Nat.reduceLT, Nat.reduceLeDiff, chV]
theorem ev_rlChain (ns : List (List UInt8)) (up : List UInt8) (l : List Int) (hl : l.length < 1000000) : Ev X F_ref04_Chain [latV ns up, lst (AV.int .i64) .ro l] (.tuple [.bool (chV ns up l), .int .i64 (ckE ns up l)]) := by
  refine ev_of_wpc hs (A_ref04_Chain_ok hX) 1 ?_
  simp only [A_ref04_Chain, latV, go_sem, Nat.reduceMod, Nat.reduceBNe, Nat.reduceBEq, Nat.reduceEqDiff, Nat.reduceAdd, Int.reduceAdd, Nat.reduceMul, Nat.reduceSub, Int.reduceToNat, Int.reduceLE, Int.reduceLT, Int.reduceEq, Int.reduceNe, reduceCtorEq, Nat.reduceLT, Nat.reduceLeDiff]
  refine call_ev (ev_rlCheck hX hs ns up l hl) ?_
  by_cases h : ckE ns up l = 0
  · obtain ⟨h1, h2, h3⟩ := ck_ok h
    obtain ⟨k, rfl, hk⟩ := nl_ex h3
    have hv := chk_val h1
    have h8 := hv.le8
    have hup := hv.len
    rw [chV_nl h]
    rw [nl_len] at hl h2
    simp only [h, go_sem, Nat.reduceMod, Nat.reduceBNe, Nat.reduceBEq, Nat.reduceEqDiff, Nat.reduceAdd, Int.reduceAdd, Nat.reduceMul, Nat.reduceSub, Int.reduceToNat, Int.reduceLE, Int.reduceLT, Int.reduceEq, Int.reduceNe, reduceCtorEq, Nat.reduceLT, Nat.reduceLeDiff]
    refine w_loop' hs.hm (ι := Nat) (fun i => i ≤ k.length ∧ ∀ i', i' < i → ∀ j, j < i' → Lat.le up (k.getD i' 0) (k.getD j 0) = true ∨ Lat.le up (k.getD j 0) (k.getD i' 0) = true) (fun i => [(8, .int .i64 i), (1, lst (AV.int .i64) .ro (nl k)), (2, .ptr 0 0)]) (fun _ => [.box [lst AV.str .ro ns, lst u8 .ro up]]) (fun i => k.length - i) 0 ?_ fun i hi => ?_
    · simp only [go_sem, Nat.reduceMod, Nat.reduceBNe, Nat.reduceBEq, Nat.reduceEqDiff, Nat.reduceAdd, Int.reduceAdd, Nat.reduceMul, Nat.reduceSub, Int.reduceToNat, Int.reduceLE, Int.reduceLT, Int.reduceEq, Int.reduceNe, reduceCtorEq, Nat.reduceLT, Nat.reduceLeDiff]
      exact ⟨Nat.zero_le _, no_lt0⟩
    · obtain ⟨i1, i2⟩ := hi
      simp only [A_ref04_ChainL0, go_sem, Nat.reduceMod, Nat.reduceBNe, Nat.reduceBEq, Nat.reduceEqDiff, Nat.reduceAdd, Int.reduceAdd, Nat.reduceMul, Nat.reduceSub, Int.reduceToNat, Int.reduceLE, Int.reduceLT, Int.reduceEq, Int.reduceNe, reduceCtorEq, Nat.reduceLT, Nat.reduceLeDiff, nl_len]
      refine ⟨fun c => ?_, fun c => ?_⟩
      · have hik : i < k.length := by omega
        refine w_loop' hs.hm (ι := Nat) (fun j => j ≤ i ∧ ∀ j', j' < j → Lat.le up (k.getD i 0) (k.getD j' 0) = true ∨ Lat.le up (k.getD j' 0) (k.getD i 0) = true) (fun j => [(9, .int .i64 j), (8, .int .i64 i), (1, lst (AV.int .i64) .ro (nl k)), (2, .ptr 0 0)]) (fun _ => [.box [lst AV.str .ro ns, lst u8 .ro up]]) (fun j => i - j) 0 ?_ fun j hj => ?_
        · simp only [go_sem, Nat.reduceMod, Nat.reduceBNe, Nat.reduceBEq, Nat.reduceEqDiff, Nat.reduceAdd, Int.reduceAdd, Nat.reduceMul, Nat.reduceSub, Int.reduceToNat, Int.reduceLE, Int.reduceLT, Int.reduceEq, Int.reduceNe, reduceCtorEq, Nat.reduceLT, Nat.reduceLeDiff]
          exact ⟨Nat.zero_le _, no_lt0⟩
        · obtain ⟨j1, j2⟩ := hj
          simp only [A_ref04_ChainL1, go_sem, Nat.reduceMod, Nat.reduceBNe, Nat.reduceBEq, Nat.reduceEqDiff, Nat.reduceAdd, Int.reduceAdd, Nat.reduceMul, Nat.reduceSub, Int.reduceToNat, Int.reduceLE, Int.reduceLT, Int.reduceEq, Int.reduceNe, reduceCtorEq, Nat.reduceLT, Nat.reduceLeDiff, nl_len, nl_get]
          refine ⟨fun c2 => ?_, fun c2 => ?_⟩
          · have hjk : j < k.length := by omega
            have hi1 : k.getD i 0 < ns.length := getD_lt hk hik
            have hj1 : k.getD j 0 < ns.length := getD_lt hk hjk
            refine ⟨⟨by omega, by omega⟩, ⟨by omega, by omega⟩, ?_⟩
            have nxt : (Lat.le up (k.getD i 0) (k.getD j 0) = true ∨ Lat.le up (k.getD j 0) (k.getD i 0) = true) → ∃ j_1, i - j_1 < i - j ∧ (j_1 ≤ i ∧ ∀ j', j' < j_1 → Lat.le up (k.getD i 0) (k.getD j' 0) = true ∨ Lat.le up (k.getD j' 0) (k.getD i 0) = true) ∧ AV.int .i64 (IntKind.i64.wrap ((j : Int) + 1)) = AV.int .i64 (j_1 : Int) := fun hc => ⟨j + 1, by omega, ⟨by omega, fun j' hj' => by
              by_cases e : j' = j
              · rw [e]; exact hc
              · exact j2 j' (by omega)⟩, by rw [wi64 (by omega)]; rfl⟩
            refine callq_ev (ev_Below hX hs ns up _ _) ?_
            rw [below_nat up _ _ (by omega)]
            cases e : Lat.le up (k.getD i 0) (k.getD j 0) with
            | true =>
              simp only [go_sem, Nat.reduceMod, Nat.reduceBNe, Nat.reduceBEq, Nat.reduceEqDiff, Nat.reduceAdd, Int.reduceAdd, Nat.reduceMul, Nat.reduceSub, Int.reduceToNat, Int.reduceLE, Int.reduceLT, Int.reduceEq, Int.reduceNe, reduceCtorEq, Nat.reduceLT, Nat.reduceLeDiff, nl_len, nl_get]
              exact nxt (.inl e)
            | false =>
              simp only [go_sem, Nat.reduceMod, Nat.reduceBNe, Nat.reduceBEq, Nat.reduceEqDiff, Nat.reduceAdd, Int.reduceAdd, Nat.reduceMul, Nat.reduceSub, Int.reduceToNat, Int.reduceLE, Int.reduceLT, Int.reduceEq, Int.reduceNe, reduceCtorEq, Nat.reduceLT, Nat.reduceLeDiff, nl_len, nl_get]
              refine ⟨⟨by omega, by omega⟩, ⟨by omega, by omega⟩, ?_⟩
              refine callq_ev (ev_Below hX hs ns up _ _) ?_
              rw [below_nat up _ _ (by omega)]
              cases e2 : Lat.le up (k.getD j 0) (k.getD i 0) with
              | true =>
                simp only [go_sem, Nat.reduceMod, Nat.reduceBNe, Nat.reduceBEq, Nat.reduceEqDiff, Nat.reduceAdd, Int.reduceAdd, Nat.reduceMul, Nat.reduceSub, Int.reduceToNat, Int.reduceLE, Int.reduceLT, Int.reduceEq, Int.reduceNe, reduceCtorEq, Nat.reduceLT, Nat.reduceLeDiff]
                exact nxt (.inr e2)
              | false =>
                simp only [go_sem, Nat.reduceMod, Nat.reduceBNe, Nat.reduceBEq, Nat.reduceEqDiff, Nat.reduceAdd, Int.reduceAdd, Nat.reduceMul, Nat.reduceSub, Int.reduceToNat, Int.reduceLE, Int.reduceLT, Int.reduceEq, Int.reduceNe, reduceCtorEq, Nat.reduceLT, Nat.reduceLeDiff]
                rw [chB_no hik hjk e e2]
          · obtain rfl : j = i := by omega
            exact ⟨j + 1, by omega, ⟨by omega, fun i' hi' => by
              by_cases e : i' = j
              · rw [e]; exact j2
              · exact i2 i' (by omega)⟩, by rw [wi64 (by omega)]; rfl⟩
      · have : Lat.chB up k = true := chB_yes hv hk fun i' hi' j hj => i2 i' (by omega) j hj
        rw [this]
  · simp only [h, go_sem, Nat.reduceMod, Nat.reduceBNe, Nat.reduceBEq, Nat.reduceEqDiff, Nat.reduceAdd, Int.reduceAdd, Nat.reduceMul, Nat.reduceSub, Int.reduceToNat, Int.reduceLE, Int.reduceLT, Int.reduceEq, Int.reduceNe, reduceCtorEq, Nat.reduceLT, Nat.reduceLeDiff, chV]
end
end Go.Avm
