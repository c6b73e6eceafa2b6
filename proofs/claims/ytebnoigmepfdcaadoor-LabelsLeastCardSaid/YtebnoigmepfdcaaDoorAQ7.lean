/- Labels: the least ones. -/
import Derived.Test.YtebnoigmepfdcaaDoorAQ6
import Derived.Test.YtebnoigmepfdcaaDoorAS
set_option linter.unusedSectionVars false
set_option linter.unusedSimpArgs false
set_option linter.unusedVariables false

/- Labels: the least ones. -/
namespace Go.Avm
open Go
theorem lsP_app (up : List UInt8) (a : Nat) : ∀ (L out : List Nat), Lat.lsP up out (L ++ [a]) = if (Lat.lsP up out L).any (Lat.le up · a) then Lat.lsP up out L else Lat.lsP up out L ++ [a]
  | [], out => by simp [Lat.lsP]
  | x :: L, out => by
    simp only [List.cons_append, Lat.lsP]
    exact lsP_app up a L _
theorem lsP_len (up : List UInt8) : ∀ (L out : List Nat), (Lat.lsP up out L).length ≤ out.length + L.length
  | [], out => by simp [Lat.lsP]
  | x :: L, out => by
    simp only [Lat.lsP]
    refine Nat.le_trans (lsP_len up L _) ?_
    split <;> simp <;> omega
theorem lsP_mem (up : List UInt8) : ∀ (L out : List Nat) (x : Nat), x ∈ Lat.lsP up out L → x ∈ out ∨ x ∈ L
  | [], out, x, h => .inl h
  | y :: L, out, x, h => by
    simp only [Lat.lsP] at h
    rcases lsP_mem up L _ x h with h | h
    · split at h
      · exact .inl h
      · rcases List.mem_append.1 h with h | h
        · exact .inl h
        · exact .inr (by rw [List.mem_singleton.1 h]; simp)
    · exact .inr (List.mem_cons_of_mem _ h)
/-- the least ones -/
def lsL (ns : List (List UInt8)) (up : List UInt8) (l : List Int) : List Int := if ckE ns up l = 0 then nl (Lat.lsP up [] (Lat.srt up ns.length (l.map Int.toNat))) else []
theorem lsL_nl {ns : List (List UInt8)} {up : List UInt8} {k : List Nat} (h : ckE ns up (nl k) = 0) : lsL ns up (nl k) = nl (Lat.lsP up [] (Lat.srt up ns.length k)) := by
  rw [lsL, if_pos h, nl_toNat]
theorem get_last {a b c x : Blk} {R : List Blk} : (a :: b :: c :: (R ++ [x]))[R.length + 3]? = some x := by simp
theorem set_last {a b c x y : Blk} {R : List Blk} : (a :: b :: c :: (R ++ [x])).set (R.length + 3) y = a :: b :: c :: (R ++ [y]) := by simp
theorem get_last' {x : Blk} {R : List Blk} : (R ++ [x])[R.length]? = some x := by simp
theorem set_last' {x y : Blk} {R : List Blk} : (R ++ [x]).set R.length y = R ++ [y] := by simp
/-- none of the first ones is below it -/
def mnB (up : List UInt8) (k : List Nat) (a j : Nat) : Bool := (k.take j).all fun b => decide (b = a) || !Lat.le up b a
theorem mnB_0 (up : List UInt8) (k : List Nat) (a : Nat) : mnB up k a 0 = true := rfl
theorem mnB_all (up : List UInt8) (k : List Nat) (a : Nat) : mnB up k a k.length = Lat.minB up k a := by rw [mnB, List.take_length]; rfl
theorem mnB_s {up : List UInt8} {k : List Nat} {a j : Nat} (hj : j < k.length) : mnB up k a (j + 1) = (mnB up k a j && (decide (k.getD j 0 = a) || !Lat.le up (k.getD j 0) a)) := by
  rw [mnB, List.take_succ_eq_append_getElem hj, List.all_append, List.getD_eq_getElem?_getD, List.getElem?_eq_getElem hj]
  simp [mnB]
set_option maxRecDepth 10000
section
variable {X : Cx} (hX : X.P = Go.Proofs.Tryd.prog) (hs : Std X)
include hX hs
theorem ev_Least1 (ns : List (List UInt8)) (up : List UInt8) (hv : Lat.Val ns.length up) (b a : Nat) (hb : b < ns.length) (ha : a < ns.length) : Ev X F_labels_Least_1 [.int .i64 b, latP ns up, .vp [.int .i64 a]] (.bool (Lat.le up b a)) := by
  refine ev_of_wpc hs (A_labels_Least_1_ok hX) 1 ?_
  have h8 := hv.le8
  have hup := hv.len
  simp only [A_labels_Least_1, latP, go_sem, Nat.reduceMod, Nat.reduceBNe, Nat.reduceBEq, Nat.reduceEqDiff, Nat.reduceAdd, Int.reduceAdd, Nat.reduceMul, Nat.reduceSub, Int.reduceToNat, Int.reduceLE, Int.reduceLT, Int.reduceEq, Int.reduceNe, reduceCtorEq, Nat.reduceLT, Nat.reduceLeDiff]
  refine call_ev (ev_obelow hX hs ns up b a (by omega) (by omega)) ?_
  simp only [go_sem, Nat.reduceMod, Nat.reduceBNe, Nat.reduceBEq, Nat.reduceEqDiff, Nat.reduceAdd, Int.reduceAdd, Nat.reduceMul, Nat.reduceSub, Int.reduceToNat, Int.reduceLE, Int.reduceLT, Int.reduceEq, Int.reduceNe, reduceCtorEq, Nat.reduceLT, Nat.reduceLeDiff]
theorem ev_lLeast (ns : List (List UInt8)) (up : List UInt8) (l : List Int) (hl : l.length < 1000000) : Ev X F_labels_Least [latV ns up, lst (AV.int .i64) .ro l] (.tuple [lst (AV.int .i64) .ro (lsL ns up l), .int .i64 (ckE ns up l)]) := by
  refine ev_of_wpcd hs (A_labels_Least_ok hX) 1 ?_
  simp only [A_labels_Least, latV, go_sem, Nat.reduceMod, Nat.reduceBNe, Nat.reduceBEq, Nat.reduceEqDiff, Nat.reduceAdd, Int.reduceAdd, Nat.reduceMul, Nat.reduceSub, Int.reduceToNat, Int.reduceLE, Int.reduceLT, Int.reduceEq, Int.reduceNe, reduceCtorEq, Nat.reduceLT, Nat.reduceLeDiff]
  refine call_ev (ev_lSort hX hs ns up l hl) ?_
  by_cases h : ckE ns up l = 0
  · obtain ⟨h1, h2, h3⟩ := ck_ok h
    obtain ⟨k, rfl, hk⟩ := nl_ex h3
    have hv := chk_val h1
    have h8 := hv.le8
    have hup := hv.len
    rw [stL_nl h, lsL_nl h]
    have hm : ∀ x ∈ Lat.srt up ns.length k, x < ns.length := fun x hx => ((Lat.mem_srt hv).1 hx).1
    have hlen : (Lat.srt up ns.length k).length < 1000 := by
      rw [← sA_all]
      have := sA_len up ns.length k ns.length
      have : ns.length * ns.length ≤ 8 * 8 := Nat.mul_le_mul h8 h8
      omega
    generalize Lat.srt up ns.length k = S at hm hlen ⊢
    simp only [h, go_sem, Nat.reduceMod, Nat.reduceBNe, Nat.reduceBEq, Nat.reduceEqDiff, Nat.reduceAdd, Int.reduceAdd, Nat.reduceMul, Nat.reduceSub, Int.reduceToNat, Int.reduceLE, Int.reduceLT, Int.reduceEq, Int.reduceNe, reduceCtorEq, Nat.reduceLT, Nat.reduceLeDiff]
    refine w_loop hs.hm (ι := Nat × List Blk) (fun i => i.1 ≤ S.length ∧ i.2.length = i.1) (fun i => [(24, .int .i64 i.1), (23, .int .i64 S.length), (22, lst (AV.int .i64) .ro (nl S)), (9, lst (AV.int .i64) (.tok 2 1) (nl (Lat.lsP up [] (S.take i.1)))), (8, .ptr 1 0)]) (fun i => .box [lst AV.str .ro ns, lst u8 .ro up] :: .box [lst AV.str .ro ns, lst u8 .ro up] :: .tok (nl (Lat.lsP up [] (S.take i.1))).length :: i.2) (fun i => S.length - i.1) (0, []) ⟨⟨Nat.zero_le _, rfl⟩, _, _, wk_tok 9 1 rfl, ⟨by simp only [go_sem, Nat.reduceMod, Nat.reduceBNe, Nat.reduceBEq, Nat.reduceEqDiff, Nat.reduceAdd, Int.reduceAdd, Nat.reduceMul, Nat.reduceSub, Int.reduceToNat, Int.reduceLE, Int.reduceLT, Int.reduceEq, Int.reduceNe, reduceCtorEq, Nat.reduceLT, Nat.reduceLeDiff, nl_len]; rfl, rfl⟩⟩ fun i hi => ?_
    obtain ⟨i, R⟩ := i
    obtain ⟨i1, i2⟩ := hi
    simp only at i1 i2
    subst i2
    simp only [A_labels_LeastL0, go_sem, Nat.reduceMod, Nat.reduceBNe, Nat.reduceBEq, Nat.reduceEqDiff, Nat.reduceAdd, Int.reduceAdd, Nat.reduceMul, Nat.reduceSub, Int.reduceToNat, Int.reduceLE, Int.reduceLT, Int.reduceEq, Int.reduceNe, reduceCtorEq, Nat.reduceLT, Nat.reduceLeDiff, nl_len, nl_get, set_last, get_last, set_last', get_last']
    have hbig : (Lat.lsP up [] (S.take R.length)).length ≤ R.length := by
      have := lsP_len up (S.take R.length) []
      rw [List.length_take, List.length_nil] at this
      omega
    have hmm : ∀ x ∈ Lat.lsP up [] (S.take R.length), x < ns.length := fun x hx => by
      rcases lsP_mem up _ _ x hx with h | h
      · cases h
      · exact hm x (List.mem_of_mem_take h)
    refine ⟨fun c => ⟨⟨by omega, c⟩, ?_⟩, fun c => ?_⟩
    · have hRS : R.length < S.length := by omega
      have ha : S.getD R.length 0 < ns.length := getD_lt hm hRS
      have hstep : Lat.lsP up [] (S.take (R.length + 1)) = if (Lat.lsP up [] (S.take R.length)).any (Lat.le up · (S.getD R.length 0)) then Lat.lsP up [] (S.take R.length) else Lat.lsP up [] (S.take R.length) ++ [S.getD R.length 0] := by
        rw [List.take_succ_eq_append_getElem hRS, lsP_app, List.getD_eq_getElem?_getD, List.getElem?_eq_getElem hRS]
        rfl
      refine call_lend (r := .bool ((Lat.lsP up [] (S.take R.length)).any (Lat.le up · (S.getD R.length 0)))) ?_ rfl ?_
      · have hc := ev_ContainsFunc hX hs F_labels_Least_1 ns up (S.getD R.length 0 : Nat) (fun x => Lat.le up x.toNat (S.getD R.length 0)) (nl (Lat.lsP up [] (S.take R.length))) (by rw [nl_len]; omega) fun x hx => by
          obtain ⟨y, hy, rfl⟩ := List.mem_map.1 hx
          exact ev_Least1 hX hs ns up hv y _ (hmm y hy) ha
        have e : (nl (Lat.lsP up [] (S.take R.length))).any (fun x => Lat.le up x.toNat (S.getD R.length 0)) = (Lat.lsP up [] (S.take R.length)).any (Lat.le up · (S.getD R.length 0)) := by
          rw [nl, List.any_map]
          rfl
        rw [e] at hc
        simp only [lendL, lend, List.getElem?_cons_succ, List.getElem?_cons_zero, get_last', lst, List.drop_zero]
        exact hc
      · cases e : (Lat.lsP up [] (S.take R.length)).any (Lat.le up · (S.getD R.length 0)) with
        | true =>
          rw [e, if_pos rfl] at hstep
          simp only [go_sem, Nat.reduceMod, Nat.reduceBNe, Nat.reduceBEq, Nat.reduceEqDiff, Nat.reduceAdd, Int.reduceAdd, Nat.reduceMul, Nat.reduceSub, Int.reduceToNat, Int.reduceLE, Int.reduceLT, Int.reduceEq, Int.reduceNe, reduceCtorEq, Nat.reduceLT, Nat.reduceLeDiff]
          exact ⟨(R.length + 1, R ++ [.box [.int .i64 (S.getD R.length 0 : Nat)]]), by simp only; omega, ⟨by simp only; omega, by simp⟩, ⟨by rw [wi64 (by omega)]; rfl, by rw [hstep]⟩, by rw [hstep]⟩
        | false =>
          rw [e, if_neg Bool.false_ne_true] at hstep
          have h2 : nl (Lat.lsP up [] (S.take R.length)) ++ [((S.getD R.length 0 : Nat) : Int)] = nl (Lat.lsP up [] (S.take (R.length + 1))) := by
            rw [hstep, nl_app]
            rfl
          simp only [go_sem, Nat.reduceMod, Nat.reduceBNe, Nat.reduceBEq, Nat.reduceEqDiff, Nat.reduceAdd, Int.reduceAdd, Nat.reduceMul, Nat.reduceSub, Int.reduceToNat, Int.reduceLE, Int.reduceLT, Int.reduceEq, Int.reduceNe, reduceCtorEq, Nat.reduceLT, Nat.reduceLeDiff, get_last', set_last', nl_len]
          refine ⟨⟨by omega, by omega⟩, (R.length + 1, R ++ [.box [.int .i64 (S.getD R.length 0 : Nat)]]), by simp only; omega, ⟨by simp only; omega, by simp⟩, ⟨by rw [wi64 (by omega)]; rfl, by rw [h2]⟩, ?_⟩
          rw [hstep, List.length_append]
          rfl
    · have hRS : R.length = S.length := by omega
      rw [hRS, List.take_length]
      rfl
  · simp only [h, go_sem, Nat.reduceMod, Nat.reduceBNe, Nat.reduceBEq, Nat.reduceEqDiff, Nat.reduceAdd, Int.reduceAdd, Nat.reduceMul, Nat.reduceSub, Int.reduceToNat, Int.reduceLE, Int.reduceLT, Int.reduceEq, Int.reduceNe, reduceCtorEq, Nat.reduceLT, Nat.reduceLeDiff, lsL]
    rfl
end
end Go.Avm

/- Labels: texts of lists: Show, both. -/
namespace Go.Avm
open Go Go.Proofs Go.Shelf
def zJoinL_ren : Go.Shelf.Ren := ⟨fun | 156 => 32 | 165 => 43 | 166 => 44 | 169 => 45 | 240 => 53 | 241 => 54 | 276 => 67 | 277 => 68 | n => n, fun | 31 => 22 | 9 => 9 | 3 => 3 | 4 => 4 | 0 => 0 | 20 => 20 | 72 => 76 | 76 => 80 | 70 => 74 | 37 => 23 | 75 => 79 | 127 => 92 | 164 => 107 | 5 => 5 | 80 => 82 | n => n, fun | n => n⟩
theorem zJoinL : Go.Proofs.Lays.n156 Tryd.prog zJoinL_ren := {
  mixed := by kernel_rfl
  f156 := Tryd.func32.trans (congrArg some (by kernel_rfl))
  f165 := Tryd.func43.trans (congrArg some (by kernel_rfl))
  f166 := Tryd.func44.trans (congrArg some (by kernel_rfl))
  f169 := Tryd.func45.trans (congrArg some (by kernel_rfl))
  f240 := Tryd.func53.trans (congrArg some (by kernel_rfl))
  f241 := Tryd.func54.trans (congrArg some (by kernel_rfl))
  f276 := Tryd.func67.trans (congrArg some (by kernel_rfl))
  f277 := Tryd.func68.trans (congrArg some (by kernel_rfl))
  t0 := Tryd.underlying0
  a0 := Tryd.isAgg0
  z0 := Tryd.sizeOf0
  v0 := Tryd.zeroValue0
  t3 := Tryd.underlying3
  a3 := Tryd.isAgg3
  z3 := Tryd.sizeOf3
  v3 := Tryd.zeroValue3
  t4 := Tryd.underlying4
  a4 := Tryd.isAgg4
  z4 := Tryd.sizeOf4
  v4 := Tryd.zeroValue4
  t9 := Tryd.underlying9
  a9 := Tryd.isAgg9
  z9 := Tryd.sizeOf9
  v9 := Tryd.zeroValue9
  t20 := Tryd.underlying20
  a20 := Tryd.isAgg20
  z20 := Tryd.sizeOf20
  v20 := Tryd.zeroValue20
  t31 := Tryd.underlying22
  a31 := Tryd.isAgg22
  z31 := Tryd.sizeOf22
  v31 := Tryd.zeroValue22
  t37 := Tryd.underlying23
  a37 := Tryd.isAgg23
  z37 := Tryd.sizeOf23
  v37 := Tryd.zeroValue23
  t70 := Tryd.underlying74
  a70 := Tryd.isAgg74
  z70 := Tryd.sizeOf74
  v70 := Tryd.zeroValue74
  t72 := Tryd.underlying76
  a72 := Tryd.isAgg76
  z72 := Tryd.sizeOf76
  v72 := Tryd.zeroValue76
  t75 := Tryd.underlying79
  a75 := Tryd.isAgg79
  z75 := Tryd.sizeOf79
  v75 := Tryd.zeroValue79
  t76 := Tryd.underlying80
  a76 := Tryd.isAgg80
  z76 := Tryd.sizeOf80
  v76 := Tryd.zeroValue80
  t127 := Tryd.underlying92
  a127 := Tryd.isAgg92
  z127 := Tryd.sizeOf92
  v127 := Tryd.zeroValue92
  t164 := Tryd.underlying107
  a164 := Tryd.isAgg107
  z164 := Tryd.sizeOf107
  v164 := Tryd.zeroValue107 }
theorem zExtra : Builder.Extra Go.Proofs.Tryd.prog zJoinL_ren where
  sizeBuilder := by kernel_rfl
  liesBuilder := by kernel_rfl
  t5 := by kernel_rfl
  a5 := by intro w; kernel_rfl
  z5 := by intro w; kernel_rfl
  v5 := by intro w; kernel_rfl
  infoByte := by kernel_rfl
  cellsByte := by kernel_rfl
  sizeByte := by kernel_rfl
  neB5 := by decide
section
variable {X : Cx} (hX : X.P = Go.Proofs.Tryd.prog)
include hX
theorem z_Join (l : List (List UInt8)) (sep : List UInt8) (hl : l.length ≤ 140737488355328) (hlen : (Lib.join l sep).length ≤ 140737488355328) : Ev X F_strings_Join [lst AV.str .ro l, .str sep] (.str (Lib.join l sep)) :=
  ev_s_Join (X := X) (ρ := zJoinL_ren) (by rw [hX]; exact zJoinL) (by rw [hX]; exact zExtra) l sep hl hlen
end
/-- names of a list -/
def nmL (ns : List (List UInt8)) (k : List Nat) : List (List UInt8) := k.map fun a => ns.getD a []
def shS (ns : List (List UInt8)) (up : List UInt8) (l : List Int) : List UInt8 := if ckE ns up l = 0 then (if l = [] then [45] else Lib.join (nmL ns (l.map Int.toNat)) [44]) else []
theorem nmL_len (ns : List (List UInt8)) (k : List Nat) : (nmL ns k).length = k.length := by simp [nmL]
theorem join_app (sep x : List UInt8) {L : List (List UInt8)} (h : L ≠ []) : Lib.join (L ++ [x]) sep = Lib.join L sep ++ sep ++ x := by
  cases L with
  | nil => exact absurd rfl h
  | cons a r =>
    rw [List.cons_append, Lib.join_cons, Lib.join_cons]
    simp [Lib.joinTail]
theorem join_len (sep : List UInt8) (m : Nat) : ∀ (L : List (List UInt8)), (∀ x ∈ L, x.length ≤ m) → (Lib.join L sep).length ≤ L.length * (m + sep.length) := by
  intro L h
  cases L with
  | nil => simp [Lib.join_nil]
  | cons a r =>
    rw [Lib.join_cons, List.length_append]
    have h1 := h a (by simp)
    have h2 : (Lib.joinTail sep r).length ≤ r.length * (m + sep.length) := by
      have hr : ∀ x ∈ r, x.length ≤ m := fun x hx => h x (List.mem_cons_of_mem _ hx)
      clear h h1
      induction r with
      | nil => simp [Lib.joinTail]
      | cons b r ih =>
        have := ih fun x hx => hr x (List.mem_cons_of_mem _ hx)
        have hb := hr b (by simp)
        simp only [Lib.joinTail, List.map_cons, List.flatten_cons, List.length_append, List.length_cons, Nat.add_mul] at this ⊢
        omega
    simp only [List.length_cons, Nat.add_mul] at h2 ⊢
    omega
theorem nmL_mem {ns : List (List UInt8)} {k : List Nat} {m : Nat} (hn : ∀ x ∈ ns, x.length ≤ m) : ∀ x ∈ nmL ns k, x.length ≤ m := fun x hx => by
  obtain ⟨a, _, rfl⟩ := List.mem_map.1 hx
  rw [List.getD_eq_getElem?_getD]
  cases h : ns[a]? with
  | none => simp
  | some y => exact hn y (List.mem_of_getElem? h)
theorem nmL_s (ns : List (List UInt8)) {k : List Nat} {i : Nat} (h : i < k.length) : nmL ns (k.take (i + 1)) = nmL ns (k.take i) ++ [ns.getD (k.getD i 0) []] := by
  rw [List.take_succ_eq_append_getElem h, nmL, List.map_append, List.getD_eq_getElem?_getD (l := k), List.getElem?_eq_getElem h]
  rfl
set_option maxRecDepth 10000
section
variable {X : Cx} (hX : X.P = Go.Proofs.Tryd.prog) (hs : Std X)
include hX hs
theorem ev_lShow (ns : List (List UInt8)) (up : List UInt8) (l : List Int) (hl : l.length < 1000000) (hn : ∀ x ∈ ns, x.length ≤ 100) : Ev X F_labels_Show [latV ns up, lst (AV.int .i64) .ro l] (.tuple [.str (shS ns up l), .int .i64 (ckE ns up l)]) := by
  refine ev_of_wpc hs (A_labels_Show_ok hX) 1 ?_
  simp only [A_labels_Show, latV, go_sem, Nat.reduceMod, Nat.reduceBNe, Nat.reduceBEq, Nat.reduceEqDiff, Nat.reduceAdd, Int.reduceAdd, Nat.reduceMul, Nat.reduceSub, Int.reduceToNat, Int.reduceLE, Int.reduceLT, Int.reduceEq, Int.reduceNe, reduceCtorEq, Nat.reduceLT, Nat.reduceLeDiff]
  refine call_ev (ev_lCheck hX hs ns up l hl) ?_
  by_cases h : ckE ns up l = 0
  · obtain ⟨h1, h2, h3⟩ := ck_ok h
    obtain ⟨k, rfl, hk⟩ := nl_ex h3
    rw [nl_len] at hl h2
    simp only [h, go_sem, Nat.reduceMod, Nat.reduceBNe, Nat.reduceBEq, Nat.reduceEqDiff, Nat.reduceAdd, Int.reduceAdd, Nat.reduceMul, Nat.reduceSub, Int.reduceToNat, Int.reduceLE, Int.reduceLT, Int.reduceEq, Int.reduceNe, reduceCtorEq, Nat.reduceLT, Nat.reduceLeDiff, nl_len]
    refine ⟨fun c => ?_, fun c => ?_⟩
    · have : k = [] := List.length_eq_zero_iff.1 (by omega)
      subst this
      rw [shS, if_pos h, if_pos (show nl [] = [] from rfl)]
    · have hne : ¬ nl k = [] := fun e => c (by have := congrArg List.length e; rw [nl_len] at this; simp at this; simp [this])
      have hshow : shS ns up (nl k) = Lib.join (nmL ns k) [44] := by
        rw [shS, if_pos h, if_neg hne, nl_toNat]
      rw [hshow]
      refine w_loop hs.hm (ι := Nat) (fun i => i ≤ k.length) (fun i => [(25, .int .i64 i), (24, .int .i64 k.length), (23, lst (AV.int .i64) .ro (nl k)), (8, lst AV.str (.tok 1 1) (nmL ns (k.take i))), (2, .ptr 0 0)]) (fun i => [.box [lst AV.str .ro ns, lst u8 .ro up], .tok (nmL ns (k.take i)).length]) (fun i => k.length - i) 0 ⟨Nat.zero_le _, _, _, wk_tok 8 1 rfl, ⟨by simp only [go_sem, Nat.reduceMod, Nat.reduceBNe, Nat.reduceBEq, Nat.reduceEqDiff, Nat.reduceAdd, Int.reduceAdd, Nat.reduceMul, Nat.reduceSub, Int.reduceToNat, Int.reduceLE, Int.reduceLT, Int.reduceEq, Int.reduceNe, reduceCtorEq, Nat.reduceLT, Nat.reduceLeDiff]; rfl, rfl⟩⟩ fun i hi => ?_
      simp only [A_labels_ShowL0, go_sem, Nat.reduceMod, Nat.reduceBNe, Nat.reduceBEq, Nat.reduceEqDiff, Nat.reduceAdd, Int.reduceAdd, Nat.reduceMul, Nat.reduceSub, Int.reduceToNat, Int.reduceLE, Int.reduceLT, Int.reduceEq, Int.reduceNe, reduceCtorEq, Nat.reduceLT, Nat.reduceLeDiff, nl_len, nl_get]
      have hlen : (nmL ns (k.take i)).length ≤ i := by rw [nmL_len, List.length_take]; omega
      refine ⟨fun c2 => ?_, fun c2 => ?_⟩
      · have hik : i < k.length := by omega
        have ha : k.getD i 0 < ns.length := getD_lt hk hik
        have h2 := nmL_s ns hik
        refine ⟨⟨by omega, c2⟩, ⟨by omega, by omega⟩, ⟨by omega, by omega⟩, i + 1, by omega, by omega, ⟨by rw [wi64 (by omega)]; rfl, by rw [h2]; rfl⟩, ?_⟩
        rw [h2, List.length_append]
        rfl
      · obtain rfl : i = k.length := by omega
        rw [List.take_length]
        refine call_ev (z_Join hX (nmL ns k) [44] (by rw [nmL_len]; omega) ?_) ?_
        · have := join_len [44] 100 (nmL ns k) (nmL_mem hn)
          rw [nmL_len] at this
          simp at this
          omega
        · simp only [go_sem, Nat.reduceMod, Nat.reduceBNe, Nat.reduceBEq, Nat.reduceEqDiff, Nat.reduceAdd, Int.reduceAdd, Nat.reduceMul, Nat.reduceSub, Int.reduceToNat, Int.reduceLE, Int.reduceLT, Int.reduceEq, Int.reduceNe, reduceCtorEq, Nat.reduceLT, Nat.reduceLeDiff]
  · simp only [h, go_sem, Nat.reduceMod, Nat.reduceBNe, Nat.reduceBEq, Nat.reduceEqDiff, Nat.reduceAdd, Int.reduceAdd, Nat.reduceMul, Nat.reduceSub, Int.reduceToNat, Int.reduceLE, Int.reduceLT, Int.reduceEq, Int.reduceNe, reduceCtorEq, Nat.reduceLT, Nat.reduceLeDiff, shS]
end
end Go.Avm

/- Labels: awake. -/
namespace Go.Avm
open Go
theorem w_j : (jnE dN dU [1, 2], ckE dN dU [1, 2]) = (3, 0) := by decide +kernel
theorem w_f : (flA dN dU [0, 1, 2] 1, flE dN dU [0, 1, 2] 1) = (2, 25) := by decide +kernel
theorem w_s : (stL dN dU [3, 2, 1, 2], ckE dN dU [3, 2, 1, 2]) = ([1, 2, 3], 0) := by decide +kernel
theorem w_l : (lsL dN dU [3, 2, 1], ckE dN dU [3, 2, 1]) = ([1, 2], 0) := by decide +kernel
theorem w_t : (shS dN dU [1, 0], ckE dN dU [1, 0]) = ([97, 110, 110, 44, 108, 111, 119], 0) := by decide +kernel
theorem d_long : ∀ x ∈ dN, x.length ≤ 100 := by decide +kernel
set_option maxRecDepth 10000
section
variable {X : Cx} (hX : X.P = Go.Proofs.Tryd.prog) (hs : Std X)
include hX hs
theorem ev_awake : Ev X F_law04_awake [] (.bool true) := by
  refine ev_of_wpc hs (A_law04_awake_ok hX) 1 ?_
  simp only [A_law04_awake, go_sem, Nat.reduceMod, Nat.reduceBNe, Nat.reduceBEq, Nat.reduceEqDiff, Nat.reduceAdd, Int.reduceAdd, Nat.reduceMul, Nat.reduceSub, Int.reduceToNat, Int.reduceLE, Int.reduceLT, Int.reduceEq, Int.reduceNe, reduceCtorEq, Nat.reduceLT, Nat.reduceLeDiff]
  refine call_ev (ev_Diamond hX hs) ?_
  simp only [go_sem, Nat.reduceMod, Nat.reduceBNe, Nat.reduceBEq, Nat.reduceEqDiff, Nat.reduceAdd, Int.reduceAdd, Nat.reduceMul, Nat.reduceSub, Int.reduceToNat, Int.reduceLE, Int.reduceLT, Int.reduceEq, Int.reduceNe, reduceCtorEq, Nat.reduceLT, Nat.reduceLeDiff]
  refine call_ev (ev_lJoin hX hs dN dU [1, 2] (by decide)) ?_
  rw [(Prod.mk.inj w_j).1, (Prod.mk.inj w_j).2]
  simp only [go_sem, Nat.reduceMod, Nat.reduceBNe, Nat.reduceBEq, Nat.reduceEqDiff, Nat.reduceAdd, Int.reduceAdd, Nat.reduceMul, Nat.reduceSub, Int.reduceToNat, Int.reduceLE, Int.reduceLT, Int.reduceEq, Int.reduceNe, reduceCtorEq, Nat.reduceLT, Nat.reduceLeDiff]
  refine call_ev (ev_lFlows hX hs dN dU [0, 1, 2] (by decide) 1) ?_
  rw [(Prod.mk.inj w_f).1, (Prod.mk.inj w_f).2]
  simp only [go_sem, Nat.reduceMod, Nat.reduceBNe, Nat.reduceBEq, Nat.reduceEqDiff, Nat.reduceAdd, Int.reduceAdd, Nat.reduceMul, Nat.reduceSub, Int.reduceToNat, Int.reduceLE, Int.reduceLT, Int.reduceEq, Int.reduceNe, reduceCtorEq, Nat.reduceLT, Nat.reduceLeDiff]
  refine call_ev (ev_lSort hX hs dN dU [3, 2, 1, 2] (by decide)) ?_
  rw [(Prod.mk.inj w_s).1, (Prod.mk.inj w_s).2]
  simp only [go_sem, Nat.reduceMod, Nat.reduceBNe, Nat.reduceBEq, Nat.reduceEqDiff, Nat.reduceAdd, Int.reduceAdd, Nat.reduceMul, Nat.reduceSub, Int.reduceToNat, Int.reduceLE, Int.reduceLT, Int.reduceEq, Int.reduceNe, reduceCtorEq, Nat.reduceLT, Nat.reduceLeDiff]
  refine call_ev (ev_lLeast hX hs dN dU [3, 2, 1] (by decide)) ?_
  rw [(Prod.mk.inj w_l).1, (Prod.mk.inj w_l).2]
  simp only [go_sem, Nat.reduceMod, Nat.reduceBNe, Nat.reduceBEq, Nat.reduceEqDiff, Nat.reduceAdd, Int.reduceAdd, Nat.reduceMul, Nat.reduceSub, Int.reduceToNat, Int.reduceLE, Int.reduceLT, Int.reduceEq, Int.reduceNe, reduceCtorEq, Nat.reduceLT, Nat.reduceLeDiff]
  refine call_ev (ev_lShow hX hs dN dU [1, 0] (by decide) d_long) ?_
  rw [(Prod.mk.inj w_t).1, (Prod.mk.inj w_t).2]
  simp only [go_sem, Nat.reduceMod, Nat.reduceBNe, Nat.reduceBEq, Nat.reduceEqDiff, Nat.reduceAdd, Int.reduceAdd, Nat.reduceMul, Nat.reduceSub, Int.reduceToNat, Int.reduceLE, Int.reduceLT, Int.reduceEq, Int.reduceNe, reduceCtorEq, Nat.reduceLT, Nat.reduceLeDiff]
  refine call_ev (ev_rlSame hX hs [1, 2, 3] [1, 2, 3] (by decide) (by decide)) ?_
  simp only [go_sem, Nat.reduceMod, Nat.reduceBNe, Nat.reduceBEq, Nat.reduceEqDiff, Nat.reduceAdd, Int.reduceAdd, Nat.reduceMul, Nat.reduceSub, Int.reduceToNat, Int.reduceLE, Int.reduceLT, Int.reduceEq, Int.reduceNe, reduceCtorEq, Nat.reduceLT, Nat.reduceLeDiff]
  refine call_ev (ev_rlSame hX hs [1, 2] [1, 2] (by decide) (by decide)) ?_
  simp only [go_sem, Nat.reduceMod, Nat.reduceBNe, Nat.reduceBEq, Nat.reduceEqDiff, Nat.reduceAdd, Int.reduceAdd, Nat.reduceMul, Nat.reduceSub, Int.reduceToNat, Int.reduceLE, Int.reduceLT, Int.reduceEq, Int.reduceNe, reduceCtorEq, Nat.reduceLT, Nat.reduceLeDiff]
end
end Go.Avm
