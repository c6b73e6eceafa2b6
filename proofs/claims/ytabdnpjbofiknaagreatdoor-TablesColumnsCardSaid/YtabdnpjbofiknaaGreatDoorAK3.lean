/- each, with lists that may be appended to; Add. -/
import Derived.Test.YtabdnpjbofiknaaGreatDoorAK2
import Derived.Test.YtabdnpjbofiknaaGreatDoorA8
import Derived.Test.YtabdnpjbofiknaaGreatDoorAG2
import Derived.Test.YtabdnpjbofiknaaGreatDoorAW
import Derived.Test.YtabdnpjbofiknaaGreatDoorAS
import Derived.Test.YtabdnpjbofiknaaGreatDoorM1
set_option linter.all false
/- each, with lists that may be appended to; Add. -/
namespace Go.Avm
open Go Go.Tb Go.RowKit
set_option maxRecDepth 10000
theorem hr_below' {X : Cx} {g : Gh} {w w' : World} {H : Heap} (hwf : Wf X.G g w) (hhr : HR g w H) (h : RowKit.Below w.heap.size w w') : HR g w' H :=
  ⟨fun i x hx => (hhr.blk i x hx).mono (wf_below hwf h).2.mono (fun b hb' => h.block b (hwf.lt_bx hb')) (fun _ h => h) (fun b lo hi k => ⟨k, h.block b (hwf.lt_tk k)⟩), hhr.far⟩
section
variable {α : Type} (H : List α) (a b c d x y : α) (K r : List α)
theorem q4l : (H ++ a :: b :: c :: d :: K).length = H.length + 4 + K.length := by simp; omega
theorem q4g : (H ++ a :: b :: c :: d :: (K ++ x :: r))[H.length + 4 + K.length]? = some x := by
  rw [List.getElem?_append_right (by omega), show H.length + 4 + K.length - H.length = K.length + 4 by omega]
  simp
theorem q4s : (H ++ a :: b :: c :: d :: (K ++ x :: r)).set (H.length + 4 + K.length) y = H ++ a :: b :: c :: d :: (K ++ y :: r) := by
  rw [List.set_append_right _ _ (by omega), show H.length + 4 + K.length - H.length = K.length + 4 by omega]
  simp
end
section
variable {X : Cx} (hX : X.P = Go.Proofs.Tryz.prog) (hs : Std X)
include hX
theorem cloneT_0 {f : Nat} (hb : HasBody X f) (h : ∀ a c w, Calls Go.Proofs.Tryz.prog f #[.slice a 0 c] w fun e w' => (∃ a', e = .returned (.slice a' 0 0)) ∧ Below w.heap.size w w') (H : Heap) : EvM X f [.sl .ro []] H fun r H' => r = .sl (.tok H.length 1) [] ∧ H' = H ++ [.tok 0] :=
  ⟨hb, fun g w vs hwf hhr hvs => by
    simp only [RelL, Rel] at hvs
    obtain ⟨v1, r1, rfl, ⟨a, cap, us, sz, rfl, _, _, _, _⟩, rfl⟩ := hvs
    rw [hX]
    refine (h a cap w).mono ?_
    rintro e w' ⟨⟨a', rfl⟩, hb⟩
    have hw := wf_below (X := X) hwf hb
    have hst : StR (X.at w'.heap.size) 0 g w' (fun _ => .undef) H { tmps := #[], defers := [] } := ⟨hw.1, hr_below' hwf hhr hb, fun t => by simp [Rel], by simp, DOk.nil, Nat.le_refl _⟩
    have hg := good_newtok hst 0
    refine ⟨_, .sl (.tok H.length 1) [], _, _, rfl, ?_, hg.wf, hg.hr, hw.2.trans hg.xm, rfl, rfl⟩
    simp only [Rel, RelL]
    exact ⟨a', 0, [], 1, rfl, Nat.le_refl _, rfl, .inl rfl, rfl, 0, if_pos rfl, Nat.le_refl _, fun _ => .inl ⟨rfl, rfl⟩⟩⟩
include hs
theorem k_CloneT (l : List (List UInt8)) (hl : l.length < 1000000) (H : Heap) : EvM X F_slices_Clone_string_string [lst AV.str .ro l] H fun r H' => r = lst AV.str (.tok H.length 1) l ∧ H' = H ++ [.tok l.length] := by
  by_cases h0 : l = []
  · subst h0
    exact cloneT_0 hX ⟨Go.Proofs.Tryz.f69, by rw [hX]; exact Go.Proofs.Tryz.func69, by decide, by kernel_rfl⟩ z_cloneS0 H
  refine evM_of_wpc hs (A_slices_Clone_string_string_ok hX) ?_
  simp only [A_slices_Clone_string_string, go_sem, Nat.reduceMod, Nat.reduceBNe, Nat.reduceBEq, Nat.reduceEqDiff, Nat.reduceAdd, Int.reduceAdd, Nat.reduceMul, Nat.reduceSub, Int.reduceToNat, Int.reduceLE, Int.reduceLT, Int.reduceEq, Int.reduceNe, reduceCtorEq, Nat.reduceLT, Nat.reduceLeDiff]
  refine ⟨by cases l with | nil => exact absurd rfl h0 | cons _ _ => rfl, by omega, by omega⟩
theorem k_eachT (t : Tab) (f : Nat) (cs : List AV) (g : Lat.Arr → Lat.Arr) (H : Heap) (i : Nat) (hi : H[i]? = some (.box [lst AV.str .ro t.n, lst arrV .ro t.c])) (hf : ∀ a ∈ t.c, ∀ K : Heap, EvK X f (arrV a :: cs) (H ++ K) (arrV (g a)))
    (hl : t.c.length < 1000000) (hn : t.n.length < 1000000) (hp : H.length % 2 = 0) : EvM X F_tables_each [.ptr i 0, .clo f [] cs] H fun r H' => r = .agg [lst AV.str (.tok (H.length + 1) 1) t.n, lst arrV (.tok (H.length + 3) 5) (t.c.map g)] ∧
      H' = H ++ [.box [lst AV.str (.tok (H.length + 1) 1) t.n, lst arrV (.tok (H.length + 3) 5) (t.c.map g)], .tok t.n.length, .box [lst AV.str (.tok (H.length + 1) 1) t.n, lst arrV (.tok (H.length + 3) 5) (t.c.map g)], .tok t.c.length] := by
  refine evM_trim (Q := fun r H' => r = .agg [lst AV.str (.tok (H.length + 1) 1) t.n, lst arrV (.tok (H.length + 3) 5) (t.c.map g)] ∧
    ∃ K, H' = H ++ .box [lst AV.str (.tok (H.length + 1) 1) t.n, lst arrV (.tok (H.length + 3) 5) (t.c.map g)] :: .tok t.n.length :: .box [lst AV.str (.tok (H.length + 1) 1) t.n, lst arrV (.tok (H.length + 3) 5) (t.c.map g)] :: .tok t.c.length :: K) ?_ fun r' H' ⟨e1, K, e2⟩ => ?_
  · refine evM_of_wpc hs (A_tables_each_ok hX) ?_
    have hiK := app_get hi
    simp only [A_tables_each, go_sem, Nat.reduceMod, Nat.reduceBNe, Nat.reduceBEq, Nat.reduceEqDiff, Nat.reduceAdd, Int.reduceAdd, Nat.reduceMul, Nat.reduceSub, Int.reduceToNat, Int.reduceLE, Int.reduceLT, Int.reduceEq, Int.reduceNe, reduceCtorEq, Nat.reduceLT, Nat.reduceLeDiff, List.append_assoc, p0g, p1g, p2g, p0s, p1s, p2s, p1l, p2l, p3l, hi, hiK]
    refine call_evm (k_CloneT hX hs t.n hn _) fun r H1 ⟨e1, e2⟩ => ?_
    subst e1 e2
    simp only [go_sem, Nat.reduceMod, Nat.reduceBNe, Nat.reduceBEq, Nat.reduceEqDiff, Nat.reduceAdd, Int.reduceAdd, Nat.reduceMul, Nat.reduceSub, Int.reduceToNat, Int.reduceLE, Int.reduceLT, Int.reduceEq, Int.reduceNe, reduceCtorEq, Nat.reduceLT, Nat.reduceLeDiff, List.append_assoc, p0g, p1g, p2g, p0s, p1s, p2s, p1l, p2l, p3l, hi, hiK]
    refine w_loop hs.hm (ι := Nat × Heap) (fun x => x.1 ≤ t.c.length) (fun x => [(19, .int .i64 x.1), (18, .int .i64 t.c.length), (17, lst arrV .ro t.c), (1, .clo f [] cs), (4, .ptr H.length 0), (5, .ptr (H.length + 2) 0)]) (fun x => H ++ .box [.sl .ex [], .sl .ex []] :: .tok t.n.length :: .box [lst AV.str (.tok (H.length + 1) 1) t.n, lst arrV (.tok (H.length + 3) 5) ((t.c.take x.1).map g)] :: .tok x.1 :: x.2) (fun x => t.c.length - x.1) (0, []) ⟨Nat.zero_le _, _, _, wk_tokb (H.length + 2) 1 5 (p2g H _ _ _ []) rfl, ?_⟩ fun x hx => ?_
    · simp only [go_sem, Nat.reduceMod, Nat.reduceBNe, Nat.reduceBEq, Nat.reduceEqDiff, Nat.reduceAdd, Int.reduceAdd, Nat.reduceMul, Nat.reduceSub, Int.reduceToNat, Int.reduceLE, Int.reduceLT, Int.reduceEq, Int.reduceNe, reduceCtorEq, Nat.reduceLT, Nat.reduceLeDiff, Inv, List.take_zero, List.append_assoc, p2s, p3l]
      rfl
    obtain ⟨k, G⟩ := x
    dsimp only at hx ⊢
    by_cases hk : k < t.c.length
    · have h1 : (k : Int) < t.c.length := by omega
      have hw : IntKind.i64.wrap ((k : Int) + 1) = ((k + 1 : Nat) : Int) := by rw [wi64 (by omega)]; omega
      have hlt : (t.c.take k).length = k := by rw [List.length_take]; omega
      have e : (t.c.take k).map g ++ [g (t.col k)] = (t.c.take (k + 1)).map g := by
        rw [List.take_succ_eq_append_getElem hk, List.map_append]
        unfold Tab.col
        rw [List.getD_eq_getElem?_getD, List.getElem?_eq_getElem hk]
        rfl
      have hpar : ((H.length + 3) % 2 != 0) = true := by rw [bne_iff_ne]; omega
      simp only [A_tables_eachL0, go_sem, Nat.reduceMod, Nat.reduceBNe, Nat.reduceBEq, Nat.reduceEqDiff, Nat.reduceAdd, Int.reduceAdd, Nat.reduceMul, Nat.reduceSub, Int.reduceToNat, Int.reduceLE, Int.reduceLT, Int.reduceEq, Int.reduceNe, reduceCtorEq, Nat.reduceLT, Nat.reduceLeDiff, h1, hw, List.append_assoc, p0g, p1g, p2g, p3g, p0s, p1s, p2s, p3s, q4l, q4g, q4s]
      rw [col_eq t k hk]
      simp only [arr_cells, go_sem, Nat.reduceMod, Nat.reduceBNe, Nat.reduceBEq, Nat.reduceEqDiff, Nat.reduceAdd, Int.reduceAdd, Nat.reduceMul, Nat.reduceSub, Int.reduceToNat, Int.reduceLE, Int.reduceLT, Int.reduceEq, Int.reduceNe, reduceCtorEq, Nat.reduceLT, Nat.reduceLeDiff, List.append_assoc, p0g, p1g, p2g, p3g, p0s, p1s, p2s, p3s, q4l, q4g, q4s]
      refine ⟨by omega, callq_evm _ (hf (t.col k) (col_mem hk) _) ?_⟩
      simp only [go_sem, Nat.reduceMod, Nat.reduceBNe, Nat.reduceBEq, Nat.reduceEqDiff, Nat.reduceAdd, Int.reduceAdd, Nat.reduceMul, Nat.reduceSub, Int.reduceToNat, Int.reduceLE, Int.reduceLT, Int.reduceEq, Int.reduceNe, reduceCtorEq, Nat.reduceLT, Nat.reduceLeDiff, List.append_assoc, p0g, p1g, p2g, p3g, p0s, p1s, p2s, p3s, q4l, q4g, q4s, dry_arr, ax1_arr, app1, List.length_map, hlt, hpar, e]
      exact ⟨⟨rfl, rfl⟩, by omega, (k + 1, _), by dsimp only; omega, hk, by rw [hw], rfl⟩
    · have h1 : ¬ (k : Int) < t.c.length := by omega
      simp only [A_tables_eachL0, go_sem, Nat.reduceMod, Nat.reduceBNe, Nat.reduceBEq, Nat.reduceEqDiff, Nat.reduceAdd, Int.reduceAdd, Nat.reduceMul, Nat.reduceSub, Int.reduceToNat, Int.reduceLE, Int.reduceLT, Int.reduceEq, Int.reduceNe, reduceCtorEq, Nat.reduceLT, Nat.reduceLeDiff, h1, List.append_assoc, p0g, p1g, p2g, p3g, p0s, p1s, p2s, p3s]
      have ek : k = t.c.length := by omega
      rw [List.take_of_length_le (by omega), ek]
      exact ⟨rfl, _, rfl⟩
  · refine ⟨_, K, e2.trans (by simp only [List.cons_append, List.nil_append]), ?_, ?_, e1, rfl⟩
    · rw [e1]
      simp only [lowB, lowL, lst, List.length_cons, List.length_nil, Bool.and_true, Bool.and_eq_true, decide_eq_true_eq]
      omega
    · simp only [List.all_cons, List.all_nil, lowK, lowB, lowL, lst, List.length_cons, List.length_nil, Bool.and_true, Bool.true_and, Bool.and_eq_true, decide_eq_true_eq]
      omega
/-- the table with one more column -/
theorem ev_Add (t : Tab) (s : List UInt8) (a : Lat.Arr) (hl : ∀ a ∈ t.c, a.c.length < 1000000) (ha : a.c.length < 1000000) : Ev X F_tables_Add [tabV t, .str s, arrV a] (.tuple [tabV (addR t s a).1, .int .i64 (addR t s a).2]) := by
  refine ev_of_k (evK_of_wpcD hs (A_tables_Add_ok hX) ?_)
  obtain ⟨ak, ar, al0, al1, ac⟩ := a
  simp only [A_tables_Add, tabV, arrV, go_sem, Nat.reduceMod, Nat.reduceBNe, Nat.reduceBEq, Nat.reduceEqDiff, Nat.reduceAdd, Int.reduceAdd, Nat.reduceMul, Nat.reduceSub, Int.reduceToNat, Int.reduceLE, Int.reduceLT, Int.reduceEq, Int.reduceNe, reduceCtorEq, Nat.reduceLT, Nat.reduceLeDiff]
  refine call_ev (ev_Check hX hs t hl) ?_
  by_cases h : (chk t).2 = 0
  · have hg := chk_good.1 h
    have h16 := hg.len
    have heq := hg.eq
    simp only [go_sem, Nat.reduceMod, Nat.reduceBNe, Nat.reduceBEq, Nat.reduceEqDiff, Nat.reduceAdd, Int.reduceAdd, Nat.reduceMul, Nat.reduceSub, Int.reduceToNat, Int.reduceLE, Int.reduceLT, Int.reduceEq, Int.reduceNe, reduceCtorEq, Nat.reduceLT, Nat.reduceLeDiff, h]
    refine call_evm (k_eachT hX hs t F_tables_clone [] id _ 1 rfl (fun a ha K => evK_of_ev (ev_cloneA hX hs a (hl a ha))) (by omega) (by omega) (by simp)) fun r H1 ⟨e1, e2⟩ => ?_
    subst e1 e2
    simp only [go_sem, Nat.reduceMod, Nat.reduceBNe, Nat.reduceBEq, Nat.reduceEqDiff, Nat.reduceAdd, Int.reduceAdd, Nat.reduceMul, Nat.reduceSub, Int.reduceToNat, Int.reduceLE, Int.reduceLT, Int.reduceEq, Int.reduceNe, reduceCtorEq, Nat.reduceLT, Nat.reduceLeDiff, app1, List.map_id, List.length_cons, List.length_nil]
    refine ⟨by omega, callq_ev (ev_cloneA hX hs ⟨ak, ar, al0, al1, ac⟩ ha) ?_⟩
    simp only [go_sem, Nat.reduceMod, Nat.reduceBNe, Nat.reduceBEq, Nat.reduceEqDiff, Nat.reduceAdd, Int.reduceAdd, Nat.reduceMul, Nat.reduceSub, Int.reduceToNat, Int.reduceLE, Int.reduceLT, Int.reduceEq, Int.reduceNe, reduceCtorEq, Nat.reduceLT, Nat.reduceLeDiff, dry_arr, ax1_arr, app1]
    refine ⟨⟨rfl, rfl⟩, by omega, ?_⟩
    have hl2 : ∀ x ∈ t.c ++ [(⟨ak, ar, al0, al1, ac⟩ : Lat.Arr)], x.c.length < 1000000 := fun x hx => by
      rcases List.mem_append.1 hx with hx | hx
      · exact hl x hx
      · rw [List.mem_singleton.1 hx]; exact ha
    refine call_ev (ev_Check hX hs (Tab.mk (t.n ++ [s]) (t.c ++ [(⟨ak, ar, al0, al1, ac⟩ : Lat.Arr)])) hl2) ?_
    by_cases h2 : (chk ⟨t.n ++ [s], t.c ++ [⟨ak, ar, al0, al1, ac⟩]⟩).2 = 0
    · have e0 : addR t s ⟨ak, ar, al0, al1, ac⟩ = (⟨t.n ++ [s], t.c ++ [⟨ak, ar, al0, al1, ac⟩]⟩, 0) := by unfold addR; rw [if_neg (by omega), if_neg (by omega)]
      rw [e0]
      simp only [go_sem, Nat.reduceMod, Nat.reduceBNe, Nat.reduceBEq, Nat.reduceEqDiff, Nat.reduceAdd, Int.reduceAdd, Nat.reduceMul, Nat.reduceSub, Int.reduceToNat, Int.reduceLE, Int.reduceLT, Int.reduceEq, Int.reduceNe, reduceCtorEq, Nat.reduceLT, Nat.reduceLeDiff, h2]
      exact ⟨⟨_, rfl⟩, rfl⟩
    · have e0 : addR t s ⟨ak, ar, al0, al1, ac⟩ = (zeroT, (chk ⟨t.n ++ [s], t.c ++ [⟨ak, ar, al0, al1, ac⟩]⟩).2) := by unfold addR; rw [if_neg (by omega), if_pos h2]
      rw [e0]
      simp only [go_sem, Nat.reduceMod, Nat.reduceBNe, Nat.reduceBEq, Nat.reduceEqDiff, Nat.reduceAdd, Int.reduceAdd, Nat.reduceMul, Nat.reduceSub, Int.reduceToNat, Int.reduceLE, Int.reduceLT, Int.reduceEq, Int.reduceNe, reduceCtorEq, Nat.reduceLT, Nat.reduceLeDiff, h2]
      exact ⟨⟨_, rfl⟩, rfl⟩
  · have e0 : addR t s ⟨ak, ar, al0, al1, ac⟩ = (zeroT, (chk t).2) := if_pos h
    simp only [go_sem, Nat.reduceMod, Nat.reduceBNe, Nat.reduceBEq, Nat.reduceEqDiff, Nat.reduceAdd, Int.reduceAdd, Nat.reduceMul, Nat.reduceSub, Int.reduceToNat, Int.reduceLE, Int.reduceLT, Int.reduceEq, Int.reduceNe, reduceCtorEq, Nat.reduceLT, Nat.reduceLeDiff, h]
    rw [e0]
    exact ⟨⟨_, rfl⟩, rfl⟩
end
end Go.Avm

/- The renaming of the shelf's numbers here. -/
namespace Go.Avm
open Go Go.Proofs Go.Shelf
def sRen : Ren where
  f := fun x => match x with | 129 => 107 | 166 => 51 | 167 => 53 | 169 => 54 | 173 => 71 | 240 => 70 | 246 => 87 | 276 => 86 | 283 => 98 | 284 => 99 | 285 => 100 | 286 => 101 | 317 => 106 | 318 => 108 | 319 => 109 | 320 => 110 | 337 => 115 | 338 => 116 | n => n
  t := fun x => match x with | 0 => 0 | 2 => 2 | 3 => 3 | 4 => 4 | 5 => 5 | 9 => 9 | 20 => 20 | 37 => 76 | 46 => 129 | 51 => 134 | 53 => 124 | 70 => 75 | 72 => 78 | 75 => 80 | 80 => 85 | 127 => 101 | 164 => 114 | 171 => 123 | 173 => 127 | 212 => 133 | 213 => 135 | 232 => 144 | 233 => 145 | n => n
  g := fun x => match x with | 17 => 0 | 18 => 4 | 19 => 5 | n => n
end Go.Avm

/- The builder's methods here. -/
namespace Go.Avm
open Go Go.Proofs Go.Shelf
theorem bLays166 : Lays.n166 Go.Proofs.Tryz.prog sRen := by
  constructor <;> first | kernel_rfl | (intro w; kernel_rfl)
theorem bLays167 : Lays.n167 Go.Proofs.Tryz.prog sRen := by
  constructor <;> first | kernel_rfl | (intro w; kernel_rfl)
theorem bLays169 : Lays.n169 Go.Proofs.Tryz.prog sRen := by
  constructor <;> first | kernel_rfl | (intro w; kernel_rfl)
theorem bExtra : Builder.Extra Go.Proofs.Tryz.prog sRen where
  sizeBuilder := by kernel_rfl
  liesBuilder := by kernel_rfl
  t5 := by kernel_rfl
  a5 := by intro w; kernel_rfl
  z5 := by intro w; kernel_rfl
  v5 := by intro w; kernel_rfl
  infoByte := by kernel_rfl
  cellsByte := by kernel_rfl
  sizeByte := by kernel_rfl
  neB5 := by decide
section
variable {X : Cx} (hX : X.P = Go.Proofs.Tryz.prog) (hs : Std X) {H : Heap}
include hX
theorem ev_bWS {i : Nat} {l : List UInt8} (s : List UInt8) (hH : H[i]? = some (.bld 78 5 l)) (hlen : l.length + s.length ≤ 140737488355328) :
    EvM X F_strings_Builder_WriteString [.ptr i 0, .str s] H fun r H' => r = .tuple [.int .i64 s.length, .nilI] ∧ H' = H.set i (.bld 78 5 (l ++ s)) := by
  refine evM_bpost ⟨Go.Proofs.Tryz.f51, by rw [hX]; exact Go.Proofs.Tryz.func51, by decide, by kernel_rfl⟩ (by decide) hH fun g w vs b p v hwf hhr hvs hbx hb hp hv => ?_
  simp only [RelL, Rel] at hvs
  obtain ⟨v1, r1, rfl, ⟨b', rfl, h2⟩, v2, r2, rfl, ⟨sb, rfl, h3⟩, rfl⟩ := hvs
  rw [hbx] at h2
  cases h2
  subst h3
  rw [hX]
  refine (b_WriteString (C := X) hX bLays166 bExtra sb hb hp hv (by simpa using hlen)).mono ?_
  rintro e w' ⟨rfl, h⟩
  exact ⟨_, rfl, fun g' => by simp [Rel, RelL], h⟩
theorem ev_bWB {i : Nat} {l : List UInt8} (c : UInt8) (hH : H[i]? = some (.bld 78 5 l)) (hlen : l.length + 1 ≤ 140737488355328) :
    EvM X F_strings_Builder_WriteByte [.ptr i 0, u8 c] H fun r H' => r = .nilI ∧ H' = H.set i (.bld 78 5 (l ++ [c])) := by
  refine evM_bpost ⟨Go.Proofs.Tryz.f53, by rw [hX]; exact Go.Proofs.Tryz.func53, by decide, by kernel_rfl⟩ (by decide) hH fun g w vs b p v hwf hhr hvs hbx hb hp hv => ?_
  simp only [RelL, Rel, u8] at hvs
  obtain ⟨v1, r1, rfl, ⟨b', rfl, h2⟩, v2, r2, rfl, rfl, rfl⟩ := hvs
  rw [hbx] at h2
  cases h2
  rw [hX]
  refine (b_WriteByte (C := X) hX bLays167 bExtra c hb hp hv hlen).mono ?_
  rintro e w' ⟨rfl, h⟩
  exact ⟨_, rfl, fun g' => by simp [Rel], h⟩
theorem ev_bString {i : Nat} {l : List UInt8} (hH : H[i]? = some (.bld 78 5 l)) (h0 : l ≠ []) :
    EvM X F_strings_Builder_String [.ptr i 0] H fun r H' => r = .str l ∧ H' = H.set i .dead := by
  refine evM_spost ⟨Go.Proofs.Tryz.f54, by rw [hX]; exact Go.Proofs.Tryz.func54, by decide, by kernel_rfl⟩ (T := 78) (e := 5) (by decide) hH fun w b p v hb hv => ?_
  rw [hX]
  exact b_String bLays169 bExtra hb hv h0
end
end Go.Avm

/- Numerals and joined strings here. -/
namespace Go.Avm
open Go Go.Proofs Go.Shelf
/-- the table of powers of ten -/
def tabQ : List AV := Lib.pow10Tab.map (AV.int .u64)
theorem st173 : LaysM.n173 Go.Proofs.Tryz.prog sRen := by
  constructor <;> first | kernel_rfl | (intro w; kernel_rfl) | (constructor <;> first | kernel_rfl | (intro w; kernel_rfl) | (constructor <;> first | kernel_rfl | (intro w; kernel_rfl)))
section
variable {X : Cx} (hX : X.P = Go.Proofs.Tryz.prog)
include hX
theorem ev_FormatInt (hP : X.G (sRen.g 17) = some tabQ) (n : Int) (h : -9223372036854775808 ≤ n ∧ n ≤ 9223372036854775807) : Ev X F_strconv_FormatInt [.int .i64 n, .int .i64 10] (.str (Lib.itoa n)) :=
  ev_s_FormatInt (X := X) (ρ := sRen) (by rw [hX]; exact st173) (by rw [hX]; kernel_rfl) hP n h
end
end Go.Avm

/- Print. -/
namespace Go.Avm
open Go Go.Tb
set_option maxRecDepth 10000
def inI (l : List Int) : Prop := ∀ c ∈ l, -9223372036854775808 ≤ c ∧ c ≤ 9223372036854775807
theorem def0 : (default : Int) = 0 := id rfl
structure PT where
  i : Nat
  c : List UInt8
  G : Heap
section
variable {X : Cx} (hX : X.P = Go.Proofs.Tryz.prog) (hs : Std X) (hP : X.G (sRen.g 17) = some tabQ)
include hX hs hP
theorem ev_Digits (n : Int) (h : -9223372036854775808 ≤ n ∧ n ≤ 9223372036854775807) : Ev X F_words_Digits [.int .i64 n] (.str (Lib.itoa n)) := by
  refine ev_of_wpc hs (A_words_Digits_ok hX) 0 ?_
  simp only [A_words_Digits, go_sem, Nat.reduceMod, Nat.reduceBNe, Nat.reduceBEq, Nat.reduceEqDiff, Nat.reduceAdd, Int.reduceAdd, Nat.reduceMul, Nat.reduceSub, Int.reduceToNat, Int.reduceLE, Int.reduceLT, Int.reduceEq, Int.reduceNe, reduceCtorEq, Nat.reduceLT, Nat.reduceLeDiff]
  refine call_ev (ev_FormatInt hX hP n h) ?_
  simp only [go_sem, Nat.reduceMod, Nat.reduceBNe, Nat.reduceBEq, Nat.reduceEqDiff, Nat.reduceAdd, Int.reduceAdd, Nat.reduceMul, Nat.reduceSub, Int.reduceToNat, Int.reduceLE, Int.reduceLT, Int.reduceEq, Int.reduceNe, reduceCtorEq, Nat.reduceLT, Nat.reduceLeDiff]
theorem ev_Print (t : Tab) (hI : ∀ a ∈ t.c, inI a.c) (hl : ∀ a ∈ t.c, a.c.length < 1000000) (h0 : t.n ≠ []) : Ev X F_tables_Print [tabV t] (.tuple [.str (printR t).1, .int .i64 (printR t).2]) := by
  refine ev_of_k (evK_of_wpc hs (A_tables_Print_ok hX) ?_)
  simp only [A_tables_Print, tabV, go_sem, Nat.reduceMod, Nat.reduceBNe, Nat.reduceBEq, Nat.reduceEqDiff, Nat.reduceAdd, Int.reduceAdd, Nat.reduceMul, Nat.reduceSub, Int.reduceToNat, Int.reduceLE, Int.reduceLT, Int.reduceEq, Int.reduceNe, reduceCtorEq, Nat.reduceLT, Nat.reduceLeDiff]
  refine call_ev (ev_Check hX hs t hl) ?_
  by_cases h : (chk t).2 = 0
  · have hg := chk_good.1 h
    have h16 := hg.len
    have heq := hg.eq
    have e0 : printR t = (prT t t.n.length, 0) := by unfold printR; rw [if_neg (by omega)]
    rw [e0]
    simp only [go_sem, Nat.reduceMod, Nat.reduceBNe, Nat.reduceBEq, Nat.reduceEqDiff, Nat.reduceAdd, Int.reduceAdd, Nat.reduceMul, Nat.reduceSub, Int.reduceToNat, Int.reduceLE, Int.reduceLT, Int.reduceEq, Int.reduceNe, reduceCtorEq, Nat.reduceLT, Nat.reduceLeDiff, h]
    refine w_loop' hs.hm (ι := PT) (fun x => x.i ≤ t.n.length ∧ x.c = prT t x.i ∧ x.c.length ≤ x.i * 100000) (fun x => [(23, .int .i64 x.i), (22, .int .i64 t.c.length), (21, lst arrV .ro t.c), (1, .ptr 0 0), (6, .ptr 1 0)]) (fun x => .box [lst AV.str .ro t.n, lst arrV .ro t.c] :: .bld 78 5 x.c :: x.G) (fun x => t.n.length - x.i) ⟨0, [], []⟩ ?_ fun x hx => ?_
    · simp only [go_sem, Nat.reduceMod, Nat.reduceBNe, Nat.reduceBEq, Nat.reduceEqDiff, Nat.reduceAdd, Int.reduceAdd, Nat.reduceMul, Nat.reduceSub, Int.reduceToNat, Int.reduceLE, Int.reduceLT, Int.reduceEq, Int.reduceNe, reduceCtorEq, Nat.reduceLT, Nat.reduceLeDiff]
      exact ⟨Nat.zero_le _, rfl⟩
    obtain ⟨i, c, G⟩ := x
    obtain ⟨x1, x2, x3⟩ := hx
    dsimp only at x1 x2 x3 ⊢
    by_cases hi : i < t.n.length
    · have hic : i < t.c.length := by omega
      have h1 : (i : Int) < t.n.length := by omega
      have h2 : (i : Int) < t.c.length := by omega
      have hw : IntKind.i64.wrap ((i : Int) + 1) = ((i + 1 : Nat) : Int) := by rw [wi64 (by omega)]; omega
      have ha := hg.at hi
      have hn := nm_len (colE_0 (hg.col i hi)).1
      have hIi := hI _ (col_mem hic)
      have hpt := prT_succ t i
      simp only [A_tables_PrintL0, go_sem, Nat.reduceMod, Nat.reduceBNe, Nat.reduceBEq, Nat.reduceEqDiff, Nat.reduceAdd, Int.reduceAdd, Nat.reduceMul, Nat.reduceSub, Int.reduceToNat, Int.reduceLE, Int.reduceLT, Int.reduceEq, Int.reduceNe, reduceCtorEq, Nat.reduceLT, Nat.reduceLeDiff, h1, h2, hw]
      rw [col_eq t i hic]
      simp only [arr_cells, go_sem, Nat.reduceMod, Nat.reduceBNe, Nat.reduceBEq, Nat.reduceEqDiff, Nat.reduceAdd, Int.reduceAdd, Nat.reduceMul, Nat.reduceSub, Int.reduceToNat, Int.reduceLE, Int.reduceLT, Int.reduceEq, Int.reduceNe, reduceCtorEq, Nat.reduceLT, Nat.reduceLeDiff, gx0, gs0]
      generalize t.col i = a at ha hIi hpt
      obtain ⟨k, r, l0, l1, cs⟩ := a
      dsimp only at ha hIi hpt ⊢
      obtain ⟨kv, hkv⟩ : ∃ kv, kv = k := ⟨_, rfl⟩
      by_cases hk : k = 2
      all_goals
        first
        | (subst hk; simp only [go_sem, Nat.reduceMod, Nat.reduceBNe, Nat.reduceBEq, Nat.reduceEqDiff, Nat.reduceAdd, Int.reduceAdd, Nat.reduceMul, Nat.reduceSub, Int.reduceToNat, Int.reduceLE, Int.reduceLT, Int.reduceEq, Int.reduceNe, reduceCtorEq, Nat.reduceLT, Nat.reduceLeDiff, gx0, gs0]; rw [show AV.int .i64 (2 : Int) = AV.int .i64 kv by rw [hkv]])
        | (subst hkv; simp only [go_sem, Nat.reduceMod, Nat.reduceBNe, Nat.reduceBEq, Nat.reduceEqDiff, Nat.reduceAdd, Int.reduceAdd, Nat.reduceMul, Nat.reduceSub, Int.reduceToNat, Int.reduceLE, Int.reduceLT, Int.reduceEq, Int.reduceNe, reduceCtorEq, Nat.reduceLT, Nat.reduceLeDiff, hk, gx0, gs0])
        rw [nm_eq t i hi]
        refine ⟨by omega, by omega, by omega, call_evm (ev_bWS hX (i := 1) _ rfl (by simp only [List.length_append, List.length_cons, List.length_nil]; omega)) fun r1 H1 ⟨e1, e2⟩ => ?_⟩
        subst e1 e2
        simp only [go_sem, Nat.reduceMod, Nat.reduceBNe, Nat.reduceBEq, Nat.reduceEqDiff, Nat.reduceAdd, Int.reduceAdd, Nat.reduceMul, Nat.reduceSub, Int.reduceToNat, Int.reduceLE, Int.reduceLT, Int.reduceEq, Int.reduceNe, reduceCtorEq, Nat.reduceLT, Nat.reduceLeDiff, gx0, gs0]
        refine w_loop' hs.hm (ι := Nat) (fun j => j ≤ cs.length) (fun j => [(42, .int .i64 j), (41, .int .i64 cs.length), (40, lst (AV.int .i64) .ro cs), (23, .int .i64 i), (22, .int .i64 t.c.length), (21, lst arrV .ro t.c), (1, .ptr 0 0), (6, .ptr 1 0)]) (fun j => .box [lst AV.str .ro t.n, lst arrV .ro t.c] :: .bld 78 5 (c ++ (t.nm i ++ kindS kv) ++ prC (cs.take j)) :: (G ++ [.box [.int .i64 kv, .int .i64 r, .int .i64 l0, .int .i64 l1, lst (AV.int .i64) .ro cs]])) (fun j => cs.length - j) 0 ?_ fun j hj => ?_
        · simp only [go_sem, Nat.reduceMod, Nat.reduceBNe, Nat.reduceBEq, Nat.reduceEqDiff, Nat.reduceAdd, Int.reduceAdd, Nat.reduceMul, Nat.reduceSub, Int.reduceToNat, Int.reduceLE, Int.reduceLT, Int.reduceEq, Int.reduceNe, reduceCtorEq, Nat.reduceLT, Nat.reduceLeDiff, prC, List.flatMap_nil, kindS]
          first | exact ⟨Nat.zero_le _, by rw [hkv]; rfl⟩ | exact ⟨Nat.zero_le _, by rw [if_neg hk]⟩ | exact Nat.zero_le _
        have hpl : (prC (cs.take j)).length ≤ j * 22 := prC_len hIi j hj
        have hkl := kindS_len kv
        by_cases hj' : j < cs.length
        · have h3 : (j : Int) < cs.length := by omega
          have hwj : IntKind.i64.wrap ((j : Int) + 1) = ((j + 1 : Nat) : Int) := by rw [wi64 (by omega)]; omega
          have hd := hIi (cs.getD j 0) (by rw [List.getD_eq_getElem?_getD, List.getElem?_eq_getElem hj']; exact List.getElem_mem _)
          have hdl := Lib.itoa_length_le _ hd.1 hd.2
          have e5 := prC_take hj'
          simp only [A_tables_PrintL1, go_sem, Nat.reduceMod, Nat.reduceBNe, Nat.reduceBEq, Nat.reduceEqDiff, Nat.reduceAdd, Int.reduceAdd, Nat.reduceMul, Nat.reduceSub, Int.reduceToNat, Int.reduceLE, Int.reduceLT, Int.reduceEq, Int.reduceNe, reduceCtorEq, Nat.reduceLT, Nat.reduceLeDiff, h3, hwj, def0]
          refine ⟨by omega, call_ev (ev_Digits hX hs hP _ hd) ?_⟩
          simp only [go_sem, Nat.reduceMod, Nat.reduceBNe, Nat.reduceBEq, Nat.reduceEqDiff, Nat.reduceAdd, Int.reduceAdd, Nat.reduceMul, Nat.reduceSub, Int.reduceToNat, Int.reduceLE, Int.reduceLT, Int.reduceEq, Int.reduceNe, reduceCtorEq, Nat.reduceLT, Nat.reduceLeDiff]
          refine ⟨by omega, call_evm (ev_bWS hX (i := 1) _ rfl (by simp only [List.length_append, List.length_cons, List.length_nil]; omega)) fun r1 H1 ⟨e1, e2⟩ => ?_⟩
          subst e1 e2
          simp only [go_sem, Nat.reduceMod, Nat.reduceBNe, Nat.reduceBEq, Nat.reduceEqDiff, Nat.reduceAdd, Int.reduceAdd, Nat.reduceMul, Nat.reduceSub, Int.reduceToNat, Int.reduceLE, Int.reduceLT, Int.reduceEq, Int.reduceNe, reduceCtorEq, Nat.reduceLT, Nat.reduceLeDiff, hwj]
          exact ⟨j + 1, by omega, hj', rfl, by rw [e5]; simp⟩
        · have h3 : ¬ (j : Int) < cs.length := by omega
          have ej : j = cs.length := by omega
          simp only [A_tables_PrintL1, go_sem, Nat.reduceMod, Nat.reduceBNe, Nat.reduceBEq, Nat.reduceEqDiff, Nat.reduceAdd, Int.reduceAdd, Nat.reduceMul, Nat.reduceSub, Int.reduceToNat, Int.reduceLE, Int.reduceLT, Int.reduceEq, Int.reduceNe, reduceCtorEq, Nat.reduceLT, Nat.reduceLeDiff, h3]
          refine call_evm (ev_bWB hX (i := 1) 10 rfl (by simp only [List.length_append, List.length_cons, List.length_nil]; omega)) fun r1 H1 ⟨e1, e2⟩ => ?_
          subst e1 e2
          simp only [go_sem, Nat.reduceMod, Nat.reduceBNe, Nat.reduceBEq, Nat.reduceEqDiff, Nat.reduceAdd, Int.reduceAdd, Nat.reduceMul, Nat.reduceSub, Int.reduceToNat, Int.reduceLE, Int.reduceLT, Int.reduceEq, Int.reduceNe, reduceCtorEq, Nat.reduceLT, Nat.reduceLeDiff, hw]
          subst ej
          rw [List.take_length]
          refine ⟨⟨i + 1, _, _⟩, by dsimp only; omega, ⟨hi, ?_, ?_⟩, rfl, rfl⟩
          · dsimp only
            rw [hpt, x2]
            first | simp only [prL, hkv, List.append_assoc] | simp only [prL, List.append_assoc]
          · dsimp only
            simp only [List.length_append, List.length_cons, List.length_nil]
            rw [List.take_length] at hpl
            omega
    · have h1 : ¬ (i : Int) < t.c.length := by omega
      have ei : i = t.n.length := by omega
      simp only [A_tables_PrintL0, go_sem, Nat.reduceMod, Nat.reduceBNe, Nat.reduceBEq, Nat.reduceEqDiff, Nat.reduceAdd, Int.reduceAdd, Nat.reduceMul, Nat.reduceSub, Int.reduceToNat, Int.reduceLE, Int.reduceLT, Int.reduceEq, Int.reduceNe, reduceCtorEq, Nat.reduceLT, Nat.reduceLeDiff, h1]
      refine call_evm (ev_bString hX (i := 1) (l := c) rfl ?_) fun r H' ⟨e1, e2⟩ => ?_
      · rw [x2, ei]
        intro e
        obtain ⟨m, hm⟩ : ∃ m, t.n.length = m + 1 := ⟨t.n.length - 1, by have := List.length_pos_iff.2 h0; omega⟩
        rw [hm, prT_succ] at e
        have := congrArg List.length e
        simp [prL] at this
      · subst e1 e2
        simp only [go_sem, Nat.reduceMod, Nat.reduceBNe, Nat.reduceBEq, Nat.reduceEqDiff, Nat.reduceAdd, Int.reduceAdd, Nat.reduceMul, Nat.reduceSub, Int.reduceToNat, Int.reduceLE, Int.reduceLT, Int.reduceEq, Int.reduceNe, reduceCtorEq, Nat.reduceLT, Nat.reduceLeDiff]
        rw [x2, ei]
        exact ⟨⟨_, rfl⟩, rfl⟩
  · have e0 : printR t = ([], (chk t).2) := if_pos h
    simp only [go_sem, Nat.reduceMod, Nat.reduceBNe, Nat.reduceBEq, Nat.reduceEqDiff, Nat.reduceAdd, Int.reduceAdd, Nat.reduceMul, Nat.reduceSub, Int.reduceToNat, Int.reduceLE, Int.reduceLT, Int.reduceEq, Int.reduceNe, reduceCtorEq, Nat.reduceLT, Nat.reduceLeDiff, h]
    rw [e0]
    exact ⟨⟨_, rfl⟩, rfl⟩
end
end Go.Avm

/- awake. -/
namespace Go.Avm
open Go Go.Tb
def mkS : List UInt8 := [109, 97, 114, 107]
theorem w_o : orderR exT mkS = ([1, 0, 2], 0) := by kernel_rfl
theorem w_s : sortR exT mkS = (⟨exT.n, [vecA 1 [1, 3, 3], vecA 2 [97, 99, 98]]⟩, 0) := by kernel_rfl
theorem w_f : findR exT mkS 3 = (0, 0) := by kernel_rfl
theorem w_p : printR exT = ([109, 97, 114, 107, 32, 105, 110, 116, 32, 51, 32, 49, 32, 51, 10, 110, 97, 109, 101, 32, 99, 104, 97, 114, 32, 57, 57, 32, 57, 55, 32, 57, 56, 10], 0) := by kernel_rfl
theorem exT_len : ∀ a ∈ exT.c, a.c.length < 1000000 := by decide
theorem exT_in : ∀ a ∈ exT.c, inI a.c := by unfold inI; decide
set_option maxRecDepth 10000
section
variable {X : Cx} (hX : X.P = Go.Proofs.Tryz.prog) (hs : Std X) (hP : X.G (sRen.g 17) = some tabQ)
include hX hs hP
theorem ev_awake : Ev X F_law13_awake [] (.bool true) := by
  refine ev_of_wpc hs (A_law13_awake_ok hX) 1 ?_
  simp only [A_law13_awake, go_sem, Nat.reduceMod, Nat.reduceBNe, Nat.reduceBEq, Nat.reduceEqDiff, Nat.reduceAdd, Int.reduceAdd, Nat.reduceMul, Nat.reduceSub, Int.reduceToNat, Int.reduceLE, Int.reduceLT, Int.reduceEq, Int.reduceNe, reduceCtorEq, Nat.reduceLT, Nat.reduceLeDiff]
  refine call_ev (ev_example hX hs) ?_
  simp only [go_sem, Nat.reduceMod, Nat.reduceBNe, Nat.reduceBEq, Nat.reduceEqDiff, Nat.reduceAdd, Int.reduceAdd, Nat.reduceMul, Nat.reduceSub, Int.reduceToNat, Int.reduceLE, Int.reduceLT, Int.reduceEq, Int.reduceNe, reduceCtorEq, Nat.reduceLT, Nat.reduceLeDiff]
  refine call_ev (ev_Order hX hs exT mkS exT_len) ?_
  rw [w_o]
  simp only [go_sem, Nat.reduceMod, Nat.reduceBNe, Nat.reduceBEq, Nat.reduceEqDiff, Nat.reduceAdd, Int.reduceAdd, Nat.reduceMul, Nat.reduceSub, Int.reduceToNat, Int.reduceLE, Int.reduceLT, Int.reduceEq, Int.reduceNe, reduceCtorEq, Nat.reduceLT, Nat.reduceLeDiff]
  refine call_ev (ev_example hX hs) ?_
  simp only [go_sem, Nat.reduceMod, Nat.reduceBNe, Nat.reduceBEq, Nat.reduceEqDiff, Nat.reduceAdd, Int.reduceAdd, Nat.reduceMul, Nat.reduceSub, Int.reduceToNat, Int.reduceLE, Int.reduceLT, Int.reduceEq, Int.reduceNe, reduceCtorEq, Nat.reduceLT, Nat.reduceLeDiff]
  refine call_ev (ev_Sort hX hs exT mkS exT_len) ?_
  rw [w_s]
  simp only [tv_eq, go_sem, Nat.reduceMod, Nat.reduceBNe, Nat.reduceBEq, Nat.reduceEqDiff, Nat.reduceAdd, Int.reduceAdd, Nat.reduceMul, Nat.reduceSub, Int.reduceToNat, Int.reduceLE, Int.reduceLT, Int.reduceEq, Int.reduceNe, reduceCtorEq, Nat.reduceLT, Nat.reduceLeDiff]
  refine call_ev (ev_example hX hs) ?_
  simp only [go_sem, Nat.reduceMod, Nat.reduceBNe, Nat.reduceBEq, Nat.reduceEqDiff, Nat.reduceAdd, Int.reduceAdd, Nat.reduceMul, Nat.reduceSub, Int.reduceToNat, Int.reduceLE, Int.reduceLT, Int.reduceEq, Int.reduceNe, reduceCtorEq, Nat.reduceLT, Nat.reduceLeDiff]
  refine call_ev (ev_Find hX hs exT mkS 3 exT_len) ?_
  rw [w_f]
  simp only [go_sem, Nat.reduceMod, Nat.reduceBNe, Nat.reduceBEq, Nat.reduceEqDiff, Nat.reduceAdd, Int.reduceAdd, Nat.reduceMul, Nat.reduceSub, Int.reduceToNat, Int.reduceLE, Int.reduceLT, Int.reduceEq, Int.reduceNe, reduceCtorEq, Nat.reduceLT, Nat.reduceLeDiff]
  refine call_ev (ev_example hX hs) ?_
  simp only [go_sem, Nat.reduceMod, Nat.reduceBNe, Nat.reduceBEq, Nat.reduceEqDiff, Nat.reduceAdd, Int.reduceAdd, Nat.reduceMul, Nat.reduceSub, Int.reduceToNat, Int.reduceLE, Int.reduceLT, Int.reduceEq, Int.reduceNe, reduceCtorEq, Nat.reduceLT, Nat.reduceLeDiff]
  refine call_ev (ev_Print hX hs hP exT exT_in exT_len (by decide)) ?_
  rw [w_p]
  simp only [tv_eq, go_sem, Nat.reduceMod, Nat.reduceBNe, Nat.reduceBEq, Nat.reduceEqDiff, Nat.reduceAdd, Int.reduceAdd, Nat.reduceMul, Nat.reduceSub, Int.reduceToNat, Int.reduceLE, Int.reduceLT, Int.reduceEq, Int.reduceNe, reduceCtorEq, Nat.reduceLT, Nat.reduceLeDiff]
  refine callq_ev (ev_same4 hX hs [1, 0, 2] [1, 0, 2] (by decide)) ?_
  simp only [go_sem, Nat.reduceMod, Nat.reduceBNe, Nat.reduceBEq, Nat.reduceEqDiff, Nat.reduceAdd, Int.reduceAdd, Nat.reduceMul, Nat.reduceSub, Int.reduceToNat, Int.reduceLE, Int.reduceLT, Int.reduceEq, Int.reduceNe, reduceCtorEq, Nat.reduceLT, Nat.reduceLeDiff]
  refine ⟨Nat.le_refl 5, callq_ev (ev_vector hX hs 2 [97, 99, 98]) ?_⟩
  simp only [go_sem, Nat.reduceMod, Nat.reduceBNe, Nat.reduceBEq, Nat.reduceEqDiff, Nat.reduceAdd, Int.reduceAdd, Nat.reduceMul, Nat.reduceSub, Int.reduceToNat, Int.reduceLE, Int.reduceLT, Int.reduceEq, Int.reduceNe, reduceCtorEq, Nat.reduceLT, Nat.reduceLeDiff]
  refine callq_ev (ev_same6 hX hs (vecA 2 [97, 99, 98]) (vecA 2 [97, 99, 98]) (by decide)) ?_
  rw [sameA_refl]
  simp only [go_sem, Nat.reduceMod, Nat.reduceBNe, Nat.reduceBEq, Nat.reduceEqDiff, Nat.reduceAdd, Int.reduceAdd, Nat.reduceMul, Nat.reduceSub, Int.reduceToNat, Int.reduceLE, Int.reduceLT, Int.reduceEq, Int.reduceNe, reduceCtorEq, Nat.reduceLT, Nat.reduceLeDiff]
end
end Go.Avm
