/- What the closure of labels.sorted answers: a walk, with the worlds as they are. -/
import Derived.Test.YtebnoigmepfdcaaDoorAG3
import Derived.Deep.QuietTactic
import Derived.BigQuiet
import Derived.WalkKit
import Derived.Shelf.SlSortCmp.Kit1
import Derived.Test.YtebnoigmepfdcaaDoorAS
import Derived.Test.YtebnoigmepfdcaaDoorM1
import Derived.Shelf.SlGeneric
import Derived.Test.YtebnoigmepfdcaaDoorAQ3
set_option linter.unusedSectionVars false
set_option linter.unusedSimpArgs false
set_option linter.unusedVariables false

/- What the closure of labels.sorted answers: a walk, with the worlds as they are. -/
namespace Go.Avm
open Go Go.Proofs Go.Shelf Go.RowKit Go.Lib Go.Sort
/-- A label comes before another one. -/
def lessB (lev : Nat → Int) (a b : Nat) : Bool := if lev a = lev b then decide (a < b) else decide (lev a < lev b)
/-- The order of two labels. -/
def cmpI (lev : Nat → Int) (a b : Nat) : Int := if lessB lev a b then -1 else if lessB lev b a then 1 else 0
set_option maxHeartbeats 2000000 in
theorem z_less (lb n c : Nat) (lev : Nat → Int) (W : World) (hc : ∀ t, t < n → W.cell? ⟨lb, t, none⟩ = some (.int .i64 (lev t))) (i j : Nat) (hi : i < n) (hj : j < n) :
    Calls Tryd.prog 112 #[.slice (some ⟨lb, 0, none⟩) n c, .int .i64 i, .int .i64 j] W fun e w' => e = .returned (.bool (lessB lev i j)) ∧ ∃ q, w' = W.drewN q := by
  have ci := hc i hi
  have cj := hc j hj
  have e1 : (lev i != lev j) = true → lessB lev i j = decide (lev i < lev j) := fun h => by
    have : ¬ lev i = lev j := by simpa using h
    simp only [lessB, this, if_false]
  have e2 : (lev i != lev j) = false → lessB lev i j = decide (i < j) := fun h => by
    have : lev i = lev j := by simpa using h
    simp only [lessB, this, if_true]
  generalize lessB lev i j = r at e1 e2 ⊢
  go_enter Tryd.func112, Tryd.ntmps112
  go_wp2
  go_quiet (fail)
  go_wp2
  · rename_i hb _ _
    go_quiet (fail)
    go_wp2
    go_ret
    exact ⟨by rw [e1 hb]; rfl, _, World.drewN_drewN _ _ _⟩
  · rename_i hb
    go_ret
    exact ⟨by rw [e2 hb]; rfl, _, rfl⟩
theorem z_meth (a : Option Addr) (n c : Nat) (w : World) : (method 254 60 (.slice a n c) "invigilator/labels.less").run Tryd.prog w = .ok (112, .slice a n c) w := by kernel_rfl
set_option maxRecDepth 100000 in
set_option maxHeartbeats 2000000 in
theorem z_compare (lb n c : Nat) (lev : Nat → Int) (W : World) (hc : ∀ t, t < n → W.cell? ⟨lb, t, none⟩ = some (.int .i64 (lev t))) (i j : Nat) (hi : i < n) (hj : j < n) :
    Calls Tryd.prog 37 #[.iface 60 (.slice (some ⟨lb, 0, none⟩) n c), .int .i64 i, .int .i64 j] W fun e w' => e = .returned (.int .i64 (cmpI lev i j)) ∧ ∃ q, w' = W.drewN q := by
  have hm := z_meth (some ⟨lb, 0, none⟩) n c
  have A : Aside (∀ t, t < n → W.cell? ⟨lb, t, none⟩ = some (.int .i64 (lev t))) := hc
  clear hc
  have e0 : cmpI lev i j = if lessB lev i j then -1 else if lessB lev j i then 1 else 0 := rfl
  generalize cmpI lev i j = r at e0 ⊢
  go_enter Tryd.func37, Tryd.ntmps37
  go_wp2_with (go_at_call 112; refine Calls.mono (z_less lb n c lev _ (by intro t ht; simpa using A.out t ht) _ _ (by assumption) (by assumption)) ?_; rintro e w' ⟨rfl, q, rfl⟩)
  all_goals
    go_ret
    simp_all
    exact ⟨_, rfl⟩
set_option maxHeartbeats 2000000 in
theorem z_closure (cb lb n c : Nat) (lev : Nat → Int) (W : World) (hb : W.cell? ⟨cb, 0, none⟩ = some (.slice (some ⟨lb, 0, none⟩) n c)) (hc : ∀ t, t < n → W.cell? ⟨lb, t, none⟩ = some (.int .i64 (lev t))) (i j : Nat) (hi : i < n) (hj : j < n) :
    Calls Tryd.prog 36 #[.int .i64 i, .int .i64 j, .pointer (some ⟨cb, 0, none⟩)] W fun e w' => e = .returned (.int .i64 (cmpI lev i j)) ∧ ∃ q, w' = W.drewN q := by
  have A : Aside (∀ t, t < n → W.cell? ⟨lb, t, none⟩ = some (.int .i64 (lev t))) := hc
  clear hc
  go_enter Tryd.func36, Tryd.ntmps36
  go_wp2_with (go_at_call 37; refine Calls.mono (z_compare lb n c lev _ (by intro t ht; simpa using A.out t ht) _ _ (by assumption) (by assumption)) ?_; rintro e w' ⟨rfl, q, rfl⟩)
  go_ret
  exact ⟨rfl, _, rfl⟩
end Go.Avm

/- Sorting by levels. -/
namespace Go.Avm
open Go Go.Proofs Go.Shelf Go.RowKit Go.Lib Go.Sort
def zSortL_ren : Go.Shelf.Ren := ⟨fun | 6 => 35 | 15 => 51 | 14 => 50 | 28 => 65 | 29 => 66 | 20 => 57 | 21 => 58 | 22 => 59 | 23 => 60 | 24 => 61 | 25 => 62 | 26 => 63 | 27 => 64 | 46 => 71 | 47 => 72 | 48 => 73 | 49 => 74 | 50 => 75 | 57 => 83 | n => n, fun | 22 => 26 | 24 => 3 | 25 => 57 | 3 => 3 | 39 => 89 | 0 => 0 | 53 => 104 | 55 => 106 | 4 => 4 | 46 => 97 | 45 => 96 | 50 => 101 | 5 => 5 | 9 => 9 | 66 => 112 | 70 => 116 | 76 => 125 | 77 => 126 | n => n, fun | n => n⟩
theorem zSortL : Go.Proofs.SlLaysF.n6 Tryd.prog zSortL_ren := {
  mixed := by kernel_rfl
  f6 := ⟨Tryd.f35.name, by decide, Tryd.func35.trans (congrArg some (by kernel_rfl))⟩
  f14 := ⟨Tryd.f50.name, by decide, Tryd.func50.trans (congrArg some (by kernel_rfl))⟩
  f15 := Tryd.func51.trans (congrArg some (by kernel_rfl))
  f20 := ⟨Tryd.f57.name, by decide, Tryd.func57.trans (congrArg some (by kernel_rfl))⟩
  f21 := ⟨Tryd.f58.name, by decide, Tryd.func58.trans (congrArg some (by kernel_rfl))⟩
  f22 := ⟨Tryd.f59.name, by decide, Tryd.func59.trans (congrArg some (by kernel_rfl))⟩
  f23 := ⟨Tryd.f60.name, by decide, Tryd.func60.trans (congrArg some (by kernel_rfl))⟩
  f24 := ⟨Tryd.f61.name, by decide, Tryd.func61.trans (congrArg some (by kernel_rfl))⟩
  f25 := ⟨Tryd.f62.name, by decide, Tryd.func62.trans (congrArg some (by kernel_rfl))⟩
  f26 := ⟨Tryd.f63.name, by decide, Tryd.func63.trans (congrArg some (by kernel_rfl))⟩
  f27 := ⟨Tryd.f64.name, by decide, Tryd.func64.trans (congrArg some (by kernel_rfl))⟩
  f28 := Tryd.func65.trans (congrArg some (by kernel_rfl))
  f29 := Tryd.func66.trans (congrArg some (by kernel_rfl))
  f46 := ⟨Tryd.f71.name, by decide, Tryd.func71.trans (congrArg some (by kernel_rfl))⟩
  f47 := Tryd.func72.trans (congrArg some (by kernel_rfl))
  f48 := Tryd.func73.trans (congrArg some (by kernel_rfl))
  f49 := ⟨Tryd.f74.name, by decide, Tryd.func74.trans (congrArg some (by kernel_rfl))⟩
  f50 := ⟨Tryd.f75.name, by decide, Tryd.func75.trans (congrArg some (by kernel_rfl))⟩
  f57 := ⟨Tryd.f83.name, by decide, Tryd.func83.trans (congrArg some (by kernel_rfl))⟩
  t0 := Tryd.underlying0
  a0 := Tryd.isAgg0
  z0 := Tryd.sizeOf0
  v0 := Tryd.zeroValue0
  t3 := Tryd.underlying3
  a3 := Tryd.isAgg3
  z3 := Tryd.sizeOf3
  v3 := Tryd.zeroValue3
  t4 := Tryd.underlying4
  a4 := Tryd.isAgg4
  z4 := Tryd.sizeOf4
  v4 := Tryd.zeroValue4
  t5 := Tryd.underlying5
  a5 := Tryd.isAgg5
  z5 := Tryd.sizeOf5
  v5 := Tryd.zeroValue5
  t9 := Tryd.underlying9
  a9 := Tryd.isAgg9
  z9 := Tryd.sizeOf9
  v9 := Tryd.zeroValue9
  t22 := Tryd.underlying26
  a22 := Tryd.isAgg26
  z22 := Tryd.sizeOf26
  v22 := Tryd.zeroValue26
  a24 := Tryd.isAgg3
  z24 := Tryd.sizeOf3
  t25 := Tryd.underlying57
  a25 := Tryd.isAgg57
  z25 := Tryd.sizeOf57
  v25 := Tryd.zeroValue57
  t39 := Tryd.underlying89
  a39 := Tryd.isAgg89
  z39 := Tryd.sizeOf89
  v39 := Tryd.zeroValue89
  t45 := Tryd.underlying96
  a45 := Tryd.isAgg96
  z45 := Tryd.sizeOf96
  v45 := Tryd.zeroValue96
  t46 := Tryd.underlying97
  a46 := Tryd.isAgg97
  z46 := Tryd.sizeOf97
  v46 := Tryd.zeroValue97
  t50 := Tryd.underlying101
  a50 := Tryd.isAgg101
  z50 := Tryd.sizeOf101
  v50 := Tryd.zeroValue101
  t53 := Tryd.underlying104
  a53 := Tryd.isAgg104
  z53 := Tryd.sizeOf104
  v53 := Tryd.zeroValue104
  t55 := Tryd.underlying106
  a55 := Tryd.isAgg106
  z55 := Tryd.sizeOf106
  v55 := Tryd.zeroValue106
  t66 := Tryd.underlying112
  a66 := Tryd.isAgg112
  z66 := Tryd.sizeOf112
  v66 := Tryd.zeroValue112
  t70 := Tryd.underlying116
  a70 := Tryd.isAgg116
  z70 := Tryd.sizeOf116
  v70 := Tryd.zeroValue116
  t76 := Tryd.underlying125
  a76 := Tryd.isAgg125
  z76 := Tryd.sizeOf125
  v76 := Tryd.zeroValue125
  t77 := Tryd.underlying126
  a77 := Tryd.isAgg126
  z77 := Tryd.sizeOf126
  v77 := Tryd.zeroValue126 }
section
variable {m : Nat}
def cmpF (lev : Nat → Int) (a b : Fin (m + 1)) : Int := cmpI lev a.val b.val
theorem lessB_irr (lev : Nat → Int) (a : Nat) : lessB lev a a = false := by simp [lessB]
theorem lessB_iff {lev : Nat → Int} {a b : Nat} : lessB lev a b = true ↔ lev a < lev b ∨ (lev a = lev b ∧ a < b) := by
  unfold lessB
  split <;> simp <;> omega
theorem ltOf_cmpF (lev : Nat → Int) (a b : Fin (m + 1)) : ltOf (cmpF lev) a b = lessB lev a.val b.val := by
  unfold ltOf cmpF cmpI
  cases h1 : lessB lev a.val b.val with
  | true => simp
  | false => cases h2 : lessB lev b.val a.val <;> simp
theorem swo_cmpF (lev : Nat → Int) : SWO (ltOf (cmpF (m := m) lev)) where
  irrefl x := by rw [ltOf_cmpF]; exact lessB_irr _ _
  trans x y z h1 h2 := by rw [ltOf_cmpF, lessB_iff] at *; omega
  ntrans x y z h1 h2 := by
    rw [ltOf_cmpF] at *
    rw [← Bool.not_eq_true, lessB_iff] at *
    omega
theorem tot_cmpF (lev : Nat → Int) (x y : Fin (m + 1)) (h1 : ltOf (cmpF lev) x y = false) (h2 : ltOf (cmpF lev) y x = false) : x = y := by
  rw [ltOf_cmpF, ← Bool.not_eq_true, lessB_iff] at *
  exact Fin.ext (by omega)
end
section
variable {X : Cx} (hX : X.P = Go.Proofs.Tryd.prog)
include hX
/-- The closure's contract, for the sort's worlds. -/
theorem z_cmpLays {m il ib id : Nat} {lev : Nat → Int} {H : Heap} {c : Nat} {rest : List AV} {cs : List AV} {g : Gh} {w : World} {us : List Value} {b size : Nat}
    (hil : H[il]? = some (.box ((List.range (m + 1)).map (fun a => AV.int .i64 (lev a)) ++ rest))) (hib : H[ib]? = some (.box [.rsl il 0 (m + 1) c 1])) (n1 : il ≠ id) (n2 : ib ≠ id) (hid : H[id]? = some (.box cs))
    (hwf : Wf X.G g w) (hhr : HR g w H) (hus : RelL [.ptr ib 0] g w us) (hb : g.bx id = some b) :
    CmpLays1 X.P F_labels_sorted_1 us.toArray (fun x : Fin (m + 1) => Value.int .i64 (x.val : Int)) (cmpF lev) b 0 size w := by
  simp only [RelL, Rel] at hus
  obtain ⟨v1, r1, rfl, ⟨bb, rfl, hbb⟩, rfl⟩ := hus
  obtain ⟨bb', arr, e, fz, k1, k2, k3⟩ := hhr.blk ib _ hib
  obtain rfl := Option.some.inj (k1.symm.trans hbb)
  simp only [RelL, Rel] at k3
  obtain ⟨v, r, k4, ⟨a, bl, rfl, hbl, hcap, hor⟩, rfl⟩ := k3
  have ha : a = some ⟨bl, 0, none⟩ := by
    rcases hor with h | h
    · omega
    · exact h
  subst ha
  have c1 : w.cell? ⟨bb', 0, none⟩ = some (.slice (some ⟨bl, 0, none⟩) (m + 1) c) := by
    have : arr[0]? = some (.slice (some ⟨bl, 0, none⟩) (m + 1) c) := by rw [← Array.getElem?_toList, k4]; rfl
    simp only [World.cell?, k2, Option.isSome_none, Bool.false_eq_true, if_false, this]
  have c2 : ∀ t, t < m + 1 → w.cell? ⟨bl, t, none⟩ = some (.int .i64 (lev t)) := fun t ht => by
    have h := (holds_box hwf hhr hil hbl (Value.int .i64) ((List.range (m + 1)).map lev) fun vs h => ints_rel _ (by simpa [List.map_map, Function.comp_def] using h)).1 t (by simpa using ht)
    rw [Nat.zero_add] at h
    rw [h.1]
    simp [ht]
  have hne1 : bb' ≠ b := fun e => n2 (hwf.inj ib id b (e ▸ hbb) hb)
  have hne2 : bl ≠ b := fun e => n1 (hwf.inj il id b (e ▸ hbl) hb)
  intro q os dk hs x y
  rw [hX]
  refine (z_closure bb' bl (m + 1) c lev (sortWorld _ w b 0 q dk os) (cell_sortWorld _ w b 0 q dk os hne1 c1) (fun t ht => cell_sortWorld _ w b 0 q dk os hne2 (c2 t ht)) x.val y.val x.isLt y.isLt).mono ?_
  rintro e w' ⟨rfl, q', rfl⟩
  exact ⟨rfl, q', #[], (grow_empty _).symm⟩
end
end Go.Avm

/- The contract of labels.sorted. -/
namespace Go.Avm
open Go Go.Proofs Go.Shelf Go.RowKit Go.Lib Go.Sort
def zCloneL_ren : Go.Shelf.Ren := ⟨fun | 15 => 34 | n => n, fun | 22 => 26 | 3 => 3 | 4 => 4 | n => n, fun | n => n⟩
theorem zCloneL : Go.Proofs.Lays2.n15 Tryd.prog zCloneL_ren := {
  mixed := by kernel_rfl
  f15 := Tryd.func34.trans (congrArg some (by kernel_rfl))
  t3 := Tryd.underlying3
  a3 := Tryd.isAgg3
  z3 := Tryd.sizeOf3
  v3 := Tryd.zeroValue3
  t4 := Tryd.underlying4
  a4 := Tryd.isAgg4
  z4 := Tryd.sizeOf4
  v4 := Tryd.zeroValue4
  t22 := Tryd.underlying26
  a22 := Tryd.isAgg26
  z22 := Tryd.sizeOf26
  v22 := Tryd.zeroValue26
  i3 := by kernel_rfl }
def zCompactL_ren : Go.Shelf.Ren := ⟨fun | 20 => 38 | n => n, fun | 22 => 26 | 3 => 3 | 4 => 4 | 0 => 0 | n => n, fun | n => n⟩
theorem zCompactL : Go.Proofs.Lays2.n20 Tryd.prog zCompactL_ren := {
  mixed := by kernel_rfl
  f20 := Tryd.func38.trans (congrArg some (by kernel_rfl))
  t0 := Tryd.underlying0
  a0 := Tryd.isAgg0
  z0 := Tryd.sizeOf0
  v0 := Tryd.zeroValue0
  t3 := Tryd.underlying3
  a3 := Tryd.isAgg3
  z3 := Tryd.sizeOf3
  v3 := Tryd.zeroValue3
  t4 := Tryd.underlying4
  a4 := Tryd.isAgg4
  z4 := Tryd.sizeOf4
  v4 := Tryd.zeroValue4
  t22 := Tryd.underlying26
  a22 := Tryd.isAgg26
  z22 := Tryd.sizeOf26
  v22 := Tryd.zeroValue26
  i3 := by kernel_rfl }
/-- numbers of labels -/
def nl (l : List Nat) : List Int := l.map fun a : Nat => (a : Int)
section
variable {X : Cx} (hX : X.P = Go.Proofs.Tryd.prog)
include hX
theorem z_Clone (p : Perm) (l : List Int) (hl : l.length < 1000000) (H : Heap) : EvM X F_slices_Clone_int_int [lst (AV.int .i64) p l] H (CloneR l H) := by
  have L : Lays2.n15 X.P zCloneL_ren := hX ▸ zCloneL
  exact ev_s_Clone L ⟨Go.Proofs.Tryd.f34, by rw [hX]; exact Go.Proofs.Tryd.func34, by decide, by kernel_rfl⟩ p l (by omega) H
theorem z_body35 : HasBody X F_slices_SortFunc_int_int := ⟨Go.Proofs.Tryd.f35, by rw [hX]; exact Go.Proofs.Tryd.func35, by decide, by kernel_rfl⟩
theorem z_body38 : HasBody X F_slices_Compact_int_int := ⟨Go.Proofs.Tryd.f38, by rw [hX]; exact Go.Proofs.Tryd.func38, by decide, by kernel_rfl⟩
theorem z_Sort {m il ib id : Nat} {lev : Nat → Int} {H : Heap} {c k : Nat} {rest : List AV} (d : List (Fin (m + 1))) (hd : d.length < 1000000)
    (hil : H[il]? = some (.box ((List.range (m + 1)).map (fun a => AV.int .i64 (lev a)) ++ rest))) (hib : H[ib]? = some (.box [.rsl il 0 (m + 1) c 1])) (n1 : il ≠ id) (n2 : ib ≠ id) (hid : H[id]? = some (.box (d.map (fun x => AV.int .i64 (x.val : Int)) ++ List.replicate k .undef))) :
    EvM X F_slices_SortFunc_int_int [.rsl id 0 d.length (d.length + k) 1, .clo F_labels_sorted_1 [] [.ptr ib 0]] H fun r' H' => r' = .tuple [] ∧ H' = H.set id (.box ((d.mergeSort fun x y => !(ltOf (cmpF lev)) y x).map (fun x => AV.int .i64 (x.val : Int)) ++ List.replicate k .undef)) := by
  have L : SlLaysF.n6 X.P zSortL_ren := hX ▸ zSortL
  have eg : ∀ args w, (callFunc F_labels_sorted_1 args).run X.P w = .ok (.enter F_labels_sorted_1 args) w := by
    rw [hX]
    exact enters_of Go.Proofs.Tryd.func36 (by kernel_rfl) rfl
  exact ev_s_Sort L (z_body35 hX) (cmpF lev) (swo_cmpF lev) (tot_cmpF lev) F_labels_sorted_1 eg [.ptr ib 0] d hd id k H hid fun g w us b hwf hhr hus hb => z_cmpLays hX hil hib n1 n2 hid hwf hhr hus hb
theorem z_Sort0 (caps : List AV) (H : Heap) : EvM X F_slices_SortFunc_int_int [.sl .ro [], .clo F_labels_sorted_1 [] caps] H fun r' H' => r' = .tuple [] ∧ H' = H := by
  have L : SlLaysF.n6 X.P zSortL_ren := hX ▸ zSortL
  exact ev_s_Sort0 L (z_body35 hX) F_labels_sorted_1 caps H
theorem z_Compact (l : List Int) (hl : l.length < 1000000) (id k : Nat) (H : Heap) (hid : H[id]? = some (.box (l.map (AV.int .i64) ++ List.replicate k .undef))) :
    EvM X F_slices_Compact_int_int [.rsl id 0 l.length (l.length + k) 1] H fun r' H' => r' = .rsl id 0 (Lib.compact l).length (l.length + k) 1 ∧ H' = H.set id (.box ((Lib.compact l ++ List.replicate (l.length - (Lib.compact l).length) 0).map (AV.int .i64) ++ List.replicate k .undef)) := by
  have L : Lays2.n20 X.P zCompactL_ren := hX ▸ zCompactL
  exact ev_s_Compact L (z_body38 hX) l hl id k H hid
theorem z_Compact0 (H : Heap) : EvM X F_slices_Compact_int_int [.sl .ro []] H fun r' H' => r' = .sl .ro [] ∧ H' = H := by
  have L : Lays2.n20 X.P zCompactL_ren := hX ▸ zCompactL
  exact ev_s_Compact0 L (z_body38 hX) H
end
/-- Levels, as far as they are counted. -/
def lvl (up : List UInt8) (n b a : Nat) : List AV := tb n fun x => .int .i64 (if x < b then Lat.lv up n x else if x = b then Lat.cnt (fun y => Lat.le up y b) a else 0 : Nat)
theorem lvl_len (up : List UInt8) (n b a : Nat) : (lvl up n b a).length = n := tb_len _ _
theorem lvl_get {up : List UInt8} {n b a : Nat} (hb : b < n) : (lvl up n b a)[b]? = some (.int .i64 (Lat.cnt (fun y => Lat.le up y b) a : Nat)) := by
  unfold lvl
  rw [tb_get? _ hb, if_neg (Nat.lt_irrefl b), if_pos rfl]
theorem lvl_up {up : List UInt8} {n b a : Nat} (h : Lat.le up a b = true) : (lvl up n b a).set b (.int .i64 ((Lat.cnt (fun y => Lat.le up y b) a : Nat) + 1)) = lvl up n b (a + 1) := by
  unfold lvl
  rw [tb_set]
  refine tb_congr fun x hx => ?_
  by_cases e : x = b
  · subst e
    simp only [if_true, Nat.lt_irrefl, if_false, Lat.cnt, h]
    rfl
  · simp only [e, if_false]
theorem lvl_no {up : List UInt8} {n b a : Nat} (h : Lat.le up a b = false) : lvl up n b a = lvl up n b (a + 1) := by
  refine tb_congr fun x hx => ?_
  by_cases e : x = b
  · subst e
    simp [Lat.cnt, h]
  · simp only [e, if_false]
theorem lvl_end {up : List UInt8} {n b : Nat} : lvl up n b n = lvl up n (b + 1) 0 := by
  refine tb_congr fun x hx => ?_
  by_cases e : x < b
  · simp only [e, if_true, show x < b + 1 by omega]
  · by_cases e2 : x = b
    · subst e2
      simp only [Nat.lt_irrefl, if_false, if_true, show x < x + 1 by omega]
      rfl
    · simp only [e, e2, if_false, show ¬ x < b + 1 by omega, Lat.cnt, ite_self]
theorem lvl_getD {up : List UInt8} {n b a : Nat} (hb : b < n) : (lvl up n b a).getD b .undef = .int .i64 (Lat.cnt (fun y => Lat.le up y b) a : Nat) := by
  rw [List.getD_eq_getElem?_getD, lvl_get hb]
  rfl
theorem lvl_all {up : List UInt8} {n : Nat} : lvl up n n 0 = tb n fun x => .int .i64 (Lat.lv up n x : Nat) := tb_congr fun x hx => by rw [if_pos hx]
theorem srt_nil (up : List UInt8) (n : Nat) : Lat.srt up n [] = [] := by
  simp [Lat.srt]
theorem lvl_0 {up : List UInt8} {n : Nat} : (tb n fun _ => AV.int .i64 0) = lvl up n 0 0 := tb_congr fun x hx => by
  simp only [Nat.not_lt_zero, if_false, Lat.cnt, ite_self]
  rfl
theorem fin_row (H : Heap) (L : List Int) (rest : List AV) :
    (bif decide (L.length ≤ (L.map (AV.int .i64) ++ rest).length) && ((L.map (AV.int .i64) ++ rest).all scalarB || (List.take L.length (L.map (AV.int .i64) ++ rest)).all scalarB) then AV.sl .ro (List.map (fin H 0) (List.take L.length (L.map (AV.int .i64) ++ rest))) else AV.undef) = lst (AV.int .i64) .ro L := by
  have e : List.take L.length (L.map (AV.int .i64) ++ rest) = L.map (AV.int .i64) := by
    rw [List.take_append_of_le_length (by simp)]
    exact List.take_of_length_le (by simp)
  have e2 : (L.map (AV.int .i64)).all scalarB = true := by
    rw [List.all_map]
    exact List.all_eq_true.2 fun x _ => rfl
  rw [e, e2, Bool.or_true, Bool.and_true, List.length_append, List.length_map, decide_eq_true (by omega), cond_true, List.map_map]
  rfl
set_option maxRecDepth 10000
section
variable {X : Cx} (hX : X.P = Go.Proofs.Tryd.prog) (hs : Std X)
include hX hs
/-- a lattice, where it lies -/
def latP (ns : List (List UInt8)) (up : List UInt8) : AV := .vp [lst AV.str .ro ns, lst u8 .ro up]
theorem ev_obelow (ns : List (List UInt8)) (up : List UInt8) (a b : Nat) (ha : a < up.length) (hb : b < 1000000) : Ev X F_labels_order_below [latP ns up, .int .i64 a, .int .i64 b] (.bool (Lat.le up a b)) := by
  refine ev_of_wpc hs (A_labels_order_below_ok hX) 1 ?_
  simp only [A_labels_order_below, latP, go_sem, Nat.reduceMod, Nat.reduceBNe, Nat.reduceBEq, Nat.reduceEqDiff, Nat.reduceAdd, Int.reduceAdd, Nat.reduceMul, Nat.reduceSub, Int.reduceToNat, Int.reduceLE, Int.reduceLT, Int.reduceEq, Int.reduceNe, reduceCtorEq, Nat.reduceLT, Nat.reduceLeDiff]
  simp only [go_sem, Nat.reduceMod, Nat.reduceBNe, Nat.reduceBEq, Nat.reduceEqDiff, Nat.reduceAdd, Int.reduceAdd, Nat.reduceMul, Nat.reduceSub, Int.reduceToNat, Int.reduceLE, Int.reduceLT, Int.reduceEq, Int.reduceNe, reduceCtorEq, Nat.reduceLT, Nat.reduceLeDiff, getD_def, bt_and b (Lat.msk_lt up a), if1]
  exact ⟨⟨by omega, by omega⟩, by omega, by simp only [Lat.le, Bool.decide_eq_true]⟩
theorem ev_sorted (ns : List (List UInt8)) (up : List UInt8) (hv : Lat.Val ns.length up) (l : List Nat) (hl : ∀ x ∈ l, x < ns.length) (h100 : l.length < 1000000) :
    EvM X F_labels_sorted [.ptr 1 0, lst (AV.int .i64) .ro (nl l)] [.box [lst AV.str .ro ns, lst u8 .ro up], .box [lst AV.str .ro ns, lst u8 .ro up]] fun r H' => fin H' 1 r = lst (AV.int .i64) .ro (nl (Lat.srt up ns.length l)) := by
  refine evM_of_wpc hs (A_labels_sorted_ok hX) ?_
  have h8 := hv.le8
  have hp := hv.pos
  have hup := hv.len
  simp only [A_labels_sorted, latP, go_sem, Nat.reduceMod, Nat.reduceBNe, Nat.reduceBEq, Nat.reduceEqDiff, Nat.reduceAdd, Int.reduceAdd, Nat.reduceMul, Nat.reduceSub, Int.reduceToNat, Int.reduceLE, Int.reduceLT, Int.reduceEq, Int.reduceNe, reduceCtorEq, Nat.reduceLT, Nat.reduceLeDiff]
  refine ⟨by omega, ?_⟩
  refine w_loop' hs.hm (ι := Nat) (fun b => b ≤ ns.length) (fun b => [(20, .int .i64 b), (19, .int .i64 ns.length), (0, .ptr 1 0), (1, lst (AV.int .i64) .ro (nl l)), (5, .ptr 3 0)]) (fun b => [.box [lst AV.str .ro ns, lst u8 .ro up], .box [lst AV.str .ro ns, lst u8 .ro up], .box (lvl up ns.length b 0), .box [.rsl 2 0 ns.length ns.length 1]]) (fun b => ns.length - b) 0 ?_ fun b hb => ?_
  · simp only [go_sem, Nat.reduceMod, Nat.reduceBNe, Nat.reduceBEq, Nat.reduceEqDiff, Nat.reduceAdd, Int.reduceAdd, Nat.reduceMul, Nat.reduceSub, Int.reduceToNat, Int.reduceLE, Int.reduceLT, Int.reduceEq, Int.reduceNe, reduceCtorEq, Nat.reduceLT, Nat.reduceLeDiff]
    exact ⟨Nat.zero_le _, by rw [lvl_0]⟩
  · simp only [A_labels_sortedL0, go_sem, Nat.reduceMod, Nat.reduceBNe, Nat.reduceBEq, Nat.reduceEqDiff, Nat.reduceAdd, Int.reduceAdd, Nat.reduceMul, Nat.reduceSub, Int.reduceToNat, Int.reduceLE, Int.reduceLT, Int.reduceEq, Int.reduceNe, reduceCtorEq, Nat.reduceLT, Nat.reduceLeDiff]
    refine ⟨fun hb' => ?_, fun hb' => ?_⟩
    · refine w_loop' hs.hm (ι := Nat) (fun a => a ≤ ns.length) (fun a => [(28, .int .i64 a), (27, .int .i64 ns.length), (6, .int .i64 b), (20, .int .i64 b), (19, .int .i64 ns.length), (0, .ptr 1 0), (1, lst (AV.int .i64) .ro (nl l)), (5, .ptr 3 0)]) (fun a => [.box [lst AV.str .ro ns, lst u8 .ro up], .box [lst AV.str .ro ns, lst u8 .ro up], .box (lvl up ns.length b a), .box [.rsl 2 0 ns.length ns.length 1]]) (fun a => ns.length - a) 0 ?_ fun a ha => ?_
      · simp only [go_sem, Nat.reduceMod, Nat.reduceBNe, Nat.reduceBEq, Nat.reduceEqDiff, Nat.reduceAdd, Int.reduceAdd, Nat.reduceMul, Nat.reduceSub, Int.reduceToNat, Int.reduceLE, Int.reduceLT, Int.reduceEq, Int.reduceNe, reduceCtorEq, Nat.reduceLT, Nat.reduceLeDiff]
        exact Nat.zero_le _
      · simp only [A_labels_sortedL1, go_sem, Nat.reduceMod, Nat.reduceBNe, Nat.reduceBEq, Nat.reduceEqDiff, Nat.reduceAdd, Int.reduceAdd, Nat.reduceMul, Nat.reduceSub, Int.reduceToNat, Int.reduceLE, Int.reduceLT, Int.reduceEq, Int.reduceNe, reduceCtorEq, Nat.reduceLT, Nat.reduceLeDiff]
        refine ⟨fun ha' => ?_, fun ha' => ?_⟩
        · refine call_lend (ev_obelow hX hs ns up a b (by omega) (by omega)) rfl ?_
          have hbn : b < ns.length := by omega
          have han : a < ns.length := by omega
          have hc8 : Lat.cnt (fun y => Lat.le up y b) a ≤ a := Lat.cnt_le _ _
          cases hle : Lat.le up a b with
          | true =>
            simp only [go_sem, Nat.reduceMod, Nat.reduceBNe, Nat.reduceBEq, Nat.reduceEqDiff, Nat.reduceAdd, Int.reduceAdd, Nat.reduceMul, Nat.reduceSub, Int.reduceToNat, Int.reduceLE, Int.reduceLT, Int.reduceEq, Int.reduceNe, reduceCtorEq, Nat.reduceLT, Nat.reduceLeDiff, Nat.mul_one, lvl_getD hbn, lvl_len]
            exact ⟨⟨by omega, by omega⟩, hbn, ⟨by omega, by omega⟩, hbn, a + 1, by omega, by omega, by rw [wi64 (by omega)]; rfl, by rw [wi64 (by omega), lvl_up hle]⟩
          | false =>
            simp only [go_sem, Nat.reduceMod, Nat.reduceBNe, Nat.reduceBEq, Nat.reduceEqDiff, Nat.reduceAdd, Int.reduceAdd, Nat.reduceMul, Nat.reduceSub, Int.reduceToNat, Int.reduceLE, Int.reduceLT, Int.reduceEq, Int.reduceNe, reduceCtorEq, Nat.reduceLT, Nat.reduceLeDiff]
            exact ⟨a + 1, by omega, by omega, by rw [wi64 (by omega)]; rfl, by rw [lvl_no hle]⟩
        · obtain rfl : a = ns.length := by omega
          exact ⟨b + 1, by omega, by omega, by rw [wi64 (by omega)]; rfl, by rw [lvl_end]⟩
    · obtain rfl : b = ns.length := by omega
      obtain ⟨m, hm⟩ : ∃ m, ns.length = m + 1 := ⟨ns.length - 1, by omega⟩
      refine call_evm (z_Clone hX _ (nl l) (by simpa [nl] using h100) _) fun r H' hr => ?_
      rcases hr with ⟨e0, rfl, rfl⟩ | ⟨e0, k, rfl, rfl⟩
      · simp only [go_sem, Nat.reduceMod, Nat.reduceBNe, Nat.reduceBEq, Nat.reduceEqDiff, Nat.reduceAdd, Int.reduceAdd, Nat.reduceMul, Nat.reduceSub, Int.reduceToNat, Int.reduceLE, Int.reduceLT, Int.reduceEq, Int.reduceNe, reduceCtorEq, Nat.reduceLT, Nat.reduceLeDiff]
        refine call_evm (z_Sort0 hX _ _) fun r H' hr => ?_
        obtain ⟨rfl, rfl⟩ := hr
        simp only [go_sem, Nat.reduceMod, Nat.reduceBNe, Nat.reduceBEq, Nat.reduceEqDiff, Nat.reduceAdd, Int.reduceAdd, Nat.reduceMul, Nat.reduceSub, Int.reduceToNat, Int.reduceLE, Int.reduceLT, Int.reduceEq, Int.reduceNe, reduceCtorEq, Nat.reduceLT, Nat.reduceLeDiff]
        refine call_evm (z_Compact0 hX _) fun r H' hr => ?_
        obtain ⟨rfl, rfl⟩ := hr
        simp only [go_sem, Nat.reduceMod, Nat.reduceBNe, Nat.reduceBEq, Nat.reduceEqDiff, Nat.reduceAdd, Int.reduceAdd, Nat.reduceMul, Nat.reduceSub, Int.reduceToNat, Int.reduceLE, Int.reduceLT, Int.reduceEq, Int.reduceNe, reduceCtorEq, Nat.reduceLT, Nat.reduceLeDiff]
        have : l = [] := by simpa [nl] using e0
        subst this
        simp only [srt_nil]
        rfl
      · simp only [go_sem, Nat.reduceMod, Nat.reduceBNe, Nat.reduceBEq, Nat.reduceEqDiff, Nat.reduceAdd, Int.reduceAdd, Nat.reduceMul, Nat.reduceSub, Int.reduceToNat, Int.reduceLE, Int.reduceLT, Int.reduceEq, Int.reduceNe, reduceCtorEq, Nat.reduceLT, Nat.reduceLeDiff]
        let d : List (Fin (m + 1)) := l.map fun a => Fin.ofNat (m + 1) a
        have ed : d.map (fun x => AV.int .i64 (x.val : Int)) = (nl l).map (AV.int .i64) := by
          simp only [d, nl, List.map_map]
          refine List.map_congr_left fun x hx => ?_
          simp only [Function.comp_apply, Fin.val_ofNat]
          rw [Nat.mod_eq_of_lt (by have := hl x hx; omega)]
        have el : d.length = (nl l).length := by simp [d, nl]
        let d' := d.mergeSort fun x y => !(ltOf (cmpF fun a => (Lat.lv up ns.length a : Nat))) y x
        let Z : List Nat := d'.map (·.val)
        have hZl : Z.length = (nl l).length := by simp [Z, d', List.length_mergeSort, el]
        have eZ : d'.map (fun x => AV.int .i64 (x.val : Int)) = (nl Z).map (AV.int .i64) := by
          simp only [Z, nl, List.map_map]
          rfl
        have hn : (nl Z).length = Z.length := by simp [nl]
        have hc : Lib.compact (nl Z) = nl (Lat.srt up ns.length l) := by
          refine Lat.compact_srt hv hl (fun x => ?_) fun i j hij hj => ?_
          · simp only [Z, List.mem_map]
            constructor
            · rintro ⟨y, hy, rfl⟩
              have := List.mem_mergeSort.1 hy
              simp only [d, List.mem_map] at this
              obtain ⟨z, hz, rfl⟩ := this
              rw [Fin.val_ofNat, Nat.mod_eq_of_lt (by have := hl z hz; omega)]
              exact hz
            · intro hx
              refine ⟨Fin.ofNat (m + 1) x, List.mem_mergeSort.2 (List.mem_map.2 ⟨x, hx, rfl⟩), ?_⟩
              rw [Fin.val_ofNat, Nat.mod_eq_of_lt (by have := hl x hx; omega)]
          · have hp : d'.Pairwise fun x y => (!(ltOf (cmpF fun a => (Lat.lv up ns.length a : Nat))) y x) = true := by
              refine List.pairwise_mergeSort (fun a b c h1 h2 => ?_) (fun a b => ?_) d
              · simp only [Bool.not_eq_true', ltOf_cmpF] at *
                rw [← Bool.not_eq_true, lessB_iff] at *
                omega
              · rw [Bool.or_eq_true]
                simp only [Bool.not_eq_true', ltOf_cmpF]
                rw [← Bool.not_eq_true, ← Bool.not_eq_true, lessB_iff, lessB_iff]
                omega
            have hp2 : Z.Pairwise fun x y => ¬ Lat.kl up ns.length y x = true := by
              rw [List.pairwise_map]
              refine hp.imp fun {a b} h => ?_
              simp only [Bool.not_eq_true', ltOf_cmpF] at h
              rw [← Bool.not_eq_true, lessB_iff] at h
              rw [Lat.kl_iff]
              omega
            rw [List.getD_eq_getElem?_getD, List.getD_eq_getElem?_getD, List.getElem?_eq_getElem hj, List.getElem?_eq_getElem (by omega)]
            exact List.pairwise_iff_getElem.1 hp2 i j (by omega) hj hij
        rw [← el, ← ed]
        refine call_evm (z_Sort hX (m := m) (il := 2) (ib := 3) (id := 4) (lev := fun a => (Lat.lv up ns.length a : Nat)) (c := m + 1) (k := k) (rest := []) d (by rw [el]; simpa [nl] using h100) ?_ ?_ (by omega) (by omega) rfl) fun r H' hr => ?_
        · rw [lvl_all, hm, List.append_nil]
          rfl
        · rw [hm]
          rfl
        obtain ⟨rfl, rfl⟩ := hr
        have eZ2 : (d.mergeSort fun x y => !(ltOf (cmpF fun a => (Lat.lv up ns.length a : Nat))) y x).map (fun x => AV.int .i64 (x.val : Int)) = (nl Z).map (AV.int .i64) := eZ
        rw [eZ2]
        simp only [go_sem, Nat.reduceMod, Nat.reduceBNe, Nat.reduceBEq, Nat.reduceEqDiff, Nat.reduceAdd, Int.reduceAdd, Nat.reduceMul, Nat.reduceSub, Int.reduceToNat, Int.reduceLE, Int.reduceLT, Int.reduceEq, Int.reduceNe, reduceCtorEq, Nat.reduceLT, Nat.reduceLeDiff]
        have e3 : d.length = (nl Z).length := by rw [hn, hZl, el]
        rw [e3]
        refine call_evm (z_Compact hX (nl Z) (by rw [hn, hZl]; simpa [nl] using h100) 4 k _ rfl) fun r H' hr => ?_
        obtain ⟨rfl, rfl⟩ := hr
        rw [hc]
        simp only [go_sem, Nat.reduceMod, Nat.reduceBNe, Nat.reduceBEq, Nat.reduceEqDiff, Nat.reduceAdd, Int.reduceAdd, Nat.reduceMul, Nat.reduceSub, Int.reduceToNat, Int.reduceLE, Int.reduceLT, Int.reduceEq, Int.reduceNe, reduceCtorEq, Nat.reduceLT, Nat.reduceLeDiff]
        rw [List.map_append, List.append_assoc]
        exact fin_row _ _ _
theorem ev_sortedT (ns : List (List UInt8)) (up : List UInt8) (a0 : Int) (hv : Lat.Val ns.length up) (l : List Nat) (hl : ∀ x ∈ l, x < ns.length) (h100 : l.length < 1000000) :
    EvM X F_labels_sorted [.ptr 3 0, lst (AV.int .i64) (.tok 4 1) (nl l)] [.box [lst AV.str .ro ns, lst u8 .ro up], .box [.int .i64 a0], .box [lst AV.str .ro ns, lst u8 .ro up], .box [lst AV.str .ro ns, lst u8 .ro up], .tok l.length] fun r H' => fin H' 1 r = lst (AV.int .i64) .ro (nl (Lat.srt up ns.length l)) := by
  refine evM_of_wpc hs (A_labels_sorted_ok hX) ?_
  have h8 := hv.le8
  have hp := hv.pos
  have hup := hv.len
  simp only [A_labels_sorted, latP, go_sem, Nat.reduceMod, Nat.reduceBNe, Nat.reduceBEq, Nat.reduceEqDiff, Nat.reduceAdd, Int.reduceAdd, Nat.reduceMul, Nat.reduceSub, Int.reduceToNat, Int.reduceLE, Int.reduceLT, Int.reduceEq, Int.reduceNe, reduceCtorEq, Nat.reduceLT, Nat.reduceLeDiff]
  refine ⟨by omega, ?_⟩
  refine w_loop' hs.hm (ι := Nat) (fun b => b ≤ ns.length) (fun b => [(20, .int .i64 b), (19, .int .i64 ns.length), (0, .ptr 3 0), (1, lst (AV.int .i64) (.tok 4 1) (nl l)), (5, .ptr 6 0)]) (fun b => [.box [lst AV.str .ro ns, lst u8 .ro up], .box [.int .i64 a0], .box [lst AV.str .ro ns, lst u8 .ro up], .box [lst AV.str .ro ns, lst u8 .ro up], .tok l.length, .box (lvl up ns.length b 0), .box [.rsl 5 0 ns.length ns.length 1]]) (fun b => ns.length - b) 0 ?_ fun b hb => ?_
  · simp only [go_sem, Nat.reduceMod, Nat.reduceBNe, Nat.reduceBEq, Nat.reduceEqDiff, Nat.reduceAdd, Int.reduceAdd, Nat.reduceMul, Nat.reduceSub, Int.reduceToNat, Int.reduceLE, Int.reduceLT, Int.reduceEq, Int.reduceNe, reduceCtorEq, Nat.reduceLT, Nat.reduceLeDiff]
    exact ⟨Nat.zero_le _, by rw [lvl_0]⟩
  · simp only [A_labels_sortedL0, go_sem, Nat.reduceMod, Nat.reduceBNe, Nat.reduceBEq, Nat.reduceEqDiff, Nat.reduceAdd, Int.reduceAdd, Nat.reduceMul, Nat.reduceSub, Int.reduceToNat, Int.reduceLE, Int.reduceLT, Int.reduceEq, Int.reduceNe, reduceCtorEq, Nat.reduceLT, Nat.reduceLeDiff]
    refine ⟨fun hb' => ?_, fun hb' => ?_⟩
    · refine w_loop' hs.hm (ι := Nat) (fun a => a ≤ ns.length) (fun a => [(28, .int .i64 a), (27, .int .i64 ns.length), (6, .int .i64 b), (20, .int .i64 b), (19, .int .i64 ns.length), (0, .ptr 3 0), (1, lst (AV.int .i64) (.tok 4 1) (nl l)), (5, .ptr 6 0)]) (fun a => [.box [lst AV.str .ro ns, lst u8 .ro up], .box [.int .i64 a0], .box [lst AV.str .ro ns, lst u8 .ro up], .box [lst AV.str .ro ns, lst u8 .ro up], .tok l.length, .box (lvl up ns.length b a), .box [.rsl 5 0 ns.length ns.length 1]]) (fun a => ns.length - a) 0 ?_ fun a ha => ?_
      · simp only [go_sem, Nat.reduceMod, Nat.reduceBNe, Nat.reduceBEq, Nat.reduceEqDiff, Nat.reduceAdd, Int.reduceAdd, Nat.reduceMul, Nat.reduceSub, Int.reduceToNat, Int.reduceLE, Int.reduceLT, Int.reduceEq, Int.reduceNe, reduceCtorEq, Nat.reduceLT, Nat.reduceLeDiff]
        exact Nat.zero_le _
      · simp only [A_labels_sortedL1, go_sem, Nat.reduceMod, Nat.reduceBNe, Nat.reduceBEq, Nat.reduceEqDiff, Nat.reduceAdd, Int.reduceAdd, Nat.reduceMul, Nat.reduceSub, Int.reduceToNat, Int.reduceLE, Int.reduceLT, Int.reduceEq, Int.reduceNe, reduceCtorEq, Nat.reduceLT, Nat.reduceLeDiff]
        refine ⟨fun ha' => ?_, fun ha' => ?_⟩
        · refine call_lend (ev_obelow hX hs ns up a b (by omega) (by omega)) rfl ?_
          have hbn : b < ns.length := by omega
          have han : a < ns.length := by omega
          have hc8 : Lat.cnt (fun y => Lat.le up y b) a ≤ a := Lat.cnt_le _ _
          cases hle : Lat.le up a b with
          | true =>
            simp only [go_sem, Nat.reduceMod, Nat.reduceBNe, Nat.reduceBEq, Nat.reduceEqDiff, Nat.reduceAdd, Int.reduceAdd, Nat.reduceMul, Nat.reduceSub, Int.reduceToNat, Int.reduceLE, Int.reduceLT, Int.reduceEq, Int.reduceNe, reduceCtorEq, Nat.reduceLT, Nat.reduceLeDiff, Nat.mul_one, lvl_getD hbn, lvl_len]
            exact ⟨⟨by omega, by omega⟩, hbn, ⟨by omega, by omega⟩, hbn, a + 1, by omega, by omega, by rw [wi64 (by omega)]; rfl, by rw [wi64 (by omega), lvl_up hle]⟩
          | false =>
            simp only [go_sem, Nat.reduceMod, Nat.reduceBNe, Nat.reduceBEq, Nat.reduceEqDiff, Nat.reduceAdd, Int.reduceAdd, Nat.reduceMul, Nat.reduceSub, Int.reduceToNat, Int.reduceLE, Int.reduceLT, Int.reduceEq, Int.reduceNe, reduceCtorEq, Nat.reduceLT, Nat.reduceLeDiff]
            exact ⟨a + 1, by omega, by omega, by rw [wi64 (by omega)]; rfl, by rw [lvl_no hle]⟩
        · obtain rfl : a = ns.length := by omega
          exact ⟨b + 1, by omega, by omega, by rw [wi64 (by omega)]; rfl, by rw [lvl_end]⟩
    · obtain rfl : b = ns.length := by omega
      obtain ⟨m, hm⟩ : ∃ m, ns.length = m + 1 := ⟨ns.length - 1, by omega⟩
      refine call_evm (z_Clone hX _ (nl l) (by simpa [nl] using h100) _) fun r H' hr => ?_
      rcases hr with ⟨e0, rfl, rfl⟩ | ⟨e0, k, rfl, rfl⟩
      · simp only [go_sem, Nat.reduceMod, Nat.reduceBNe, Nat.reduceBEq, Nat.reduceEqDiff, Nat.reduceAdd, Int.reduceAdd, Nat.reduceMul, Nat.reduceSub, Int.reduceToNat, Int.reduceLE, Int.reduceLT, Int.reduceEq, Int.reduceNe, reduceCtorEq, Nat.reduceLT, Nat.reduceLeDiff]
        refine call_evm (z_Sort0 hX _ _) fun r H' hr => ?_
        obtain ⟨rfl, rfl⟩ := hr
        simp only [go_sem, Nat.reduceMod, Nat.reduceBNe, Nat.reduceBEq, Nat.reduceEqDiff, Nat.reduceAdd, Int.reduceAdd, Nat.reduceMul, Nat.reduceSub, Int.reduceToNat, Int.reduceLE, Int.reduceLT, Int.reduceEq, Int.reduceNe, reduceCtorEq, Nat.reduceLT, Nat.reduceLeDiff]
        refine call_evm (z_Compact0 hX _) fun r H' hr => ?_
        obtain ⟨rfl, rfl⟩ := hr
        simp only [go_sem, Nat.reduceMod, Nat.reduceBNe, Nat.reduceBEq, Nat.reduceEqDiff, Nat.reduceAdd, Int.reduceAdd, Nat.reduceMul, Nat.reduceSub, Int.reduceToNat, Int.reduceLE, Int.reduceLT, Int.reduceEq, Int.reduceNe, reduceCtorEq, Nat.reduceLT, Nat.reduceLeDiff]
        have : l = [] := by simpa [nl] using e0
        subst this
        simp only [srt_nil]
        rfl
      · simp only [go_sem, Nat.reduceMod, Nat.reduceBNe, Nat.reduceBEq, Nat.reduceEqDiff, Nat.reduceAdd, Int.reduceAdd, Nat.reduceMul, Nat.reduceSub, Int.reduceToNat, Int.reduceLE, Int.reduceLT, Int.reduceEq, Int.reduceNe, reduceCtorEq, Nat.reduceLT, Nat.reduceLeDiff]
        let d : List (Fin (m + 1)) := l.map fun a => Fin.ofNat (m + 1) a
        have ed : d.map (fun x => AV.int .i64 (x.val : Int)) = (nl l).map (AV.int .i64) := by
          simp only [d, nl, List.map_map]
          refine List.map_congr_left fun x hx => ?_
          simp only [Function.comp_apply, Fin.val_ofNat]
          rw [Nat.mod_eq_of_lt (by have := hl x hx; omega)]
        have el : d.length = (nl l).length := by simp [d, nl]
        let d' := d.mergeSort fun x y => !(ltOf (cmpF fun a => (Lat.lv up ns.length a : Nat))) y x
        let Z : List Nat := d'.map (·.val)
        have hZl : Z.length = (nl l).length := by simp [Z, d', List.length_mergeSort, el]
        have eZ : d'.map (fun x => AV.int .i64 (x.val : Int)) = (nl Z).map (AV.int .i64) := by
          simp only [Z, nl, List.map_map]
          rfl
        have hn : (nl Z).length = Z.length := by simp [nl]
        have hc : Lib.compact (nl Z) = nl (Lat.srt up ns.length l) := by
          refine Lat.compact_srt hv hl (fun x => ?_) fun i j hij hj => ?_
          · simp only [Z, List.mem_map]
            constructor
            · rintro ⟨y, hy, rfl⟩
              have := List.mem_mergeSort.1 hy
              simp only [d, List.mem_map] at this
              obtain ⟨z, hz, rfl⟩ := this
              rw [Fin.val_ofNat, Nat.mod_eq_of_lt (by have := hl z hz; omega)]
              exact hz
            · intro hx
              refine ⟨Fin.ofNat (m + 1) x, List.mem_mergeSort.2 (List.mem_map.2 ⟨x, hx, rfl⟩), ?_⟩
              rw [Fin.val_ofNat, Nat.mod_eq_of_lt (by have := hl x hx; omega)]
          · have hp : d'.Pairwise fun x y => (!(ltOf (cmpF fun a => (Lat.lv up ns.length a : Nat))) y x) = true := by
              refine List.pairwise_mergeSort (fun a b c h1 h2 => ?_) (fun a b => ?_) d
              · simp only [Bool.not_eq_true', ltOf_cmpF] at *
                rw [← Bool.not_eq_true, lessB_iff] at *
                omega
              · rw [Bool.or_eq_true]
                simp only [Bool.not_eq_true', ltOf_cmpF]
                rw [← Bool.not_eq_true, ← Bool.not_eq_true, lessB_iff, lessB_iff]
                omega
            have hp2 : Z.Pairwise fun x y => ¬ Lat.kl up ns.length y x = true := by
              rw [List.pairwise_map]
              refine hp.imp fun {a b} h => ?_
              simp only [Bool.not_eq_true', ltOf_cmpF] at h
              rw [← Bool.not_eq_true, lessB_iff] at h
              rw [Lat.kl_iff]
              omega
            rw [List.getD_eq_getElem?_getD, List.getD_eq_getElem?_getD, List.getElem?_eq_getElem hj, List.getElem?_eq_getElem (by omega)]
            exact List.pairwise_iff_getElem.1 hp2 i j (by omega) hj hij
        rw [← el, ← ed]
        refine call_evm (z_Sort hX (m := m) (il := 5) (ib := 6) (id := 7) (lev := fun a => (Lat.lv up ns.length a : Nat)) (c := m + 1) (k := k) (rest := []) d (by rw [el]; simpa [nl] using h100) ?_ ?_ (by omega) (by omega) rfl) fun r H' hr => ?_
        · rw [lvl_all, hm, List.append_nil]
          rfl
        · rw [hm]
          rfl
        obtain ⟨rfl, rfl⟩ := hr
        have eZ2 : (d.mergeSort fun x y => !(ltOf (cmpF fun a => (Lat.lv up ns.length a : Nat))) y x).map (fun x => AV.int .i64 (x.val : Int)) = (nl Z).map (AV.int .i64) := eZ
        rw [eZ2]
        simp only [go_sem, Nat.reduceMod, Nat.reduceBNe, Nat.reduceBEq, Nat.reduceEqDiff, Nat.reduceAdd, Int.reduceAdd, Nat.reduceMul, Nat.reduceSub, Int.reduceToNat, Int.reduceLE, Int.reduceLT, Int.reduceEq, Int.reduceNe, reduceCtorEq, Nat.reduceLT, Nat.reduceLeDiff]
        have e3 : d.length = (nl Z).length := by rw [hn, hZl, el]
        rw [e3]
        refine call_evm (z_Compact hX (nl Z) (by rw [hn, hZl]; simpa [nl] using h100) 7 k _ rfl) fun r H' hr => ?_
        obtain ⟨rfl, rfl⟩ := hr
        rw [hc]
        simp only [go_sem, Nat.reduceMod, Nat.reduceBNe, Nat.reduceBEq, Nat.reduceEqDiff, Nat.reduceAdd, Int.reduceAdd, Nat.reduceMul, Nat.reduceSub, Int.reduceToNat, Int.reduceLE, Int.reduceLT, Int.reduceEq, Int.reduceNe, reduceCtorEq, Nat.reduceLT, Nat.reduceLeDiff]
        rw [List.map_append, List.append_assoc]
        exact fin_row _ _ _
end
end Go.Avm
