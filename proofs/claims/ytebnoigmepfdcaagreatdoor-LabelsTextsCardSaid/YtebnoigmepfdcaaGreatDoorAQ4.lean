/- What the closure of labels.sorted answers: a walk, with the worlds as they are. -/
import Derived.Test.YtebnoigmepfdcaaGreatDoorAG3
import Derived.Deep.QuietTactic
import Derived.BigQuiet
import Derived.WalkKit
import Derived.Shelf.SlSortCmp.Kit1
import Derived.Test.YtebnoigmepfdcaaGreatDoorAS
import Derived.Test.YtebnoigmepfdcaaGreatDoorM1
import Derived.Shelf.SlGeneric
import Derived.Test.YtebnoigmepfdcaaGreatDoorAQ3
set_option linter.unusedSectionVars false
set_option linter.unusedSimpArgs false
set_option linter.unusedVariables false

/- What the closure of labels.sorted answers: a walk, with the worlds as they are. -/
namespace Go.Avm
open Go Go.Proofs Go.Shelf Go.RowKit Go.Lib Go.Sort
/-- A label comes before another one. -/
def lessB (lev : Nat → Int) (a b : Nat) : Bool := if lev a = lev b then decide (a < b) else decide (lev a < lev b)
/-- The order of two labels. -/
def cmpI (lev : Nat → Int) (a b : Nat) : Int := if lessB lev a b then -1 else if lessB lev b a then 1 else 0
set_option maxHeartbeats 2000000 in
theorem z_less (lb n c : Nat) (lev : Nat → Int) (W : World) (hc : ∀ t, t < n → W.cell? ⟨lb, t, none⟩ = some (.int .i64 (lev t))) (i j : Nat) (hi : i < n) (hj : j < n) :
    Calls Tryz.prog 164 #[.slice (some ⟨lb, 0, none⟩) n c, .int .i64 i, .int .i64 j] W fun e w' => e = .returned (.bool (lessB lev i j)) ∧ ∃ q, w' = W.drewN q := by
  have ci := hc i hi
  have cj := hc j hj
  have e1 : (lev i != lev j) = true → lessB lev i j = decide (lev i < lev j) := fun h => by
    have : ¬ lev i = lev j := by simpa using h
    simp only [lessB, this, if_false]
  have e2 : (lev i != lev j) = false → lessB lev i j = decide (i < j) := fun h => by
    have : lev i = lev j := by simpa using h
    simp only [lessB, this, if_true]
  generalize lessB lev i j = r at e1 e2 ⊢
  go_enter Tryz.func164, Tryz.ntmps164
  go_wp2
  go_quiet (fail)
  go_wp2
  · rename_i hb _ _
    go_quiet (fail)
    go_wp2
    go_ret
    exact ⟨by rw [e1 hb]; rfl, _, World.drewN_drewN _ _ _⟩
  · rename_i hb
    go_ret
    exact ⟨by rw [e2 hb]; rfl, _, rfl⟩
theorem z_meth (a : Option Addr) (n c : Nat) (w : World) : (method 273 74 (.slice a n c) "invigilator/labels.less").run Tryz.prog w = .ok (164, .slice a n c) w := by kernel_rfl
set_option maxRecDepth 100000 in
set_option maxHeartbeats 2000000 in
theorem z_compare (lb n c : Nat) (lev : Nat → Int) (W : World) (hc : ∀ t, t < n → W.cell? ⟨lb, t, none⟩ = some (.int .i64 (lev t))) (i j : Nat) (hi : i < n) (hj : j < n) :
    Calls Tryz.prog 74 #[.iface 74 (.slice (some ⟨lb, 0, none⟩) n c), .int .i64 i, .int .i64 j] W fun e w' => e = .returned (.int .i64 (cmpI lev i j)) ∧ ∃ q, w' = W.drewN q := by
  have hm := z_meth (some ⟨lb, 0, none⟩) n c
  have A : Aside (∀ t, t < n → W.cell? ⟨lb, t, none⟩ = some (.int .i64 (lev t))) := hc
  clear hc
  have e0 : cmpI lev i j = if lessB lev i j then -1 else if lessB lev j i then 1 else 0 := rfl
  generalize cmpI lev i j = r at e0 ⊢
  go_enter Tryz.func74, Tryz.ntmps74
  go_wp2_with (go_at_call 164; refine Calls.mono (z_less lb n c lev _ (by intro t ht; simpa using A.out t ht) _ _ (by assumption) (by assumption)) ?_; rintro e w' ⟨rfl, q, rfl⟩)
  all_goals
    go_ret
    simp_all
    exact ⟨_, rfl⟩
set_option maxHeartbeats 2000000 in
theorem z_closure (cb lb n c : Nat) (lev : Nat → Int) (W : World) (hb : W.cell? ⟨cb, 0, none⟩ = some (.slice (some ⟨lb, 0, none⟩) n c)) (hc : ∀ t, t < n → W.cell? ⟨lb, t, none⟩ = some (.int .i64 (lev t))) (i j : Nat) (hi : i < n) (hj : j < n) :
    Calls Tryz.prog 73 #[.int .i64 i, .int .i64 j, .pointer (some ⟨cb, 0, none⟩)] W fun e w' => e = .returned (.int .i64 (cmpI lev i j)) ∧ ∃ q, w' = W.drewN q := by
  have A : Aside (∀ t, t < n → W.cell? ⟨lb, t, none⟩ = some (.int .i64 (lev t))) := hc
  clear hc
  go_enter Tryz.func73, Tryz.ntmps73
  go_wp2_with (go_at_call 74; refine Calls.mono (z_compare lb n c lev _ (by intro t ht; simpa using A.out t ht) _ _ (by assumption) (by assumption)) ?_; rintro e w' ⟨rfl, q, rfl⟩)
  go_ret
  exact ⟨rfl, _, rfl⟩
end Go.Avm

/- Sorting by levels. -/
namespace Go.Avm
open Go Go.Proofs Go.Shelf Go.RowKit Go.Lib Go.Sort
def zSortL_ren : Go.Shelf.Ren := ⟨fun | 6 => 72 | 15 => 94 | 14 => 93 | 28 => 111 | 29 => 112 | 20 => 103 | 21 => 104 | 22 => 105 | 23 => 106 | 24 => 107 | 25 => 108 | 26 => 109 | 27 => 110 | 46 => 122 | 47 => 123 | 48 => 124 | 49 => 125 | 50 => 126 | 57 => 139 | n => n, fun | 22 => 26 | 24 => 3 | 25 => 61 | 3 => 3 | 39 => 106 | 0 => 0 | 53 => 122 | 55 => 124 | 4 => 4 | 46 => 115 | 45 => 114 | 50 => 119 | 5 => 5 | 9 => 9 | 66 => 134 | 70 => 138 | 76 => 148 | 77 => 149 | n => n, fun | n => n⟩
theorem zSortL : Go.Proofs.SlLaysF.n6 Tryz.prog zSortL_ren := {
  mixed := by kernel_rfl
  f6 := ⟨Tryz.f72.name, by decide, Tryz.func72.trans (congrArg some (by kernel_rfl))⟩
  f14 := ⟨Tryz.f93.name, by decide, Tryz.func93.trans (congrArg some (by kernel_rfl))⟩
  f15 := Tryz.func94.trans (congrArg some (by kernel_rfl))
  f20 := ⟨Tryz.f103.name, by decide, Tryz.func103.trans (congrArg some (by kernel_rfl))⟩
  f21 := ⟨Tryz.f104.name, by decide, Tryz.func104.trans (congrArg some (by kernel_rfl))⟩
  f22 := ⟨Tryz.f105.name, by decide, Tryz.func105.trans (congrArg some (by kernel_rfl))⟩
  f23 := ⟨Tryz.f106.name, by decide, Tryz.func106.trans (congrArg some (by kernel_rfl))⟩
  f24 := ⟨Tryz.f107.name, by decide, Tryz.func107.trans (congrArg some (by kernel_rfl))⟩
  f25 := ⟨Tryz.f108.name, by decide, Tryz.func108.trans (congrArg some (by kernel_rfl))⟩
  f26 := ⟨Tryz.f109.name, by decide, Tryz.func109.trans (congrArg some (by kernel_rfl))⟩
  f27 := ⟨Tryz.f110.name, by decide, Tryz.func110.trans (congrArg some (by kernel_rfl))⟩
  f28 := Tryz.func111.trans (congrArg some (by kernel_rfl))
  f29 := Tryz.func112.trans (congrArg some (by kernel_rfl))
  f46 := ⟨Tryz.f122.name, by decide, Tryz.func122.trans (congrArg some (by kernel_rfl))⟩
  f47 := Tryz.func123.trans (congrArg some (by kernel_rfl))
  f48 := Tryz.func124.trans (congrArg some (by kernel_rfl))
  f49 := ⟨Tryz.f125.name, by decide, Tryz.func125.trans (congrArg some (by kernel_rfl))⟩
  f50 := ⟨Tryz.f126.name, by decide, Tryz.func126.trans (congrArg some (by kernel_rfl))⟩
  f57 := ⟨Tryz.f139.name, by decide, Tryz.func139.trans (congrArg some (by kernel_rfl))⟩
  t0 := Tryz.underlying0
  a0 := Tryz.isAgg0
  z0 := Tryz.sizeOf0
  v0 := Tryz.zeroValue0
  t3 := Tryz.underlying3
  a3 := Tryz.isAgg3
  z3 := Tryz.sizeOf3
  v3 := Tryz.zeroValue3
  t4 := Tryz.underlying4
  a4 := Tryz.isAgg4
  z4 := Tryz.sizeOf4
  v4 := Tryz.zeroValue4
  t5 := Tryz.underlying5
  a5 := Tryz.isAgg5
  z5 := Tryz.sizeOf5
  v5 := Tryz.zeroValue5
  t9 := Tryz.underlying9
  a9 := Tryz.isAgg9
  z9 := Tryz.sizeOf9
  v9 := Tryz.zeroValue9
  t22 := Tryz.underlying26
  a22 := Tryz.isAgg26
  z22 := Tryz.sizeOf26
  v22 := Tryz.zeroValue26
  a24 := Tryz.isAgg3
  z24 := Tryz.sizeOf3
  t25 := Tryz.underlying61
  a25 := Tryz.isAgg61
  z25 := Tryz.sizeOf61
  v25 := Tryz.zeroValue61
  t39 := Tryz.underlying106
  a39 := Tryz.isAgg106
  z39 := Tryz.sizeOf106
  v39 := Tryz.zeroValue106
  t45 := Tryz.underlying114
  a45 := Tryz.isAgg114
  z45 := Tryz.sizeOf114
  v45 := Tryz.zeroValue114
  t46 := Tryz.underlying115
  a46 := Tryz.isAgg115
  z46 := Tryz.sizeOf115
  v46 := Tryz.zeroValue115
  t50 := Tryz.underlying119
  a50 := Tryz.isAgg119
  z50 := Tryz.sizeOf119
  v50 := Tryz.zeroValue119
  t53 := Tryz.underlying122
  a53 := Tryz.isAgg122
  z53 := Tryz.sizeOf122
  v53 := Tryz.zeroValue122
  t55 := Tryz.underlying124
  a55 := Tryz.isAgg124
  z55 := Tryz.sizeOf124
  v55 := Tryz.zeroValue124
  t66 := Tryz.underlying134
  a66 := Tryz.isAgg134
  z66 := Tryz.sizeOf134
  v66 := Tryz.zeroValue134
  t70 := Tryz.underlying138
  a70 := Tryz.isAgg138
  z70 := Tryz.sizeOf138
  v70 := Tryz.zeroValue138
  t76 := Tryz.underlying148
  a76 := Tryz.isAgg148
  z76 := Tryz.sizeOf148
  v76 := Tryz.zeroValue148
  t77 := Tryz.underlying149
  a77 := Tryz.isAgg149
  z77 := Tryz.sizeOf149
  v77 := Tryz.zeroValue149 }
section
variable {m : Nat}
def cmpF (lev : Nat → Int) (a b : Fin (m + 1)) : Int := cmpI lev a.val b.val
theorem lessB_irr (lev : Nat → Int) (a : Nat) : lessB lev a a = false := by simp [lessB]
theorem lessB_iff {lev : Nat → Int} {a b : Nat} : lessB lev a b = true ↔ lev a < lev b ∨ (lev a = lev b ∧ a < b) := by
  unfold lessB
  split <;> simp <;> omega
theorem ltOf_cmpF (lev : Nat → Int) (a b : Fin (m + 1)) : ltOf (cmpF lev) a b = lessB lev a.val b.val := by
  unfold ltOf cmpF cmpI
  cases h1 : lessB lev a.val b.val with
  | true => simp
  | false => cases h2 : lessB lev b.val a.val <;> simp
theorem swo_cmpF (lev : Nat → Int) : SWO (ltOf (cmpF (m := m) lev)) where
  irrefl x := by rw [ltOf_cmpF]; exact lessB_irr _ _
  trans x y z h1 h2 := by rw [ltOf_cmpF, lessB_iff] at *; omega
  ntrans x y z h1 h2 := by
    rw [ltOf_cmpF] at *
    rw [← Bool.not_eq_true, lessB_iff] at *
    omega
theorem tot_cmpF (lev : Nat → Int) (x y : Fin (m + 1)) (h1 : ltOf (cmpF lev) x y = false) (h2 : ltOf (cmpF lev) y x = false) : x = y := by
  rw [ltOf_cmpF, ← Bool.not_eq_true, lessB_iff] at *
  exact Fin.ext (by omega)
end
section
variable {X : Cx} (hX : X.P = Go.Proofs.Tryz.prog)
include hX
/-- The closure's contract, for the sort's worlds. -/
theorem z_cmpLays {m il ib id : Nat} {lev : Nat → Int} {H : Heap} {c : Nat} {rest : List AV} {cs : List AV} {g : Gh} {w : World} {us : List Value} {b size : Nat}
    (hil : H[il]? = some (.box ((List.range (m + 1)).map (fun a => AV.int .i64 (lev a)) ++ rest))) (hib : H[ib]? = some (.box [.rsl il 0 (m + 1) c 1])) (n1 : il ≠ id) (n2 : ib ≠ id) (hid : H[id]? = some (.box cs))
    (hwf : Wf X.G g w) (hhr : HR g w H) (hus : RelL [.ptr ib 0] g w us) (hb : g.bx id = some b) :
    CmpLays1 X.P F_labels_sorted_1 us.toArray (fun x : Fin (m + 1) => Value.int .i64 (x.val : Int)) (cmpF lev) b 0 size w := by
  simp only [RelL, Rel] at hus
  obtain ⟨v1, r1, rfl, ⟨bb, rfl, hbb⟩, rfl⟩ := hus
  obtain ⟨bb', arr, e, fz, k1, k2, k3⟩ := hhr.blk ib _ hib
  obtain rfl := Option.some.inj (k1.symm.trans hbb)
  simp only [RelL, Rel] at k3
  obtain ⟨v, r, k4, ⟨a, bl, rfl, hbl, hcap, hor⟩, rfl⟩ := k3
  have ha : a = some ⟨bl, 0, none⟩ := by
    rcases hor with h | h
    · omega
    · exact h
  subst ha
  have c1 : w.cell? ⟨bb', 0, none⟩ = some (.slice (some ⟨bl, 0, none⟩) (m + 1) c) := by
    have : arr[0]? = some (.slice (some ⟨bl, 0, none⟩) (m + 1) c) := by rw [← Array.getElem?_toList, k4]; rfl
    simp only [World.cell?, k2, Option.isSome_none, Bool.false_eq_true, if_false, this]
  have c2 : ∀ t, t < m + 1 → w.cell? ⟨bl, t, none⟩ = some (.int .i64 (lev t)) := fun t ht => by
    have h := (holds_box hwf hhr hil hbl (Value.int .i64) ((List.range (m + 1)).map lev) fun vs h => ints_rel _ (by simpa [List.map_map, Function.comp_def] using h)).1 t (by simpa using ht)
    rw [Nat.zero_add] at h
    rw [h.1]
    simp [ht]
  have hne1 : bb' ≠ b := fun e => n2 (hwf.inj ib id b (e ▸ hbb) hb)
  have hne2 : bl ≠ b := fun e => n1 (hwf.inj il id b (e ▸ hbl) hb)
  intro q os dk hs x y
  rw [hX]
  refine (z_closure bb' bl (m + 1) c lev (sortWorld _ w b 0 q dk os) (cell_sortWorld _ w b 0 q dk os hne1 c1) (fun t ht => cell_sortWorld _ w b 0 q dk os hne2 (c2 t ht)) x.val y.val x.isLt y.isLt).mono ?_
  rintro e w' ⟨rfl, q', rfl⟩
  exact ⟨rfl, q', #[], (grow_empty _).symm⟩
end
end Go.Avm

/- The contract of labels.sorted. -/
namespace Go.Avm
open Go Go.Proofs Go.Shelf Go.RowKit Go.Lib Go.Sort
def zCloneL_ren : Go.Shelf.Ren := ⟨fun | 15 => 71 | n => n, fun | 22 => 26 | 3 => 3 | 4 => 4 | n => n, fun | n => n⟩
theorem zCloneL : Go.Proofs.Lays2.n15 Tryz.prog zCloneL_ren := {
  mixed := by kernel_rfl
  f15 := Tryz.func71.trans (congrArg some (by kernel_rfl))
  t3 := Tryz.underlying3
  a3 := Tryz.isAgg3
  z3 := Tryz.sizeOf3
  v3 := Tryz.zeroValue3
  t4 := Tryz.underlying4
  a4 := Tryz.isAgg4
  z4 := Tryz.sizeOf4
  v4 := Tryz.zeroValue4
  t22 := Tryz.underlying26
  a22 := Tryz.isAgg26
  z22 := Tryz.sizeOf26
  v22 := Tryz.zeroValue26
  i3 := by kernel_rfl }
def zCompactL_ren : Go.Shelf.Ren := ⟨fun | 20 => 75 | n => n, fun | 22 => 26 | 3 => 3 | 4 => 4 | 0 => 0 | n => n, fun | n => n⟩
theorem zCompactL : Go.Proofs.Lays2.n20 Tryz.prog zCompactL_ren := {
  mixed := by kernel_rfl
  f20 := Tryz.func75.trans (congrArg some (by kernel_rfl))
  t0 := Tryz.underlying0
  a0 := Tryz.isAgg0
  z0 := Tryz.sizeOf0
  v0 := Tryz.zeroValue0
  t3 := Tryz.underlying3
  a3 := Tryz.isAgg3
  z3 := Tryz.sizeOf3
  v3 := Tryz.zeroValue3
  t4 := Tryz.underlying4
  a4 := Tryz.isAgg4
  z4 := Tryz.sizeOf4
  v4 := Tryz.zeroValue4
  t22 := Tryz.underlying26
  a22 := Tryz.isAgg26
  z22 := Tryz.sizeOf26
  v22 := Tryz.zeroValue26
  i3 := by kernel_rfl }
/-- numbers of labels -/
def nl (l : List Nat) : List Int := l.map fun a : Nat => (a : Int)
section
variable {X : Cx} (hX : X.P = Go.Proofs.Tryz.prog)
include hX
theorem z_Clone (p : Perm) (l : List Int) (hl : l.length < 1000000) (H : Heap) : EvM X F_slices_Clone_int_int [lst (AV.int .i64) p l] H (CloneR l H) := by
  have L : Lays2.n15 X.P zCloneL_ren := hX ▸ zCloneL
  exact ev_s_Clone L ⟨Go.Proofs.Tryz.f71, by rw [hX]; exact Go.Proofs.Tryz.func71, by decide, by kernel_rfl⟩ p l (by omega) H
theorem z_body72 : HasBody X F_slices_SortFunc_int_int := ⟨Go.Proofs.Tryz.f72, by rw [hX]; exact Go.Proofs.Tryz.func72, by decide, by kernel_rfl⟩
theorem z_body75 : HasBody X F_slices_Compact_int_int := ⟨Go.Proofs.Tryz.f75, by rw [hX]; exact Go.Proofs.Tryz.func75, by decide, by kernel_rfl⟩
theorem z_Sort {m il ib id : Nat} {lev : Nat → Int} {H : Heap} {c k : Nat} {rest : List AV} (d : List (Fin (m + 1))) (hd : d.length < 1000000)
    (hil : H[il]? = some (.box ((List.range (m + 1)).map (fun a => AV.int .i64 (lev a)) ++ rest))) (hib : H[ib]? = some (.box [.rsl il 0 (m + 1) c 1])) (n1 : il ≠ id) (n2 : ib ≠ id) (hid : H[id]? = some (.box (d.map (fun x => AV.int .i64 (x.val : Int)) ++ List.replicate k .undef))) :
    EvM X F_slices_SortFunc_int_int [.rsl id 0 d.length (d.length + k) 1, .clo F_labels_sorted_1 [] [.ptr ib 0]] H fun r' H' => r' = .tuple [] ∧ H' = H.set id (.box ((d.mergeSort fun x y => !(ltOf (cmpF lev)) y x).map (fun x => AV.int .i64 (x.val : Int)) ++ List.replicate k .undef)) := by
  have L : SlLaysF.n6 X.P zSortL_ren := hX ▸ zSortL
  have eg : ∀ args w, (callFunc F_labels_sorted_1 args).run X.P w = .ok (.enter F_labels_sorted_1 args) w := by
    rw [hX]
    exact enters_of Go.Proofs.Tryz.func73 (by kernel_rfl) rfl
  exact ev_s_Sort L (z_body72 hX) (cmpF lev) (swo_cmpF lev) (tot_cmpF lev) F_labels_sorted_1 eg [.ptr ib 0] d hd id k H hid fun g w us b hwf hhr hus hb => z_cmpLays hX hil hib n1 n2 hid hwf hhr hus hb
theorem z_Sort0 (caps : List AV) (H : Heap) : EvM X F_slices_SortFunc_int_int [.sl .ro [], .clo F_labels_sorted_1 [] caps] H fun r' H' => r' = .tuple [] ∧ H' = H := by
  have L : SlLaysF.n6 X.P zSortL_ren := hX ▸ zSortL
  exact ev_s_Sort0 L (z_body72 hX) F_labels_sorted_1 caps H
theorem z_Compact (l : List Int) (hl : l.length < 1000000) (id k : Nat) (H : Heap) (hid : H[id]? = some (.box (l.map (AV.int .i64) ++ List.replicate k .undef))) :
    EvM X F_slices_Compact_int_int [.rsl id 0 l.length (l.length + k) 1] H fun r' H' => r' = .rsl id 0 (Lib.compact l).length (l.length + k) 1 ∧ H' = H.set id (.box ((Lib.compact l ++ List.replicate (l.length - (Lib.compact l).length) 0).map (AV.int .i64) ++ List.replicate k .undef)) := by
  have L : Lays2.n20 X.P zCompactL_ren := hX ▸ zCompactL
  exact ev_s_Compact L (z_body75 hX) l hl id k H hid
theorem z_Compact0 (H : Heap) : EvM X F_slices_Compact_int_int [.sl .ro []] H fun r' H' => r' = .sl .ro [] ∧ H' = H := by
  have L : Lays2.n20 X.P zCompactL_ren := hX ▸ zCompactL
  exact ev_s_Compact0 L (z_body75 hX) H
end
/-- Levels, as far as they are counted. -/
def lvl (up : List UInt8) (n b a : Nat) : List AV := tb n fun x => .int .i64 (if x < b then Lat.lv up n x else if x = b then Lat.cnt (fun y => Lat.le up y b) a else 0 : Nat)
theorem lvl_len (up : List UInt8) (n b a : Nat) : (lvl up n b a).length = n := tb_len _ _
theorem lvl_get {up : List UInt8} {n b a : Nat} (hb : b < n) : (lvl up n b a)[b]? = some (.int .i64 (Lat.cnt (fun y => Lat.le up y b) a : Nat)) := by
  unfold lvl
  rw [tb_get? _ hb, if_neg (Nat.lt_irrefl b), if_pos rfl]
theorem lvl_up {up : List UInt8} {n b a : Nat} (h : Lat.le up a b = true) : (lvl up n b a).set b (.int .i64 ((Lat.cnt (fun y => Lat.le up y b) a : Nat) + 1)) = lvl up n b (a + 1) := by
  unfold lvl
  rw [tb_set]
  refine tb_congr fun x hx => ?_
  by_cases e : x = b
  · subst e
    simp only [if_true, Nat.lt_irrefl, if_false, Lat.cnt, h]
    rfl
  · simp only [e, if_false]
theorem lvl_no {up : List UInt8} {n b a : Nat} (h : Lat.le up a b = false) : lvl up n b a = lvl up n b (a + 1) := by
  refine tb_congr fun x hx => ?_
  by_cases e : x = b
  · subst e
    simp [Lat.cnt, h]
  · simp only [e, if_false]
theorem lvl_end {up : List UInt8} {n b : Nat} : lvl up n b n = lvl up n (b + 1) 0 := by
  refine tb_congr fun x hx => ?_
  by_cases e : x < b
  · simp only [e, if_true, show x < b + 1 by omega]
  · by_cases e2 : x = b
    · subst e2
      simp only [Nat.lt_irrefl, if_false, if_true, show x < x + 1 by omega]
      rfl
    · simp only [e, e2, if_false, show ¬ x < b + 1 by omega, Lat.cnt, ite_self]
theorem lvl_getD {up : List UInt8} {n b a : Nat} (hb : b < n) : (lvl up n b a).getD b .undef = .int .i64 (Lat.cnt (fun y => Lat.le up y b) a : Nat) := by
  rw [List.getD_eq_getElem?_getD, lvl_get hb]
  rfl
theorem lvl_all {up : List UInt8} {n : Nat} : lvl up n n 0 = tb n fun x => .int .i64 (Lat.lv up n x : Nat) := tb_congr fun x hx => by rw [if_pos hx]
theorem srt_nil (up : List UInt8) (n : Nat) : Lat.srt up n [] = [] := by
  simp [Lat.srt]
theorem lvl_0 {up : List UInt8} {n : Nat} : (tb n fun _ => AV.int .i64 0) = lvl up n 0 0 := tb_congr fun x hx => by
  simp only [Nat.not_lt_zero, if_false, Lat.cnt, ite_self]
  rfl
theorem fin_row (H : Heap) (L : List Int) (rest : List AV) :
    (bif decide (L.length ≤ (L.map (AV.int .i64) ++ rest).length) && ((L.map (AV.int .i64) ++ rest).all scalarB || (List.take L.length (L.map (AV.int .i64) ++ rest)).all scalarB) then AV.sl .ro (List.map (fin H 0) (List.take L.length (L.map (AV.int .i64) ++ rest))) else AV.undef) = lst (AV.int .i64) .ro L := by
  have e : List.take L.length (L.map (AV.int .i64) ++ rest) = L.map (AV.int .i64) := by
    rw [List.take_append_of_le_length (by simp)]
    exact List.take_of_length_le (by simp)
  have e2 : (L.map (AV.int .i64)).all scalarB = true := by
    rw [List.all_map]
    exact List.all_eq_true.2 fun x _ => rfl
  rw [e, e2, Bool.or_true, Bool.and_true, List.length_append, List.length_map, decide_eq_true (by omega), cond_true, List.map_map]
  rfl
set_option maxRecDepth 10000
section
variable {X : Cx} (hX : X.P = Go.Proofs.Tryz.prog) (hs : Std X)
include hX hs
/-- a lattice, where it lies -/
def latP (ns : List (List UInt8)) (up : List UInt8) : AV := .vp [lst AV.str .ro ns, lst u8 .ro up]
theorem ev_obelow (ns : List (List UInt8)) (up : List UInt8) (a b : Nat) (ha : a < up.length) (hb : b < 1000000) : Ev X F_labels_order_below [latP ns up, .int .i64 a, .int .i64 b] (.bool (Lat.le up a b)) := by
  refine ev_of_wpc hs (A_labels_order_below_ok hX) 1 ?_
  simp only [A_labels_order_below, latP, go_sem, Nat.reduceMod, Nat.reduceBNe, Nat.reduceBEq, Nat.reduceEqDiff, Nat.reduceAdd, Int.reduceAdd, Nat.reduceMul, Nat.reduceSub, Int.reduceToNat, Int.reduceLE, Int.reduceLT, Int.reduceEq, Int.reduceNe, reduceCtorEq, Nat.reduceLT, Nat.reduceLeDiff]
  simp only [go_sem, Nat.reduceMod, Nat.reduceBNe, Nat.reduceBEq, Nat.reduceEqDiff, Nat.reduceAdd, Int.reduceAdd, Nat.reduceMul, Nat.reduceSub, Int.reduceToNat, Int.reduceLE, Int.reduceLT, Int.reduceEq, Int.reduceNe, reduceCtorEq, Nat.reduceLT, Nat.reduceLeDiff, getD_def, bt_and b (Lat.msk_lt up a), if1]
  exact ⟨⟨by omega, by omega⟩, by omega, by simp only [Lat.le, Bool.decide_eq_true]⟩
theorem ev_sorted (ns : List (List UInt8)) (up : List UInt8) (hv : Lat.Val ns.length up) (l : List Nat) (hl : ∀ x ∈ l, x < ns.length) (h100 : l.length < 1000000) :
    EvM X F_labels_sorted [.ptr 1 0, lst (AV.int .i64) .ro (nl l)] [.box [lst AV.str .ro ns, lst u8 .ro up], .box [lst AV.str .ro ns, lst u8 .ro up]] fun r H' => fin H' 1 r = lst (AV.int .i64) .ro (nl (Lat.srt up ns.length l)) := by
  refine evM_of_wpc hs (A_labels_sorted_ok hX) ?_
  have h8 := hv.le8
  have hp := hv.pos
  have hup := hv.len
  simp only [A_labels_sorted, latP, go_sem, Nat.reduceMod, Nat.reduceBNe, Nat.reduceBEq, Nat.reduceEqDiff, Nat.reduceAdd, Int.reduceAdd, Nat.reduceMul, Nat.reduceSub, Int.reduceToNat, Int.reduceLE, Int.reduceLT, Int.reduceEq, Int.reduceNe, reduceCtorEq, Nat.reduceLT, Nat.reduceLeDiff]
  refine ⟨by omega, ?_⟩
  refine w_loop' hs.hm (ι := Nat) (fun b => b ≤ ns.length) (fun b => [(20, .int .i64 b), (19, .int .i64 ns.length), (0, .ptr 1 0), (1, lst (AV.int .i64) .ro (nl l)), (5, .ptr 3 0)]) (fun b => [.box [lst AV.str .ro ns, lst u8 .ro up], .box [lst AV.str .ro ns, lst u8 .ro up], .box (lvl up ns.length b 0), .box [.rsl 2 0 ns.length ns.length 1]]) (fun b => ns.length - b) 0 ?_ fun b hb => ?_
  · simp only [go_sem, Nat.reduceMod, Nat.reduceBNe, Nat.reduceBEq, Nat.reduceEqDiff, Nat.reduceAdd, Int.reduceAdd, Nat.reduceMul, Nat.reduceSub, Int.reduceToNat, Int.reduceLE, Int.reduceLT, Int.reduceEq, Int.reduceNe, reduceCtorEq, Nat.reduceLT, Nat.reduceLeDiff]
    exact ⟨Nat.zero_le _, by rw [lvl_0]⟩
  · simp only [A_labels_sortedL0, go_sem, Nat.reduceMod, Nat.reduceBNe, Nat.reduceBEq, Nat.reduceEqDiff, Nat.reduceAdd, Int.reduceAdd, Nat.reduceMul, Nat.reduceSub, Int.reduceToNat, Int.reduceLE, Int.reduceLT, Int.reduceEq, Int.reduceNe, reduceCtorEq, Nat.reduceLT, Nat.reduceLeDiff]
    refine ⟨fun hb' => ?_, fun hb' => ?_⟩
    · refine w_loop' hs.hm (ι := Nat) (fun a => a ≤ ns.length) (fun a => [(28, .int .i64 a), (27, .int .i64 ns.length), (6, .int .i64 b), (20, .int .i64 b), (19, .int .i64 ns.length), (0, .ptr 1 0), (1, lst (AV.int .i64) .ro (nl l)), (5, .ptr 3 0)]) (fun a => [.box [lst AV.str .ro ns, lst u8 .ro up], .box [lst AV.str .ro ns, lst u8 .ro up], .box (lvl up ns.length b a), .box [.rsl 2 0 ns.length ns.length 1]]) (fun a => ns.length - a) 0 ?_ fun a ha => ?_
      · simp only [go_sem, Nat.reduceMod, Nat.reduceBNe, Nat.reduceBEq, Nat.reduceEqDiff, Nat.reduceAdd, Int.reduceAdd, Nat.reduceMul, Nat.reduceSub, Int.reduceToNat, Int.reduceLE, Int.reduceLT, Int.reduceEq, Int.reduceNe, reduceCtorEq, Nat.reduceLT, Nat.reduceLeDiff]
        exact Nat.zero_le _
      · simp only [A_labels_sortedL1, go_sem, Nat.reduceMod, Nat.reduceBNe, Nat.reduceBEq, Nat.reduceEqDiff, Nat.reduceAdd, Int.reduceAdd, Nat.reduceMul, Nat.reduceSub, Int.reduceToNat, Int.reduceLE, Int.reduceLT, Int.reduceEq, Int.reduceNe, reduceCtorEq, Nat.reduceLT, Nat.reduceLeDiff]
        refine ⟨fun ha' => ?_, fun ha' => ?_⟩
        · refine call_lend (ev_obelow hX hs ns up a b (by omega) (by omega)) rfl ?_
          have hbn : b < ns.length := by omega
          have han : a < ns.length := by omega
          have hc8 : Lat.cnt (fun y => Lat.le up y b) a ≤ a := Lat.cnt_le _ _
          cases hle : Lat.le up a b with
          | true =>
            simp only [go_sem, Nat.reduceMod, Nat.reduceBNe, Nat.reduceBEq, Nat.reduceEqDiff, Nat.reduceAdd, Int.reduceAdd, Nat.reduceMul, Nat.reduceSub, Int.reduceToNat, Int.reduceLE, Int.reduceLT, Int.reduceEq, Int.reduceNe, reduceCtorEq, Nat.reduceLT, Nat.reduceLeDiff, Nat.mul_one, lvl_getD hbn, lvl_len]
            exact ⟨⟨by omega, by omega⟩, hbn, ⟨by omega, by omega⟩, hbn, a + 1, by omega, by omega, by rw [wi64 (by omega)]; rfl, by rw [wi64 (by omega), lvl_up hle]⟩
          | false =>
            simp only [go_sem, Nat.reduceMod, Nat.reduceBNe, Nat.reduceBEq, Nat.reduceEqDiff, Nat.reduceAdd, Int.reduceAdd, Nat.reduceMul, Nat.reduceSub, Int.reduceToNat, Int.reduceLE, Int.reduceLT, Int.reduceEq, Int.reduceNe, reduceCtorEq, Nat.reduceLT, Nat.reduceLeDiff]
            exact ⟨a + 1, by omega, by omega, by rw [wi64 (by omega)]; rfl, by rw [lvl_no hle]⟩
        · obtain rfl : a = ns.length := by omega
          exact ⟨b + 1, by omega, by omega, by rw [wi64 (by omega)]; rfl, by rw [lvl_end]⟩
    · obtain rfl : b = ns.length := by omega
      obtain ⟨m, hm⟩ : ∃ m, ns.length = m + 1 := ⟨ns.length - 1, by omega⟩
      refine call_evm (z_Clone hX _ (nl l) (by simpa [nl] using h100) _) fun r H' hr => ?_
      rcases hr with ⟨e0, rfl, rfl⟩ | ⟨e0, k, rfl, rfl⟩
      · simp only [go_sem, Nat.reduceMod, Nat.reduceBNe, Nat.reduceBEq, Nat.reduceEqDiff, Nat.reduceAdd, Int.reduceAdd, Nat.reduceMul, Nat.reduceSub, Int.reduceToNat, Int.reduceLE, Int.reduceLT, Int.reduceEq, Int.reduceNe, reduceCtorEq, Nat.reduceLT, Nat.reduceLeDiff]
        refine call_evm (z_Sort0 hX _ _) fun r H' hr => ?_
        obtain ⟨rfl, rfl⟩ := hr
        simp only [go_sem, Nat.reduceMod, Nat.reduceBNe, Nat.reduceBEq, Nat.reduceEqDiff, Nat.reduceAdd, Int.reduceAdd, Nat.reduceMul, Nat.reduceSub, Int.reduceToNat, Int.reduceLE, Int.reduceLT, Int.reduceEq, Int.reduceNe, reduceCtorEq, Nat.reduceLT, Nat.reduceLeDiff]
        refine call_evm (z_Compact0 hX _) fun r H' hr => ?_
        obtain ⟨rfl, rfl⟩ := hr
        simp only [go_sem, Nat.reduceMod, Nat.reduceBNe, Nat.reduceBEq, Nat.reduceEqDiff, Nat.reduceAdd, Int.reduceAdd, Nat.reduceMul, Nat.reduceSub, Int.reduceToNat, Int.reduceLE, Int.reduceLT, Int.reduceEq, Int.reduceNe, reduceCtorEq, Nat.reduceLT, Nat.reduceLeDiff]
        have : l = [] := by simpa [nl] using e0
        subst this
        simp only [srt_nil]
        rfl
      · simp only [go_sem, Nat.reduceMod, Nat.reduceBNe, Nat.reduceBEq, Nat.reduceEqDiff, Nat.reduceAdd, Int.reduceAdd, Nat.reduceMul, Nat.reduceSub, Int.reduceToNat, Int.reduceLE, Int.reduceLT, Int.reduceEq, Int.reduceNe, reduceCtorEq, Nat.reduceLT, Nat.reduceLeDiff]
        let d : List (Fin (m + 1)) := l.map fun a => Fin.ofNat (m + 1) a
        have ed : d.map (fun x => AV.int .i64 (x.val : Int)) = (nl l).map (AV.int .i64) := by
          simp only [d, nl, List.map_map]
          refine List.map_congr_left fun x hx => ?_
          simp only [Function.comp_apply, Fin.val_ofNat]
          rw [Nat.mod_eq_of_lt (by have := hl x hx; omega)]
        have el : d.length = (nl l).length := by simp [d, nl]
        let d' := d.mergeSort fun x y => !(ltOf (cmpF fun a => (Lat.lv up ns.length a : Nat))) y x
        let Z : List Nat := d'.map (·.val)
        have hZl : Z.length = (nl l).length := by simp [Z, d', List.length_mergeSort, el]
        have eZ : d'.map (fun x => AV.int .i64 (x.val : Int)) = (nl Z).map (AV.int .i64) := by
          simp only [Z, nl, List.map_map]
          rfl
        have hn : (nl Z).length = Z.length := by simp [nl]
        have hc : Lib.compact (nl Z) = nl (Lat.srt up ns.length l) := by
          refine Lat.compact_srt hv hl (fun x => ?_) fun i j hij hj => ?_
          · simp only [Z, List.mem_map]
            constructor
            · rintro ⟨y, hy, rfl⟩
              have := List.mem_mergeSort.1 hy
              simp only [d, List.mem_map] at this
              obtain ⟨z, hz, rfl⟩ := this
              rw [Fin.val_ofNat, Nat.mod_eq_of_lt (by have := hl z hz; omega)]
              exact hz
            · intro hx
              refine ⟨Fin.ofNat (m + 1) x, List.mem_mergeSort.2 (List.mem_map.2 ⟨x, hx, rfl⟩), ?_⟩
              rw [Fin.val_ofNat, Nat.mod_eq_of_lt (by have := hl x hx; omega)]
          · have hp : d'.Pairwise fun x y => (!(ltOf (cmpF fun a => (Lat.lv up ns.length a : Nat))) y x) = true := by
              refine List.pairwise_mergeSort (fun a b c h1 h2 => ?_) (fun a b => ?_) d
              · simp only [Bool.not_eq_true', ltOf_cmpF] at *
                rw [← Bool.not_eq_true, lessB_iff] at *
                omega
              · rw [Bool.or_eq_true]
                simp only [Bool.not_eq_true', ltOf_cmpF]
                rw [← Bool.not_eq_true, ← Bool.not_eq_true, lessB_iff, lessB_iff]
                omega
            have hp2 : Z.Pairwise fun x y => ¬ Lat.kl up ns.length y x = true := by
              rw [List.pairwise_map]
              refine hp.imp fun {a b} h => ?_
              simp only [Bool.not_eq_true', ltOf_cmpF] at h
              rw [← Bool.not_eq_true, lessB_iff] at h
              rw [Lat.kl_iff]
              omega
            rw [List.getD_eq_getElem?_getD, List.getD_eq_getElem?_getD, List.getElem?_eq_getElem hj, List.getElem?_eq_getElem (by omega)]
            exact List.pairwise_iff_getElem.1 hp2 i j (by omega) hj hij
        rw [← el, ← ed]
        refine call_evm (z_Sort hX (m := m) (il := 2) (ib := 3) (id := 4) (lev := fun a => (Lat.lv up ns.length a : Nat)) (c := m + 1) (k := k) (rest := []) d (by rw [el]; simpa [nl] using h100) ?_ ?_ (by omega) (by omega) rfl) fun r H' hr => ?_
        · rw [lvl_all, hm, List.append_nil]
          rfl
        · rw [hm]
          rfl
        obtain ⟨rfl, rfl⟩ := hr
        have eZ2 : (d.mergeSort fun x y => !(ltOf (cmpF fun a => (Lat.lv up ns.length a : Nat))) y x).map (fun x => AV.int .i64 (x.val : Int)) = (nl Z).map (AV.int .i64) := eZ
        rw [eZ2]
        simp only [go_sem, Nat.reduceMod, Nat.reduceBNe, Nat.reduceBEq, Nat.reduceEqDiff, Nat.reduceAdd, Int.reduceAdd, Nat.reduceMul, Nat.reduceSub, Int.reduceToNat, Int.reduceLE, Int.reduceLT, Int.reduceEq, Int.reduceNe, reduceCtorEq, Nat.reduceLT, Nat.reduceLeDiff]
        have e3 : d.length = (nl Z).length := by rw [hn, hZl, el]
        rw [e3]
        refine call_evm (z_Compact hX (nl Z) (by rw [hn, hZl]; simpa [nl] using h100) 4 k _ rfl) fun r H' hr => ?_
        obtain ⟨rfl, rfl⟩ := hr
        rw [hc]
        simp only [go_sem, Nat.reduceMod, Nat.reduceBNe, Nat.reduceBEq, Nat.reduceEqDiff, Nat.reduceAdd, Int.reduceAdd, Nat.reduceMul, Nat.reduceSub, Int.reduceToNat, Int.reduceLE, Int.reduceLT, Int.reduceEq, Int.reduceNe, reduceCtorEq, Nat.reduceLT, Nat.reduceLeDiff]
        rw [List.map_append, List.append_assoc]
        exact fin_row _ _ _
theorem ev_sortedT (ns : List (List UInt8)) (up : List UInt8) (a0 : Int) (hv : Lat.Val ns.length up) (l : List Nat) (hl : ∀ x ∈ l, x < ns.length) (h100 : l.length < 1000000) :
    EvM X F_labels_sorted [.ptr 3 0, lst (AV.int .i64) (.tok 4 1) (nl l)] [.box [lst AV.str .ro ns, lst u8 .ro up], .box [.int .i64 a0], .box [lst AV.str .ro ns, lst u8 .ro up], .box [lst AV.str .ro ns, lst u8 .ro up], .tok l.length] fun r H' => fin H' 1 r = lst (AV.int .i64) .ro (nl (Lat.srt up ns.length l)) := by
  refine evM_of_wpc hs (A_labels_sorted_ok hX) ?_
  have h8 := hv.le8
  have hp := hv.pos
  have hup := hv.len
  simp only [A_labels_sorted, latP, go_sem, Nat.reduceMod, Nat.reduceBNe, Nat.reduceBEq, Nat.reduceEqDiff, Nat.reduceAdd, Int.reduceAdd, Nat.reduceMul, Nat.reduceSub, Int.reduceToNat, Int.reduceLE, Int.reduceLT, Int.reduceEq, Int.reduceNe, reduceCtorEq, Nat.reduceLT, Nat.reduceLeDiff]
  refine ⟨by omega, ?_⟩
  refine w_loop' hs.hm (ι := Nat) (fun b => b ≤ ns.length) (fun b => [(20, .int .i64 b), (19, .int .i64 ns.length), (0, .ptr 3 0), (1, lst (AV.int .i64) (.tok 4 1) (nl l)), (5, .ptr 6 0)]) (fun b => [.box [lst AV.str .ro ns, lst u8 .ro up], .box [.int .i64 a0], .box [lst AV.str .ro ns, lst u8 .ro up], .box [lst AV.str .ro ns, lst u8 .ro up], .tok l.length, .box (lvl up ns.length b 0), .box [.rsl 5 0 ns.length ns.length 1]]) (fun b => ns.length - b) 0 ?_ fun b hb => ?_
  · simp only [go_sem, Nat.reduceMod, Nat.reduceBNe, Nat.reduceBEq, Nat.reduceEqDiff, Nat.reduceAdd, Int.reduceAdd, Nat.reduceMul, Nat.reduceSub, Int.reduceToNat, Int.reduceLE, Int.reduceLT, Int.reduceEq, Int.reduceNe, reduceCtorEq, Nat.reduceLT, Nat.reduceLeDiff]
    exact ⟨Nat.zero_le _, by rw [lvl_0]⟩
  · simp only [A_labels_sortedL0, go_sem, Nat.reduceMod, Nat.reduceBNe, Nat.reduceBEq, Nat.reduceEqDiff, Nat.reduceAdd, Int.reduceAdd, Nat.reduceMul, Nat.reduceSub, Int.reduceToNat, Int.reduceLE, Int.reduceLT, Int.reduceEq, Int.reduceNe, reduceCtorEq, Nat.reduceLT, Nat.reduceLeDiff]
    refine ⟨fun hb' => ?_, fun hb' => ?_⟩
    · refine w_loop' hs.hm (ι := Nat) (fun a => a ≤ ns.length) (fun a => [(28, .int .i64 a), (27, .int .i64 ns.length), (6, .int .i64 b), (20, .int .i64 b), (19, .int .i64 ns.length), (0, .ptr 3 0), (1, lst (AV.int .i64) (.tok 4 1) (nl l)), (5, .ptr 6 0)]) (fun a => [.box [lst AV.str .ro ns, lst u8 .ro up], .box [.int .i64 a0], .box [lst AV.str .ro ns, lst u8 .ro up], .box [lst AV.str .ro ns, lst u8 .ro up], .tok l.length, .box (lvl up ns.length b a), .box [.rsl 5 0 ns.length ns.length 1]]) (fun a => ns.length - a) 0 ?_ fun a ha => ?_
      · simp only [go_sem, Nat.reduceMod, Nat.reduceBNe, Nat.reduceBEq, Nat.reduceEqDiff, Nat.reduceAdd, Int.reduceAdd, Nat.reduceMul, Nat.reduceSub, Int.reduceToNat, Int.reduceLE, Int.reduceLT, Int.reduceEq, Int.reduceNe, reduceCtorEq, Nat.reduceLT, Nat.reduceLeDiff]
        exact Nat.zero_le _
      · simp only [A_labels_sortedL1, go_sem, Nat.reduceMod, Nat.reduceBNe, Nat.reduceBEq, Nat.reduceEqDiff, Nat.reduceAdd, Int.reduceAdd, Nat.reduceMul, Nat.reduceSub, Int.reduceToNat, Int.reduceLE, Int.reduceLT, Int.reduceEq, Int.reduceNe, reduceCtorEq, Nat.reduceLT, Nat.reduceLeDiff]
        refine ⟨fun ha' => ?_, fun ha' => ?_⟩
        · refine call_lend (ev_obelow hX hs ns up a b (by omega) (by omega)) rfl ?_
          have hbn : b < ns.length := by omega
          have han : a < ns.length := by omega
          have hc8 : Lat.cnt (fun y => Lat.le up y b) a ≤ a := Lat.cnt_le _ _
          cases hle : Lat.le up a b with
          | true =>
            simp only [go_sem, Nat.reduceMod, Nat.reduceBNe, Nat.reduceBEq, Nat.reduceEqDiff, Nat.reduceAdd, Int.reduceAdd, Nat.reduceMul, Nat.reduceSub, Int.reduceToNat, Int.reduceLE, Int.reduceLT, Int.reduceEq, Int.reduceNe, reduceCtorEq, Nat.reduceLT, Nat.reduceLeDiff, Nat.mul_one, lvl_getD hbn, lvl_len]
            exact ⟨⟨by omega, by omega⟩, hbn, ⟨by omega, by omega⟩, hbn, a + 1, by omega, by omega, by rw [wi64 (by omega)]; rfl, by rw [wi64 (by omega), lvl_up hle]⟩
          | false =>
            simp only [go_sem, Nat.reduceMod, Nat.reduceBNe, Nat.reduceBEq, Nat.reduceEqDiff, Nat.reduceAdd, Int.reduceAdd, Nat.reduceMul, Nat.reduceSub, Int.reduceToNat, Int.reduceLE, Int.reduceLT, Int.reduceEq, Int.reduceNe, reduceCtorEq, Nat.reduceLT, Nat.reduceLeDiff]
            exact ⟨a + 1, by omega, by omega, by rw [wi64 (by omega)]; rfl, by rw [lvl_no hle]⟩
        · obtain rfl : a = ns.length := by omega
          exact ⟨b + 1, by omega, by omega, by rw [wi64 (by omega)]; rfl, by rw [lvl_end]⟩
    · obtain rfl : b = ns.length := by omega
      obtain ⟨m, hm⟩ : ∃ m, ns.length = m + 1 := ⟨ns.length - 1, by omega⟩
      refine call_evm (z_Clone hX _ (nl l) (by simpa [nl] using h100) _) fun r H' hr => ?_
      rcases hr with ⟨e0, rfl, rfl⟩ | ⟨e0, k, rfl, rfl⟩
      · simp only [go_sem, Nat.reduceMod, Nat.reduceBNe, Nat.reduceBEq, Nat.reduceEqDiff, Nat.reduceAdd, Int.reduceAdd, Nat.reduceMul, Nat.reduceSub, Int.reduceToNat, Int.reduceLE, Int.reduceLT, Int.reduceEq, Int.reduceNe, reduceCtorEq, Nat.reduceLT, Nat.reduceLeDiff]
        refine call_evm (z_Sort0 hX _ _) fun r H' hr => ?_
        obtain ⟨rfl, rfl⟩ := hr
        simp only [go_sem, Nat.reduceMod, Nat.reduceBNe, Nat.reduceBEq, Nat.reduceEqDiff, Nat.reduceAdd, Int.reduceAdd, Nat.reduceMul, Nat.reduceSub, Int.reduceToNat, Int.reduceLE, Int.reduceLT, Int.reduceEq, Int.reduceNe, reduceCtorEq, Nat.reduceLT, Nat.reduceLeDiff]
        refine call_evm (z_Compact0 hX _) fun r H' hr => ?_
        obtain ⟨rfl, rfl⟩ := hr
        simp only [go_sem, Nat.reduceMod, Nat.reduceBNe, Nat.reduceBEq, Nat.reduceEqDiff, Nat.reduceAdd, Int.reduceAdd, Nat.reduceMul, Nat.reduceSub, Int.reduceToNat, Int.reduceLE, Int.reduceLT, Int.reduceEq, Int.reduceNe, reduceCtorEq, Nat.reduceLT, Nat.reduceLeDiff]
        have : l = [] := by simpa [nl] using e0
        subst this
        simp only [srt_nil]
        rfl
      · simp only [go_sem, Nat.reduceMod, Nat.reduceBNe, Nat.reduceBEq, Nat.reduceEqDiff, Nat.reduceAdd, Int.reduceAdd, Nat.reduceMul, Nat.reduceSub, Int.reduceToNat, Int.reduceLE, Int.reduceLT, Int.reduceEq, Int.reduceNe, reduceCtorEq, Nat.reduceLT, Nat.reduceLeDiff]
        let d : List (Fin (m + 1)) := l.map fun a => Fin.ofNat (m + 1) a
        have ed : d.map (fun x => AV.int .i64 (x.val : Int)) = (nl l).map (AV.int .i64) := by
          simp only [d, nl, List.map_map]
          refine List.map_congr_left fun x hx => ?_
          simp only [Function.comp_apply, Fin.val_ofNat]
          rw [Nat.mod_eq_of_lt (by have := hl x hx; omega)]
        have el : d.length = (nl l).length := by simp [d, nl]
        let d' := d.mergeSort fun x y => !(ltOf (cmpF fun a => (Lat.lv up ns.length a : Nat))) y x
        let Z : List Nat := d'.map (·.val)
        have hZl : Z.length = (nl l).length := by simp [Z, d', List.length_mergeSort, el]
        have eZ : d'.map (fun x => AV.int .i64 (x.val : Int)) = (nl Z).map (AV.int .i64) := by
          simp only [Z, nl, List.map_map]
          rfl
        have hn : (nl Z).length = Z.length := by simp [nl]
        have hc : Lib.compact (nl Z) = nl (Lat.srt up ns.length l) := by
          refine Lat.compact_srt hv hl (fun x => ?_) fun i j hij hj => ?_
          · simp only [Z, List.mem_map]
            constructor
            · rintro ⟨y, hy, rfl⟩
              have := List.mem_mergeSort.1 hy
              simp only [d, List.mem_map] at this
              obtain ⟨z, hz, rfl⟩ := this
              rw [Fin.val_ofNat, Nat.mod_eq_of_lt (by have := hl z hz; omega)]
              exact hz
            · intro hx
              refine ⟨Fin.ofNat (m + 1) x, List.mem_mergeSort.2 (List.mem_map.2 ⟨x, hx, rfl⟩), ?_⟩
              rw [Fin.val_ofNat, Nat.mod_eq_of_lt (by have := hl x hx; omega)]
          · have hp : d'.Pairwise fun x y => (!(ltOf (cmpF fun a => (Lat.lv up ns.length a : Nat))) y x) = true := by
              refine List.pairwise_mergeSort (fun a b c h1 h2 => ?_) (fun a b => ?_) d
              · simp only [Bool.not_eq_true', ltOf_cmpF] at *
                rw [← Bool.not_eq_true, lessB_iff] at *
                omega
              · rw [Bool.or_eq_true]
                simp only [Bool.not_eq_true', ltOf_cmpF]
                rw [← Bool.not_eq_true, ← Bool.not_eq_true, lessB_iff, lessB_iff]
                omega
            have hp2 : Z.Pairwise fun x y => ¬ Lat.kl up ns.length y x = true := by
              rw [List.pairwise_map]
              refine hp.imp fun {a b} h => ?_
              simp only [Bool.not_eq_true', ltOf_cmpF] at h
              rw [← Bool.not_eq_true, lessB_iff] at h
              rw [Lat.kl_iff]
              omega
            rw [List.getD_eq_getElem?_getD, List.getD_eq_getElem?_getD, List.getElem?_eq_getElem hj, List.getElem?_eq_getElem (by omega)]
            exact List.pairwise_iff_getElem.1 hp2 i j (by omega) hj hij
        rw [← el, ← ed]
        refine call_evm (z_Sort hX (m := m) (il := 5) (ib := 6) (id := 7) (lev := fun a => (Lat.lv up ns.length a : Nat)) (c := m + 1) (k := k) (rest := []) d (by rw [el]; simpa [nl] using h100) ?_ ?_ (by omega) (by omega) rfl) fun r H' hr => ?_
        · rw [lvl_all, hm, List.append_nil]
          rfl
        · rw [hm]
          rfl
        obtain ⟨rfl, rfl⟩ := hr
        have eZ2 : (d.mergeSort fun x y => !(ltOf (cmpF fun a => (Lat.lv up ns.length a : Nat))) y x).map (fun x => AV.int .i64 (x.val : Int)) = (nl Z).map (AV.int .i64) := eZ
        rw [eZ2]
        simp only [go_sem, Nat.reduceMod, Nat.reduceBNe, Nat.reduceBEq, Nat.reduceEqDiff, Nat.reduceAdd, Int.reduceAdd, Nat.reduceMul, Nat.reduceSub, Int.reduceToNat, Int.reduceLE, Int.reduceLT, Int.reduceEq, Int.reduceNe, reduceCtorEq, Nat.reduceLT, Nat.reduceLeDiff]
        have e3 : d.length = (nl Z).length := by rw [hn, hZl, el]
        rw [e3]
        refine call_evm (z_Compact hX (nl Z) (by rw [hn, hZl]; simpa [nl] using h100) 7 k _ rfl) fun r H' hr => ?_
        obtain ⟨rfl, rfl⟩ := hr
        rw [hc]
        simp only [go_sem, Nat.reduceMod, Nat.reduceBNe, Nat.reduceBEq, Nat.reduceEqDiff, Nat.reduceAdd, Int.reduceAdd, Nat.reduceMul, Nat.reduceSub, Int.reduceToNat, Int.reduceLE, Int.reduceLT, Int.reduceEq, Int.reduceNe, reduceCtorEq, Nat.reduceLT, Nat.reduceLeDiff]
        rw [List.map_append, List.append_assoc]
        exact fin_row _ _ _
end
end Go.Avm
