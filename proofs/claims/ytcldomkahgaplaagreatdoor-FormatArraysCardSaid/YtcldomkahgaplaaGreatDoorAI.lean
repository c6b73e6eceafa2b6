/- Lines of cells. -/
import Derived.Test.YtcldomkahgaplaaGreatDoorAF4
import Derived.Test.YtcldomkahgaplaaGreatDoorAR4
import Derived.Test.YtcldomkahgaplaaGreatDoorAZ
import Derived.Test.YtcldomkahgaplaaGreatDoorML2
set_option linter.all false
namespace Go.Avm
open Go Go.Fm Go.Rn Go.Lx
set_option maxRecDepth 10000
def pcK (k : Int) (l : List Int) : List UInt8 := if k = 1 then nums l else qt (byB l)
structure CEnv (X : Cx) : Prop where
 fst : X.G 0 = some tab0
 acc : X.G 1 = some tab1
 non : X.G 2 = some [.int .i64 0, .int .i64 0]
 pow : X.G (sRen.g 17) = some tabQ
 syn : ∃ te, X.G 5 = some [.ifc te .undef]
 rng : ∃ te, X.G (sRen.g 16) = some [.ifc te .undef]
 db : X.G 8 = some tabB
def R64 (l : List Int) : Prop := ∀ v ∈ l, -9223372036854775808 ≤ v ∧ v ≤ 9223372036854775807
theorem flatE_ge (l : List Int) : (flatE l).length ≤ 4 * l.length := by
 induction l with
 | nil => simp [flatE]
 | cons a r ih =>
  have h : (enc a).length ≤ 4 := by
   by_cases hv : valid a = true
   ·exact (enc_len_pos hv).2
   ·simp [enc, hv]
  rw [show flatE (a :: r) = enc a ++ flatE r from rfl, List.length_append, List.length_cons]
  omega
theorem byB_len (l : List Int) : (byB l).length ≤ 4 * l.length := by
 have := flatE_ge l
 unfold byB
 split
 ·exact this
 ·simp
theorem byB_ok (l : List Int) : okT (byB l) = true := by
 unfold byB
 split
 ·rename_i h
  have hv := badI_valid l h.1
  exact decide_eq_true (stop_encs l hv)
 ·rfl
theorem byB_rns (l : List Int) (h : ∀ r ∈ l, valid r = true) (hl : l.length ≤ 20) : byB l = flatE l := by
 have hb : badI l = -1 := badI_none l fun j hj => h _ (by rw [List.getD_eq_getElem?_getD, List.getElem?_eq_getElem hj]; exact List.getElem_mem _)
 have := flatE_ge l
 exact (by_ok (by omega) (by omega)).1
theorem pcK_len {k : Int} {l : List Int} (h : R64 l) (hl : l.length ≤ 20) : (pcK k l).length ≤ 2000 := by
 unfold pcK
 split
 ·have := nums_len h
  omega
 ·have h1 := qt_len (byB l)
  have h2 := byB_len l
  omega
section
variable {X : Cx} (hX : X.P = Go.Proofs.Tryz.prog) (hs : Std X) (he : CEnv X)
include hX hs he
theorem ev_pieceK (k : Int) (l : List Int) (hv : R64 l) (hl : l.length ≤ 20) : Ev X F_format_piece [.int .i64 k, lst (AV.int .i64) .ro l] (.str (pcK k l)) := by
 refine ev_of_k (evK_of_wpc hs (A_format_piece_ok hX) ?_)
 unfold pcK
 by_cases hk : k = 1
 ·subst hk
  simp only [A_format_piece, go_sem, Nat.reduceEqDiff, Nat.reduceAdd, reduceCtorEq]
  refine call_ev (ev_numbers hX hs he.pow l hv (by omega)) ?_
  simp only [go_sem, Nat.reduceEqDiff, reduceCtorEq]
  exact ⟨⟨_, rfl⟩, rfl⟩
 ·rw [if_neg hk]
  have h2 := byB_len l
  have hq := ev_Quote hX hs he.db he.fst he.acc (byB l) (by omega)
  rw [if_neg (by omega), byB_ok, if_neg (by decide)] at hq
  simp only [A_format_piece, go_sem, Nat.reduceEqDiff, Nat.reduceAdd, reduceCtorEq, hk]
  refine call_ev (ev_Bytes hX hs l (fun r hr => by have := hv r hr; omega) (by omega)) ?_
  simp only [go_sem, Nat.reduceEqDiff, Nat.reduceAdd, reduceCtorEq, Nat.reduceLT]
  refine call_ev hq ?_
  simp only [go_sem, Nat.reduceEqDiff, Nat.reduceAdd, reduceCtorEq, Nat.reduceLT]
  exact ⟨⟨_, rfl⟩, rfl⟩
end
end Go.Avm
namespace Go.Avm
open Go Go.Fm Go.Rn Go.Lx
set_option maxRecDepth 10000
section
variable {X : Cx} (hX : X.P = Go.Proofs.Tryz.prog) (hs : Std X) (he : CEnv X)
include hX hs he
theorem ev_ArrayK (a : Lat.Arr) (hv : R64 a.c) (hl : a.c.length < 1000000) : Ev X F_format_Array [arrV a] (.tuple [.str (arrayR (pcK a.k) a).1, .int .i64 (arrayR (pcK a.k) a).2]) := by
 have hr : ∀ j, R64 ((a.c.drop (j * 20)).take 20) := fun j v h => hv v (List.mem_of_mem_drop (List.mem_of_mem_take h))
 have hl20 : ∀ j, ((a.c.drop (j * 20)).take 20).length ≤ 20 := fun j => by rw [List.length_take]; exact Nat.min_le_left _ _
 exact ev_Array hX hs he.pow (pcK a.k) a (fun j => ev_pieceK hX hs he a.k _ (hr j) (hl20 j)) (fun j => pcK_len (hr j) (hl20 j)) hl
end
end Go.Avm
