/- The reader: class, while. -/
import Derived.Test.YtcldomkahgaplaaGreatDoorAR1
import Derived.Test.YtcldomkahgaplaaGreatDoorML2
import Derived.Test.YtcldomkahgaplaaGreatDoorAK1
import Derived.Test.YtcldomkahgaplaaGreatDoorAW
import Derived.Test.YtcldomkahgaplaaGreatDoorAS
import Derived.Test.YtcldomkahgaplaaGreatDoorAV1
import Derived.Test.YtcldomkahgaplaaGreatDoorML
import Derived.Shelf.Strconv.ParseIntPublic10
import Derived.Shelf.Strconv.ToError
import Derived.Shelf.Strconv.ParseIntEmpty
import Derived.Shelf.Unicode.ValidAny
set_option linter.all false
namespace Go.Avm
open Go Go.Rn Go.Lx
set_option maxRecDepth 10000
section
variable {X : Cx} (hX : X.P = Go.Proofs.Tryz.prog) (hs : Std X)
include hX hs
omit hX hs in
omit hX hs in
end
end Go.Avm
namespace Go.Avm
open Go Go.Rn Go.Lx
def tkV (t : Tok) (a b : Int) : AV := .agg [.int .i64 t.kind, .int .i64 a, .int .i64 b, .int .i64 t.n, .str t.s]
set_option maxRecDepth 10000
section
variable {X : Cx} (hX : X.P = Go.Proofs.Tryz.prog) (hs : Std X) (hN : X.G 2 = some [.int .i64 0, .int .i64 0])
include hX hs hN
end
end Go.Avm
namespace Go.Avm
open Go Go.Proofs Go.Shelf
theorem bLays168 : Lays.n168 Go.Proofs.Tryz.prog sRen := by
 constructor <;> first | kernel_rfl | (intro w; kernel_rfl) | (constructor <;> first | kernel_rfl | (intro w; kernel_rfl) | (constructor <;> first | kernel_rfl | (intro w; kernel_rfl)))
theorem sn196 : Lays.n196 Go.Proofs.Tryz.prog sRen := by
 constructor <;> first | kernel_rfl | (intro w; kernel_rfl) | (constructor <;> first | kernel_rfl | (intro w; kernel_rfl) | (constructor <;> first | kernel_rfl | (intro w; kernel_rfl)))
section
variable {X : Cx} (hX : X.P = Go.Proofs.Tryz.prog) (hs : Std X) {H : Heap}
include hX
theorem ev_bWR {i : Nat} {l : List UInt8} (r : Int) (hv : Rn.valid r = true) (hH : H[i]? = some (.bld 61 5 l)) (hlen : l.length + 4 ≤ 140737488355328) :
  EvM X F_strings_Builder_WriteRune [.ptr i 0, .int .i32 r] H fun q H' => q = .tuple [.int .i64 ((Rn.enc r).length : Nat), .nilI] ∧ H' = H.set i (.bld 61 5 (l ++ Rn.enc r)) := by
 have hr := Rn.valid_rng hv
 have hvi := (Rn.valid_iff r).1 hv
 have e : encR r = Rn.enc r := by
  rw [Rn.enc_eq hv]
  unfold encR Rn.encI
  by_cases c1 : r ≤ 127
  ·rw [if_pos c1, if_pos (show r < 128 by omega)]; rfl
  rw [if_neg c1, if_neg (show ¬ r < 128 by omega)]
  by_cases c2 : r ≤ 2047
  ·rw [if_pos c2, if_pos (show r < 2048 by omega)]; rfl
  rw [if_neg c2, if_neg (show ¬ r < 2048 by omega)]
  by_cases c3 : r ≤ 65535
  ·rw [if_pos c3, if_pos (show r < 65536 by omega)]; rfl
  rw [if_neg c3, if_neg (show ¬ r < 65536 by omega)]; rfl
 refine evM_bpost ⟨Go.Proofs.Tryz.f165, by rw [hX]; exact Go.Proofs.Tryz.func165, by decide, by kernel_rfl⟩ (by decide) hH fun g w vs b p v hwf hhr hvs hbx hb hp hv => ?_
 simp only [RelL, Rel] at hvs
 obtain ⟨v1, r1, rfl, ⟨b', rfl, h2⟩, v2, r2, rfl, rfl, rfl⟩ := hvs
 rw [hbx] at h2
 cases h2
 rw [hX]
 refine (b_rune (C := X) hX bLays168 bExtra r hr.1 hr.2 (by omega) hb hp hv hlen).mono ?_
 rintro e' w' ⟨rfl, h⟩
 rw [e] at h ⊢
 exact ⟨_, rfl, fun g' => by simp [Rel, RelL], h⟩
theorem ev_bStringA {i : Nat} {l : List UInt8} (hH : H[i]? = some (.bld 61 5 l)) :
  EvM X F_strings_Builder_String [.ptr i 0] H fun r H' => r = .str l ∧ H' = H.set i .dead := by
 refine evM_spost ⟨Go.Proofs.Tryz.f36, by rw [hX]; exact Go.Proofs.Tryz.func36, by decide, by kernel_rfl⟩ (T := 61) (e := 5) (by decide) hH fun w b p v hb hv => ?_
 rw [hX]
 by_cases h0 : l = []
 ·subst h0
  exact b_String0 bLays169 bExtra hb hv
 ·exact b_String bLays169 bExtra hb hv h0
omit hX in
theorem laid_cell {G : Consts} {g : Gh} {w : World} (hwf : Wf G g w) {x : Nat} {cs : List AV} (hG : G x = some cs) {i : Nat} {k : IntKind} {z : Int} (hi : cs[i]? = some (.int k z)) : w.cell? ⟨x, i, none⟩ = some (.int k z) := by
 have hl := hwf.laid _ _ hG
 simp only [Rel] at hl
 obtain ⟨b, o, us, e1, e2, e3⟩ := hl
 simp only [Value.pointer.injEq, Option.some.injEq, Addr.mk.injEq, and_true] at e1
 obtain ⟨rfl, rfl⟩ := e1
 obtain ⟨u, hu, hr⟩ := e2.get' i hi
 simp only [Rel] at hr
 have hc := (e3 i u hu).2
 rw [hr, Nat.zero_add] at hc
 exact hc
def tab0 : List AV := (List.range 256).map fun i : Nat => .int .u8 (Lib.firstT i)
def tab1 : List AV := (List.range 16).flatMap fun i : Nat => [.int .u8 (Lib.accLo i), .int .u8 (Lib.accHi i)]
omit hX in
theorem tab1_at : ∀ i, i < 16 → tab1[2 * i]? = some (.int .u8 (Lib.accLo i)) ∧ tab1[2 * i + 1]? = some (.int .u8 (Lib.accHi i)) := by
 intro i hi
 match i, hi with
 | 0, _ | 1, _ | 2, _ | 3, _ | 4, _ | 5, _ | 6, _ | 7, _ | 8, _ | 9, _ | 10, _ | 11, _ | 12, _ | 13, _ | 14, _ | 15, _ => exact ⟨rfl, rfl⟩
 | n + 16, h => omega
theorem ev_ValidStringG (h0 : X.G 0 = some tab0) (h1 : X.G 1 = some tab1) (s : List UInt8) (hl : s.length ≤ 9223372036854775807) : Ev X F_utf8_ValidString [.str s] (.bool (Rn.okT s)) := by
 refine ev_below ⟨Go.Proofs.Tryz.f128, by rw [hX]; exact Go.Proofs.Tryz.func128, by decide, by kernel_rfl⟩ fun g w vs hwf hvs => ?_
 simp only [RelL, Rel] at hvs
 obtain ⟨v1, r1, rfl, ⟨s1, rfl, h2⟩, rfl⟩ := hvs
 rw [hX]
 refine (Any.utf8_ValidString sn196 s1 w ?_ ⟨fun c hc => ?_, fun i hi => ⟨?_, ?_⟩⟩).mono ?_
 ·have : s1.size = s1.data.toList.length := by simp
  rw [h2] at this
  omega
 ·exact laid_cell hwf h0 (by simp [tab0, hc])
 ·exact laid_cell hwf h1 (tab1_at i hi).1
 ·exact laid_cell hwf h1 (tab1_at i hi).2
 ·rintro e w' ⟨rfl, hw⟩
  refine ⟨_, rfl, fun g => ?_, hw⟩
  simp only [Rel, h2]
  rw [Rn.validD_ok _ _ (Nat.le_refl _)]
theorem ev_ValidString (h0 : X.G 0 = some tab0) (h1 : X.G 1 = some tab1) (s : List UInt8) (hl : s.length < 1000000) : Ev X F_utf8_ValidString [.str s] (.bool (Rn.okT s)) := ev_ValidStringG hX h0 h1 s (by omega)
end
end Go.Avm
namespace Go.Avm
open Go Go.Rn Go.Lx
set_option maxRecDepth 10000
section
variable {X : Cx} (hX : X.P = Go.Proofs.Tryz.prog) (hs : Std X) (hN : X.G 2 = some [.int .i64 0, .int .i64 0]) {te : Nat} (hR : X.G 6 = some [.ifc te .undef])
include hX hs hN hR
end
end Go.Avm
