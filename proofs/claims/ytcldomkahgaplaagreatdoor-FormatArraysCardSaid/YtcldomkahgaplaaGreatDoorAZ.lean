/- Runes: Decode. -/
import Derived.Test.YtcldomkahgaplaaGreatDoorAR1
import Derived.Test.YtcldomkahgaplaaGreatDoorAR2
set_option linter.all false
namespace Go.Avm
open Go Go.Rn
set_option maxRecDepth 4000
def fb (a : Int) : Int := if a < 128 then 240 else if a < 194 then 241 else if a < 224 then 2 else if a = 224 then 19 else if a = 237 then 35 else if a < 240 then 3 else if a = 240 then 52 else if a < 244 then 4 else if a = 244 then 68 else 241
def tabF0 : List AV := (List.range 256).map fun i : Nat => .int .u8 (fb i)
def tabF1 : List AV := [128, 191, 160, 191, 128, 159, 144, 191, 128, 143, 0, 0, 0, 0, 0, 0, 0, 0, 0, 0, 0, 0, 0, 0, 0, 0, 0, 0, 0, 0, 0, 0].map (AV.int .u8)
set_option maxRecDepth 4000
section
variable {X : Cx} (hX : X.P = Go.Proofs.Tryz.prog) (hs : Std X) (hG0 : X.G 0 = some tabF0) (hG1 : X.G 1 = some tabF1)
include hX hs hG0 hG1
end
section
variable {X : Cx} (hX : X.P = Go.Proofs.Tryz.prog) (hs : Std X) (hG0 : X.G 0 = some tabF0) (hG1 : X.G 1 = some tabF1)
include hX hs hG0 hG1
end
set_option maxRecDepth 4000
section
variable {X : Cx} (hX : X.P = Go.Proofs.Tryz.prog) (hs : Std X) (hG0 : X.G 0 = some tabF0) (hG1 : X.G 1 = some tabF1)
include hX hs hG0 hG1
end
end Go.Avm
namespace Go.Avm
open Go Go.Rn
set_option maxRecDepth 4000
section
variable {X : Cx} (hX : X.P = Go.Proofs.Tryz.prog) (hs : Std X) (hG0 : X.G 0 = some tabF0) (hG1 : X.G 1 = some tabF1)
include hX hs hG0 hG1
end
set_option maxRecDepth 4000
section
variable {X : Cx} (hX : X.P = Go.Proofs.Tryz.prog) (hs : Std X) (hG0 : X.G 0 = some tabF0) (hG1 : X.G 1 = some tabF1)
include hX hs hG0 hG1
end
set_option maxRecDepth 4000
section
variable {X : Cx} (hX : X.P = Go.Proofs.Tryz.prog) (hs : Std X) (hG0 : X.G 0 = some tabF0) (hG1 : X.G 1 = some tabF1)
include hX hs hG0 hG1
end
set_option maxRecDepth 4000
section
variable {X : Cx} (hX : X.P = Go.Proofs.Tryz.prog) (hs : Std X)
include hX hs
end
end Go.Avm
namespace Go.Avm
open Go Go.Rn
set_option maxRecDepth 4000
theorem u8_or128 {y : Int} (h₀ : 0 ≤ y) (h₁ : y < 64) : bits .or .u8 128 y = 128 + y := bits_join .u8 8 (by decide) wraps_u8 6 128 y (by decide) (by decide) (by decide) h₀ h₁ (by omega)
theorem u8_or192 {y : Int} (h₀ : 0 ≤ y) (h₁ : y < 64) : bits .or .u8 192 y = 192 + y := bits_join .u8 8 (by decide) wraps_u8 6 192 y (by decide) (by decide) (by decide) h₀ h₁ (by omega)
theorem u8_or224 {y : Int} (h₀ : 0 ≤ y) (h₁ : y < 32) : bits .or .u8 224 y = 224 + y := bits_join .u8 8 (by decide) wraps_u8 5 224 y (by decide) (by decide) (by decide) h₀ h₁ (by omega)
theorem u8_or240 {y : Int} (h₀ : 0 ≤ y) (h₁ : y < 16) : bits .or .u8 240 y = 240 + y := bits_join .u8 8 (by decide) wraps_u8 4 240 y (by decide) (by decide) (by decide) h₀ h₁ (by omega)
theorem shr_i32 (n : Int) (k : Nat) (hk : k ≤ 32) : n.fdiv (2 ^ min k 32) = n / 2 ^ k := by
 have : min k 32 = k := by omega
 rw [this]
 have hp : (0 : Int) ≤ 2 ^ k := by exact_mod_cast Nat.zero_le (2 ^ k)
 exact Int.fdiv_eq_ediv_of_nonneg n hp
def badI : List Int → Int
 | [] => -1
 | r :: t => if valid r then (if badI t < 0 then -1 else badI t + 1) else 0
theorem badI_ge : ∀ l : List Int, -1 ≤ badI l
 | [] => by simp [badI]
 | r :: t => by
  have := badI_ge t
  simp only [badI]; split
  ·split <;> omega
  ·omega
theorem badI_at : ∀ (l : List Int) (k : Nat), k < l.length → valid (l.getD k 0) = false → (∀ j, j < k → valid (l.getD j 0) = true) → badI l = k
 | [], k, h, _, _ => by simp at h
 | r :: t, 0, _, h, _ => by
  simp only [List.getD_cons_zero] at h
  simp [badI, h]
 | r :: t, k + 1, h, h1, h2 => by
  have h0 := h2 0 (by omega)
  simp only [List.getD_cons_zero] at h0
  have ih := badI_at t k (by simpa using h) (by simpa using h1) (fun j hj => by have := h2 (j + 1) (by omega); simpa using this)
  simp only [badI, h0, if_true, ih]
  rw [if_neg (by omega)]; omega
theorem badI_none : ∀ (l : List Int), (∀ j, j < l.length → valid (l.getD j 0) = true) → badI l = -1
 | [], _ => rfl
 | r :: t, h => by
  have h0 := h 0 (by simp)
  simp only [List.getD_cons_zero] at h0
  have ih := badI_none t (fun j hj => by have := h (j + 1) (by simpa using hj); simpa using this)
  simp only [badI, h0, if_true, ih]
  rfl
theorem badI_valid : ∀ (l : List Int), badI l < 0 → ∀ r ∈ l, valid r = true
 | [], _, r, h => by simp at h
 | x :: t, hb, r, h => by
  simp only [badI] at hb
  split at hb
  ·rename_i hx
   split at hb
   ·rcases List.mem_cons.1 h with rfl | h
    ·exact hx
    ·exact badI_valid t (by assumption) r h
   ·have := badI_ge t; omega
  ·omega
set_option maxRecDepth 4000
section
variable {X : Cx} (hX : X.P = Go.Proofs.Tryz.prog) (hs : Std X)
include hX hs
theorem ev_bytes1 (n : Int) (hn : -9223372036854775808 ≤ n ∧ n < 9223372036854775808) : Ev X F_runes_Bytes_1 [.int .i64 n] (.bool (!valid n)) := by
 refine ev_of_wpc hs (A_runes_Bytes_1_ok hX) 0 ?_
 simp only [A_runes_Bytes_1, go_sem, Nat.reduceEqDiff, reduceCtorEq]
 refine call_ev (ev_is hX hs n hn) ?_
 simp only [go_sem, Nat.reduceEqDiff, reduceCtorEq]
theorem ev_appNA (i : Nat) (l : List UInt8) (n : Int) (H : Heap) (hH : H[i]? = some (.tok l.length)) (hv : valid n = true) (h : ¬ n < 128) (hl : l.length < 100000) :
  EvM X F_utf8_appendRuneNonASCII [lst u8 (.tok i 1) l, .int .i32 n] H fun r H' => r = lst u8 (.tok i 1) (l ++ enc n) ∧ H' = H.set i (.tok (l.length + (enc n).length)) := by
 have hn := valid_rng hv
 have hvi := (valid_iff n).1 hv
 have hle := enc_len_pos hv
 refine evM_of_wpc hs (A_utf8_appendRuneNonASCII_ok hX) ?_
 have s6 := shr_i32 n 6 (by omega)
 have s12 := shr_i32 n 12 (by omega)
 have s18 := shr_i32 n 18 (by omega)
 have w8 : ∀ x : Int, 0 ≤ x → bits .and .u8 (IntKind.u8.wrap x) 63 = x % 64 := fun x hx => by
  rw [w_u8, u8_and63 _ (by omega) (by omega)]; omega
 have wn := wu32 (n := n) (by omega)
 simp only [A_utf8_appendRuneNonASCII, go_sem, Nat.reduceEqDiff, Nat.reduceAdd, Int.reduceToNat, Int.reduceLE, reduceCtorEq, Nat.reduceLT, s6, s12, s18, w8 n hn.1, w8 (n / 2 ^ 6) (by omega), w8 (n / 2 ^ 12) (by omega), wn]
 have key : appX H 1 1 (lst u8 (.tok i 1) l) (some ((enc n).map u8)) = some (true, lst u8 (.tok i 1) (l ++ enc n), some (H.set i (.tok (l.length + (enc n).length)))) := by
  rw [ax_tok, hH]
  have a1 : (l.length + (enc n).length) * 1 ≤ 140737488355328 := by omega
  have a2 : l.length + (enc n).length ≤ 9223372036854775807 := by omega
  simp only [decide_true, a1, a2, Bool.true_and]
 have p6 : (2 : Int) ^ 6 = 64 := by decide
 have p12 : (2 : Int) ^ 12 = 4096 := by decide
 have p18 : (2 : Int) ^ 18 = 262144 := by decide
 rw [p6, p12, p18]
 have ee : enc n = (encI n).map byteI := enc_eq hv
 have e3 : ¬ n ≤ 2047 → n ≤ 65535 → [AV.int .u8 (bits .or .u8 224 (IntKind.u8.wrap (n / 4096))), AV.int .u8 (bits .or .u8 128 (n / 64 % 64)), AV.int .u8 (bits .or .u8 128 (n % 64))] = (enc n).map u8 := fun c c' => by
  rw [ee, wu8 (by omega), u8_or224 (by omega) (by omega), u8_or128 (by omega) (by omega), u8_or128 (by omega) (by omega)]
  simp (disch := omega) only [encI, if_neg h, if_neg (show ¬ n < 2048 by omega), if_pos (show n < 65536 by omega), List.map_cons, List.map_nil, u8_byteI]
 refine ⟨fun c1 => ?_, fun c1 => ⟨fun c2 => ⟨fun c3 => ?_, fun c3 => absurd c2 c3⟩, fun c2 => ⟨fun c3 => ⟨fun c4 => ?_, fun c4 => ⟨fun c5 => ⟨fun c6 => ?_, fun c6 => ?_⟩, fun c5 => ?_⟩⟩, fun c3 => ?_⟩⟩⟩
 ·have e : [AV.int .u8 (bits .or .u8 192 (IntKind.u8.wrap (n / 64))), AV.int .u8 (bits .or .u8 128 (n % 64))] = (enc n).map u8 := by
   rw [ee, wu8 (by omega), u8_or192 (by omega) (by omega), u8_or128 (by omega) (by omega)]
   simp (disch := omega) only [encI, if_neg h, if_pos (show n < 2048 by omega), List.map_cons, List.map_nil, u8_byteI]
  rw [e, key]
  simp only [go_sem, Nat.reduceEqDiff, reduceCtorEq]
 ·rw [e3 c1 (by omega), key]
  simp only [go_sem, Nat.reduceEqDiff, reduceCtorEq]
 ·rw [e3 c1 c4, key]
  simp only [go_sem, Nat.reduceEqDiff, reduceCtorEq]
 ·have e : [AV.int .u8 (bits .or .u8 240 (IntKind.u8.wrap (n / 262144))), AV.int .u8 (bits .or .u8 128 (n / 4096 % 64)), AV.int .u8 (bits .or .u8 128 (n / 64 % 64)), AV.int .u8 (bits .or .u8 128 (n % 64))] = (enc n).map u8 := by
   rw [ee, wu8 (by omega), u8_or240 (by omega) (by omega), u8_or128 (by omega) (by omega), u8_or128 (by omega) (by omega), u8_or128 (by omega) (by omega)]
   simp (disch := omega) only [encI, if_neg h, if_neg (show ¬ n < 2048 by omega), if_neg (show ¬ n < 65536 by omega), List.map_cons, List.map_nil, u8_byteI]
  rw [e, key]
  simp only [go_sem, Nat.reduceEqDiff, reduceCtorEq]
 all_goals exfalso; omega
theorem ev_appRune (i : Nat) (l : List UInt8) (n : Int) (H : Heap) (hH : H[i]? = some (.tok l.length)) (hv : valid n = true) (hl : l.length < 100000) :
  EvM X F_utf8_AppendRune [lst u8 (.tok i 1) l, .int .i32 n] H fun r H' => r = lst u8 (.tok i 1) (l ++ enc n) ∧ H' = H.set i (.tok (l.length + (enc n).length)) := by
 have hn := valid_rng hv
 have wn := wu32 (n := n) (by omega)
 refine evM_of_wpc hs (A_utf8_AppendRune_ok hX) ?_
 simp only [A_utf8_AppendRune, go_sem, Nat.reduceEqDiff, Nat.reduceAdd, reduceCtorEq, Nat.reduceLT, wn]
 refine ⟨fun c => ?_, fun c => ?_⟩
 ·have e : [AV.int .u8 (IntKind.u8.wrap n)] = (enc n).map u8 := by
   rw [enc_eq hv, wu8 (by omega)]
   simp (disch := omega) only [encI, if_pos (show n < 128 by omega), List.map_cons, List.map_nil, u8_byteI]
  have hle := enc_len_pos hv
  rw [e, ax_tok, hH]
  have a1 : (l.length + (enc n).length) * 1 ≤ 140737488355328 := by omega
  have a2 : l.length + (enc n).length ≤ 9223372036854775807 := by omega
  simp only [go_sem, Nat.reduceEqDiff, reduceCtorEq, a1, a2]
 ·refine call_evm (ev_appNA hX hs i l n H hH hv (by omega) hl) ?_
  rintro r H' ⟨rfl, rfl⟩
  simp only [go_sem, Nat.reduceEqDiff, reduceCtorEq]
theorem ev_indexFunc (l : List Int) (hl : ∀ r ∈ l, -9223372036854775808 ≤ r ∧ r < 9223372036854775808) (hlen : l.length < 9223372036854775807) : Ev X F_slices_IndexFunc_int64_int64 [lst (AV.int .i64) .ro l, .clo F_runes_Bytes_1 [] []] (.int .i64 (badI l)) := by
 refine ev_of_wpc hs (A_slices_IndexFunc_int64_int64_ok hX) 0 ?_
 simp only [A_slices_IndexFunc_int64_int64, go_sem, Nat.reduceEqDiff, Nat.reduceAdd, reduceCtorEq]
 refine w_loop' hs.hm (ι := Nat) (fun k => k ≤ l.length ∧ ∀ j, j < k → valid (l.getD j 0) = true) (fun k => [(0, lst (AV.int .i64) .ro l), (1, .clo F_runes_Bytes_1 [] []), (6, lst (AV.int .i64) .ro l), (7, .int .i64 l.length), (8, .int .i64 k)]) (fun _ => []) (fun k => l.length - k) 0 ?_ fun k hk => ?_
 ·simp only [go_sem, Nat.reduceEqDiff, reduceCtorEq]
  exact ⟨Nat.zero_le _, fun j hj => by omega⟩
 ·obtain ⟨k1, k2⟩ := hk
  simp only [A_slices_IndexFunc_int64_int64L0, go_sem, Nat.reduceEqDiff, reduceCtorEq]
  refine ⟨fun c => ⟨by omega, ?_⟩, fun c => ?_⟩
  ·have hk' : k < l.length := by omega
   have hm : l.getD k default ∈ l := by simp [List.getD, hk']
   refine call_ev (ev_bytes1 hX hs _ (hl _ hm)) ?_
   cases hv : valid (l.getD k default) with
   | true =>
    simp only [go_sem, Nat.reduceEqDiff, reduceCtorEq]
    refine ⟨k + 1, by omega, ⟨by omega, fun j hj => ?_⟩, by rw [wi64 (by omega)]; rfl⟩
    rcases (by omega : j = k ∨ j < k) with rfl | h
    ·exact hv
    ·exact k2 j h
   | false =>
    simp only [go_sem, Nat.reduceEqDiff, reduceCtorEq]
    rw [badI_at l k hk' hv k2]
  ·rw [badI_none l fun j hj => k2 j (by omega)]
end
theorem ev_ro {X : Cx} {f : Nat} {args : List AV} {p : Perm} {es xs : List AV} (h : Ev X f args (.tuple (.sl p es :: xs))) : Ev X f args (.tuple (.sl .ro es :: xs)) := by
 refine ev_weak h fun g w v hr => ?_
 simp only [Rel, RelL] at hr ⊢
 obtain ⟨vs, h1, h2⟩ := hr
 obtain ⟨v1, t1, h3, h4, h5⟩ := h2
 obtain ⟨a, cap, us, sz, k1, k2, k3, k4, _⟩ := h4
 exact ⟨vs, h1, v1, t1, h3, ⟨a, cap, us, sz, k1, k2, k3, k4, trivial⟩, h5⟩
def flatE (l : List Int) : List UInt8 := (l.map enc).flatten
def byB (l : List Int) : List UInt8 := if badI l < 0 ∧ (flatE l).length ≤ 8000 then flatE l else []
def byA (l : List Int) : Int := if badI l < 0 then 0 else badI l
def byE (l : List Int) : Int := if badI l < 0 then (if (flatE l).length ≤ 8000 then 0 else 3) else 7
theorem flatE_take (l : List Int) (k : Nat) (h : k < l.length) : flatE (l.take (k + 1)) = flatE (l.take k) ++ enc (l.getD k default) := by
 simp only [flatE]
 rw [List.take_succ_eq_append_getElem h, List.map_append, List.flatten_append]
 simp [List.getD, h]
theorem flatE_len (l : List Int) (k : Nat) : (flatE (l.take k)).length ≤ (flatE l).length := by
 have : flatE l = flatE (l.take k) ++ flatE (l.drop k) := by
  simp only [flatE, ← List.flatten_append, ← List.map_append, List.take_append_drop]
 rw [this, List.length_append]; omega
theorem by_bad {l : List Int} (h : ¬ badI l < 0) : byB l = [] ∧ byA l = badI l ∧ byE l = 7 := by simp [byB, byA, byE, h]
theorem by_long {l : List Int} (h : badI l < 0) (h2 : ¬ (flatE l).length ≤ 8000) : byB l = [] ∧ byA l = 0 ∧ byE l = 3 := by
 refine ⟨?_, ?_, ?_⟩
 ·simp only [byB]; rw [if_neg (by omega)]
 ·simp only [byA]; rw [if_pos h]
 ·simp only [byE]; rw [if_pos h, if_neg h2]
theorem by_ok {l : List Int} (h : badI l < 0) (h2 : (flatE l).length ≤ 8000) : byB l = flatE l ∧ byA l = 0 ∧ byE l = 0 := by
 refine ⟨?_, ?_, ?_⟩
 ·simp only [byB]; rw [if_pos ⟨h, h2⟩]
 ·simp only [byA]; rw [if_pos h]
 ·simp only [byE]; rw [if_pos h, if_pos h2]
set_option maxRecDepth 4000
section
variable {X : Cx} (hX : X.P = Go.Proofs.Tryz.prog) (hs : Std X)
include hX hs
theorem ev_Bytes (l : List Int) (hl : ∀ r ∈ l, -9223372036854775808 ≤ r ∧ r < 9223372036854775808) (hlen : l.length < 9223372036854775807) : Ev X F_runes_Bytes [lst (AV.int .i64) .ro l] (.tuple [lst u8 .ro (byB l), .int .i64 (byA l), .int .i64 (byE l)]) := by
 by_cases hb : badI l < 0
 ·have hval := badI_valid l hb
  by_cases h8 : (flatE l).length ≤ 8000
  ·have hk := by_ok hb h8
   rw [hk.1, hk.2.1, hk.2.2]
   refine ev_of_wpc hs (A_runes_Bytes_ok hX) 2 ?_
   simp only [A_runes_Bytes, go_sem, Nat.reduceEqDiff, reduceCtorEq]
   refine call_ev (ev_indexFunc hX hs l hl hlen) ?_
   simp only [go_sem, Nat.reduceEqDiff, reduceCtorEq, (show ¬ 0 ≤ badI l by omega)]
   refine w_loop hs.hm (ι := Nat) (fun k => k ≤ l.length) (fun k => [(2, lst u8 (.tok 0 1) (flatE (l.take k))), (13, lst (AV.int .i64) .ro l), (14, .int .i64 l.length), (15, .int .i64 k)]) (fun k => [.tok (flatE (l.take k)).length]) (fun k => l.length - k) 0 ⟨Nat.zero_le _, _, _, wk_tok 2 1 rfl, ⟨by simp only [go_sem, Nat.reduceEqDiff, reduceCtorEq]; rfl, rfl⟩⟩ fun k hk => ?_
   simp only [A_runes_BytesL0, go_sem, Nat.reduceEqDiff]
   refine ⟨fun c => ⟨by omega, ?_⟩, fun c => ?_⟩
   ·have hk' : k < l.length := by omega
    have hm : l.getD k default ∈ l := by simp [List.getD, hk']
    have hv := hval _ hm
    have hr := valid_rng hv
    have hf := flatE_take l k hk'
    have hfl := flatE_len l (k + 1)
    have hfl2 := flatE_len l k
    rw [wi32 (by omega)]
    refine call_evm (ev_appRune hX hs 0 _ _ _ rfl hv (by omega)) ?_
    rintro r H' ⟨rfl, rfl⟩
    rw [show flatE (l.take k) ++ enc (l.getD k default) = flatE (l.take (k + 1)) from hf.symm]
    simp only [go_sem, Nat.reduceEqDiff]
    refine ⟨fun c2 => by omega, fun c2 => ⟨k + 1, by omega, by omega, ⟨rfl, by rw [wi64 (by omega)]; rfl⟩, ?_⟩⟩
    rw [hf, List.length_append]
   ·rw [List.take_of_length_le (by omega)]
  ·have hk := by_long hb h8
   rw [hk.1, hk.2.1, hk.2.2]
   refine ev_ro (p := .ex) (es := []) ?_
   refine ev_of_wpc hs (A_runes_Bytes_ok hX) 2 ?_
   simp only [A_runes_Bytes, go_sem, Nat.reduceEqDiff, reduceCtorEq]
   refine call_ev (ev_indexFunc hX hs l hl hlen) ?_
   simp only [go_sem, Nat.reduceEqDiff, reduceCtorEq, (show ¬ 0 ≤ badI l by omega)]
   refine w_loop hs.hm (ι := Nat) (fun k => k ≤ l.length ∧ (flatE (l.take k)).length ≤ 8000) (fun k => [(2, lst u8 (.tok 0 1) (flatE (l.take k))), (13, lst (AV.int .i64) .ro l), (14, .int .i64 l.length), (15, .int .i64 k)]) (fun k => [.tok (flatE (l.take k)).length]) (fun k => l.length - k) 0 ⟨⟨Nat.zero_le _, by simp [flatE]⟩, _, _, wk_tok 2 1 rfl, ⟨by simp only [go_sem, Nat.reduceEqDiff, reduceCtorEq]; rfl, rfl⟩⟩ fun k hk => ?_
   obtain ⟨hk1, hk2⟩ := hk
   simp only [A_runes_BytesL0, go_sem, Nat.reduceEqDiff]
   refine ⟨fun c => ⟨by omega, ?_⟩, fun c => ?_⟩
   ·have hk' : k < l.length := by omega
    have hm : l.getD k default ∈ l := by simp [List.getD, hk']
    have hv := hval _ hm
    have hr := valid_rng hv
    have hf := flatE_take l k hk'
    rw [wi32 (by omega)]
    refine call_evm (ev_appRune hX hs 0 _ _ _ rfl hv (by omega)) ?_
    rintro r H' ⟨rfl, rfl⟩
    rw [show flatE (l.take k) ++ enc (l.getD k default) = flatE (l.take (k + 1)) from hf.symm]
    simp only [go_sem, Nat.reduceEqDiff]
    refine fun c2 => ⟨k + 1, by omega, ⟨by omega, by omega⟩, ⟨rfl, by rw [wi64 (by omega)]; rfl⟩, ?_⟩
    rw [hf, List.length_append]
   ·rw [List.take_of_length_le (by omega)] at hk2; omega
 ·have hk := by_bad hb
  rw [hk.1, hk.2.1, hk.2.2]
  refine ev_ro (p := .ex) (es := []) ?_
  refine ev_of_wpc hs (A_runes_Bytes_ok hX) 2 ?_
  simp only [A_runes_Bytes, go_sem, Nat.reduceEqDiff, reduceCtorEq]
  refine call_ev (ev_indexFunc hX hs l hl hlen) ?_
  simp only [go_sem, Nat.reduceEqDiff, reduceCtorEq, (show 0 ≤ badI l by omega)]
end
end Go.Avm
