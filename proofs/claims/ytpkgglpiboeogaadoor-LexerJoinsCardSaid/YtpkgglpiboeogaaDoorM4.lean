/- Lines joined; blanks put in. -/
import Derived.Test.YtpkgglpiboeogaaDoorM3
set_option linter.unusedSectionVars false
set_option linter.unusedSimpArgs false
set_option linter.unusedVariables false

/- Lines joined; blanks put in. -/
namespace Go.Lx
open Go Go.Avm Go.Rn
theorem join_len {a b : List UInt8} (ha : a.length ≤ 300) (hb : b.length ≤ 300) : ¬ 2000 < (a ++ 32 :: b).length := by
  rw [List.length_append, List.length_cons]; omega
theorem join_ok {a b : List UInt8} {l m : List PT} (ha : a.length ≤ 300) (hb : b.length ≤ 300) (h : Lx 0 a l) (h2 : Lx 0 b m) : lineR (a ++ 32 :: b) = (l ++ sh (a.length + 1) m, 0, 0) := by
  have e := lex_join h (32 :: b) rfl
  have e2 := of_lx (lx_shift h2 (a.length + 1))
  rw [lex_blank, show 0 + a.length + 1 = 0 + (a.length + 1) by omega, e2] at e
  unfold lineR
  rw [if_neg (join_len ha hb), e]
theorem join_bad {a b : List UInt8} {l : List PT} {d : Nat} {f : Int} (ha : a.length ≤ 300) (hb : b.length ≤ 300) (h : Lx 0 a l) (h2 : lexS 0 0 b = .bad d f) : lineR (a ++ 32 :: b) = ([], d + (a.length + 1), f) := by
  have e := lex_join h (32 :: b) rfl
  have e2 := (lex_shift_bad _ 0 (a.length + 1) b d f (Nat.le_refl _) h2).1
  rw [lex_blank, show 0 + a.length + 1 = 0 + (a.length + 1) by omega, e2] at e
  unfold lineR
  rw [if_neg (join_len ha hb), e]
theorem sh_len (k : Nat) (l : List PT) : (sh k l).length = l.length := by simp [sh]
theorem sh_tok (k : Nat) (l : List PT) : (sh k l).map (·.1) = l.map (·.1) := by
  simp only [sh, List.map_map]; rfl
theorem sh_at (k : Nat) (l : List PT) (i : Nat) (d : PT) (h : i < l.length) : (sh k l).getD i d = ((l.getD i d).1, (l.getD i d).2.1 + k, (l.getD i d).2.2 + k) := by
  unfold sh
  rw [List.getD_eq_getElem?_getD, List.getD_eq_getElem?_getD, List.getElem?_map, List.getElem?_eq_getElem h]; rfl
theorem take_rep (k : Nat) (h : k ≤ 5) : ([32, 32, 32, 32, 32] : List UInt8).take k = List.replicate k 32 := by
  rcases (by omega : k = 0 ∨ k = 1 ∨ k = 2 ∨ k = 3 ∨ k = 4 ∨ k = 5) with rfl | rfl | rfl | rfl | rfl | rfl <;> rfl
theorem ins_ok {s : List UInt8} {l : List PT} (hs : s.length ≤ 300) (h : Lx 0 s l) {b : Nat} (hb : b ≤ 5) {k : Nat} (hk : k ≤ l.length) : lineR (s.take (atK 0 l k) ++ List.replicate b 32 ++ s.drop (atK 0 l k) ++ List.replicate b 32) = (l.take k ++ sh b (l.drop k), 0, 0) := by
  have h1 := lx_end (lx_ins h b k hk) b
  rw [Nat.sub_zero] at h1
  rw [← List.append_assoc] at h1
  refine lineR_ok ?_ h1
  simp only [List.length_append, List.length_take, List.length_drop, List.length_replicate]
  omega
end Go.Lx
