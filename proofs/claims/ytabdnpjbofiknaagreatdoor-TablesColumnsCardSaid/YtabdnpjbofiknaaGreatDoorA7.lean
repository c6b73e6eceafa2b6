/- What simp is to know of verification conditions: one rule for each shape. -/
import Derived.Test.YtabdnpjbofiknaaGreatDoorA6
import Derived.RangeFuncIn
set_option linter.all false
/-
  What simp is to know of verification conditions: one rule for each shape.
-/
namespace Go.Avm
open Go

theorem FL.get_cons (i : Nat) (v : AV) (r : FL) (t : Nat) : FL.get ((i, v) :: r) t = if i = t then v else FL.get r t := id rfl
theorem FL.get_nil (t : Nat) : FL.get [] t = .undef := id rfl
theorem FL.upd_some (F : FL) (d : Nat) (v : AV) : (FL.get F).updo (some d) v = FL.get ((d, v) :: F) := FL.get_set F d v
theorem FL.upd_none (F : FL) (v : AV) : (FL.get F).updo none v = FL.get F := id rfl

section
variable (k : IntKind) (x y : Int) (s t : List UInt8) (a b c : Bool) (v : AV)
theorem ab_add : abin .add (.int k x) (.int k y) = some (true, .int k (k.wrap (x + y))) := by simp [abin, isShift, bint]
theorem ab_sub : abin .sub (.int k x) (.int k y) = some (true, .int k (k.wrap (x - y))) := by simp [abin, isShift, bint]
theorem ab_mul : abin .mul (.int k x) (.int k y) = some (true, .int k (k.wrap (x * y))) := by simp [abin, isShift, bint]
theorem ab_quo : abin .quo (.int k x) (.int k y) = some (decide (y ≠ 0), .int k (k.wrap (x.tdiv y))) := by simp [abin, isShift, bint]
theorem ab_rem : abin .rem (.int k x) (.int k y) = some (decide (y ≠ 0), .int k (x.tmod y)) := by simp [abin, isShift, bint]
theorem ab_and : abin .and (.int k x) (.int k y) = some (true, .int k (bits .and k x y)) := by simp [abin, isShift, bint]
theorem ab_or : abin .or (.int k x) (.int k y) = some (true, .int k (bits .or k x y)) := by simp [abin, isShift, bint]
theorem ab_xor : abin .xor (.int k x) (.int k y) = some (true, .int k (bits .xor k x y)) := by simp [abin, isShift, bint]
theorem ab_andNot : abin .andNot (.int k x) (.int k y) = some (true, .int k (bits .andNot k x y)) := by simp [abin, isShift, bint]
theorem ab_eql : abin .eql (.int k x) (.int k y) = some (true, .bool (decide (x = y))) := by simp [abin, isShift, bint]; rfl
theorem ab_neq : abin .neq (.int k x) (.int k y) = some (true, .bool (!decide (x = y))) := by simp [abin, isShift, bint, bne]; rfl
theorem ab_lss : abin .lss (.int k x) (.int k y) = some (true, .bool (decide (x < y))) := by simp [abin, isShift, bint]
theorem ab_leq : abin .leq (.int k x) (.int k y) = some (true, .bool (decide (x ≤ y))) := by simp [abin, isShift, bint]
theorem ab_gtr : abin .gtr (.int k x) (.int k y) = some (true, .bool (decide (y < x))) := by simp [abin, isShift, bint]
theorem ab_geq : abin .geq (.int k x) (.int k y) = some (true, .bool (decide (y ≤ x))) := by simp [abin, isShift, bint]
theorem ab_shl (k' : IntKind) : abin .shl (.int k x) (.int k' y) = some (decide (0 ≤ y), .int k (k.wrap (x * 2 ^ (min y.toNat k.bits)))) := by simp [abin, isShift, sh]
theorem ab_shr (k' : IntKind) : abin .shr (.int k x) (.int k' y) = some (decide (0 ≤ y), .int k (x.fdiv (2 ^ (min y.toNat k.bits)))) := by simp [abin, isShift, sh]
theorem ab_sadd : abin .add (.str s) (.str t) = some (decide (s.length + t.length ≤ 9223372036854775807), .str (s ++ t)) := by simp [abin, bstr]
theorem ab_seql : abin .eql (.str s) (.str t) = some (true, .bool (decide (s = t))) := by simp [abin, bstr]; exact Bool.eq_iff_iff.2 (by simp)
theorem ab_sneq : abin .neq (.str s) (.str t) = some (true, .bool (!decide (s = t))) := by simp [abin, bstr]; exact Bool.eq_iff_iff.2 (by simp)
theorem ab_slss : abin .lss (.str s) (.str t) = some (true, .bool (Op.bytesLess s t)) := by simp [abin, bstr]
theorem ab_sleq : abin .leq (.str s) (.str t) = some (true, .bool (Op.bytesLess s t || s == t)) := by simp [abin, bstr]
theorem ab_sgtr : abin .gtr (.str s) (.str t) = some (true, .bool (!(Op.bytesLess s t || s == t))) := by simp [abin, bstr]
theorem ab_sgeq : abin .geq (.str s) (.str t) = some (true, .bool (!Op.bytesLess s t)) := by simp [abin, bstr]

theorem pk_b : pickV a (.bool b) (.bool c) = .bool (bif a then b else c) := rfl
theorem pk_1 (u : AV) : pickV true (.bool b) u = .bool b := by cases u <;> rfl
theorem pk_0 (u : AV) : pickV false u (.bool b) = .bool b := by cases u <;> rfl
theorem bif_and : (bif a then b else false) = (a && b) := by cases a <;> rfl
theorem bif_or : (bif a then true else b) = (a || b) := by cases a <;> rfl
end

section
variable {X : Cx} {N : Nat} {Q : Exit → Fr → Heap → Prop} {fr : Fr} {H : Heap} {K : Fr → Heap → Prop}
theorem kq_sn (c : ACode) (ks : List Kt) : kq X N Q (.seq c :: ks) .normal fr H = wpc X N c (kq X N Q ks) fr H := id rfl
theorem kq_sr (c : ACode) (ks : List Kt) : kq X N Q (.seq c :: ks) .ret fr H = kq X N Q ks .ret fr H := id rfl
theorem kq_se (c : ACode) (ks : List Kt) (i : Nat) : kq X N Q (.seq c :: ks) (.exit i) fr H = kq X N Q ks (.exit i) fr H := id rfl
theorem kq_bn (i : Nat) (ks : List Kt) : kq X N Q (.blk i :: ks) .normal fr H = kq X N Q ks .normal fr H := id rfl
theorem kq_br (i : Nat) (ks : List Kt) : kq X N Q (.blk i :: ks) .ret fr H = kq X N Q ks .ret fr H := id rfl
theorem kq_be (i : Nat) (ks : List Kt) : kq X N Q (.blk i :: ks) (.exit i) fr H = kq X N Q ks .normal fr H := by simp [kq, ABlk]
theorem kq_bx (i j : Nat) (ks : List Kt) (h : (j == i) = false) : kq X N Q (.blk i :: ks) (.exit j) fr H = kq X N Q ks (.exit j) fr H := by
  simp only [kq, ABlk]; rw [if_neg (by simpa using h)]
theorem kq_cn (ks : List Kt) : kq X N Q (.sc :: ks) .normal fr H = kq X N Q ks .normal fr H := id rfl
theorem kq_cr (ks : List Kt) : kq X N Q (.sc :: ks) .ret fr H = kq X N Q ks .ret fr H := id rfl
theorem kq_ce (ks : List Kt) (i : Nat) : kq X N Q (.sc :: ks) (.exit i) fr H = kq X N Q ks (.exit i) fr H := id rfl
theorem w_scope (a : ACode) (ks : List Kt) : wpc X N (.scope a) (kq X N Q ks) fr H = wpc X N a (kq X N Q (.sc :: ks)) fr H := id rfl
theorem w_label (l : Nat) (ks : List Kt) : wpc X N (.label l) (kq X N Q ks) fr H = kq X N Q ks .normal fr H := id rfl
theorem w_goto (l : Nat) (ks : List Kt) : wpc X N (.goto l) (kq X N Q ks) fr H = kq X N Q ks (.goto l) fr H := id rfl
theorem kq_sg (c : ACode) (ks : List Kt) (i : Nat) : kq X N Q (.seq c :: ks) (.goto i) fr H = kq X N Q ks (.goto i) fr H := id rfl
theorem kq_bg (i j : Nat) (ks : List Kt) : kq X N Q (.blk i :: ks) (.goto j) fr H = kq X N Q ks (.goto j) fr H := id rfl
theorem w_bad (ks : List Kt) : wpc X N .bad (kq X N Q ks) fr H = False := id rfl
theorem kq_0 (e : Exit) : kq X N Q [] e fr H = Q e fr H := id rfl
theorem w_skip (ks : List Kt) : wpc X N .skip (kq X N Q ks) fr H = kq X N Q ks .normal fr H := id rfl
theorem w_ret (ks : List Kt) : wpc X N .ret (kq X N Q ks) fr H = kq X N Q ks .ret fr H := id rfl
theorem w_exit (i : Nat) (ks : List Kt) : wpc X N (.exit i) (kq X N Q ks) fr H = kq X N Q ks (.exit i) fr H := id rfl
theorem w_seq (a b : ACode) (ks : List Kt) : wpc X N (.seq a b) (kq X N Q ks) fr H = wpc X N a (kq X N Q (.seq b :: ks)) fr H := id rfl
theorem w_block (i : Nat) (a : ACode) (ks : List Kt) : wpc X N (.block i a) (kq X N Q ks) fr H = wpc X N a (kq X N Q (.blk i :: ks)) fr H := id rfl
theorem w_reg (ops : List AOper) (ks : List Kt) : wpc X N (.region false ops) (kq X N Q ks) fr H = vcOps X (kq X N Q ks .normal) ops fr H := id rfl
theorem w_regd (ops : List AOper) (ks : List Kt) : wpc X N (.region true ops) (kq X N Q ks) fr H = vcOpsQ X (kq X N Q ks .normal) H ops fr := id rfl
/-- Two ways. -/
def vcSplit (e : Bool) (A B : Prop) : Prop := (e = true → A) ∧ (e = false → B)
theorem sp_t (A B : Prop) : vcSplit true A B = A := by simp [vcSplit]
theorem sp_f (A B : Prop) : vcSplit false A B = B := by simp [vcSplit]
theorem sp_e (e : Bool) (A B : Prop) : vcSplit e A B = ((e = true → A) ∧ (e = false → B)) := id rfl
/-- A branching. -/
def vcC (X : Cx) (N : Nat) (Q : Exit → Fr → Heap → Prop) (a b : ACode) (ks : List Kt) (fr : Fr) (H : Heap) : AV → Prop
  | .bool t => vcSplit t (wpc X N a (kq X N Q ks) fr H) (wpc X N b (kq X N Q ks) fr H)
  | _ => False
theorem w_cond (c : AX) (a b : ACode) (ks : List Kt) : wpc X N (.cond c a b) (kq X N Q ks) fr H = vcC X N Q a b ks fr H (c.eval X.G fr) := by
  simp only [wpc, vcC, vcSplit]
  cases c.eval X.G fr <;> rfl
theorem vi_b (a b : ACode) (ks : List Kt) (t : Bool) : vcC X N Q a b ks fr H (.bool t) = vcSplit t (wpc X N a (kq X N Q ks) fr H) (wpc X N b (kq X N Q ks) fr H) := id rfl
theorem ri_r (res : List ARes) (Q : AV → Heap → Prop) : RetIs res Q .ret fr H = match resVals fr H res with | some vs => Q (resOf vs) H | none => False := id rfl
theorem ri_n (res : List ARes) (Q : AV → Heap → Prop) : RetIs res Q .normal fr H = match resVals fr H res with | some vs => Q (resOf vs) H | none => False := id rfl
theorem rv_nil : resVals fr H [] = some [] := id rfl
theorem rv_tmp (t : Nat) (r : List ARes) : resVals fr H (.tmp t :: r) = match resVals fr H r with | some vs => some (fr t :: vs) | none => none := by
  simp only [resVals, ARes.val]
  cases resVals fr H r <;> rfl
theorem ro_1 (v : AV) : resOf [v] = v := id rfl
theorem ro_0 : resOf [] = .tuple [] := id rfl
theorem ro_2 (u v : AV) (r : List AV) : resOf (u :: v :: r) = .tuple (u :: v :: r) := id rfl

theorem vc_nil : vcOps X K [] fr H = K fr H := id rfl
theorem vc_cons (o : AOper) (r : List AOper) : vcOps X K (o :: r) fr H = vcOp X o fr H (vcOps X K r) := id rfl
theorem vc_no (d : Option Nat) (op : AOp) : vcOp X ⟨d, op, none⟩ fr H K = vcDo X op d fr H K := id rfl
theorem vc_g (d : Option Nat) (op : AOp) (t : Nat) (b : Bool) : vcOp X ⟨d, op, some (t, b)⟩ fr H K = vcG X t b op d fr H K (fr t) := id rfl
theorem vg_t (d : Option Nat) (op : AOp) (t : Nat) (e : Bool) : vcG X t true op d fr H K (.bool e) = vcSplit e (vcDo X op d (fr.updo (some t) (.bool true)) H K) (K ((fr.updo (some t) (.bool false)).updo d noV) H) := id rfl
theorem vg_f (d : Option Nat) (op : AOp) (t : Nat) (e : Bool) : vcG X t false op d fr H K (.bool e) = vcSplit e (K ((fr.updo (some t) (.bool true)).updo d noV) H) (vcDo X op d (fr.updo (some t) (.bool false)) H K) := id rfl
theorem vg_no (d : Option Nat) (op : AOp) (t : Nat) (b : Bool) : vcG X t b op d fr H K noV = K (fr.updo d noV) H := by cases b <;> rfl
end

/-- What an operation asks for that has yielded r. -/
def vcR (d : Option Nat) (fr : Fr) (H : Heap) (K : Fr → Heap → Prop) : Option (Bool × AV × Option Heap) → Prop
  | some (c, v, h) => c = true ∧ K (fr.updo d v) (h.getD H)
  | none => False

section
variable {X : Cx} {fr : Fr} {H : Heap} {K : Fr → Heap → Prop} (d : Option Nat)
theorem vr_n (c : Bool) (v : AV) : vcR d fr H K (some (c, v, none)) = (c = true ∧ K (fr.updo d v) H) := id rfl
theorem vr_s (c : Bool) (v : AV) (H' : Heap) : vcR d fr H K (some (c, v, some H')) = (c = true ∧ K (fr.updo d v) H') := id rfl
theorem vr_0 : vcR d fr H K none = False := id rfl
theorem vd_mov (x' : AX) : vcDo X (.mov x') d fr H K = vcR d fr H K (aop X.G fr H (.mov x')) := by
  simp only [vcDo, callee, yieldOf, vcR]
  split <;> simp_all
theorem vd_pick (c' : AX) (a' : AX) (b' : AX) : vcDo X (.pick c' a' b') d fr H K = vcR d fr H K (aop X.G fr H (.pick c' a' b')) := by
  simp only [vcDo, callee, yieldOf, vcR]
  split <;> simp_all
theorem vd_bin (op' : BinOp) (x' : AX) (y' : AX) : vcDo X (.bin op' x' y') d fr H K = vcR d fr H K (aop X.G fr H (.bin op' x' y')) := by
  simp only [vcDo, callee, yieldOf, vcR]
  split <;> simp_all
theorem vd_beq (n' : Bool) (x' : AX) (y' : AX) : vcDo X (.beq n' x' y') d fr H K = vcR d fr H K (aop X.G fr H (.beq n' x' y')) := by
  simp only [vcDo, callee, yieldOf, vcR]
  split <;> simp_all
theorem vd_not (x' : AX) : vcDo X (.not x') d fr H K = vcR d fr H K (aop X.G fr H (.not x')) := by
  simp only [vcDo, callee, yieldOf, vcR]
  split <;> simp_all
theorem vd_neg (x' : AX) : vcDo X (.neg x') d fr H K = vcR d fr H K (aop X.G fr H (.neg x')) := by
  simp only [vcDo, callee, yieldOf, vcR]
  split <;> simp_all
theorem vd_conv (k' : IntKind) (x' : AX) : vcDo X (.conv k' x') d fr H K = vcR d fr H K (aop X.G fr H (.conv k' x')) := by
  simp only [vcDo, callee, yieldOf, vcR]
  split <;> simp_all
theorem vd_b2s (x' : AX) : vcDo X (.b2s x') d fr H K = vcR d fr H K (aop X.G fr H (.b2s x')) := by
  simp only [vcDo, callee, yieldOf, vcR]
  split <;> simp_all
theorem vd_s2b (t' : Bool) (x' : AX) : vcDo X (.s2b t' x') d fr H K = vcR d fr H K (aop X.G fr H (.s2b t' x')) := by
  simp only [vcDo, callee, yieldOf, vcR]
  split <;> simp_all
theorem vd_r2s (x' : AX) : vcDo X (.r2s x') d fr H K = vcR d fr H K (aop X.G fr H (.r2s x')) := by
  simp only [vcDo, callee, yieldOf, vcR]
  split <;> simp_all
theorem vd_smov (x' : AX) : vcDo X (.smov x') d fr H K = vcR d fr H K (aop X.G fr H (.smov x')) := by
  simp only [vcDo, callee, yieldOf, vcR]
  split <;> simp_all
theorem vd_len (x' : AX) : vcDo X (.len x') d fr H K = vcR d fr H K (aop X.G fr H (.len x')) := by
  simp only [vcDo, callee, yieldOf, vcR]
  split <;> simp_all
theorem vd_lenS (x' : AX) : vcDo X (.lenS x') d fr H K = vcR d fr H K (aop X.G fr H (.lenS x')) := by
  simp only [vcDo, callee, yieldOf, vcR]
  split <;> simp_all
theorem vd_idxA (n' : Nat) (x' : AX) (y' : AX) : vcDo X (.idxA n' x' y') d fr H K = vcR d fr H K (aop X.G fr H (.idxA n' x' y')) := by
  simp only [vcDo, callee, yieldOf, vcR]
  split <;> simp_all
theorem vd_idxP (n' : Nat) (m' : Nat) (x' : AX) (y' : AX) : vcDo X (.idxP n' m' x' y') d fr H K = vcR d fr H K (aop X.G fr H (.idxP n' m' x' y')) := by
  simp only [vcDo, callee, yieldOf, vcR]
  split <;> simp_all
theorem vd_ld (n' : Option Nat) (x' : AX) : vcDo X (.ld n' x') d fr H K = vcR d fr H K (aop X.G fr H (.ld n' x')) := by
  simp only [vcDo, callee, yieldOf, vcR]
  split <;> simp_all
theorem vd_st (n' : Nat) (x' : AX) (y' : AX) : vcDo X (.st n' x' y') d fr H K = vcR d fr H K (aop X.G fr H (.st n' x' y')) := by
  simp only [vcDo, callee, yieldOf, vcR]
  split <;> simp_all
theorem vd_fldA (n' : Nat) (x' : AX) : vcDo X (.fldA n' x') d fr H K = vcR d fr H K (aop X.G fr H (.fldA n' x')) := by
  simp only [vcDo, callee, yieldOf, vcR]
  split <;> simp_all
theorem vd_fld (n' : Nat) (m' : Option Nat) (x' : AX) : vcDo X (.fld n' m' x') d fr H K = vcR d fr H K (aop X.G fr H (.fld n' m' x')) := by
  simp only [vcDo, callee, yieldOf, vcR]
  split <;> simp_all
theorem vd_idxS (x' : AX) (y' : AX) : vcDo X (.idxS x' y') d fr H K = vcR d fr H K (aop X.G fr H (.idxS x' y')) := by
  simp only [vcDo, callee, yieldOf, vcR]
  split <;> simp_all
theorem vd_idxG (n' : Nat) (m' : Nat) (l' : Option Nat) (x' : AX) (y' : AX) : vcDo X (.idxG n' m' l' x' y') d fr H K = vcR d fr H K (aop X.G fr H (.idxG n' m' l' x' y')) := by
  simp only [vcDo, callee, yieldOf, vcR]
  split <;> simp_all
theorem vd_ssl (x' : AX) (y' : Option AX) (z' : Option AX) : vcDo X (.ssl x' y' z') d fr H K = vcR d fr H K (aop X.G fr H (.ssl x' y' z')) := by
  simp only [vcDo, callee, yieldOf, vcR]
  split <;> simp_all
theorem vd_sls (n' : Nat) (x' : AX) (y' : Option AX) (z' : Option AX) (u' : Option AX) : vcDo X (.sls n' x' y' z' u') d fr H K = vcR d fr H K (aop X.G fr H (.sls n' x' y' z' u')) := by
  simp only [vcDo, callee, yieldOf, vcR]
  split <;> simp_all
theorem vd_slA (n' : Nat) (m' : Nat) (x' : AX) (y' : Option AX) (z' : Option AX) (u' : Option AX) : vcDo X (.slA n' m' x' y' z' u') d fr H K = vcR d fr H K (aop X.G fr H (.slA n' m' x' y' z' u')) := by
  simp only [vcDo, callee, yieldOf, vcR]
  split <;> simp_all
theorem vd_allocB (T' e' : Nat) : vcDo X (.allocB T' e') d fr H K = vcR d fr H K (aop X.G fr H (.allocB T' e')) := by
  simp only [vcDo, callee, yieldOf, vcR]
  split <;> simp_all
theorem vd_alloc (cs' : List AV) : vcDo X (.alloc cs') d fr H K = vcR d fr H K (aop X.G fr H (.alloc cs')) := by
  simp only [vcDo, callee, yieldOf, vcR]
  split <;> simp_all
theorem vd_box (x' : AX) : vcDo X (.box x') d fr H K = vcR d fr H K (aop X.G fr H (.box x')) := by
  simp only [vcDo, callee, yieldOf, vcR]
  split <;> simp_all
theorem vd_build (cs' : List AV) (ps' : List (Nat × Nat × AX)) : vcDo X (.build cs' ps') d fr H K = vcR d fr H K (aop X.G fr H (.build cs' ps')) := by
  simp only [vcDo, callee, yieldOf, vcR]
  split <;> simp_all
theorem vd_bsl (n' : Nat) (z' : AV) (m' : Nat) (ps' : List (Nat × AX)) : vcDo X (.bsl n' z' m' ps') d fr H K = vcR d fr H K (aop X.G fr H (.bsl n' z' m' ps')) := by
  simp only [vcDo, callee, yieldOf, vcR]
  split <;> simp_all
theorem vd_extr (x' : AX) (n' : Nat) : vcDo X (.extr x' n') d fr H K = vcR d fr H K (aop X.G fr H (.extr x' n')) := by
  simp only [vcDo, callee, yieldOf, vcR]
  split <;> simp_all
theorem vd_mkf (n' : Nat) (fs' : List AX) (cs' : List AX) : vcDo X (.mkf n' fs' cs') d fr H K = vcR d fr H K (aop X.G fr H (.mkf n' fs' cs')) := by
  simp only [vcDo, callee, yieldOf, vcR]
  split <;> simp_all
theorem vd_mki (n' : Nat) (x' : AX) : vcDo X (.mki n' x') d fr H K = vcR d fr H K (aop X.G fr H (.mki n' x')) := by
  simp only [vcDo, callee, yieldOf, vcR]
  split <;> simp_all
theorem vd_mkT (n' : Nat) (m' : Nat) (x' : AX) : vcDo X (.mkT n' m' x') d fr H K = vcR d fr H K (aop X.G fr H (.mkT n' m' x')) := by
  simp only [vcDo, callee, yieldOf, vcR]
  split <;> simp_all
theorem vd_mkR (n' : Nat) (m' : Nat) (z' : List AV) (x' : AX) (y' : AX) : vcDo X (.mkR n' m' z' x' y') d fr H K = vcR d fr H K (aop X.G fr H (.mkR n' m' z' x' y')) := by
  simp only [vcDo, callee, yieldOf, vcR]
  split <;> simp_all
theorem vd_app (n' : Nat) (m' : Nat) (x' : AX) (y' : AX) : vcDo X (.app n' m' x' y') d fr H K = vcR d fr H K (aop X.G fr H (.app n' m' x' y')) := by
  simp only [vcDo, callee, yieldOf, vcR]
  split <;> simp_all
theorem vd_nck (x' : AX) : vcDo X (.nck x') d fr H K = vcR d fr H K (aop X.G fr H (.nck x')) := by
  simp only [vcDo, callee, yieldOf, vcR]
  split <;> simp_all
theorem vd_peq (n' : Bool) (x' y' : AX) : vcDo X (.peq n' x' y') d fr H K = vcR d fr H K (aop X.G fr H (.peq n' x' y')) := by
  simp only [vcDo, callee, yieldOf, vcR]
  split <;> simp_all
theorem vd_isn (n' : Bool) (x' : AX) : vcDo X (.isn n' x') d fr H K = vcR d fr H K (aop X.G fr H (.isn n' x')) := by
  simp only [vcDo, callee, yieldOf, vcR]
  split <;> simp_all
theorem vd_ifn (n' : Bool) (x' : AX) : vcDo X (.ifn n' x') d fr H K = vcR d fr H K (aop X.G fr H (.ifn n' x')) := by
  simp only [vcDo, callee, yieldOf, vcR]
  split <;> simp_all
theorem vd_boxS (n' : Nat) (x' : AX) : vcDo X (.boxS n' x') d fr H K = vcR d fr H K (aop X.G fr H (.boxS n' x')) := by
  simp only [vcDo, callee, yieldOf, vcR]
  split <;> simp_all
theorem vd_cpy (x' y' : AX) : vcDo X (.cpy x' y') d fr H K = vcR d fr H K (aop X.G fr H (.cpy x' y')) := by
  simp only [vcDo, callee, yieldOf, vcR]
  split <;> simp_all
theorem vd_aeq (n' : Bool) (ks' : List Nat) (x' y' : AX) : vcDo X (.aeq n' ks' x' y') d fr H K = vcR d fr H K (aop X.G fr H (.aeq n' ks' x' y')) := by
  simp only [vcDo, callee, yieldOf, vcR]
  split <;> simp_all
theorem vd_mm (n' : Bool) (x' y' : AX) : vcDo X (.mm n' x' y') d fr H K = vcR d fr H K (aop X.G fr H (.mm n' x' y')) := by
  simp only [vcDo, callee, yieldOf, vcR]
  split <;> simp_all

theorem vd_call (f : Nat) (as : List AX) : vcDo X (.call f as) d fr H K = CallOk X f (as.map (·.eval X.G fr)) d fr H K := id rfl
/-- A call of a function value. -/
def vcV (X : Cx) (as : List AX) (d : Option Nat) (fr : Fr) (H : Heap) (K : Fr → Heap → Prop) : AV → Prop
  | .clo f fs cs => CallOk X f (fs ++ as.map (·.eval X.G fr) ++ cs) d fr H K
  | .yv i => YieldOk X i (as.map (·.eval X.G fr)) d fr H K
  | _ => False
theorem vd_cv (x : AX) (as : List AX) : vcDo X (.callv x as) d fr H K = vcV X as d fr H K (x.eval X.G fr) := by
  simp only [vcDo, callee, yieldOf, aop]
  generalize x.eval X.G fr = v
  cases v <;> rfl
theorem vv_clo (as : List AX) (f : Nat) (fs cs : List AV) : vcV X as d fr H K (.clo f fs cs) = CallOk X f (fs ++ as.map (·.eval X.G fr) ++ cs) d fr H K := id rfl
theorem vv_yv (as : List AX) (i : Nat) : vcV X as d fr H K (.yv i) = YieldOk X i (as.map (·.eval X.G fr)) d fr H K := id rfl
end
end Go.Avm

/-
  Loops and calls in verification conditions; slices of elements of one kind.
-/
namespace Go.Avm
open Go

section
variable {X : Cx} {N : Nat}

/-- The frame holds what G says. -/
def FL.has (fr : Fr) : FL → Prop
  | [] => True
  | (i, v) :: r => fr i = v ∧ FL.has fr r

theorem FL.has_get {fr : Fr} : ∀ {G : FL}, FL.has fr G → ∀ t, G.get t = fr t ∨ G.get t = .undef
  | [], _, t => .inr rfl
  | (i, v) :: r, h, t => by
    simp only [FL.get]
    split
    · rename_i e; subst e; exact .inl h.1.symm
    · exact FL.has_get h.2 t

theorem wk_has {fr : Fr} {G : FL} {H : Heap} (h : FL.has fr G) : Wk X N fr H G.get H := wk_fr (FL.has_get h)

/-- What may be looked at as the loop's state j. -/
def Inv (F' : FL) (H' : Heap) (fr : Fr) (H : Heap) : Prop := FL.has fr F' ∧ H = H'

/-- The end of a round: on to a state of a lower measure. -/
def Again {ι : Type} (C : ι → Prop) (F' : ι → FL) (H' : ι → Heap) (μ : ι → Nat) (i : ι) (Q : Exit → Fr → Heap → Prop) : Exit → Fr → Heap → Prop
  | .normal, fr, H => ∃ j, μ j < μ i ∧ C j ∧ Inv (F' j) (H' j) fr H
  | e, fr, H => Q e fr H

theorem ag_n {ι : Type} {C : ι → Prop} {F' : ι → FL} {H' : ι → Heap} {μ : ι → Nat} {i : ι} {Q : Exit → Fr → Heap → Prop} (F : FL) (H : Heap) :
    Again C F' H' μ i Q .normal F.get H = ∃ j, μ j < μ i ∧ C j ∧ FL.has F.get (F' j) ∧ H = H' j := rfl
theorem ag_r {ι : Type} {C : ι → Prop} {F' : ι → FL} {H' : ι → Heap} {μ : ι → Nat} {i : ι} {Q : Exit → Fr → Heap → Prop} (fr : Fr) (H : Heap) :
    Again C F' H' μ i Q .ret fr H = Q .ret fr H := rfl
theorem ag_e {ι : Type} {C : ι → Prop} {F' : ι → FL} {H' : ι → Heap} {μ : ι → Nat} {i : ι} {Q : Exit → Fr → Heap → Prop} (fr : Fr) (H : Heap) (k : Nat) :
    Again C F' H' μ i Q (.exit k) fr H = Q (.exit k) fr H := rfl

/-- A loop, with its invariant: the states F' i, H' i with C i. -/
theorem w_loop (hm : X.P.follows .mixedOrders = true) {ι : Type} (C : ι → Prop) (F' : ι → FL) (H' : ι → Heap) (μ : ι → Nat) (i : ι) {body : ACode} {Q : Exit → Fr → Heap → Prop} {fr : Fr} {H : Heap}
    (h0 : C i ∧ ∃ fr1 H1, WkA X N fr H fr1 H1 ∧ Inv (F' i) (H' i) fr1 H1)
    (round : ∀ i, C i → wpc X N body (kq X N (Again C F' H' μ i Q) []) (F' i).get (H' i)) : wpc X N (.loop body) Q fr H := by
  refine xa_loop (fun i fr H => C i ∧ fr = (F' i).get ∧ H = H' i) μ i ?_ ?_
  · obtain ⟨hc, fr1, H1, hw, h1, rfl⟩ := h0
    exact ⟨_, _, hw.trans (fun _ => wk_has h1), hc, rfl, rfl⟩
  · rintro i fr1 H1 ⟨hc, rfl, rfl⟩
    refine xa_mono (xa_of_wpc hm _ (round i hc)) fun e fr2 H2 hq => ?_
    cases e with
    | normal =>
      obtain ⟨j, hj, hcj, h1, rfl⟩ := hq
      exact ⟨j, hj, _, _, fun _ => wk_has h1, hcj, rfl, rfl⟩
    | _ => exact hq

/-- A loop that starts in a state of its invariant. -/
theorem w_loop' (hm : X.P.follows .mixedOrders = true) {ι : Type} (C : ι → Prop) (F' : ι → FL) (H' : ι → Heap) (μ : ι → Nat) (i : ι) {body : ACode} {Q : Exit → Fr → Heap → Prop} {F : FL} {H : Heap}
    (h0 : C i ∧ FL.has F.get (F' i) ∧ H = H' i)
    (round : ∀ i, C i → wpc X N body (kq X N (Again C F' H' μ i Q) []) (F' i).get (H' i)) : wpc X N (.loop body) Q F.get H :=
  w_loop hm C F' H' μ i ⟨h0.1, _, _, WkA.refl, h0.2⟩ round

/-- A jump: on to a state of its label. -/
def AJ {ι : Type} (lb : ι → Nat) (C : ι → Prop) (F' : ι → FL) (H' : ι → Heap) (P : ι → Prop) (Q : Exit → Fr → Heap → Prop) : Exit → Fr → Heap → Prop
  | .goto l, fr, H => ∃ j, P j ∧ lb j = l ∧ C j ∧ Inv (F' j) (H' j) fr H
  | e, fr, H => Q e fr H
section
variable {ι : Type} {lb : ι → Nat} {C : ι → Prop} {F' : ι → FL} {H' : ι → Heap} {P : ι → Prop} {Q : Exit → Fr → Heap → Prop}
theorem aj_g (F : FL) (H : Heap) (l : Nat) : AJ lb C F' H' P Q (.goto l) F.get H = ∃ j, P j ∧ lb j = l ∧ C j ∧ FL.has F.get (F' j) ∧ H = H' j := id rfl
theorem aj_n (fr : Fr) (H : Heap) : AJ lb C F' H' P Q .normal fr H = Q .normal fr H := id rfl
theorem aj_r (fr : Fr) (H : Heap) : AJ lb C F' H' P Q .ret fr H = Q .ret fr H := id rfl
theorem aj_e (fr : Fr) (H : Heap) (k : Nat) : AJ lb C F' H' P Q (.exit k) fr H = Q (.exit k) fr H := id rfl
end
theorem FL.has_nil (fr : Fr) : FL.has fr [] = True := id rfl
theorem FL.has_cons (fr : Fr) (i : Nat) (v : AV) (r : FL) : FL.has fr ((i, v) :: r) = (fr i = v ∧ FL.has fr r) := id rfl

/-- A call of which the contract is known. -/
theorem call_ev {f : Nat} {args : List AV} {d : Option Nat} {fr : Fr} {H : Heap} {K : Fr → Heap → Prop} {r : AV} (h : Ev X f (dryL args) r) (hK : K (fr.updo d r) H) : CallOk X f args d fr H K :=
  CallOk.of_callV (callV_of_ev h) hK

theorem call_lend {f : Nat} {args : List AV} {d : Option Nat} {fr : Fr} {H : Heap} {K : Fr → Heap → Prop} {r : AV} (h : Ev X f (lendL H args) r) (hr : flatR r = true) (hK : K (fr.updo d r) H) : CallOk X f args d fr H K :=
  CallOk.of_callV (callV_lend h hr) hK

end

/-! ### slices of elements of one kind -/

/-- Elements are these values, each in so many cells; they hold no reference to what may be written. -/
class Elt {α : Type} (f : α → AV) (sz : outParam Nat) : Prop where
  len : ∀ x, (f x).cells.length = sz
  tup : ∀ x, notTup (f x) = true
  sca : ∀ x, (f x).cells.all scalarB = true
  dry : ∀ x, dry (f x) = f x

instance : Elt u8 1 := ⟨fun _ => rfl, fun _ => rfl, fun _ => rfl, fun _ => rfl⟩
instance (k : IntKind) : Elt (AV.int k) 1 := ⟨fun _ => rfl, fun _ => rfl, fun _ => rfl, fun _ => rfl⟩
instance : Elt AV.str 1 := ⟨fun _ => rfl, fun _ => rfl, fun _ => rfl, fun _ => rfl⟩
instance : Elt AV.bool 1 := ⟨fun _ => rfl, fun _ => rfl, fun _ => rfl, fun _ => rfl⟩

/-- A slice. -/
def lst {α : Type} (f : α → AV) (p : Perm) (l : List α) : AV := .sl p (l.map f)

/-- What reading a place yields. -/
def idxX (sz : Nat) (x i : AV) : Option (Bool × AV × Option Heap) := match x, i with
  | .sl _ es, .int _ n => some (decide (0 ≤ n) && decide (n < es.length) && decide ((es.getD n.toNat .undef).cells.length = sz) && notTup (es.getD n.toNat .undef), .vp (es.getD n.toNat .undef).cells, none)
  | .rsl id off m _ s, .int _ n => some (decide (0 ≤ n) && decide (n < m) && decide (s = sz), .ptr id (off + n.toNat * sz), none)
  | _, _ => none

section
variable {α : Type} [Inhabited α] {f : α → AV} {sz : Nat} [Elt f sz] {d : Option Nat} {fr fr' : Fr} {H : Heap} {K : Fr → Heap → Prop} {G : Consts} {p : Perm} {l : List α} {k : IntKind} {n : Int}

theorem a_idxA (s : Nat) (x i : AX) : aop G fr H (.idxA s x i) = idxX s (x.eval G fr) (i.eval G fr) := by
  simp only [aop]
  generalize x.eval G fr = u
  generalize i.eval G fr = v
  cases u <;> cases v <;> rfl

theorem getD_map (j : Nat) (h : j < l.length) : (l.map f).getD j .undef = f (l.getD j default) := by
  simp [List.getD, h]

theorem vr_idx : vcR d fr H K (idxX sz (lst f p l) (.int k n)) = ((0 ≤ n ∧ n < l.length) ∧ K (fr.updo d (.vp (f (l.getD n.toNat default)).cells)) H) := by
  simp only [idxX, lst, vcR, List.length_map, Option.getD_none, eq_iff_iff]
  constructor
  · rintro ⟨h1, h2⟩
    simp only [Bool.and_eq_true, decide_eq_true_eq] at h1
    refine ⟨h1.1.1, ?_⟩
    rwa [getD_map _ (by omega)] at h2
  · rintro ⟨h1, h2⟩
    rw [getD_map _ (by omega)]
    exact ⟨by simp [h1.1, h1.2, Elt.len, Elt.tup], h2⟩

end

/-! ### values at the end -/
section
variable {H : Heap} {m : Nat}
theorem fi_b (b : Bool) : fin H m (.bool b) = .bool b := rfl
theorem fi_i (k : IntKind) (n : Int) : fin H m (.int k n) = .int k n := rfl
theorem fi_s (l : List UInt8) : fin H m (.str l) = .str l := rfl
theorem fi_ex (es : List AV) : fin H m (.sl .ex es) = .sl .ex es := rfl
theorem fi_ro (es : List AV) : fin H m (.sl .ro es) = .sl .ro es := rfl
theorem fi_tok (i s : Nat) (es : List AV) : fin H m (.sl (.tok i s) es) = .sl .ro es := rfl
theorem fi_lex {α : Type} (f : α → AV) (l : List α) : fin H m (lst f .ex l) = lst f .ex l := rfl
theorem fi_lro {α : Type} (f : α → AV) (l : List α) : fin H m (lst f .ro l) = lst f .ro l := rfl
theorem fi_ltok {α : Type} (f : α → AV) (i s : Nat) (l : List α) : fin H m (lst f (.tok i s) l) = lst f .ro l := rfl
theorem fi_tup (vs : List AV) : fin H m (.tuple vs) = .tuple (vs.map (fin H m)) := by
  have : ∀ vs, finBL (finN H m) H vs = vs.map (fin H m) := fun vs => by
    induction vs with
    | nil => rfl
    | cons x vs ih => simp [finBL, ih, fin]
  simp only [fin, finB, this]
theorem fi_agg (vs : List AV) : fin H m (.agg vs) = .agg (vs.map (fin H m)) := by
  have : ∀ vs, finBL (finN H m) H vs = vs.map (fin H m) := fun vs => by
    induction vs with
    | nil => rfl
    | cons x vs ih => simp [finBL, ih, fin]
  simp only [fin, finB, this]
theorem fn_s (l : List AV) : finN H (m + 1) l = l.map (fin H m) := by
  have : ∀ vs, finBL (finN H m) H vs = vs.map (fin H m) := fun vs => by
    induction vs with
    | nil => rfl
    | cons x vs ih => simp [finBL, ih, fin]
  simp only [finN, this]
theorem fi_rsl (i o n c z : Nat) : fin H (m + 1) (.rsl i o n c z) = match H[i]? with
    | some (.box cs) => bif z == 1 && decide (o + n ≤ cs.length) && (cs.all scalarB || ((cs.drop o).take n).all scalarB) then .sl .ro (((cs.drop o).take n).map (fin H m)) else .undef
    | _ => .undef := by
  simp only [fin, finB, fn_s]
  generalize H[i]? = y
  rcases y with _ | y
  · rfl
  · cases y <;> rfl
theorem fi_ptr (i o : Nat) : fin H (m + 1) (.ptr i o) = match H[i]? with
    | some (.box cs) => .vp ((cs.drop o).map (fin H m))
    | _ => .undef := by
  simp only [fin, finB, fn_s]
  generalize H[i]? = y
  rcases y with _ | y
  · rfl
  · cases y <;> rfl
theorem fi_vp (vs : List AV) : fin H m (.vp vs) = .vp vs := rfl
theorem fi_nf : fin H m .nilF = .nilF := rfl
theorem fi_np : fin H m .nilP = .nilP := rfl
theorem fi_ni : fin H m .nilI = .nilI := rfl
end

section
variable {α : Type} [Inhabited α] {f : α → AV} {sz : Nat} [Elt f sz] {d : Option Nat} {fr fr' : Fr} {H : Heap} {K : Fr → Heap → Prop} {G : Consts} {p : Perm} {l : List α} {k : IntKind} {n : Int}

def lenX : AV → Option (Bool × AV × Option Heap)
  | .sl _ es => some (true, .int .i64 es.length, none)
  | .rsl _ _ n _ _ => some (true, .int .i64 n, none)
  | _ => none
theorem a_len (x : AX) : aop G fr H (.len x) = lenX (x.eval G fr) := by
  simp only [aop]
  generalize x.eval G fr = u
  cases u <;> rfl
theorem ln_l : lenX (lst f p l) = some (true, .int .i64 l.length, none) := by simp [lenX, lst]
theorem ln_s (es : List AV) : lenX (.sl p es) = some (true, .int .i64 es.length, none) := rfl
theorem ln_r (i o n m s : Nat) : lenX (.rsl i o n m s) = some (true, .int .i64 n, none) := rfl

/-- A piece of a slice. -/
def slsX (sz : Nat) (x : AV) (lo hi : Option AV) : Option (Bool × AV × Option Heap) := match x with
  | .sl p es => match lo.getD (.int .i64 0), hi.getD (.int .i64 es.length) with
    | .int _ a, .int _ b => some (decide (0 ≤ a) && decide (a ≤ b) && decide (b ≤ es.length) && szE sz es, .sl (match p, hi with | .ex, none => .ex | _, _ => .ro) ((es.take b.toNat).drop a.toNat), none)
    | _, _ => none
  | .rsl id off n cap s => match lo.getD (.int .i64 0), hi.getD (.int .i64 n) with
    | .int _ a, .int _ b => some (decide (s = sz) && decide (0 ≤ a) && decide (a ≤ b) && decide (b ≤ cap), .rsl id (off + a.toNat * sz) (b.toNat - a.toNat) (cap - a.toNat) sz, none)
    | _, _ => none
  | _ => none
theorem a_sls (s : Nat) (x : AX) (lo hi : Option AX) : aop G fr H (.sls s x lo hi none) = slsX s (x.eval G fr) (lo.map (·.eval G fr)) (hi.map (·.eval G fr)) := by
  cases hi with
  | none =>
    simp only [aop, Option.map_none]
    generalize x.eval G fr = u
    generalize lo.map (·.eval G fr) = v
    cases u <;> first | rfl | skip
    rename_i p es
    cases v with
    | none => cases p <;> rfl
    | some v => cases v <;> cases p <;> rfl
  | some hi =>
    simp only [aop, Option.map_some]
    generalize x.eval G fr = u
    generalize lo.map (·.eval G fr) = v
    generalize hi.eval G fr = z
    cases u <;> first | rfl | skip
    rename_i p es
    cases v with
    | none => cases z <;> cases p <;> rfl
    | some v => cases v <;> cases z <;> cases p <;> rfl

theorem szE_map (s : Nat) [Elt f s] : szE s (l.map f) = true := by
  simp only [szE, List.all_eq_true, List.mem_map]
  rintro x ⟨y, _, rfl⟩
  simp [Elt.len, Elt.tup]
theorem ss_lo (a : Int) : slsX sz (lst f .ro l) (some (.int k a)) none = some (decide (0 ≤ a) && decide (a ≤ l.length), lst f .ro (l.drop a.toNat), none) := by
  have h : (l.map f).length = l.length := by simp
  simp only [slsX, lst, Option.getD_some, Option.getD_none, h, szE_map]
  rw [List.take_of_length_le (by simp)]; simp [List.map_drop]
theorem ss_lox (a : Int) : slsX sz (lst f .ex l) (some (.int k a)) none = some (decide (0 ≤ a) && decide (a ≤ l.length), lst f .ex (l.drop a.toNat), none) := by
  have h : (l.map f).length = l.length := by simp
  simp only [slsX, lst, Option.getD_some, Option.getD_none, h, szE_map]
  rw [List.take_of_length_le (by simp)]; simp [List.map_drop]
theorem ss_lh {k' : IntKind} (a b : Int) : slsX sz (lst f p l) (some (.int k a)) (some (.int k' b)) = some (decide (0 ≤ a) && decide (a ≤ b) && decide (b ≤ l.length), lst f .ro ((l.take b.toNat).drop a.toNat), none) := by
  have h : (l.map f).length = l.length := by simp
  simp only [slsX, lst, Option.getD_some, h, szE_map]
  cases p <;> simp [List.map_drop, List.map_take]
theorem ss_h (b : Int) : slsX sz (lst f p l) none (some (.int k b)) = some (decide (0 ≤ b) && decide (b ≤ l.length), lst f .ro (l.take b.toNat), none) := by
  have h : (l.map f).length = l.length := by simp
  simp only [slsX, lst, Option.getD_some, Option.getD_none, h, szE_map]
  cases p <;> simp [List.map_take]

theorem dr_l (f : α → AV) (l : List α) (p : Perm) : dry (lst f p l) = lst f .ro l := rfl
end

section
theorem dr_nil : dryL [] = [] := rfl
theorem dr_cons (v : AV) (r : List AV) : dryL (v :: r) = dry v :: dryL r := rfl
theorem dr_i (k : IntKind) (n : Int) : dry (.int k n) = .int k n := rfl
theorem dr_b (b : Bool) : dry (.bool b) = .bool b := rfl
theorem dr_s (s : List UInt8) : dry (.str s) = .str s := rfl
theorem dr_sl (p : Perm) (es : List AV) : dry (.sl p es) = .sl .ro es := rfl
theorem dr_agg (cs : List AV) : dry (.agg cs) = .agg (dryL cs) := rfl
theorem dr_u8 (b : UInt8) : dry (u8 b) = u8 b := rfl
theorem ce_u8 (b : UInt8) : AV.cells (u8 b) = [.int .u8 b.toNat] := rfl
theorem ce_i (k : IntKind) (n : Int) : AV.cells (.int k n) = [.int k n] := rfl
theorem ce_b (b : Bool) : AV.cells (.bool b) = [.bool b] := rfl
theorem ce_s (s : List UInt8) : AV.cells (.str s) = [.str s] := rfl
theorem ce_agg (cs : List AV) : AV.cells (.agg cs) = cs := rfl
end
end Go.Avm

/-
  Reading and writing in verification conditions.
-/
namespace Go.Avm
open Go

section
variable {d : Option Nat} {fr : Fr} {H : Heap} {K : Fr → Heap → Prop} {G : Consts}

/-- What loading one cell yields. -/
def ldX (H : Heap) : AV → Option (Bool × AV × Option Heap)
  | .vp cs => some (decide (0 < cs.length), cs.getD 0 .undef, none)
  | .ptr id off => match H[id]? with
    | some (.box cs) => some (decide (off < cs.length), cs.getD off .undef, none)
    | _ => none
  | _ => none
theorem a_ld (x : AX) : aop G fr H (.ld none x) = ldX H (x.eval G fr) := by
  simp only [aop]
  generalize x.eval G fr = u
  cases u <;> first | rfl | skip
  rename_i cs
  cases cs <;> rfl
theorem ld_vp (c : AV) (cs : List AV) : ldX H (.vp (c :: cs)) = some (true, c, none) := id rfl
theorem ld_ptr (id off : Nat) : ldX H (.ptr id off) = match H[id]? with
    | some (.box cs) => some (decide (off < cs.length), cs.getD off .undef, none)
    | _ => none := rfl

section
variable {α : Type} [Inhabited α] {f : α → AV} {sz : Nat} [Elt f sz] {l : List α}
theorem vr_ldm (i : Nat) : vcR d fr H K (ldX H (.vp ((l.map f).drop i))) = (i < l.length ∧ K (fr.updo d (f (l.getD i default))) H) := by
  simp only [ldX, vcR, List.length_drop, List.length_map, Option.getD_none, eq_iff_iff, decide_eq_true_eq]
  have : ∀ h : i < l.length, ((l.map f).drop i).getD 0 .undef = f (l.getD i default) := fun h => by simp [List.getD, h]
  constructor
  · rintro ⟨h1, h2⟩
    rw [this (by omega)] at h2
    exact ⟨by omega, h2⟩
  · rintro ⟨h1, h2⟩
    rw [this (by omega)]
    exact ⟨by omega, h2⟩
theorem okE_map (s : Nat) [Elt f s] : okE s (l.map f) = true := by
  simp only [okE, List.all_eq_true, List.mem_map]
  rintro x ⟨y, _, rfl⟩
  have h1 := Elt.sca (f := f) y
  simp only [Elt.len (f := f) y, decide_true, Bool.true_and]
  exact h1
end

theorem sc_i (k : IntKind) (n : Int) : scalarB (.int k n) = true := rfl
theorem sc_b (b : Bool) : scalarB (.bool b) = true := rfl
theorem sc_s (s : List UInt8) : scalarB (.str s) = true := rfl
theorem sc_sl (p : Perm) (es : List AV) : scalarB (.sl p es) = true := rfl
theorem sc_l {α : Type} (f : α → AV) (p : Perm) (l : List α) : scalarB (lst f p l) = true := rfl
theorem sc_np : scalarB .nilP = true := rfl
theorem sc_vp (cs : List AV) : scalarB (.vp cs) = true := rfl
theorem sc_ptr (i o : Nat) : scalarB (.ptr i o) = true := rfl
theorem sc_clo (f : Nat) (fs cs : List AV) : scalarB (.clo f fs cs) = true := rfl
theorem sc_ifc (t : Nat) (v : AV) : scalarB (.ifc t v) = true := rfl
theorem sc_rsl (i o n m z : Nat) : scalarB (.rsl i o n m z) = true := rfl
theorem nt_i (k : IntKind) (n : Int) : notTup (.int k n) = true := rfl
theorem nt_b (b : Bool) : notTup (.bool b) = true := rfl
theorem nt_s (s : List UInt8) : notTup (.str s) = true := rfl
theorem nt_sl (p : Perm) (es : List AV) : notTup (.sl p es) = true := rfl
theorem nt_l {α : Type} (f : α → AV) (p : Perm) (l : List α) : notTup (lst f p l) = true := rfl
theorem nt_np : notTup .nilP = true := rfl
theorem nt_vp (cs : List AV) : notTup (.vp cs) = true := rfl
theorem nt_ptr (i o : Nat) : notTup (.ptr i o) = true := rfl
theorem nt_clo (f : Nat) (fs cs : List AV) : notTup (.clo f fs cs) = true := rfl
theorem nt_ifc (t : Nat) (v : AV) : notTup (.ifc t v) = true := rfl
theorem nt_rsl (i o n m z : Nat) : notTup (.rsl i o n m z) = true := rfl
theorem nt_agg (cs : List AV) : notTup (.agg cs) = true := rfl
theorem ce_sl (p : Perm) (es : List AV) : AV.cells (.sl p es) = [.sl p es] := rfl
theorem ce_l {α : Type} (f : α → AV) (p : Perm) (l : List α) : AV.cells (lst f p l) = [lst f p l] := rfl
theorem ce_np : AV.cells .nilP = [.nilP] := rfl
theorem ce_vp (cs : List AV) : AV.cells (.vp cs) = [.vp cs] := rfl
theorem ce_ptr (i o : Nat) : AV.cells (.ptr i o) = [.ptr i o] := rfl
theorem ce_clo (f : Nat) (fs cs : List AV) : AV.cells (.clo f fs cs) = [.clo f fs cs] := rfl
theorem ce_ifc (t : Nat) (v : AV) : AV.cells (.ifc t v) = [.ifc t v] := rfl
theorem ce_rsl (i o n m z : Nat) : AV.cells (.rsl i o n m z) = [.rsl i o n m z] := rfl
theorem cs_n (cs : List AV) (i : Nat) : setCells cs i [] = cs := rfl
theorem cs_c (cs : List AV) (i : Nat) (v : AV) (vs : List AV) : setCells cs i (v :: vs) = setCells (cs.set i v) (i + 1) vs := rfl
theorem fa_n (cs : List AV) : fillA cs [] = (true, cs) := rfl
theorem fa_c (cs : List AV) (off n : Nat) (v : AV) (r : List (Nat × Nat × AV)) : fillA cs ((off, n, v) :: r) =
    (decide (v.cells.length = n) && decide (off + n ≤ cs.length) && notTup v && (fillA (setCells cs off v.cells) r).1, (fillA (setCells cs off v.cells) r).2) := rfl
theorem fe_n (sz : Nat) (es : List AV) : fillE sz es [] = (true, es) := rfl
theorem fe_c (sz : Nat) (es : List AV) (i : Nat) (v : AV) (r : List (Nat × AV)) : fillE sz es ((i, v) :: r) =
    (decide (v.cells.length = sz) && decide (i < es.length) && notTup v && (fillE sz (es.set i (dry v)) r).1, (fillE sz (es.set i (dry v)) r).2) := rfl
end
end Go.Avm

/-
  Ranges over functions: the round, the loop.
-/
namespace Go.Avm
open Go

section
variable {X : Cx} {N : Nat}

/-- A context in a round of the loop l. -/
def Cx.in (X : Cx) (l : Nat) : Cx := { X with rd := some l }

/-- What we know of a loop's record. -/
structure LoopIs (X : Cx) (N : Nat) (ps : List Nat) (A B : ACode) (L : Loop) : Prop where
  st : L.state = .ready
  pe : L.pending = none
  ps : L.params.toList = ps
  A : ∃ hint, compile X.P N hint L.assign = some A
  B : ∃ hint, compile X.P N hint L.body = some B
  n : N ≤ L.tmps.size

def lto (L : Loop) (st : LoopState) (pe : Option Code) : Loop := { L with state := st, pending := pe }

/-- Parameters take their values. -/
def setPs (fr : Fr) : List Nat → List AV → Fr
  | p :: ps, v :: vs => setPs (fr.updo (some p) v) ps vs
  | _, _ => fr

/-- What is asked at a round's end. -/
def RoundQ (i : Nat) (L : Loop) (frc : Fr) (dst : Option Nat) (fr : Fr) (K : Fr → Heap → Prop) : Exit → Fr → Heap → Prop
  | .normal, _, H => H[i]? = some (.lp (lto L .busy none) frc) ∧ K (fr.updo dst (.bool true)) (H.set i (.lp L frc))
  | .ret, _, H => H[i]? = some (.lp (lto L .busy none) frc) ∧ K (fr.updo dst (.bool false)) (H.set i (.lp (lto L .done (some .ret)) frc))
  | .exit id, _, H => H[i]? = some (.lp (lto L .busy none) frc) ∧ K (fr.updo dst (.bool false)) (H.set i (.lp (lto L .done (some (.exit id))) frc))
  | _, _, _ => False

end
end Go.Avm
