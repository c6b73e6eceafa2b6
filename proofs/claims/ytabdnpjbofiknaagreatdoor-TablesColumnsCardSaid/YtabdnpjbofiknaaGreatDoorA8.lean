/- Verification conditions of regions that draw their order; of ranges over functions. -/
import Derived.Test.YtabdnpjbofiknaaGreatDoorA7
import Derived.Laws.BitsLemmas
import Derived.ProofKit
import Derived.Carry
import Derived.Deep.Onto
import Derived.Below
set_option linter.all false
/-
  Verification conditions of regions that draw their order; of ranges over functions.
-/
namespace Go.Avm
open Go

/-- What is still to come of a region that draws its order. -/
def qk (X : Cx) (K : Fr → Heap → Prop) (r : List AOper) (d : Option Nat) (fr : Fr) (v : AV) (H : Heap) : Prop := vcOpsQ X K H r (fr.updo d v)
def qr (X : Cx) (K : Fr → Heap → Prop) (r : List AOper) (fr : Fr) (H : Heap) : Prop := vcOpsQ X K H r fr
/-- A call in such a region. -/
def CallQ (X : Cx) (f : Nat) (args : List AV) (d : Option Nat) (fr : Fr) (H : Heap) (K : Fr → Heap → Prop) : Prop := ∃ r, CallV X f args H r ∧ K (fr.updo d r) H

/-- An append within a region that draws its order. -/
def appQ (b : Nat) (d : Option Nat) (fr : Fr) (H : Heap) (K : Fr → Heap → Prop) (x : AV) : Option (Bool × AV × Option Heap) → Prop
  | some (c, v, none) => c = true ∧ K (fr.updo d v) H
  | some (c, v, some H') => tokPar b x = true ∧ c = true ∧ K (fr.updo d v) H'
  | none => False
section
variable {X : Cx} {fr : Fr} {H : Heap} {K : Fr → Heap → Prop} (r : List AOper) (d : Option Nat)
theorem vq_nil : vcOpsQ X K H [] fr = K fr H := id rfl
theorem vq_cons (o : AOper) : vcOpsQ X K H (o :: r) fr = vcOpQ X o fr H (qk X K r o.dst) := id rfl
theorem vq_no (op : AOp) (k : Fr → AV → Heap → Prop) : vcOpQ X ⟨d, op, none⟩ fr H k = vcDoQ X op fr H (k fr) := id rfl
theorem vq_g (op : AOp) (t : Nat) (b : Bool) (k : Fr → AV → Heap → Prop) : vcOpQ X ⟨d, op, some (t, b)⟩ fr H k = vcGQ X t b op fr H k (fr t) := id rfl
theorem vgq_t (op : AOp) (t : Nat) (e : Bool) (k : Fr → AV → Heap → Prop) : vcGQ X t true op fr H k (.bool e) = vcSplit e (vcDoQ X op (fr.updo (some t) (.bool true)) H (k (fr.updo (some t) (.bool true)))) (k (fr.updo (some t) (.bool false)) noV H) := id rfl
theorem vgq_f (op : AOp) (t : Nat) (e : Bool) (k : Fr → AV → Heap → Prop) : vcGQ X t false op fr H k (.bool e) = vcSplit e (k (fr.updo (some t) (.bool true)) noV H) (vcDoQ X op (fr.updo (some t) (.bool false)) H (k (fr.updo (some t) (.bool false)))) := id rfl
theorem vgq_no (op : AOp) (t : Nat) (b : Bool) (k : Fr → AV → Heap → Prop) : vcGQ X t b op fr H k noV = k fr noV H := by cases b <;> rfl
theorem qk_ap (v : AV) : qk X K r d fr v H = vcOpsQ X K H r (fr.updo d v) := id rfl
theorem qr_ap : qr X K r fr H = vcOpsQ X K H r fr := id rfl
theorem vdq {op : AOp} (hc : callee X.G fr op = none) (hp : pureOp op = true) : vcDoQ X op fr H (qk X K r d fr) = vcR d fr H (qr X K r) (aop X.G fr H op) := by
  unfold vcDoQ
  rw [cs_pure hp]
  dsimp only
  rw [cb_pure hp]
  dsimp only
  rw [hc]
  cases ha : aop X.G fr H op with
  | none => rfl
  | some y =>
    obtain ⟨c, v, h⟩ := y
    have := aop_pure hp ha
    subst this
    rfl
theorem vq_mov (x' : AX) : vcDoQ X (.mov x') fr H (qk X K r d fr) = vcR d fr H (qr X K r) (aop X.G fr H (.mov x')) := vdq r d rfl rfl
theorem vq_pick (c' : AX) (a' : AX) (b' : AX) : vcDoQ X (.pick c' a' b') fr H (qk X K r d fr) = vcR d fr H (qr X K r) (aop X.G fr H (.pick c' a' b')) := vdq r d rfl rfl
theorem vq_bin (op' : BinOp) (x' : AX) (y' : AX) : vcDoQ X (.bin op' x' y') fr H (qk X K r d fr) = vcR d fr H (qr X K r) (aop X.G fr H (.bin op' x' y')) := vdq r d rfl rfl
theorem vq_beq (n' : Bool) (x' : AX) (y' : AX) : vcDoQ X (.beq n' x' y') fr H (qk X K r d fr) = vcR d fr H (qr X K r) (aop X.G fr H (.beq n' x' y')) := vdq r d rfl rfl
theorem vq_not (x' : AX) : vcDoQ X (.not x') fr H (qk X K r d fr) = vcR d fr H (qr X K r) (aop X.G fr H (.not x')) := vdq r d rfl rfl
theorem vq_neg (x' : AX) : vcDoQ X (.neg x') fr H (qk X K r d fr) = vcR d fr H (qr X K r) (aop X.G fr H (.neg x')) := vdq r d rfl rfl
theorem vq_conv (k' : IntKind) (x' : AX) : vcDoQ X (.conv k' x') fr H (qk X K r d fr) = vcR d fr H (qr X K r) (aop X.G fr H (.conv k' x')) := vdq r d rfl rfl
theorem vq_b2s (x' : AX) : vcDoQ X (.b2s x') fr H (qk X K r d fr) = vcR d fr H (qr X K r) (aop X.G fr H (.b2s x')) := vdq r d rfl rfl
theorem vq_r2s (x' : AX) : vcDoQ X (.r2s x') fr H (qk X K r d fr) = vcR d fr H (qr X K r) (aop X.G fr H (.r2s x')) := vdq r d rfl rfl
theorem vq_smov (x' : AX) : vcDoQ X (.smov x') fr H (qk X K r d fr) = vcR d fr H (qr X K r) (aop X.G fr H (.smov x')) := vdq r d rfl rfl
theorem vq_len (x' : AX) : vcDoQ X (.len x') fr H (qk X K r d fr) = vcR d fr H (qr X K r) (aop X.G fr H (.len x')) := vdq r d rfl rfl
theorem vq_lenS (x' : AX) : vcDoQ X (.lenS x') fr H (qk X K r d fr) = vcR d fr H (qr X K r) (aop X.G fr H (.lenS x')) := vdq r d rfl rfl
theorem vq_idxA (n' : Nat) (x' : AX) (y' : AX) : vcDoQ X (.idxA n' x' y') fr H (qk X K r d fr) = vcR d fr H (qr X K r) (aop X.G fr H (.idxA n' x' y')) := vdq r d rfl rfl
theorem vq_idxP (n' : Nat) (m' : Nat) (x' : AX) (y' : AX) : vcDoQ X (.idxP n' m' x' y') fr H (qk X K r d fr) = vcR d fr H (qr X K r) (aop X.G fr H (.idxP n' m' x' y')) := vdq r d rfl rfl
theorem vq_ld (n' : Option Nat) (x' : AX) : vcDoQ X (.ld n' x') fr H (qk X K r d fr) = vcR d fr H (qr X K r) (aop X.G fr H (.ld n' x')) := vdq r d rfl rfl
theorem vq_fldA (n' : Nat) (x' : AX) : vcDoQ X (.fldA n' x') fr H (qk X K r d fr) = vcR d fr H (qr X K r) (aop X.G fr H (.fldA n' x')) := vdq r d rfl rfl
theorem vq_fld (n' : Nat) (m' : Option Nat) (x' : AX) : vcDoQ X (.fld n' m' x') fr H (qk X K r d fr) = vcR d fr H (qr X K r) (aop X.G fr H (.fld n' m' x')) := vdq r d rfl rfl
theorem vq_idxS (x' : AX) (y' : AX) : vcDoQ X (.idxS x' y') fr H (qk X K r d fr) = vcR d fr H (qr X K r) (aop X.G fr H (.idxS x' y')) := vdq r d rfl rfl
theorem vq_idxG (n' : Nat) (m' : Nat) (l' : Option Nat) (x' : AX) (y' : AX) : vcDoQ X (.idxG n' m' l' x' y') fr H (qk X K r d fr) = vcR d fr H (qr X K r) (aop X.G fr H (.idxG n' m' l' x' y')) := vdq r d rfl rfl
theorem vq_ssl (x' : AX) (y' : Option AX) (z' : Option AX) : vcDoQ X (.ssl x' y' z') fr H (qk X K r d fr) = vcR d fr H (qr X K r) (aop X.G fr H (.ssl x' y' z')) := vdq r d rfl rfl
theorem vq_sls (n' : Nat) (x' : AX) (y' : Option AX) (z' : Option AX) (u' : Option AX) : vcDoQ X (.sls n' x' y' z' u') fr H (qk X K r d fr) = vcR d fr H (qr X K r) (aop X.G fr H (.sls n' x' y' z' u')) := vdq r d rfl rfl
theorem vq_slA (n' : Nat) (m' : Nat) (x' : AX) (y' : Option AX) (z' : Option AX) (u' : Option AX) : vcDoQ X (.slA n' m' x' y' z' u') fr H (qk X K r d fr) = vcR d fr H (qr X K r) (aop X.G fr H (.slA n' m' x' y' z' u')) := vdq r d rfl rfl
theorem vq_build (cs' : List AV) (ps' : List (Nat × Nat × AX)) : vcDoQ X (.build cs' ps') fr H (qk X K r d fr) = vcR d fr H (qr X K r) (aop X.G fr H (.build cs' ps')) := vdq r d rfl rfl
theorem vq_bsl (n' : Nat) (z' : AV) (m' : Nat) (ps' : List (Nat × AX)) : vcDoQ X (.bsl n' z' m' ps') fr H (qk X K r d fr) = vcR d fr H (qr X K r) (aop X.G fr H (.bsl n' z' m' ps')) := vdq r d rfl rfl
theorem vq_extr (x' : AX) (n' : Nat) : vcDoQ X (.extr x' n') fr H (qk X K r d fr) = vcR d fr H (qr X K r) (aop X.G fr H (.extr x' n')) := vdq r d rfl rfl
theorem vq_mkf (n' : Nat) (fs' : List AX) (cs' : List AX) : vcDoQ X (.mkf n' fs' cs') fr H (qk X K r d fr) = vcR d fr H (qr X K r) (aop X.G fr H (.mkf n' fs' cs')) := vdq r d rfl rfl
theorem vq_mki (n' : Nat) (x' : AX) : vcDoQ X (.mki n' x') fr H (qk X K r d fr) = vcR d fr H (qr X K r) (aop X.G fr H (.mki n' x')) := vdq r d rfl rfl
theorem vq_nck (x' : AX) : vcDoQ X (.nck x') fr H (qk X K r d fr) = vcR d fr H (qr X K r) (aop X.G fr H (.nck x')) := vdq r d rfl rfl
theorem vq_peq (n' : Bool) (x' y' : AX) : vcDoQ X (.peq n' x' y') fr H (qk X K r d fr) = vcR d fr H (qr X K r) (aop X.G fr H (.peq n' x' y')) := vdq r d rfl rfl
theorem vq_ifn (n' : Bool) (x' : AX) : vcDoQ X (.ifn n' x') fr H (qk X K r d fr) = vcR d fr H (qr X K r) (aop X.G fr H (.ifn n' x')) := vdq r d rfl rfl
theorem vq_isn (n' : Bool) (x' : AX) : vcDoQ X (.isn n' x') fr H (qk X K r d fr) = vcR d fr H (qr X K r) (aop X.G fr H (.isn n' x')) := vdq r d rfl rfl
theorem vq_aeq (n' : Bool) (ks' : List Nat) (x' y' : AX) : vcDoQ X (.aeq n' ks' x' y') fr H (qk X K r d fr) = vcR d fr H (qr X K r) (aop X.G fr H (.aeq n' ks' x' y')) := vdq r d rfl rfl
theorem vq_mm (n' : Bool) (x' y' : AX) : vcDoQ X (.mm n' x' y') fr H (qk X K r d fr) = vcR d fr H (qr X K r) (aop X.G fr H (.mm n' x' y')) := vdq r d rfl rfl
theorem vq_st (n' : Nat) (x' y' : AX) : vcDoQ X (.st n' x' y') fr H (qk X K r d fr) = vcR d fr H (qr X K r) (aop X.G fr H (.st n' x' y')) := by
  unfold vcDoQ
  simp only [callee]
  cases aop X.G fr H (.st n' x' y') with
  | none => rfl
  | some y =>
    obtain ⟨c, v, h⟩ := y
    cases h with
    | none => rfl
    | some h => simp only [isW, isSt, drawnOk, Bool.true_or, true_and]; rfl
theorem vq_cpy (x' y' : AX) : vcDoQ X (.cpy x' y') fr H (qk X K r d fr) = vcR d fr H (qr X K r) (aop X.G fr H (.cpy x' y')) := by
  unfold vcDoQ
  simp only [callee]
  cases aop X.G fr H (.cpy x' y') with
  | none => rfl
  | some y =>
    obtain ⟨c, v, h⟩ := y
    cases h with
    | none => rfl
    | some h => simp only [isW, isSt, drawnOk, Bool.true_or, true_and]; rfl
theorem vq_alloc (cs' : List AV) : vcDoQ X (.alloc cs') fr H (qk X K r d fr) = vcR d fr H (qr X K r) (aop X.G fr H (.alloc cs')) := by
  unfold vcDoQ
  simp only [callee]
  cases aop X.G fr H (.alloc cs') with
  | none => rfl
  | some y =>
    obtain ⟨c, v, h⟩ := y
    cases h with
    | none => rfl
    | some h => simp only [isW, isSt, drawnOk, Bool.true_or, true_and]; rfl
theorem vq_allocB (T' e' : Nat) : vcDoQ X (.allocB T' e') fr H (qk X K r d fr) = vcR d fr H (qr X K r) (aop X.G fr H (.allocB T' e')) := by
  unfold vcDoQ
  simp only [callee]
  cases aop X.G fr H (.allocB T' e') with
  | none => rfl
  | some y =>
    obtain ⟨c, v, h⟩ := y
    cases h with
    | none => rfl
    | some h => simp only [isW, isSt, drawnOk, Bool.true_or, true_and]; rfl
theorem vq_boxS (n' : Nat) (x' : AX) : vcDoQ X (.boxS n' x') fr H (qk X K r d fr) = vcR d fr H (qr X K r) (aop X.G fr H (.boxS n' x')) := by
  unfold vcDoQ
  simp only [callee]
  cases aop X.G fr H (.boxS n' x') with
  | none => rfl
  | some y =>
    obtain ⟨c, v, h⟩ := y
    cases h with
    | none => rfl
    | some h => simp only [isW, isSt, drawnOk, Bool.true_or, true_and]; rfl
theorem vq_box (x' : AX) : vcDoQ X (.box x') fr H (qk X K r d fr) = vcR d fr H (qr X K r) (aop X.G fr H (.box x')) := by
  unfold vcDoQ
  simp only [callee]
  cases aop X.G fr H (.box x') with
  | none => rfl
  | some y =>
    obtain ⟨c, v, h⟩ := y
    cases h with
    | none => rfl
    | some h => simp only [isW, isSt, drawnOk, Bool.true_or, true_and]; rfl
theorem vq_mkT (n' m' : Nat) (x' : AX) : vcDoQ X (.mkT n' m' x') fr H (qk X K r d fr) = vcR d fr H (qr X K r) (aop X.G fr H (.mkT n' m' x')) := by
  unfold vcDoQ
  simp only [callee]
  cases aop X.G fr H (.mkT n' m' x') with
  | none => rfl
  | some y =>
    obtain ⟨c, v, h⟩ := y
    cases h with
    | none => rfl
    | some h => simp only [isW, isSt, drawnOk, Bool.true_or, true_and]; rfl
theorem vq_mkR (n' m' : Nat) (z' : List AV) (x' y' : AX) : vcDoQ X (.mkR n' m' z' x' y') fr H (qk X K r d fr) = vcR d fr H (qr X K r) (aop X.G fr H (.mkR n' m' z' x' y')) := by
  unfold vcDoQ
  simp only [callee]
  cases aop X.G fr H (.mkR n' m' z' x' y') with
  | none => rfl
  | some y =>
    obtain ⟨c, v, h⟩ := y
    cases h with
    | none => rfl
    | some h => simp only [isW, isSt, drawnOk, Bool.true_or, true_and]; rfl
theorem vq_s2b (x' : AX) : vcDoQ X (.s2b true x') fr H (qk X K r d fr) = vcR d fr H (qr X K r) (aop X.G fr H (.s2b true x')) := by
  unfold vcDoQ
  simp only [callee]
  cases aop X.G fr H (.s2b true x') with
  | none => rfl
  | some y =>
    obtain ⟨c, v, h⟩ := y
    cases h with
    | none => rfl
    | some h => simp only [isW, isSt, drawnOk, Bool.true_or, true_and]; rfl
theorem vq_s2bf (x' : AX) : vcDoQ X (.s2b false x') fr H (qk X K r d fr) = vcR d fr H (qr X K r) (aop X.G fr H (.s2b false x')) := by
  unfold vcDoQ
  simp only [callee]
  cases hx : aop X.G fr H (.s2b false x') with
  | none => rfl
  | some y =>
    obtain ⟨c, v, h⟩ := y
    have : h = none := by
      simp only [aop] at hx
      split at hx
      · cases hx; rfl
      · cases hx
    subst this
    rfl
theorem cps_sl (H : Heap) (p : Perm) (es : List AV) : cpySrc H (.sl p es) = some es := id rfl
theorem cps_l {α : Type} (H : Heap) (f : α → AV) (p : Perm) (l : List α) : cpySrc H (lst f p l) = some (l.map f) := id rfl
theorem cps_r (H : Heap) (id' off n c s : Nat) : cpySrc H (.rsl id' off n c s) = match H[id']? with
    | some (.box cs) => if s = 1 ∧ off + n ≤ cs.length then some ((cs.drop off).take n) else none
    | _ => none := id rfl
theorem vq_app (s' b' : Nat) (x' y' : AX) : vcDoQ X (.app s' b' x' y') fr H (qk X K r d fr) = appQ b' d fr H (qr X K r) (x'.eval X.G fr) (aop X.G fr H (.app s' b' x' y')) := by
  unfold vcDoQ
  simp only [callee, drawnOk]
  cases aop X.G fr H (.app s' b' x' y') with
  | none => rfl
  | some y =>
    obtain ⟨c, v, h⟩ := y
    cases h with
    | none => rfl
    | some h => simp only [isW, isSt, isApp, Bool.or_true, true_and]; rfl
theorem aq_n (b : Nat) (x : AV) (c : Bool) (v : AV) : appQ b d fr H K x (some (c, v, none)) = (c = true ∧ K (fr.updo d v) H) := id rfl
theorem aq_s (b : Nat) (x : AV) (c : Bool) (v : AV) (H' : Heap) : appQ b d fr H K x (some (c, v, some H')) = (tokPar b x = true ∧ c = true ∧ K (fr.updo d v) H') := id rfl
theorem tp_sl (b i s : Nat) (es : List AV) : tokPar b (.sl (.tok i s) es) = true := id rfl
theorem tp_l {α : Type} (f : α → AV) (b i s : Nat) (l : List α) : tokPar b (lst f (.tok i s) l) = true := id rfl
theorem vq_call (f : Nat) (as : List AX) : vcDoQ X (.call f as) fr H (qk X K r d fr) = CallQ X f (as.map (·.eval X.G fr)) d fr H (qr X K r) := id rfl
end

section
variable {X : Cx} {N : Nat}
theorem callq_ev {f : Nat} {args : List AV} {d : Option Nat} {fr : Fr} {H : Heap} {K : Fr → Heap → Prop} {r : AV} (h : Ev X f (dryL args) r) (hK : K (fr.updo d r) H) : CallQ X f args d fr H K :=
  ⟨r, callV_of_ev h, hK⟩

theorem callq_lend {f : Nat} {args : List AV} {d : Option Nat} {fr : Fr} {H : Heap} {K : Fr → Heap → Prop} {r : AV} (h : Ev X f (lendL H args) r) (hr : flatR r = true) (hK : K (fr.updo d r) H) : CallQ X f args d fr H K :=
  ⟨r, callV_lend h hr, hK⟩

/-- A call that may write our memory. -/
theorem call_evm {f : Nat} {args : List AV} {d : Option Nat} {fr : Fr} {H : Heap} {K : Fr → Heap → Prop} {Q : AV → Heap → Prop} (h : EvM X f args H Q) (hK : ∀ r H', Q r H' → K (fr.updo d r) H') : CallOk X f args d fr H K :=
  ⟨h.1, fun g w vs h1 h2 h3 => (h.2 g w vs h1 h2 h3).mono fun _ _ ⟨v, r, g', H', k1, k2, k3, k4, k5, k6⟩ => ⟨v, r, g', H', k1, k2, ⟨k3, k4, k5.mono, k5.ext⟩, hK _ _ k6⟩⟩

theorem in_G (l : Nat) : (X.in l).G = X.G := rfl
end
end Go.Avm

/-
  Numbers.
-/
namespace Go.Avm
open Go

theorem w_i64 (n : Int) : IntKind.i64.wrap n = if 9223372036854775808 ≤ n % 18446744073709551616 then n % 18446744073709551616 - 18446744073709551616 else n % 18446744073709551616 := by
  simp [IntKind.wrap, IntKind.bits, IntKind.signed]
theorem w_i32 (n : Int) : IntKind.i32.wrap n = if 2147483648 ≤ n % 4294967296 then n % 4294967296 - 4294967296 else n % 4294967296 := by
  simp [IntKind.wrap, IntKind.bits, IntKind.signed]
theorem w_u64 (n : Int) : IntKind.u64.wrap n = n % 18446744073709551616 := by simp [IntKind.wrap, IntKind.bits, IntKind.signed]
theorem wi64 {n : Int} (h : -9223372036854775808 ≤ n ∧ n < 9223372036854775808) : IntKind.i64.wrap n = n := by rw [w_i64]; split <;> omega
theorem wi32 {n : Int} (h : -2147483648 ≤ n ∧ n < 2147483648) : IntKind.i32.wrap n = n := by rw [w_i32]; split <;> omega
end Go.Avm

/- Texts as bytes, and appending: the rules for lists of one kind of element. -/
namespace Go.Avm
open Go

/-- What string(b) yields. -/
def b2sX : AV → Option (Bool × AV × Option Heap)
  | .sl _ es => (es.mapM byteOf?).map fun l => (true, .str l, none)
  | _ => none
/-- What append(x, ys...) yields. -/
def appX (H : Heap) (sz bytes : Nat) (x : AV) (y : Option (List AV)) : Option (Bool × AV × Option Heap) :=
  match y with
  | some ys => match x with
    | .sl .ex es => if !es.isEmpty && ys.isEmpty then some (true, .sl .ex es, none) else some (decide ((es.length + ys.length) * bytes ≤ 140737488355328) && decide (es.length + ys.length ≤ 9223372036854775807) && okE sz es && okE sz ys, .sl (.tok H.length sz) (es ++ ys), some (H ++ [.tok (es.length + ys.length)]))
    | .sl (.tok i s) es => match H[i]? with
      | some (.tok n) => some (decide (n = es.length) && decide (s = sz) && decide ((es.length + ys.length) * bytes ≤ 140737488355328) && decide (es.length + ys.length ≤ 9223372036854775807) && okE sz ys, .sl (.tok i sz) (es ++ ys), some (H.set i (.tok (es.length + ys.length))))
      | _ => none
    | _ => none
  | none => none

section
variable {G : Consts} {fr : Fr} {H : Heap} {α : Type} {f : α → AV} {sz by' : Nat} {p : Perm} {l m : List α}

/-- What string(b) looks at. -/
def b2sA (H : Heap) : AV → AV
  | .rsl id off n c s => match cpySrc H (.rsl id off n c s) with
    | some es => .sl .ro es
    | none => .undef
  | v => v
theorem b2a_l (f : α → AV) (p : Perm) (l : List α) : b2sA H (lst f p l) = lst f p l := id rfl
theorem b2a_s (p : Perm) (es : List AV) : b2sA H (.sl p es) = .sl p es := id rfl
theorem a_b2s (x : AX) : aop G fr H (.b2s x) = b2sX (b2sA H (x.eval G fr)) := by
  simp only [aop]
  generalize x.eval G fr = v
  cases v <;> first | rfl | skip
  rename_i id off n c s
  simp only [b2sA]
  cases cpySrc H (.rsl id off n c s) <;> rfl
theorem mapM_u8 (l : List UInt8) : (l.map u8).mapM byteOf? = some l := by
  induction l with
  | nil => rfl
  | cons a t ih => simp [List.mapM_cons, ih, byteOf?, u8]
theorem bs_l (p : Perm) (l : List UInt8) : b2sX (lst u8 p l) = some (true, .str l, none) := by
  simp only [b2sX, lst, mapM_u8]; rfl
theorem bs_nil (p : Perm) : b2sX (.sl p []) = some (true, .str [], none) := id rfl

theorem a_app (sz by' : Nat) (x y : AX) : aop G fr H (.app sz by' x y) = appX H sz by' (x.eval G fr) (appSrc (y.eval G fr)) := by
  simp only [aop, appX]
  cases appSrc (y.eval G fr) with
  | none => rfl
  | some ys =>
    cases x.eval G fr <;> try rfl
    all_goals (rename_i q es; cases q <;> rfl)
theorem as_l : appSrc (lst f p l) = some (l.map f) := id rfl
theorem as_s (s : List UInt8) : appSrc (.str s) = some (s.map u8) := id rfl

variable [Inhabited α] [Elt f sz]
/-- append to an empty list -/
theorem ax_nil : appX H sz by' (.sl .ex []) (some (l.map f)) = some (decide (l.length * by' ≤ 140737488355328) && decide (l.length ≤ 9223372036854775807), lst f (.tok H.length sz) l, some (H ++ [.tok l.length])) := by
  simp only [appX, lst, List.nil_append, List.length_nil, List.length_map, Nat.zero_add]
  simp only [okE_map, Bool.and_true]
  simp [okE]
theorem ax_ex : appX H sz by' (lst f .ex l) (some (m.map f)) = if !l.isEmpty && m.isEmpty then some (true, lst f .ex l, none) else some (decide ((l.length + m.length) * by' ≤ 140737488355328) && decide (l.length + m.length ≤ 9223372036854775807), lst f (.tok H.length sz) (l ++ m), some (H ++ [.tok (l.length + m.length)])) := by
  simp only [appX, lst, List.length_map, List.map_append, okE_map, Bool.and_true, List.isEmpty_map]
/-- append to a list that has been appended to -/
theorem ax_tok (i : Nat) : appX H sz by' (lst f (.tok i sz) l) (some (m.map f)) = match H[i]? with
    | some (.tok n) => some (decide (n = l.length) && decide ((l.length + m.length) * by' ≤ 140737488355328) && decide (l.length + m.length ≤ 9223372036854775807), lst f (.tok i sz) (l ++ m), some (H.set i (.tok (l.length + m.length))))
    | _ => none := by
  simp only [appX, lst, List.length_map, List.map_append]
  split <;> simp only [okE_map, Bool.and_true, decide_true]
end

/-! nil's tests, arrays held against each other, min and max -/
section
variable {G : Consts} {fr : Fr} {H : Heap}
def nckX : AV → Option (Bool × AV × Option Heap)
  | .ptr i o => some (true, .ptr i o, none)
  | .vp cs => some (true, .vp cs, none)
  | _ => none
theorem a_nck (x : AX) : aop G fr H (.nck x) = nckX (x.eval G fr) := by
  simp only [aop, nckX]
  cases x.eval G fr <;> rfl
theorem nk_p (i o : Nat) : nckX (.ptr i o) = some (true, .ptr i o, none) := id rfl
theorem nk_v (cs : List AV) : nckX (.vp cs) = some (true, .vp cs, none) := id rfl
def peqX (n : Bool) : AV → AV → Option (Bool × AV × Option Heap)
  | .nilP, .nilP => some (true, .bool (!n), none)
  | .ptr _ _, .nilP | .vp _, .nilP => some (true, .bool n, none)
  | _, _ => none
theorem a_peq (n : Bool) (x y : AX) : aop G fr H (.peq n x y) = peqX n (x.eval G fr) (y.eval G fr) := by
  simp only [aop, peqX]
  generalize x.eval G fr = u
  generalize y.eval G fr = v
  cases u <;> cases v <;> rfl
theorem pq_n (n : Bool) : peqX n .nilP .nilP = some (true, .bool (!n), none) := id rfl
theorem pq_p (n : Bool) (i o : Nat) : peqX n (.ptr i o) .nilP = some (true, .bool n, none) := id rfl
theorem pq_v (n : Bool) (cs : List AV) : peqX n (.vp cs) .nilP = some (true, .bool n, none) := id rfl
def ifnX (n : Bool) : AV → Option (Bool × AV × Option Heap)
  | .nilI => some (true, .bool (!n), none)
  | .ifc _ _ => some (true, .bool n, none)
  | _ => none
theorem a_ifn (n : Bool) (x : AX) : aop G fr H (.ifn n x) = ifnX n (x.eval G fr) := by
  simp only [aop, ifnX]
  split <;> simp_all
theorem ifn_n (n : Bool) : ifnX n .nilI = some (true, .bool (!n), none) := id rfl
theorem ifn_i (n : Bool) (t : Nat) (x : AV) : ifnX n (.ifc t x) = some (true, .bool n, none) := id rfl
def isnX (n : Bool) : AV → Option (Bool × AV × Option Heap)
  | .sl _ es => some (!es.isEmpty, .bool n, none)
  | _ => none
theorem a_isn (n : Bool) (x : AX) : aop G fr H (.isn n x) = isnX n (x.eval G fr) := by
  simp only [aop, isnX]
  cases x.eval G fr <;> rfl
theorem in_l {α : Type} (f : α → AV) (n : Bool) (p : Perm) (l : List α) : isnX n (lst f p l) = some (!l.isEmpty, .bool n, none) := by simp [isnX, lst]
def aeqX (n : Bool) (ks : List Nat) : AV → AV → Option (Bool × AV × Option Heap)
  | .agg xs, .agg ys => (eqCells ks xs ys).map fun b => (true, .bool (bif n then !b else b), none)
  | _, _ => none
theorem a_aeq (n : Bool) (ks : List Nat) (x y : AX) : aop G fr H (.aeq n ks x y) = aeqX n ks (x.eval G fr) (y.eval G fr) := by
  simp only [aop, aeqX]
  generalize x.eval G fr = u
  generalize y.eval G fr = v
  cases u <;> cases v <;> rfl
theorem aq_a (n : Bool) (ks : List Nat) (xs ys : List AV) : aeqX n ks (.agg xs) (.agg ys) = (eqCells ks xs ys).map fun b => (true, .bool (bif n then !b else b), none) := id rfl
theorem eq_n : eqCells [] [] [] = some true := id rfl
theorem eq_i (ks : List Nat) (k : IntKind) (a b : Int) (xs ys : List AV) : eqCells (0 :: ks) (.int k a :: xs) (.int k b :: ys) = (eqCells ks xs ys).map ((a == b) && ·) := by
  simp only [eqCells, eqCellK, ite_true]
  cases eqCells ks xs ys <;> rfl
theorem eq_b (ks : List Nat) (a b : Bool) (xs ys : List AV) : eqCells (1 :: ks) (.bool a :: xs) (.bool b :: ys) = (eqCells ks xs ys).map ((a == b) && ·) := by
  simp only [eqCells, eqCellK]
  cases eqCells ks xs ys <;> rfl
theorem eq_s (ks : List Nat) (a b : List UInt8) (xs ys : List AV) : eqCells (2 :: ks) (.str a :: xs) (.str b :: ys) = (eqCells ks xs ys).map ((a == b) && ·) := by
  simp only [eqCells, eqCellK]
  cases eqCells ks xs ys <;> rfl
def mmX (m : Bool) : AV → AV → Option (Bool × AV × Option Heap)
  | .int k a, .int _ b => some (true, .int k (bif m then (if a < b then b else a) else (if b < a then b else a)), none)
  | _, _ => none
theorem a_mm (m : Bool) (x y : AX) : aop G fr H (.mm m x y) = mmX m (x.eval G fr) (y.eval G fr) := by
  simp only [aop, mmX]
  generalize x.eval G fr = u
  generalize y.eval G fr = v
  cases u <;> cases v <;> rfl
theorem mm_x (k k' : IntKind) (a b : Int) : mmX true (.int k a) (.int k' b) = some (true, .int k (if a < b then b else a), none) := id rfl
theorem mm_n (k k' : IntKind) (a b : Int) : mmX false (.int k a) (.int k' b) = some (true, .int k (if b < a then b else a), none) := id rfl
end
theorem as_sl (p : Perm) (es : List AV) : appSrc (.sl p es) = some es := id rfl
section
variable {H : Heap} {by' : Nat}
/-- Append of one element: the list is one of elements of this kind. -/
def app1 (H : Heap) (by' i k : Nat) (v : AV) : Option (Bool × AV × Option Heap) := match H[i]? with
    | some (.tok n) => some (decide (n = k) && decide ((k + 1) * by' ≤ 140737488355328) && decide (k + 1 ≤ 9223372036854775807), v, some (H.set i (.tok (k + 1))))
    | _ => none
theorem ax1_u8 (i : Nat) (l : List UInt8) (b : UInt8) : appX H 1 by' (lst u8 (.tok i 1) l) (some [.int .u8 ((b.toNat : Nat) : Int)]) = app1 H by' i l.length (lst u8 (.tok i 1) (l ++ [b])) :=
  ax_tok (f := u8) (m := [b]) i
theorem ax1_i64 (i : Nat) (l : List Int) (n : Int) : appX H 1 by' (lst (AV.int .i64) (.tok i 1) l) (some [.int .i64 n]) = app1 H by' i l.length (lst (AV.int .i64) (.tok i 1) (l ++ [n])) :=
  ax_tok (f := AV.int .i64) (m := [n]) i
theorem ax1_s (i : Nat) (l : List (List UInt8)) (s : List UInt8) : appX H 1 by' (lst AV.str (.tok i 1) l) (some [.str s]) = app1 H by' i l.length (lst AV.str (.tok i 1) (l ++ [s])) :=
  ax_tok (f := AV.str) (m := [s]) i
theorem ax1_b (i : Nat) (l : List Bool) (s : Bool) : appX H 1 by' (lst AV.bool (.tok i 1) l) (some [.bool s]) = app1 H by' i l.length (lst AV.bool (.tok i 1) (l ++ [s])) :=
  ax_tok (f := AV.bool) (m := [s]) i
end
end Go.Avm

/- Ranges over functions: the rules in the form that simp works with. -/
namespace Go.Avm
open Go
/-- What a result that lies in memory is. -/
def cellV (H : Heap) (n : Option Nat) : AV → Option AV
  | .ptr id off => match H[id]? with
    | some (.box cs) => match n with
      | none => if off < cs.length then some (cs.getD off .undef) else none
      | some k => if off + k ≤ cs.length then some (.agg ((cs.drop off).take k)) else none
    | _ => none
  | _ => none
theorem rv_cell {fr : Fr} {H : Heap} (n : Option Nat) (a : Nat) (r : List ARes) : resVals fr H (.cell n a :: r) = match cellV H n (fr a), resVals fr H r with | some v, some vs => some (v :: vs) | _, _ => none := by
  have : ARes.val fr H (.cell n a) = cellV H n (fr a) := by
    simp only [ARes.val, cellV]
    cases fr a <;> rfl
  simp only [resVals, this]
  cases cellV H n (fr a) <;> cases resVals fr H r <;> rfl
theorem cv_1 {H : Heap} (id off : Nat) : cellV H none (.ptr id off) = match H[id]? with | some (.box cs) => if off < cs.length then some (cs.getD off .undef) else none | _ => none := by
  simp only [cellV]
theorem cv_n {H : Heap} (id off k : Nat) : cellV H (some k) (.ptr id off) = match H[id]? with | some (.box cs) => if off + k ≤ cs.length then some (.agg ((cs.drop off).take k)) else none | _ => none := by
  simp only [cellV]
theorem sps_c (F : FL) (p : Nat) (ps : List Nat) (v : AV) (vs : List AV) : setPs (FL.get F) (p :: ps) (v :: vs) = setPs (FL.get ((p, v) :: F)) ps vs := by
  simp only [setPs, FL.upd_some]
theorem sps_n (fr : Fr) : setPs fr [] [] = fr := id rfl
theorem at_n (K : Fr → Heap → Prop) (Q : Exit → Fr → Heap → Prop) (fr : Fr) (H : Heap) : AThen K Q .normal fr H = K fr H := id rfl
section
variable {X : Cx} {N : Nat} {i : Nat} {L : Loop} {frc fr fr1 : Fr} {H : Heap} {dst : Option Nat} {K : Fr → Heap → Prop}
theorem rq_n : RoundQ i L frc dst fr K .normal fr1 H = (H[i]? = some (.lp (lto L .busy none) frc) ∧ K (fr.updo dst (.bool true)) (H.set i (.lp L frc))) := id rfl
theorem rq_r : RoundQ i L frc dst fr K .ret fr1 H = (H[i]? = some (.lp (lto L .busy none) frc) ∧ K (fr.updo dst (.bool false)) (H.set i (.lp (lto L .done (some .ret)) frc))) := id rfl
theorem rq_e (id' : Nat) : RoundQ i L frc dst fr K (.exit id') fr1 H = (H[i]? = some (.lp (lto L .busy none) frc) ∧ K (fr.updo dst (.bool false)) (H.set i (.lp (lto L .done (some (.exit id'))) frc))) := id rfl
end
end Go.Avm

/- A list in a box that is empty may be taken as one that we append to. -/
namespace Go.Avm
open Go
theorem RelL.set_of {g : Gh} {w : World} {x x' : AV} (hx : ∀ v, Rel x g w v → Rel x' g w v) : ∀ (cs : List AV) (j : Nat) (vs : List Value), cs[j]? = some x → RelL cs g w vs → RelL (cs.set j x') g w vs
  | [], j, vs, h, _ => by simp at h
  | c :: cs, 0, vs, h, hr => by
    simp only [List.getElem?_cons_zero, Option.some.injEq] at h
    subst h
    cases vs with
    | nil => simp [RelL] at hr
    | cons v vs =>
      simp only [RelL, List.cons.injEq] at hr
      simp only [List.set_cons_zero, RelL]
      grind
  | c :: cs, j + 1, vs, h, hr => by
    simp only [List.getElem?_cons_succ] at h
    cases vs with
    | nil => simp [RelL] at hr
    | cons v vs =>
      have ih := RelL.set_of hx cs j
      simp only [RelL, List.cons.injEq] at hr
      simp only [List.set_cons_succ, RelL]
      grind
section
variable {X : Cx} {N : Nat} {fr : Fr} {H : Heap}
theorem wk_tokb (i j sz : Nat) {cs : List AV} (h : H[i]? = some (.box cs)) (hj : cs[j]? = some (.sl .ex [])) : WkA X N fr H fr (H.set i (.box (cs.set j (.sl (.tok H.length sz) []))) ++ [.tok 0]) := fun _ g w a hs => by
  have hg := good_newtok hs 0
  have hi : i < H.length := by
    rcases Nat.lt_or_ge i H.length with h' | h'
    · exact h'
    · rw [List.getElem?_eq_none h'] at h; cases h
  refine ⟨_, ⟨hg.wf, ⟨fun k x hk => ?_, fun k hk => hg.hr.far k (by simpa using hk)⟩, fun t => Rel.mono _ hg.mono (hs.fr t), hs.size, hs.defers.ext hg.ext, hs.n0⟩, hg.xm⟩
  by_cases hki : k = i
  · subst hki
    rw [List.getElem?_append_left (by simpa using hi), List.getElem?_set_self hi, Option.some.injEq] at hk
    subst hk
    obtain ⟨b, vs, e, fz, hb, hh, hr⟩ := hg.hr.blk k (.box cs) (by rw [List.getElem?_append_left hi]; exact h)
    refine ⟨b, vs, e, fz, hb, hh, RelL.set_of (fun v hv => ?_) cs j _ hj hr⟩
    simp only [Rel] at hv ⊢
    obtain ⟨ad, cap, vs, s, h1, h2, h3, h4, h5⟩ := hv
    simp only [RelL] at h3
    subst h3
    exact ⟨ad, cap, [], sz, h1, h2, by simp [RelL], .inl rfl, rfl, 0, if_pos rfl, Nat.le_refl _, fun _ => .inl ⟨h5, rfl⟩⟩
  · refine hg.hr.blk k x ?_
    rcases Nat.lt_or_ge k H.length with h' | h'
    · rw [List.getElem?_append_left (by simpa using h'), List.getElem?_set_ne (fun e => hki e.symm)] at hk
      rw [List.getElem?_append_left h']; exact hk
    · rw [List.getElem?_append_right (by simpa using h')] at hk
      rw [List.getElem?_append_right h']
      simpa using hk
end
end Go.Avm

/- Contracts that were shown otherwise, as contracts of ours. -/
namespace Go.Avm
open Go
section
variable {X : Cx}
end
end Go.Avm

/- What a contract of a law says of the law's row: the plain part. -/
namespace Go.Avm
open Go Go.ChangeShapes Go.WideShapes Go.ChangeAt Go.WideElems Go.RowKit
section
variable {H : Type} {enc : TypeId × Value → H} {P : Program}
theorem sameAt_of {W W' : World} (h : ∀ b : Nat, b < W.heap.size → W'.heap[b]? = W.heap[b]?) {p : MemPlace} (hp : p.block < W.heap.size) : W.sameAt W' p := by
  cases p <;> simp_all [World.sameAt, MemPlace.block, World.cell?]
theorem trodAll_kept (hl : laidOutB P = true) {W W' : World} (h : ∀ b : Nat, b < W.heap.size → W'.heap[b]? = W.heap[b]?) {sp' : Nat → Bool} :
    ∀ {ts : List TypeId} {vs : List Value} {ds : List (DataW H)} {ps : List MemPlace}, (∀ t ∈ ts, P.readableRec t = true ∧ t < P.types.size) → (∀ p ∈ ps, p.block < W.heap.size ∧ sp' p.block = true) →
      DataW.TrodAll enc P W 0 (fun _ => true) true ts vs ds ps → DataW.TrodAll enc P W' 0 sp' true ts vs ds ps
  | [], vs, ds, ps, _, _, ht => by
    obtain ⟨rfl, rfl, rfl⟩ := trodAll_nil ht
    exact ht
  | t :: ts, vs, ds, ps, hr, hp, ht => by
    obtain ⟨v, vs1, d, ds1, a, b, rfl, rfl, rfl, h1, h2⟩ := trodAll_cons ht
    have k1 := Trod_stays hl (hr t (by simp)).1 (hr t (by simp)).2 (sp' := sp') h1 (fun x hx => sameAt_of h (hp x (by simp [hx])).1) (fun x hx => (hp x (by simp [hx])).2)
    have k2 := trodAll_kept hl h (ts := ts) (sp' := sp') (fun t ht => hr t (by simp [ht])) (fun x hx => hp x (by simp [hx])) h2
    exact ⟨a, b, k1, k2, rfl⟩
/-- The row's end: a law has returned true, and nothing that was there has changed. -/
theorem post_kept {f : Func} {s : ChangeSpec} {handsOn : Bool} {W W' : World} {args : Array Value} {ds : List (DataW H)} {before : List MemPlace} {tb : TypeId}
    (hl : laidOutB P = true) (hr : ∀ t ∈ f.params.toList, P.readableRec t = true ∧ t < P.types.size) (hb : P.underlying tb = some .bool) (hrt : f.resultTypes = #[tb])
    (hvars : s.vars = []) (hs : s.fn H (ds ++ []) = { results := [.lit (.bool true)], args := ds })
    (hW : DataW.Whole enc P f.params.toList s.vars false W args.toList ds [] before) (hold : ∀ b : Nat, b < W.heap.size → W'.heap[b]? = W.heap[b]?) (hio : W'.os = W.os ∧ W'.output = W.output) :
    s.post enc P f false true handsOn false W args (.bool true) W' := by
  have hlt := hW.lt
  obtain ⟨p, q, hA, hV, hps, hfz, hnd⟩ := hW
  have hq : q = [] := by
    rw [hvars] at hV
    exact (trodVars_none hV).2
  have hpb : before = p := by rw [hps, hq, List.append_nil]
  have hW' : DataW.Whole enc P f.params.toList s.vars false W args.toList ds [] before := ⟨p, q, hA, hV, hps, hfz, hnd⟩
  refine ⟨ds, [], before, [], p, [], hW', ?_, ?_, ?_, ?_, fun h => by cases h⟩
  · rw [hs, hrt]
    exact trodAll_mk1 (shut_bool hb true)
  · rw [hs]
    exact trodAll_kept hl hold hr (fun x hx => ⟨hlt x (by rw [hpb]; exact hx), by simpa using hlt x (by rw [hpb]; exact hx)⟩) hA
  · rw [hs, hvars]
    rw [hvars, hq] at hV
    exact hV
  · exact World.keptBut.congr (World.keptBut_refl W _) hio.1 hio.2 hold
end
end Go.Avm

/- The start of a law's call: what its arguments are. -/
namespace Go.Avm
open Go Go.ChangeShapes Go.WideShapes Go.ChangeAt Go.WideElems Go.RowKit
/-- All cells that are there may be read; nothing is ours. -/
def gAll (W : World) : Gh := { S := fun b o => ∃ (vs : Array Value) (e : TypeId) (fz : Nat × Nat), W.heap[b]? = some (.cells vs e fz) ∧ o < vs.size, bx := fun _ => none, tl := fun _ => none, tk := fun _ => none }
theorem gAll_owns {W : World} {b o : Nat} : ¬ (gAll W).owns b o := fun h => by
  rcases h with ⟨i, hi⟩ | ⟨i, lo, hi, hi', _⟩ <;> simp [gAll] at *
theorem wf_gAll {G : Consts} {W : World} (hlaid : ∀ x cs, G x = some cs → Rel (.vp cs) (gAll W) W (.pointer (some ⟨x, 0, none⟩))) (hex : ∀ x cs, G x = some cs → ∃ (vs : Array Value) (e : TypeId) (fz : Nat × Nat), W.heap[x]? = some (Obj.cells vs e fz) ∧ vs.size = cs.length) : Wf G (gAll W) W where
  S b o h := ⟨h, gAll_owns⟩
  inj i j b h := by simp [gAll] at h
  tinj i j b lo hi lo' hi' h := by simp [gAll] at h
  apart i j b lo hi h := by simp [gAll] at h
  bx i b h := by simp [gAll] at h
  tk i b lo hi h := by simp [gAll] at h
  laid := hlaid
  ex := hex
theorem hr_gAll (W : World) : HR (gAll W) W [] := ⟨fun i x h => by simp at h, fun i _ => ⟨rfl, rfl, rfl⟩⟩
theorem S_of_cell {W : World} {b o : Nat} {v : Value} (h : W.cell? ⟨b, o, none⟩ = some v) : (gAll W).S b o := by
  simp only [World.cell?] at h
  split at h
  · rename_i c e fz hc
    refine ⟨c, e, fz, hc, ?_⟩
    simp only [Option.isSome_none, Bool.false_eq_true, if_false] at h
    exact (Array.getElem?_eq_some_iff.1 h).1
  · cases h
/-- What a contract of a law gives behind the call. -/
theorem calls_of_ev {X : Cx} {f : FuncId} {args : List AV} {r : AV} {W : World} {vs : List Value} (h : Ev X f args r) (hlaid : ∀ x cs, X.G x = some cs → Rel (.vp cs) (gAll W) W (.pointer (some ⟨x, 0, none⟩)) ∧ ∃ (vs : Array Value) (e : TypeId) (fz : Nat × Nat), W.heap[x]? = some (Obj.cells vs e fz) ∧ vs.size = cs.length) (ha : RelL args (gAll W) W vs) :
    Calls X.P f vs.toArray W fun e W' => ∃ v g', e = .returned v ∧ Rel r g' W' v ∧ (∀ b : Nat, b < W.heap.size → W'.heap[b]? = W.heap[b]?) ∧ W'.os = W.os ∧ W'.output = W.output :=
  (h.2 (gAll W) W vs (wf_gAll (fun x cs h => (hlaid x cs h).1) fun x cs h => (hlaid x cs h).2) (hr_gAll W) ha).mono fun e W' ⟨v, r', g', H', h1, h2, h3, h4, h5, h6⟩ => by
    obtain ⟨h6, h7⟩ := h6
    subst h6
    exact ⟨v, g', h1, h2, fun b hb => h5.obj b hb fun o => gAll_owns, h5.io.1, h5.io.2⟩
section
variable {H : Type} {enc : TypeId × Value → H} {P : Program} {W : World}
theorem relL_ints {g : Gh} {w : World} (k : IntKind) : ∀ zs : List Int, RelL (zs.map (AV.int k)) g w (zs.map (Value.int k))
  | [] => by simp [RelL]
  | z :: t => by
    simp only [List.map_cons, RelL]
    exact ⟨_, _, rfl, by simp [Rel], relL_ints k t⟩
theorem cell_plain {a : Addr} {v : Value} (h : W.cell? a = some v) : a.spot = none := by
  simp only [World.cell?] at h
  split at h
  · cases hs : a.spot with
    | none => rfl
    | some x => rw [hs] at h; simp at h
  · cases h
theorem wf_i64 {z : Int} (h : (Lit.int .i64 z).wf = true) : -9223372036854775808 ≤ z ∧ z < 9223372036854775808 := by
  simp only [Lit.wf, Bool.and_eq_true, decide_eq_true_eq] at h
  have h1 : IntKind.i64.min = -9223372036854775808 := by decide
  have h2 : IntKind.i64.max = 9223372036854775807 := by decide
  omega
end
end Go.Avm

/- The rules for verification conditions, as one set. -/
namespace Go.Avm
open Go
attribute [go_sem ↓]
 vd_ifn vq_ifn a_ifn vd_boxS vq_boxS vq_alloc vq_allocB vq_box vq_mkT vq_mkR vq_s2b vq_s2bf vq_app vq_cpy vd_cpy vd_nck vd_peq vd_isn vd_aeq vd_mm vq_st vq_nck vq_peq vq_isn vq_aeq vq_mm a_nck a_peq a_isn a_aeq a_mm
 w_goto kq_sg kq_bg w_skip w_ret w_exit w_seq w_block w_reg w_regd w_cond kq_sn kq_sr kq_se kq_bn kq_br kq_be kq_bx kq_cn kq_cr kq_ce w_scope w_label w_bad kq_0 vc_nil vc_cons vc_no vc_g sp_t sp_f vd_mov vd_pick vd_bin
 vd_beq vd_not vd_neg vd_conv vd_b2s vd_s2b vd_r2s vd_smov vd_len vd_lenS vd_idxA vd_idxP vd_ld vd_st vd_fldA vd_fld vd_idxS vd_idxG vd_ssl vd_sls vd_slA vd_alloc vd_allocB vd_box vd_build vd_bsl vd_extr vd_mkf
 vd_mki vd_mkT vd_mkR vd_app vd_cv a_idxA a_len a_sls a_ld vq_nil vq_cons vq_no vq_g vq_mov vq_pick vq_bin vq_beq vq_not vq_neg vq_conv vq_b2s vq_r2s vq_smov vq_len vq_lenS vq_idxA vq_idxP vq_ld
 vq_fldA vq_fld vq_idxS vq_idxG vq_ssl vq_sls vq_slA vq_build vq_bsl vq_extr vq_mkf vq_mki a_b2s a_app
attribute [go_sem]
 b2a_l b2a_s ifn_n ifn_i aj_g aj_n aj_r aj_e cps_sl cps_l cps_r aq_n aq_s tp_sl tp_l nk_p nk_v pq_n pq_p pq_v in_l aq_a eq_n eq_i eq_b eq_s mm_x mm_n Bool.not_eq_eq_eq_not List.isEmpty_nil List.isEmpty_cons
 vi_b vg_t vg_f vg_no sp_e vv_clo vv_yv vd_call vr_n vr_s vr_0 aop AX.eval pm_a pm_b om_0 om_1 om_2 om_3 FL.upd_some FL.upd_none FL.get_cons FL.get_nil ab_add ab_sub ab_mul ab_quo ab_rem ab_and ab_or ab_xor ab_andNot ab_eql ab_neq
 ab_lss ab_leq ab_gtr ab_geq ab_shl ab_shr ab_sadd ab_seql ab_sneq ab_slss ab_sleq ab_sgtr ab_sgeq pk_b pk_1 pk_0 bif_and bif_or ri_r ri_n rv_nil rv_tmp ro_1 ro_0 ro_2 eq_self Int.toNat_natCast
 Bool.and_eq_true beq_self_eq_true Option.map_some Option.map_none Option.getD_none Option.getD_some ite_true ite_false true_and and_true implies_true List.zipIdx_cons List.zipIdx_nil List.map_cons
 List.map_nil Nat.zero_add Int.cast_ofNat_Int not_true_eq_false not_false_eq_true cond_true cond_false decide_eq_true_eq decide_eq_false_iff_not Bool.true_and Bool.and_true Bool.false_and
 Bool.and_false Bool.not_or_self Bool.not_true Bool.not_false Bool.false_or Bool.true_or Bool.or_true Bool.or_false Bool.not_eq_true' Bool.not_eq_false' false_implies true_implies vr_idx ln_l ln_s ln_r
 ss_lo ss_lox ss_lh ss_h fi_b fi_i fi_s fi_ex fi_ro fi_tok fi_lex fi_lro fi_ltok fi_tup fi_agg fi_rsl fi_ptr fi_vp fi_nf fi_np fi_ni dr_l dr_nil dr_cons dr_i dr_b dr_s dr_sl dr_agg dr_u8 ce_u8 ce_i
 ce_b ce_s ce_agg ce_sl ce_l ce_np ce_vp ce_ptr ce_clo ce_ifc ce_rsl u8 ld_vp ld_ptr vr_ldm okE_map sc_i sc_b sc_s sc_sl sc_l sc_np sc_vp sc_ptr sc_clo sc_ifc sc_rsl nt_i nt_b nt_s nt_sl nt_l nt_np
 nt_vp nt_ptr nt_clo nt_ifc nt_rsl nt_agg cs_n cs_c fa_n fa_c fe_n fe_c List.length_nil List.length_cons List.nil_append List.cons_append List.getElem?_cons_zero List.getElem?_cons_succ
 List.set_cons_zero List.set_cons_succ List.all_cons List.all_nil decide_true decide_false List.getD_cons_zero List.getD_cons_succ FL.has_nil FL.has_cons ag_n ag_r ag_e List.replicate_succ
 List.replicate_zero List.append_nil List.take_zero List.take_succ_cons List.drop_zero List.drop_succ_cons vq_call vgq_t vgq_f vgq_no qk_ap qr_ap in_G bs_l bs_nil as_l as_s as_sl ax_nil ax_ex ax_tok
 ax1_u8 ax1_i64 ax1_s ax1_b app1 rv_cell cv_1 cv_n sps_c sps_n at_n rq_n rq_r rq_e
end Go.Avm

/- Long functions, one statement after the other: what is not needed any more is forgotten. -/
namespace Go.Avm
open Go
section
variable {X : Cx} {N : Nat} {H : Heap} {Q : Exit → Fr → Heap → Prop}
theorem ath_n (K : Fr → Heap → Prop) (fr : Fr) : AThen K Q .normal fr H = K fr H := id rfl
theorem ath_r (K : Fr → Heap → Prop) (fr : Fr) : AThen K Q .ret fr H = Q .ret fr H := id rfl
theorem ath_e (K : Fr → Heap → Prop) (fr : Fr) (i : Nat) : AThen K Q (.exit i) fr H = Q (.exit i) fr H := id rfl
theorem keep_nil (F : FL) : F.keep [] = [] := id rfl
theorem keep_cons (F : FL) (k : Nat) (ks : List Nat) : F.keep (k :: ks) = (k, F.get k) :: F.keep ks := id rfl
theorem ab_n (i : Nat) (fr : Fr) : ABlk i Q .normal fr H = Q .normal fr H := id rfl
theorem ab_r (i : Nat) (fr : Fr) : ABlk i Q .ret fr H = Q .ret fr H := id rfl
theorem ab_e (i : Nat) (fr : Fr) : ABlk i Q (.exit i) fr H = Q .normal fr H := by simp [ABlk]
theorem ab_x (i j : Nat) (fr : Fr) (h : (j == i) = false) : ABlk i Q (.exit j) fr H = Q (.exit j) fr H := by
  simp only [ABlk]
  rw [if_neg (by simpa using h)]
theorem gl_concat {α : Type} (l : List α) (a : α) : (l ++ [a])[l.length]? = some a := by simp
theorem sl_concat {α : Type} (l : List α) (a b : α) : (l ++ [a]).set l.length b = l ++ [b] := by simp
end
attribute [go_sem ↓] ath_n ath_r ath_e ab_n ab_r ab_e ab_x
attribute [go_sem] gl_concat sl_concat
attribute [go_sem] keep_nil keep_cons
end Go.Avm

/- Contracts that lay blocks of their own. -/
namespace Go.Avm
open Go
section
variable {X : Cx}
theorem wf_below {g : Gh} {w w' : World} (hwf : Wf X.G g w) (h : RowKit.Below w.heap.size w w') : Wf X.G g w' ∧ ExtM g w g w' := by
  have hlt : ∀ (b : Nat) (x : Obj), w.heap[b]? = some x → b < w.heap.size := fun b x h => by
    rcases Nat.lt_or_ge b w.heap.size with h' | h'
    · exact h'
    · rw [Array.getElem?_eq_none h'] at h; cases h
  have hc : ∀ (b o : Nat), b < w.heap.size → w'.cell? ⟨b, o, none⟩ = w.cell? ⟨b, o, none⟩ := fun b o hb => by
    simp only [World.cell?]
    rw [h.block b hb]
  have hm : Mono g w g w' := ⟨fun b o hS => ⟨hS, hc b o (by
    obtain ⟨⟨vs, e, fz, h1, _⟩, _⟩ := hwf.S b o hS
    exact hlt _ _ h1)⟩, fun _ _ h => h, fun _ n h => ⟨n, h, .inl ⟨rfl, rfl⟩⟩⟩
  have hsz := h.size
  refine ⟨⟨fun b p hS => ?_, hwf.inj, hwf.tinj, hwf.apart, fun i b hb => ?_, fun i b lo hi hk => ?_, fun x cs hx => Rel.mono _ hm (hwf.laid x cs hx), ex_shape hwf.ex fun b vs e fz h1 => ⟨vs, fz, by rw [h.block b (hlt _ _ h1)]; exact h1, rfl⟩⟩, ⟨⟨hsz, fun _ _ h => h, fun _ _ h => .inl h, fun b p hb _ => hc b p hb, fun b hb _ => h.block b hb, fun b vs e fz h1 => ⟨vs, fz, by rw [h.block b (hlt _ _ h1)]; exact h1, rfl, .inl rfl⟩, fun _ _ h => .inr h, h.os, h.output⟩, hm⟩⟩
  · obtain ⟨⟨vs, e, fz, h1, h2⟩, h3⟩ := hwf.S b p hS
    exact ⟨⟨vs, e, fz, by rw [h.block b (hlt _ _ h1)]; exact h1, h2⟩, h3⟩
  · have := hwf.bx i b hb
    refine ⟨by omega, fun vs e lo hi h2 => ?_⟩
    rw [h.block b this.1] at h2
    exact this.2 vs e lo hi h2
  · obtain ⟨vs, e, fl, fh, h1, h2⟩ := hwf.tk i b lo hi hk
    exact ⟨vs, e, fl, fh, by rw [h.block b (hlt _ _ h1)]; exact h1, h2⟩
theorem ev_below {f : FuncId} {args : List AV} {r : AV} (hb : HasBody X f) (h : ∀ g w vs, Wf X.G g w → RelL args g w vs → Calls X.P f vs.toArray w fun e w' => ∃ v, e = .returned v ∧ (∀ g, Rel r g w' v) ∧ RowKit.Below w.heap.size w w') : Ev X f args r :=
  ⟨hb, fun g w vs h1 h2 h3 => (h g w vs h1 h3).mono fun e w' ⟨v, k1, k2, k3⟩ => by
    have hw := wf_below h1 k3
    exact ⟨v, r, g, [], k1, k2 g, hw.1, ⟨fun i x hx => by simp at hx, h2.far⟩, hw.2.ext, rfl, rfl⟩⟩
theorem ath_g {Q : Exit → Fr → Heap → Prop} (K : Fr → Heap → Prop) (fr : Fr) (H : Heap) (i : Nat) : AThen K Q (.goto i) fr H = Q (.goto i) fr H := id rfl
theorem ab_g {Q : Exit → Fr → Heap → Prop} (i j : Nat) (fr : Fr) (H : Heap) : ABlk i Q (.goto j) fr H = Q (.goto j) fr H := id rfl
end
attribute [go_sem] ath_g ab_g
end Go.Avm

/- A block that nobody uses: it shifts the numbers of those that follow. -/
namespace Go.Avm
open Go
section
variable {X : Cx}
theorem wk_dead {N : Nat} {fr : Fr} {H : Heap} : WkA X N fr H fr (H ++ [.dead]) := fun _ g w _ hs =>
  ⟨g, ⟨hs.wf, ⟨fun i x hx => by
    rw [List.getElem?_append] at hx
    split at hx
    · exact hs.hr.blk i x hx
    · rename_i h
      cases e : i - H.length with
      | zero => rw [e] at hx; cases hx; trivial
      | succ m => rw [e] at hx; simp at hx, fun i hi => hs.hr.far i (by rw [List.length_append] at hi; omega)⟩, hs.fr, hs.size, hs.defers, hs.n0⟩, ExtM.refl g w⟩
/-- The walk begins behind a block that nobody uses. -/
theorem evM_of_wpcD (hs : Std X) {f : FuncId} {hint : Nat → Bool} {af : AFun} (hc : compileFun X.P f hint = some af) {args : List AV} {Hin : Heap} {Q : AV → Heap → Prop}
    (h : wpc X af.n af.code (kq X af.n (RetIs af.res Q) []) (FL.get (args.zipIdx.map fun p => (p.2, p.1))) (Hin ++ [.dead])) : EvM X f args Hin Q := by
  refine evM_of hs.hrd hc ?_
  rw [frOf_get]
  refine xa_wk wk_dead (xa_mono (xa_of_wpc hs.hm _ h) fun e fr H hq => ?_)
  unfold kq RetIs at hq
  split at hq
  · split at hq
    · rename_i vs hv; exact ⟨.inl rfl, vs, fr, H, WkA.refl, hv, hq⟩
    · exact hq.elim
  · split at hq
    · rename_i vs hv; exact ⟨.inr rfl, vs, fr, H, WkA.refl, hv, hq⟩
    · exact hq.elim
  · exact hq.elim
end
end Go.Avm

/- Ranges over strings, calls through interfaces, loads from what stays: the rules. -/
namespace Go.Avm
open Go
section
variable {X : Cx} {fr : Fr} {H : Heap} {K : Fr → Heap → Prop} {r : List AOper} (d : Option Nat)
theorem vd_lds (n' : Option Nat) (x' : AX) : vcDo X (.lds n' x') d fr H K = vcR d fr H K (aop X.G fr H (.lds n' x')) := by
  simp only [vcDo, callee, yieldOf, vcR]
  split <;> simp_all
theorem vq_lds (n' : Option Nat) (x' : AX) : vcDoQ X (.lds n' x') fr H (qk X K r d fr) = vcR d fr H (qr X K r) (aop X.G fr H (.lds n' x')) := vdq r d rfl rfl
theorem vd_rng (x' : AX) : vcDo X (.rng x') d fr H K = vcR d fr H K (aop X.G fr H (.rng x')) := by
  simp only [vcDo, callee, yieldOf, vcR]
  split <;> simp_all
/-- A round over a string, or its end. -/
def nxtR (i : Nat) (d : Option Nat) (fr : Fr) (H : Heap) (K : Fr → Heap → Prop) : Option Blk → Prop
  | some (.sit l p) => vcSplit (decide (p < l.length)) (K (fr.updo d (.tuple [.bool true, .int .i64 p, .int .i32 ((dec (l.drop p)).1 : Nat)])) (H.set i (.sit l (p + (dec (l.drop p)).2)))) (K (fr.updo d (.tuple [.bool false])) H)
  | _ => False
def nxtX (d : Option Nat) (fr : Fr) (H : Heap) (K : Fr → Heap → Prop) : AV → Prop
  | .ptr i 0 => nxtR i d fr H K H[i]?
  | _ => False
theorem set_same {i : Nat} {b : Blk} (h : H[i]? = some b) : H.set i b = H := by
  refine List.ext_getElem? fun j => ?_
  rw [List.getElem?_set]
  split
  · rename_i e
    subst e
    rw [h]
    simp
    exact (List.getElem?_eq_some_iff.1 h).1
  · rfl
theorem vd_nxt (x' : AX) : vcDo X (.nxt x') d fr H K = nxtX d fr H K (x'.eval X.G fr) := by
  simp only [vcDo, callee, yieldOf, aop]
  generalize x'.eval X.G fr = v
  unfold nxtX
  cases v with
  | ptr i o =>
    cases o with
    | zero =>
      simp only
      cases hb : H[i]? with
      | none => rfl
      | some b =>
        cases b with
        | sit l p =>
          simp only [nxtR, vcSplit, nxtV, nxtP]
          by_cases h : p < l.length
          · rw [if_pos h, if_pos h]; simp [h]
          · rw [if_neg h, if_neg h, Option.getD_some, set_same hb]; simp [h]
        | _ => rfl
    | succ o => rfl
  | _ => rfl
theorem nx_p (i : Nat) : nxtX d fr H K (.ptr i 0) = nxtR i d fr H K H[i]? := id rfl
theorem nx_s (i : Nat) (l : List UInt8) (p : Nat) : nxtR i d fr H K (some (.sit l p)) = vcSplit (decide (p < l.length)) (K (fr.updo d (.tuple [.bool true, .int .i64 p, .int .i32 ((dec (l.drop p)).1 : Nat)])) (H.set i (.sit l (p + (dec (l.drop p)).2)))) (K (fr.updo d (.tuple [.bool false])) H) := id rfl
/-- A call through an interface. -/
def vcIL (X : Cx) (as : List AV) (v : AV) (d : Option Nat) (fr : Fr) (H : Heap) (K : Fr → Heap → Prop) : Option Nat → Prop
  | some f => CallOk X f (v :: as) d fr H K
  | none => False
def vcI (X : Cx) (tb : List (Nat × Nat)) (as : List AV) (d : Option Nat) (fr : Fr) (H : Heap) (K : Fr → Heap → Prop) : AV → Prop
  | .ifc t v => vcIL X as v d fr H K (tb.lookup t)
  | _ => False
theorem vd_inv (tb : List (Nat × Nat)) (x : AX) (as : List AX) : vcDo X (.inv tb x as) d fr H K = vcI X tb (as.map (·.eval X.G fr)) d fr H K (x.eval X.G fr) := by
  simp only [vcDo, callee, yieldOf, aop]
  generalize x.eval X.G fr = v
  cases v with
  | ifc t u =>
    simp only [vcI]
    cases tb.lookup t <;> rfl
  | _ => rfl
theorem vi_ifc (tb : List (Nat × Nat)) (as : List AV) (t : Nat) (v : AV) : vcI X tb as d fr H K (.ifc t v) = vcIL X as v d fr H K (tb.lookup t) := id rfl
theorem vi_some (as : List AV) (v : AV) (f : Nat) : vcIL X as v d fr H K (some f) = CallOk X f (v :: as) d fr H K := id rfl
def vcIQL (X : Cx) (as : List AV) (v : AV) (d : Option Nat) (fr : Fr) (H : Heap) (K : Fr → Heap → Prop) : Option Nat → Prop
  | some f => CallQ X f (v :: as) d fr H K
  | none => False
def vcIQ (X : Cx) (tb : List (Nat × Nat)) (as : List AV) (d : Option Nat) (fr : Fr) (H : Heap) (K : Fr → Heap → Prop) : AV → Prop
  | .ifc t v => vcIQL X as v d fr H K (tb.lookup t)
  | _ => False
theorem vq_inv (tb : List (Nat × Nat)) (n : Nat) (as : List AX) : vcDoQ X (.inv tb (.t n) as) fr H (qk X K r d fr) = vcIQ X tb (as.map (·.eval X.G fr)) d fr H (qr X K r) ((AX.t n).eval X.G fr) := by
  unfold vcDoQ
  simp only [callee, aop, csOf, cbOf]
  generalize (AX.t n).eval X.G fr = v
  cases v with
  | ifc t u =>
    simp only [vcIQ]
    cases tb.lookup t <;> rfl
  | _ => rfl
/-- A builder's string. -/
def CallSQ (X : Cx) (f : Nat) (args : List AV) (d : Option Nat) (fr : Fr) (H : Heap) (K : Fr → Heap → Prop) : Prop := ∃ r H', CallS X f args H r H' ∧ K (fr.updo d r) H'
theorem vq_cs (f z n : Nat) (as : List AX) : vcDoQ X (.inv [(f, z)] (.m true n) as) fr H (qk X K r d fr) = CallSQ X f (as.map (·.eval X.G fr)) d fr H (qr X K r) := id rfl
def CallBQ (X : Cx) (f : Nat) (args : List AV) (d : Option Nat) (fr : Fr) (H : Heap) (K : Fr → Heap → Prop) : Prop := ∃ r H', CallB X f args H r H' ∧ K (fr.updo d r) H'
theorem vq_cb (f z n : Nat) (as : List AX) : vcDoQ X (.inv [(f, z)] (.m false n) as) fr H (qk X K r d fr) = CallBQ X f (as.map (·.eval X.G fr)) d fr H (qr X K r) := id rfl
theorem viq_ifc (tb : List (Nat × Nat)) (as : List AV) (t : Nat) (v : AV) : vcIQ X tb as d fr H K (.ifc t v) = vcIQL X as v d fr H K (tb.lookup t) := id rfl
theorem viq_some (as : List AV) (v : AV) (f : Nat) : vcIQL X as v d fr H K (some f) = CallQ X f (v :: as) d fr H K := id rfl
theorem lk_hit (t f : Nat) (l : List (Nat × Nat)) : List.lookup t ((t, f) :: l) = some f := by simp
theorem lk_miss (t u f : Nat) (l : List (Nat × Nat)) (h : (t == u) = false) : List.lookup t ((u, f) :: l) = List.lookup t l := by rw [List.lookup_cons, h]
theorem callV_of_evm {f : Nat} {args : List AV} {v : AV} (h : EvM X f args H fun r' H' => r' = v ∧ H' = H) : CallV X f args H v :=
  ⟨h.1, fun g w vs h1 h2 h3 => (h.2 g w vs h1 h2 h3).mono fun _ _ ⟨u, r', g', H', k1, k2, k3, k4, k5, k6, k7⟩ => by
    subst k6 k7
    exact ⟨u, g', k1, k2, ⟨k3, k4, k5.mono, k5.ext⟩⟩⟩
theorem callq_evm {f : Nat} {args : List AV} {v : AV} (h : EvM X f args H fun r' H' => r' = v ∧ H' = H) (hK : K (fr.updo d v) H) : CallQ X f args d fr H K := ⟨v, callV_of_evm h, hK⟩
end
attribute [go_sem ↓] vd_lds vq_lds vd_rng vd_nxt vd_inv vq_inv vq_cs vq_cb
attribute [go_sem] nx_p nx_s vi_ifc vi_some viq_ifc viq_some lk_hit lk_miss
end Go.Avm

/- Maps from strings, as sets: the rules. -/
namespace Go.Avm
open Go
section
variable {X : Cx} {G : Consts} {fr : Fr} {H : Heap} {K : Fr → Heap → Prop} {r : List AOper} (d : Option Nat)
theorem vd_mkM : vcDo X .mkM d fr H K = vcR d fr H K (aop X.G fr H .mkM) := by
  simp only [vcDo, callee, yieldOf, vcR]
  split <;> simp_all
theorem vd_mget (x' y' : AX) : vcDo X (.mget x' y') d fr H K = vcR d fr H K (aop X.G fr H (.mget x' y')) := by
  simp only [vcDo, callee, yieldOf, vcR]
  split <;> simp_all
theorem vd_mset (x' y' : AX) : vcDo X (.mset x' y') d fr H K = vcR d fr H K (aop X.G fr H (.mset x' y')) := by
  simp only [vcDo, callee, yieldOf, vcR]
  split <;> simp_all
theorem vq_mget (x' y' : AX) : vcDoQ X (.mget x' y') fr H (qk X K r d fr) = vcR d fr H (qr X K r) (aop X.G fr H (.mget x' y')) := vdq r d rfl rfl
def mgB (s : List UInt8) : Option Blk → Option (Bool × AV × Option Heap)
  | some (.mpb ks) => some (true, .bool (ks.contains s), none)
  | _ => none
def mgX (H : Heap) : AV → AV → Option (Bool × AV × Option Heap)
  | .mp i, .str s => mgB s H[i]?
  | _, _ => none
def msC (H : Heap) (i : Nat) (s : List UInt8) (ks : List (List UInt8)) : Bool → Option (Bool × AV × Option Heap)
  | true => none
  | false => some (true, .undef, some (H.set i (.mpb (ks ++ [s]))))
def msB (H : Heap) (i : Nat) (s : List UInt8) : Option Blk → Option (Bool × AV × Option Heap)
  | some (.mpb ks) => msC H i s ks (ks.contains s)
  | _ => none
def msX (H : Heap) : AV → AV → Option (Bool × AV × Option Heap)
  | .mp i, .str s => msB H i s H[i]?
  | _, _ => none
theorem a_mkM : aop G fr H .mkM = some (true, .mp H.length, some (H ++ [.mpb []])) := id rfl
theorem a_mget (x y : AX) : aop G fr H (.mget x y) = mgX H (x.eval G fr) (y.eval G fr) := by
  simp only [aop]
  generalize x.eval G fr = u
  generalize y.eval G fr = v
  cases u <;> cases v <;> rfl
theorem a_mset (x y : AX) : aop G fr H (.mset x y) = msX H (x.eval G fr) (y.eval G fr) := by
  simp only [aop]
  generalize x.eval G fr = u
  generalize y.eval G fr = v
  cases u <;> cases v <;> first | rfl | skip
  rename_i i s
  simp only [msX]
  cases H[i]? with
  | none => rfl
  | some b =>
    cases b <;> first | rfl | skip
    rename_i ks
    simp only [msB]
    cases ks.contains s <;> rfl
theorem mg_s (i : Nat) (s : List UInt8) : mgX H (.mp i) (.str s) = mgB s H[i]? := id rfl
theorem mg_b (s : List UInt8) (ks : List (List UInt8)) : mgB s (some (.mpb ks)) = some (true, .bool (ks.contains s), none) := id rfl
theorem ms_s (i : Nat) (s : List UInt8) : msX H (.mp i) (.str s) = msB H i s H[i]? := id rfl
theorem ms_b (i : Nat) (s : List UInt8) (ks : List (List UInt8)) : msB H i s (some (.mpb ks)) = msC H i s ks (ks.contains s) := id rfl
theorem ms_c (i : Nat) (s : List UInt8) (ks : List (List UInt8)) : msC H i s ks false = some (true, .undef, some (H.set i (.mpb (ks ++ [s])))) := id rfl
/-- A call of a closure in a drawn region. -/
def vcVQ (X : Cx) (as : List AV) (d : Option Nat) (fr : Fr) (H : Heap) (K : Fr → Heap → Prop) : AV → Prop
  | .clo f fs cs => CallQ X f (fs ++ as ++ cs) d fr H K
  | _ => False
theorem vq_cv (x : AX) (as : List AX) : vcDoQ X (.callv x as) fr H (qk X K r d fr) = vcVQ X (as.map (·.eval X.G fr)) d fr H (qr X K r) (x.eval X.G fr) := by
  unfold vcDoQ
  simp only [callee, aop, csOf, cbOf]
  generalize x.eval X.G fr = v
  cases v <;> rfl
theorem vvq_clo (as : List AV) (f : Nat) (fs cs : List AV) : vcVQ X as d fr H K (.clo f fs cs) = CallQ X f (fs ++ as ++ cs) d fr H K := id rfl
end
attribute [go_sem ↓] vd_mkM vd_mget vd_mset vq_mget vq_cv
attribute [go_sem] a_mkM a_mget a_mset mg_s mg_b ms_s ms_b ms_c vvq_clo
end Go.Avm

/- What a function has made is let go: a contract that leaves our memory as it was. -/
namespace Go.Avm
open Go
/-- The first m blocks of a ghost. -/
def cutG (m : Nat) (g : Gh) : Gh := { S := g.S, bx := fun i => if i < m then g.bx i else none, tl := fun i => if i < m then g.tl i else none, tk := fun i => if i < m then g.tk i else none }
section
variable {X : Cx}
theorem cutG_owns {m : Nat} {g : Gh} {b o : Nat} (h : (cutG m g).owns b o) : g.owns b o := by
  rcases h with ⟨i, hi⟩ | ⟨i, lo, hi, h1, h2⟩
  · simp only [cutG] at hi
    split at hi
    · exact .inl ⟨i, hi⟩
    · cases hi
  · simp only [cutG] at h1
    split at h1
    · exact .inr ⟨i, lo, hi, h1, h2⟩
    · cases h1
theorem cutG_bx {m i b : Nat} {g : Gh} (h : (cutG m g).bx i = some b) : g.bx i = some b := by
  simp only [cutG] at h
  split at h
  · exact h
  · cases h
theorem cutG_tk {m i : Nat} {x : Nat × Nat × Nat} {g : Gh} (h : (cutG m g).tk i = some x) : g.tk i = some x := by
  simp only [cutG] at h
  split at h
  · exact h
  · cases h
theorem cutG_wf {m : Nat} {g : Gh} {w : World} (h : Wf X.G g w) : Wf X.G (cutG m g) w where
  S b o hs := ⟨(h.S b o hs).1, fun ho => (h.S b o hs).2 (cutG_owns ho)⟩
  inj i j b h1 h2 := h.inj i j b (cutG_bx h1) (cutG_bx h2)
  tinj i j b lo hi lo' hi' h1 h2 := h.tinj i j b lo hi lo' hi' (cutG_tk h1) (cutG_tk h2)
  apart i j b lo hi h1 h2 := h.apart i j b lo hi (cutG_bx h1) (cutG_tk h2)
  bx i b h1 := h.bx i b (cutG_bx h1)
  tk i b lo hi h1 := h.tk i b lo hi (cutG_tk h1)
  laid x cs hx := by
    have := h.laid x cs hx
    simp only [Rel] at this ⊢
    exact this
  ex := h.ex
/-- Nothing is known from m on. -/
def Far (g : Gh) (m : Nat) : Prop := ∀ i, m ≤ i → g.bx i = none ∧ g.tl i = none ∧ g.tk i = none
theorem Far.lt_bx {g : Gh} {m i b : Nat} (h : Far g m) (hb : g.bx i = some b) : i < m := Decidable.byContradiction fun c => by
  rw [(h i (by omega)).1] at hb; cases hb
theorem Far.lt_tl {g : Gh} {m i b : Nat} (h : Far g m) (hb : g.tl i = some b) : i < m := Decidable.byContradiction fun c => by
  rw [(h i (by omega)).2.1] at hb; cases hb
theorem cut_bx {m i : Nat} {g : Gh} (h : i < m) : (cutG m g).bx i = g.bx i := if_pos h
theorem cut_tl {m i : Nat} {g : Gh} (h : i < m) : (cutG m g).tl i = g.tl i := if_pos h
theorem cut_tk {m i : Nat} {g : Gh} (h : i < m) : (cutG m g).tk i = g.tk i := if_pos h
mutual
/-- A value of before needs no more than the first blocks. -/
theorem rel_cut {g : Gh} {w : World} {m : Nat} (hf : Far g m) : ∀ (x : AV) {v : Value} {g' : Gh} {w' : World} {v' : Value}, Rel x g w v → Rel x g' w' v' → Rel x (cutG m g') w' v'
  | .undef, _, _, _, _, _, _ => by simp only [Rel]
  | .bool _, _, _, _, _, _, h => by simpa only [Rel] using h
  | .int _ _, _, _, _, _, _, h => by simpa only [Rel] using h
  | .str _, _, _, _, _, _, h => by simpa only [Rel] using h
  | .sl p es, _, g', w', _, h0, h => by
    simp only [Rel] at h0 h ⊢
    obtain ⟨_, _, _, _, _, _, _, _, k5⟩ := h0
    obtain ⟨a, cap, vs, sz, h1, h2, h3, h4, h5⟩ := h
    refine ⟨a, cap, vs, sz, h1, h2, h3, h4, ?_⟩
    cases p with
    | ro => trivial
    | ex => exact h5
    | tok i s =>
      obtain ⟨_, n, hn, _⟩ := k5
      have hi := hf.lt_tl hn
      simp only [PermOk, cut_tl hi, cut_tk hi] at h5 ⊢
      exact h5
  | .rsl i off n cap sz, _, g', w', _, h0, h => by
    simp only [Rel] at h0 h ⊢
    obtain ⟨_, _, _, k2, _⟩ := h0
    obtain ⟨a, b, h1, h2, h3, h4⟩ := h
    exact ⟨a, b, h1, (cut_bx (hf.lt_bx k2)).trans h2, h3, h4⟩
  | .nilP, _, _, _, _, _, h => by simpa only [Rel] using h
  | .vp cs, _, g', w', _, h0, h => by
    simp only [Rel] at h ⊢
    exact h
  | .ptr i off, _, g', w', _, h0, h => by
    simp only [Rel] at h0 h ⊢
    obtain ⟨_, _, k2⟩ := h0
    obtain ⟨b, h1, h2⟩ := h
    exact ⟨b, h1, (cut_bx (hf.lt_bx k2)).trans h2⟩
  | .agg cs, _, g', w', _, h0, h => by
    simp only [Rel] at h0 h ⊢
    obtain ⟨us, _, k2⟩ := h0
    obtain ⟨vs, h1, h2⟩ := h
    exact ⟨vs, h1, relL_cut hf cs k2 h2⟩
  | .tuple cs, _, g', w', _, h0, h => by
    simp only [Rel] at h0 h ⊢
    obtain ⟨us, _, k2⟩ := h0
    obtain ⟨vs, h1, h2⟩ := h
    exact ⟨vs, h1, relL_cut hf cs k2 h2⟩
  | .clo f fs cs, _, g', w', _, h0, h => by
    simp only [Rel] at h0 h ⊢
    obtain ⟨_, _, _, k2, k3⟩ := h0
    obtain ⟨us, vs, h1, h2, h3⟩ := h
    exact ⟨us, vs, h1, relL_cut hf fs k2 h2, relL_cut hf cs k3 h3⟩
  | .nilF, _, _, _, _, _, h => by simpa only [Rel] using h
  | .ifc t x, _, g', w', _, h0, h => by
    simp only [Rel] at h0 h ⊢
    obtain ⟨_, _, k2⟩ := h0
    obtain ⟨u, h1, h2⟩ := h
    exact ⟨u, h1, rel_cut hf x k2 h2⟩
  | .nilI, _, _, _, _, _, h => by simpa only [Rel] using h
  | .yv i, _, g', w', _, h0, h => by
    simp only [Rel] at h0 h ⊢
    obtain ⟨_, _, k2⟩ := h0
    obtain ⟨l, h1, h2⟩ := h
    exact ⟨l, h1, (cut_bx (hf.lt_bx k2)).trans h2⟩
  | .mp i, _, g', w', _, h0, h => by
    simp only [Rel] at h0 h ⊢
    obtain ⟨_, _, k2⟩ := h0
    obtain ⟨l, h1, h2⟩ := h
    exact ⟨l, h1, (cut_bx (hf.lt_bx k2)).trans h2⟩
  | .grd c x, _, g', w', _, h0, h => by
    simp only [Rel] at h0 h ⊢
    exact ⟨fun hc => rel_cut hf x (h0.1 hc) (h.1 hc), h.2⟩
theorem relL_cut {g : Gh} {w : World} {m : Nat} (hf : Far g m) : ∀ (xs : List AV) {vs : List Value} {g' : Gh} {w' : World} {vs' : List Value}, RelL xs g w vs → RelL xs g' w' vs' → RelL xs (cutG m g') w' vs'
  | [], _, _, _, _, _, h => by simpa only [RelL] using h
  | x :: xs, _, g', w', _, h0, h => by
    simp only [RelL] at h0 h ⊢
    obtain ⟨_, _, _, k2, k3⟩ := h0
    obtain ⟨v, rest, h1, h2, h3⟩ := h
    exact ⟨v, rest, h1, rel_cut hf x k2 h2, relL_cut hf xs k3 h3⟩
end
theorem blk_cut {g : Gh} {w : World} {m : Nat} (hf : Far g m) {g' : Gh} {w' : World} {i : Nat} (hi : i < m) {x : Blk} (h0 : BlkOk g w i x) (h : BlkOk g' w' i x) : BlkOk (cutG m g') w' i x := by
  cases x with
  | box cs =>
    obtain ⟨_, _, _, _, _, _, k⟩ := h0
    obtain ⟨b, vs, e, fz, h1, h2, h3⟩ := h
    exact ⟨b, vs, e, fz, (cut_bx hi).trans h1, h2, relL_cut hf cs k h3⟩
  | tok n => exact (cut_tl hi).trans h
  | lp L fr =>
    obtain ⟨_, _, _, k⟩ := h0
    obtain ⟨b, h1, h2, h3⟩ := h
    exact ⟨b, (cut_bx hi).trans h1, h2, fun t => rel_cut hf _ (k t) (h3 t)⟩
  | df =>
    obtain ⟨b, h1, h2⟩ := h
    exact ⟨b, (cut_bx hi).trans h1, h2⟩
  | dead => trivial
  | bld T e l =>
    obtain ⟨b, p, v, h1, h2, h3, h4, h5⟩ := h
    exact ⟨b, p, v, (cut_bx hi).trans h1, h2, h3, h4, fun g0 hg => by
      obtain ⟨hh, k⟩ := h5 g0 hg
      exact ⟨hh, (cut_tk hi).trans k⟩⟩
  | sit l p =>
    obtain ⟨b, s, h1, h2, h3⟩ := h
    exact ⟨b, s, (cut_bx hi).trans h1, h2, h3⟩
  | mpb ks =>
    obtain ⟨b, es, c, h1, h2, h3⟩ := h
    exact ⟨b, es, c, (cut_bx hi).trans h1, h2, h3⟩
/-- **What has been made is let go.** -/
theorem evM_cut {f : FuncId} {args : List AV} {H : Heap} {Q : AV → Heap → Prop} {r : AV} (h : EvM X f args H Q) (hq : ∀ r' H', Q r' H' → (∃ K, H' = H ++ K) ∧ dry r' = r) : EvM X f args H fun r' H' => r' = r ∧ H' = H :=
  ⟨h.1, fun g w vs h1 h2 h3 => (h.2 g w vs h1 h2 h3).mono fun e w' ⟨v, r0, g', H', k1, k2, k3, k4, k5, k6⟩ => by
    obtain ⟨⟨K, rfl⟩, rfl⟩ := hq _ _ k6
    have hf : Far g H.length := h2.far
    refine ⟨v, dry r0, cutG H.length g', H, k1, ?_, cutG_wf k3, ⟨fun i x hx => ?_, fun i hi => ?_⟩, ⟨⟨k5.ext.size, k5.ext.S, k5.ext.S', k5.ext.cell, k5.ext.obj, k5.ext.shape, fun b o ho => k5.ext.own b o (cutG_owns ho), k5.ext.io⟩, ⟨k5.mono.stable, fun i b hb => ?_, fun i n hn => ?_⟩⟩, rfl, rfl⟩
    · exact Rel.mono _ (g := g'.flat) (w := w') ⟨fun b o hs => ⟨hs, rfl⟩, (fun _ _ e => nomatch e), (fun _ _ e => nomatch e)⟩ (dry_rel _ k2)
    · have hi : i < H.length := (List.getElem?_eq_some_iff.1 hx).1
      exact blk_cut hf hi (h2.blk i x hx) (k4.blk i x (by rw [List.getElem?_append_left hi]; exact hx))
    · have : ¬ i < H.length := by omega
      simp only [cutG, if_neg this, and_self]
    · rw [cut_bx (hf.lt_bx hb)]; exact k5.mono.bx i b hb
    · have hi := hf.lt_tl hn
      obtain ⟨n', e1, e2⟩ := k5.mono.tl i n hn
      exact ⟨n', (cut_tl hi).trans e1, by rw [cut_tk hi]; exact e2⟩⟩
/-- A block that nobody uses. -/
theorem evM_dead {f : FuncId} {args : List AV} {H : Heap} {Q : AV → Heap → Prop} (h : EvM X f args (H ++ [.dead]) Q) : EvM X f args H Q :=
  ⟨h.1, fun g w vs h1 h2 h3 => h.2 g w vs h1 ⟨fun i x hx => by
    rw [List.getElem?_append] at hx
    split at hx
    · exact h2.blk i x hx
    · rename_i c
      cases e : i - H.length with
      | zero => rw [e] at hx; cases hx; trivial
      | succ m => rw [e] at hx; simp at hx, fun i hi => h2.far i (by rw [List.length_append] at hi; omega)⟩ h3⟩
/-- A contract that leaves our memory as it was. -/
abbrev EvK (X : Cx) (f : FuncId) (args : List AV) (H : Heap) (r : AV) : Prop := EvM X f args H fun r' H' => r' = r ∧ H' = H
theorem evK_dead {f : FuncId} {args : List AV} {H : Heap} {r : AV} (hd : dry r = r) (h : EvK X f args (H ++ [.dead]) r) : EvK X f args H r := evM_cut (evM_dead h) fun r' H' ⟨e1, e2⟩ => ⟨⟨[.dead], e2⟩, by rw [e1, hd]⟩
/-- At its end a function has made so much more, and its result is this. -/
def Kept (H : Heap) (r : AV) (r' : AV) (H' : Heap) : Prop := (∃ K, H' = H ++ K) ∧ dry r' = r
theorem evK_of_wpc (hs : Std X) {f : FuncId} {hint : Nat → Bool} {af : AFun} (hc : compileFun X.P f hint = some af) {args : List AV} {H : Heap} {r : AV}
    (h : wpc X af.n af.code (kq X af.n (RetIs af.res (Kept H r)) []) (FL.get (args.zipIdx.map fun p => (p.2, p.1))) H) : EvK X f args H r :=
  evM_cut (evM_of_wpc hs hc h) fun _ _ h => h
theorem evK_of_wpcD (hs : Std X) {f : FuncId} {hint : Nat → Bool} {af : AFun} (hc : compileFun X.P f hint = some af) {args : List AV} {H : Heap} {r : AV}
    (h : wpc X af.n af.code (kq X af.n (RetIs af.res (Kept H r)) []) (FL.get (args.zipIdx.map fun p => (p.2, p.1))) (H ++ [.dead])) : EvK X f args H r :=
  evM_cut (evM_of_wpcD hs hc h) fun _ _ h => h
theorem evK_of_ev {f : FuncId} {args : List AV} {H : Heap} {r : AV} (h : Ev X f (dryL args) r) : EvK X f args H r := by
  have h0 := callV_of_ev (H := H) h
  exact ⟨h0.1, fun g w vs h1 h2 h3 => (h0.2 g w vs h1 h2 h3).mono fun _ _ ⟨v, g', k1, k2, k3⟩ => ⟨v, r, g', H, k1, k2, k3.wf, k3.hr, k3.xm, rfl, rfl⟩⟩
theorem call_k {f : Nat} {args : List AV} {d : Option Nat} {fr : Fr} {H : Heap} {K : Fr → Heap → Prop} {r : AV} (h : EvK X f args H r) (hK : K (fr.updo d r) H) : CallOk X f args d fr H K :=
  call_evm h fun _ _ ⟨e1, e2⟩ => e1 ▸ e2 ▸ hK
end
end Go.Avm

/- What a function has made is let go, but for some of it. -/
namespace Go.Avm
open Go
mutual
/-- A value that leads to none but the first m blocks. -/
def lowB (m : Nat) : AV → Bool
  | .sl (.tok i _) _ => decide (i < m)
  | .rsl i _ _ _ _ => decide (i < m)
  | .ptr i _ => decide (i < m)
  | .agg cs => lowL m cs
  | .tuple cs => lowL m cs
  | .clo _ fs cs => lowL m fs && lowL m cs
  | .ifc _ v => lowB m v
  | .yv i => decide (i < m)
  | .mp i => decide (i < m)
  | .grd _ v => lowB m v
  | _ => true
def lowL (m : Nat) : List AV → Bool
  | [] => true
  | x :: xs => lowB m x && lowL m xs
end
def lowK (m : Nat) : Blk → Bool
  | .box cs => lowL m cs
  | .lp _ _ => false
  | _ => true
section
variable {X : Cx}
mutual
theorem rel_low {m : Nat} {g : Gh} {w : World} : ∀ (x : AV) {v : Value}, lowB m x = true → Rel x g w v → Rel x (cutG m g) w v
  | .undef, _, _, _ => by simp only [Rel]
  | .bool _, _, _, h => by simpa only [Rel] using h
  | .int _ _, _, _, h => by simpa only [Rel] using h
  | .str _, _, _, h => by simpa only [Rel] using h
  | .sl p es, _, hl, h => by
    simp only [Rel] at h ⊢
    obtain ⟨a, cap, vs, sz, h1, h2, h3, h4, h5⟩ := h
    refine ⟨a, cap, vs, sz, h1, h2, h3, h4, ?_⟩
    cases p with
    | ro => trivial
    | ex => exact h5
    | tok i s =>
      have hi : i < m := by simpa [lowB] using hl
      simp only [PermOk, cut_tl hi, cut_tk hi] at h5 ⊢
      exact h5
  | .rsl i off n cap sz, _, hl, h => by
    have hi : i < m := by simpa [lowB] using hl
    simp only [Rel] at h ⊢
    obtain ⟨a, b, h1, h2, h3, h4⟩ := h
    exact ⟨a, b, h1, (cut_bx hi).trans h2, h3, h4⟩
  | .nilP, _, _, h => by simpa only [Rel] using h
  | .vp cs, _, _, h => by
    simp only [Rel] at h ⊢
    exact h
  | .ptr i off, _, hl, h => by
    have hi : i < m := by simpa [lowB] using hl
    simp only [Rel] at h ⊢
    obtain ⟨b, h1, h2⟩ := h
    exact ⟨b, h1, (cut_bx hi).trans h2⟩
  | .agg cs, _, hl, h => by
    simp only [Rel] at h ⊢
    obtain ⟨vs, h1, h2⟩ := h
    exact ⟨vs, h1, relL_low cs (by simpa [lowB] using hl) h2⟩
  | .tuple cs, _, hl, h => by
    simp only [Rel] at h ⊢
    obtain ⟨vs, h1, h2⟩ := h
    exact ⟨vs, h1, relL_low cs (by simpa [lowB] using hl) h2⟩
  | .clo f fs cs, _, hl, h => by
    simp only [lowB, Bool.and_eq_true] at hl
    simp only [Rel] at h ⊢
    obtain ⟨us, vs, h1, h2, h3⟩ := h
    exact ⟨us, vs, h1, relL_low fs hl.1 h2, relL_low cs hl.2 h3⟩
  | .nilF, _, _, h => by simpa only [Rel] using h
  | .ifc t x, _, hl, h => by
    simp only [Rel] at h ⊢
    obtain ⟨u, h1, h2⟩ := h
    exact ⟨u, h1, rel_low x (by simpa [lowB] using hl) h2⟩
  | .nilI, _, _, h => by simpa only [Rel] using h
  | .yv i, _, hl, h => by
    have hi : i < m := by simpa [lowB] using hl
    simp only [Rel] at h ⊢
    obtain ⟨l, h1, h2⟩ := h
    exact ⟨l, h1, (cut_bx hi).trans h2⟩
  | .mp i, _, hl, h => by
    have hi : i < m := by simpa [lowB] using hl
    simp only [Rel] at h ⊢
    obtain ⟨l, h1, h2⟩ := h
    exact ⟨l, h1, (cut_bx hi).trans h2⟩
  | .grd c x, _, hl, h => by
    simp only [Rel] at h ⊢
    exact ⟨fun hc => rel_low x (by simpa [lowB] using hl) (h.1 hc), h.2⟩
theorem relL_low {m : Nat} {g : Gh} {w : World} : ∀ (xs : List AV) {vs : List Value}, lowL m xs = true → RelL xs g w vs → RelL xs (cutG m g) w vs
  | [], _, _, h => by simpa only [RelL] using h
  | x :: xs, _, hl, h => by
    simp only [lowL, Bool.and_eq_true] at hl
    simp only [RelL] at h ⊢
    obtain ⟨v, rest, h1, h2, h3⟩ := h
    exact ⟨v, rest, h1, rel_low x hl.1 h2, relL_low xs hl.2 h3⟩
end
theorem blk_low {m : Nat} {g : Gh} {w : World} {i : Nat} (hi : i < m) {x : Blk} (hl : lowK m x = true) (h : BlkOk g w i x) : BlkOk (cutG m g) w i x := by
  cases x with
  | box cs =>
    obtain ⟨b, vs, e, fz, h1, h2, h3⟩ := h
    exact ⟨b, vs, e, fz, (cut_bx hi).trans h1, h2, relL_low cs hl h3⟩
  | tok n => exact (cut_tl hi).trans h
  | lp L fr => cases hl
  | df =>
    obtain ⟨b, h1, h2⟩ := h
    exact ⟨b, (cut_bx hi).trans h1, h2⟩
  | dead => trivial
  | bld T e l =>
    obtain ⟨b, p, v, h1, h2, h3, h4, h5⟩ := h
    exact ⟨b, p, v, (cut_bx hi).trans h1, h2, h3, h4, fun g0 hg => by
      obtain ⟨hh, k⟩ := h5 g0 hg
      exact ⟨hh, (cut_tk hi).trans k⟩⟩
  | sit l p =>
    obtain ⟨b, s, h1, h2, h3⟩ := h
    exact ⟨b, s, (cut_bx hi).trans h1, h2, h3⟩
  | mpb ks =>
    obtain ⟨b, es, c, h1, h2, h3⟩ := h
    exact ⟨b, es, c, (cut_bx hi).trans h1, h2, h3⟩
/-- **What has been made is let go, but for B.** -/
theorem evM_trim {f : FuncId} {args : List AV} {H : Heap} {Q Q2 : AV → Heap → Prop} (h : EvM X f args H Q) (hq : ∀ r' H', Q r' H' → ∃ B K, H' = H ++ (B ++ K) ∧ lowB (H.length + B.length) r' = true ∧ B.all (lowK (H.length + B.length)) = true ∧ Q2 r' (H ++ B)) : EvM X f args H Q2 :=
  ⟨h.1, fun g w vs h1 h2 h3 => (h.2 g w vs h1 h2 h3).mono fun e w' ⟨v, r0, g', H', k1, k2, k3, k4, k5, k6⟩ => by
    obtain ⟨B, K, rfl, q1, q2, q3⟩ := hq _ _ k6
    have hle : H.length ≤ H.length + B.length := Nat.le_add_right _ _
    have hf : Far g (H.length + B.length) := fun i hi => h2.far i (by omega)
    refine ⟨v, r0, cutG (H.length + B.length) g', H ++ B, k1, rel_low _ q1 k2, cutG_wf k3, ⟨fun i x hx => ?_, fun i hi => ?_⟩, ⟨⟨k5.ext.size, k5.ext.S, k5.ext.S', k5.ext.cell, k5.ext.obj, k5.ext.shape, fun b o ho => k5.ext.own b o (cutG_owns ho), k5.ext.io⟩, ⟨k5.mono.stable, fun i b hb => ?_, fun i n hn => ?_⟩⟩, q3⟩
    · have hi : i < H.length + B.length := by have := (List.getElem?_eq_some_iff.1 hx).1; rwa [List.length_append] at this
      have hx' : (H ++ (B ++ K))[i]? = some x := by rw [← List.append_assoc, List.getElem?_append_left (by rwa [List.length_append])]; exact hx
      by_cases hi2 : i < H.length
      · rw [List.getElem?_append_left hi2] at hx
        exact blk_cut hf hi (h2.blk i x hx) (k4.blk i x hx')
      · rw [List.getElem?_append_right (by omega)] at hx
        exact blk_low hi (List.all_eq_true.1 q2 x (List.mem_of_getElem? hx)) (k4.blk i x hx')
    · rw [List.length_append] at hi
      have : ¬ i < H.length + B.length := by omega
      simp only [cutG, if_neg this, and_self]
    · rw [cut_bx (hf.lt_bx hb)]; exact k5.mono.bx i b hb
    · have hi := hf.lt_tl hn
      obtain ⟨n', e1, e2⟩ := k5.mono.tl i n hn
      exact ⟨n', (cut_tl hi).trans e1, by rw [cut_tk hi]; exact e2⟩⟩
end
end Go.Avm

/- A box that has come, and will not be written any more. -/
namespace Go.Avm
open Go
section
variable {X : Cx} {N : Nat}
end
end Go.Avm

/- Boxes that have come, and will not be written any more. -/
namespace Go.Avm
open Go
/-- The slots that lead to the boxes from number n on. -/
def frAt (fr : Fr) : Nat → List (Nat × List AV) → Prop
  | _, [] => True
  | n, (s, _) :: L => fr s = .ptr n 0 ∧ frAt fr (n + 1) L
theorem frAt.get {fr : Fr} : ∀ {L : List (Nat × List AV)} {n : Nat}, frAt fr n L → ∀ (i : Nat) (p : Nat × List AV), L[i]? = some p → fr p.1 = .ptr (n + i) 0
  | [], _, _, i, p, h => by simp at h
  | (s, cs) :: L, n, h, i, p, hp => by
    cases i with
    | zero => simp at hp; subst hp; exact h.1
    | succ i =>
      have := frAt.get h.2 i p (by simpa using hp)
      rw [this]
      congr 1
      omega
section
variable {X : Cx} {N : Nat}
end
theorem tp_ex (b : Nat) (es : List AV) : tokPar b (.sl .ex es) = true := id rfl
theorem tp_lex {α : Type} (f : α → AV) (b : Nat) (l : List α) : tokPar b (lst f .ex l) = true := id rfl
attribute [go_sem] tp_ex tp_lex
end Go.Avm
