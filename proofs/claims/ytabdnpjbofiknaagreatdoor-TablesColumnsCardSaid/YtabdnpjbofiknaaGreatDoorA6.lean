/- Code as it has been read (ACode), functions, calls by contract. -/
import Derived.Test.YtabdnpjbofiknaaGreatDoorA5
set_option linter.all false
/-
  Code as it has been read (ACode), functions, calls by contract.
-/
namespace Go.Avm
open Go

/-! ### code -/

/-- The same context, in a function that was entered when there were n blocks. -/
def Cx.at (X : Cx) (n : Nat) : Cx := { X with n0 := n }

theorem vcOp_at (X : Cx) (n : Nat) (o : AOper) (fr : Fr) (H : Heap) (K : Fr → Heap → Prop) : vcOp (X.at n) o fr H K = vcOp X o fr H K := rfl

theorem vcOps_at (X : Cx) (n : Nat) (K : Fr → Heap → Prop) : ∀ (l : List AOper) (fr : Fr) (H : Heap), vcOps (X.at n) K l fr H = vcOps X K l fr H
  | [], _, _ => rfl
  | o :: l, fr, H => by
    have : vcOps (X.at n) K l = vcOps X K l := funext fun fr => funext fun H => vcOps_at X n K l fr H
    simp only [vcOps, vcOp_at, this]

theorem vcOpQ_at (X : Cx) (n : Nat) (o : AOper) (fr : Fr) (H : Heap) (K : Fr → AV → Heap → Prop) : vcOpQ (X.at n) o fr H K = vcOpQ X o fr H K := rfl

theorem vcOpsQ_at (X : Cx) (n : Nat) (K : Fr → Heap → Prop) : ∀ (l : List AOper) (H : Heap) (fr : Fr), vcOpsQ (X.at n) K H l fr = vcOpsQ X K H l fr
  | [], _, _ => rfl
  | o :: l, H, fr => by
    have : (fun H => vcOpsQ (X.at n) K H l) = fun H => vcOpsQ X K H l := funext fun H => funext fun fr => vcOpsQ_at X n K l H fr
    have h2 : ∀ H fr, vcOpsQ (X.at n) K H l fr = vcOpsQ X K H l fr := fun H fr => vcOpsQ_at X n K l H fr
    simp only [vcOpsQ, vcOpQ_at, h2]

/-- What is shown of code that has been read so. -/
def XA (X : Cx) (N : Nat) (ac : ACode) (fr : Fr) (H : Heap) (Q : Exit → Fr → Heap → Prop) : Prop :=
  ∀ c hint, compile X.P N hint c = some ac → ∀ n, Ex (X.at n) N c fr H Q

section
variable {X : Cx} {N : Nat} {Q : Exit → Fr → Heap → Prop} {fr : Fr} {H : Heap}

/-- May be looked at as, in whatever function. -/
def WkA (X : Cx) (N : Nat) (fr : Fr) (H : Heap) (fr' : Fr) (H' : Heap) : Prop := ∀ n, Wk (X.at n) N fr H fr' H'

theorem WkA.refl : WkA X N fr H fr H := fun _ => Wk.refl
theorem WkA.trans {fr' fr'' : Fr} {H' H'' : Heap} (h : WkA X N fr H fr' H') (h' : WkA X N fr' H' fr'' H'') : WkA X N fr H fr'' H'' := fun n => (h n).trans (h' n)

theorem xa_skip (h : Q .normal fr H) : XA X N .skip fr H Q := fun c hint hc => by
  cases c <;> simp only [compile] at hc <;> first | (cases hc; exact fun n => ex_skip h) | (exfalso; (repeat' split at hc) <;> simp at hc)
theorem xa_exit {id : Nat} (h : Q (.exit id) fr H) : XA X N (.exit id) fr H Q := fun c hint hc => by
  cases c <;> simp only [compile] at hc <;> first | (cases hc; exact fun n => ex_exit h) | (exfalso; (repeat' split at hc) <;> simp at hc)
theorem xa_ret (h : Q .ret fr H) : XA X N .ret fr H Q := fun c hint hc => by
  cases c <;> simp only [compile] at hc <;> first | (cases hc; exact fun n => ex_ret h) | (exfalso; (repeat' split at hc) <;> simp at hc)

theorem xa_goto {l : Nat} (h : Q (.goto l) fr H) : XA X N (.goto l) fr H Q := fun c hint hc => by
  cases c <;> simp only [compile] at hc <;> first | (cases hc; exact fun n => ex_goto h) | (exfalso; (repeat' split at hc) <;> simp at hc)
theorem xa_label {l : Nat} (h : Q .normal fr H) : XA X N (.label l) fr H Q := fun c hint hc => by
  cases c <;> simp only [compile] at hc <;> first | (cases hc; exact fun n => ex_label h) | (exfalso; (repeat' split at hc) <;> simp at hc)
theorem xa_mono {ac : ACode} {Q' : Exit → Fr → Heap → Prop} (h : XA X N ac fr H Q) (hq : ∀ e fr H, Q e fr H → Q' e fr H) : XA X N ac fr H Q' :=
  fun c hint hc n => (h c hint hc n).mono hq

theorem xa_wk {ac : ACode} {fr' : Fr} {H' : Heap} (hw : WkA X N fr H fr' H') (h : XA X N ac fr' H' Q) : XA X N ac fr H Q :=
  fun c hint hc n => (h c hint hc n).wk (hw n)

theorem xa_seq {x y : ACode} (h : ∀ K : Fr → Heap → Prop, (∀ fr H, XA X N y fr H Q → K fr H) → XA X N x fr H (AThen K Q)) : XA X N (.seq x y) fr H Q := fun c hint hc n => by
  cases c <;> simp only [compile] at hc <;> try (exfalso; (repeat' split at hc) <;> simp at hc; done)
  rename_i a b
  split at hc
  · rename_i x' y' hx hy
    cases hc
    exact ex_seq_k fun K hK => h K (fun fr H hxa => hK fr H (hxa b hint hy n)) a hint hx n
  · cases hc

theorem xa_block {id : Nat} {x : ACode} (h : XA X N x fr H (ABlk id Q)) : XA X N (.block id x) fr H Q := fun c hint hc n => by
  cases c <;> simp only [compile] at hc <;> try (exfalso; (repeat' split at hc) <;> simp at hc; done)
  simp only [Option.map_eq_some_iff] at hc
  obtain ⟨x', hx, he⟩ := hc
  cases he
  exact ex_block (h _ hint hx n)

theorem xa_scope {x : ACode} (h : XA X N x fr H (ASc Q)) : XA X N (.scope x) fr H Q := fun c hint hc n => by
  cases c <;> simp only [compile] at hc <;> try (exfalso; (repeat' split at hc) <;> simp at hc; done)
  split at hc
  · rename_i x' hx
    split at hc
    · cases hc
    · cases hc
      exact ex_scope (h _ hint hx n)
  · cases hc
theorem xa_cond {cx' : AX} {x y : ACode} {b : Bool} (hb : cx'.eval X.G fr = .bool b) (ht : b = true → XA X N x fr H Q) (hf : b = false → XA X N y fr H Q) : XA X N (.cond cx' x y) fr H Q := fun c hint hc n => by
  cases c <;> simp only [compile] at hc <;> try (exfalso; (repeat' split at hc) <;> simp at hc; done)
  split at hc
  · rename_i c' x' y' h1 h2 h3
    cases hc
    refine ex_cond (b := b) (fun g w a hs => ?_) (fun h => ht h _ hint h2 n) (fun h => hf h _ hint h3 n)
    have := cx_rel hs h1
    rw [show (X.at n).G = X.G from rfl, hb, rel_bool] at this
    exact this
  · cases hc

theorem xa_loop {x : ACode} {ι : Type} (inv : ι → Fr → Heap → Prop) (μ : ι → Nat) (i : ι) (h₀ : ∃ fr' H', WkA X N fr H fr' H' ∧ inv i fr' H')
    (round : ∀ i fr H, inv i fr H → XA X N x fr H (AThen (fun fr H => ∃ j, μ j < μ i ∧ ∃ fr' H', WkA X N fr H fr' H' ∧ inv j fr' H') Q)) : XA X N (.loop x) fr H Q := fun c hint hc n => by
  cases c <;> simp only [compile] at hc <;> try (exfalso; (repeat' split at hc) <;> simp at hc; done)
  simp only [Option.map_eq_some_iff] at hc
  obtain ⟨x', hx, he⟩ := hc
  cases he
  obtain ⟨fr0, H0, hw0, hi0⟩ := h₀
  refine ex_loop inv μ i ⟨fr0, H0, hw0 n, hi0⟩ fun i fr H hi => (round i fr H hi _ hint hx n).mono fun e fr' H' hq => ?_
  cases e with
  | normal =>
    obtain ⟨j, hj, fr2, H2, hw2, hi2⟩ := hq
    exact ⟨j, hj, fr2, H2, hw2 n, hi2⟩
  | _ => exact hq

theorem xa_region {ops : List AOper} (h : vcOps X (Q .normal) ops fr H) : XA X N (.region false ops) fr H Q := fun c hint hc n => by
  cases c <;> simp only [compile] at hc <;> try (exfalso; (repeat' split at hc) <;> simp at hc; done)
  rename_i id ops' draw
  split at hc
  · rename_i al hal
    split at hc
    · rename_i hn
      simp only [Option.some.injEq, ACode.region.injEq] at hc
      obtain ⟨rfl, _⟩ := hc
      simp at hn
    split at hc
    · rename_i hn
      simp only [Option.some.injEq, ACode.region.injEq] at hc
      obtain ⟨rfl, _⟩ := hc
      simp at hn
    split at hc
    · simp only [Option.some.injEq, ACode.region.injEq] at hc
      obtain ⟨rfl, rfl⟩ := hc
      exact ex_region hal (by rw [vcOps_at]; exact h)
    · rename_i hn
      split at hc
      · simp only [Option.some.injEq, ACode.region.injEq] at hc
        obtain ⟨rfl, _⟩ := hc
        simp at hn
      · split at hc
        · simp only [Option.some.injEq, ACode.region.injEq] at hc
          obtain ⟨rfl, _⟩ := hc
          simp at hn
        split at hc
        · split at hc
          · simp only [Option.some.injEq, ACode.region.injEq] at hc
            obtain ⟨rfl, _⟩ := hc
            simp at hn
          · cases hc
        · split at hc
          · simp only [Option.some.injEq, ACode.region.injEq] at hc
            obtain ⟨rfl, _⟩ := hc
            simp at hn
          · cases hc
  · cases hc

theorem xa_region_draw {ops : List AOper} (hm : X.P.follows .mixedOrders = true) (h : vcOpsQ X (Q .normal) H ops fr) : XA X N (.region true ops) fr H Q := fun c hint hc n => by
  cases c <;> simp only [compile] at hc <;> try (exfalso; (repeat' split at hc) <;> simp at hc; done)
  rename_i id ops' draw
  split at hc
  · rename_i al hal
    split at hc
    · rename_i hl
      simp only [Option.some.injEq, ACode.region.injEq] at hc
      obtain ⟨rfl, rfl⟩ := hc
      simp only [Bool.and_eq_true] at hl
      exact ex_region_str (X := X.at n) hm hal hl.2 (by rw [vcOpsQ_at]; exact h)
    split at hc
    · rename_i hl
      simp only [Option.some.injEq, ACode.region.injEq] at hc
      obtain ⟨rfl, rfl⟩ := hc
      simp only [Bool.and_eq_true] at hl
      exact ex_region_wr (X := X.at n) hm hal hl.2 (by rw [vcOpsQ_at]; exact h)
    split at hc
    · rename_i hl
      simp only [Option.some.injEq, ACode.region.injEq] at hc
      obtain ⟨rfl, rfl⟩ := hc
      exact ex_region_draw (X := X.at n) hm hal (by simpa using hl) (by rw [vcOpsQ_at]; exact h)
    · split at hc
      · rename_i hl
        simp only [Option.some.injEq, ACode.region.injEq] at hc
        obtain ⟨rfl, rfl⟩ := hc
        exact ex_region_mark (X := X.at n) hm hal hl (by rw [vcOpsQ_at]; exact h)
      · split at hc
        · rename_i hl
          simp only [Option.some.injEq, ACode.region.injEq] at hc
          obtain ⟨rfl, rfl⟩ := hc
          exact ex_region_stab (X := X.at n) hm hal hl (by rw [vcOpsQ_at]; exact h)
        split at hc
        · rename_i al' hbx
          split at hc
          · rename_i hl
            simp only [Option.some.injEq, ACode.region.injEq] at hc
            obtain ⟨rfl, rfl⟩ := hc
            exact ex_region_box (X := X.at n) hm hal hbx hl (by rw [vcOpsQ_at]; exact h)
          · cases hc
        · split at hc
          · rename_i hl
            simp only [Option.some.injEq, ACode.region.injEq] at hc
            obtain ⟨rfl, rfl⟩ := hc
            rw [Bool.and_eq_true] at hl
            exact ex_region_boxes (X := X.at n) hm hal hl.1 hl.2 (by rw [vcOpsQ_at]; exact h)
          · cases hc
  · cases hc

end

/-! ### functions -/

inductive ARes where
  | tmp (t : Nat)
  | cell (n : Option Nat) (a : Nat)
  deriving Repr, Inhabited

def compileRes (P : Program) : List ResultVar → Option (List ARes)
  | [] => some []
  | .tmp t :: r => match compileRes P r with
    | some as => some (.tmp t :: as)
    | none => none
  | .cell a ty :: r => match ldN P ty, compileRes P r with
    | some n, some as => some (.cell n a :: as)
    | _, _ => none

def ARes.val (fr : Fr) (H : Heap) : ARes → Option AV
  | .tmp t => some (fr t)
  | .cell n a => match fr a with
    | .ptr id off => match H[id]? with
      | some (.box cs) => match n with
        | none => if off < cs.length then some (cs.getD off .undef) else none
        | some k => if off + k ≤ cs.length then some (.agg ((cs.drop off).take k)) else none
      | _ => none
    | _ => none

def resVals (fr : Fr) (H : Heap) : List ARes → Option (List AV)
  | [] => some []
  | r :: rs => match r.val fr H, resVals fr H rs with
    | some v, some vs => some (v :: vs)
    | _, _ => none

def resOf : List AV → AV
  | [v] => v
  | vs => .tuple vs

structure AFun where
  n : Nat
  code : ACode
  res : List ARes
  deriving Repr, Inhabited

def compileFun (P : Program) (f : FuncId) (hint : Nat → Bool) : Option AFun :=
  match P.funcs[f]? with
  | some fn => match fn.body with
    | some c => match compile P fn.ntmps hint c, compileRes P fn.results.toList with
      | some ac, some rs => if fn.name != "runtime.NumGoroutine" then some ⟨fn.ntmps, ac, rs⟩ else none
      | _, _ => none
    | none => none
  | none => none

section
variable {X : Cx}

theorem resVals_run {N : Nat} {g : Gh} {w : World} {fr : Fr} {H : Heap} {a : Act} (hs : StR X N g w fr H a) : ∀ {rv : List ResultVar} {rs : List ARes} {vs : List AV}, compileRes X.P rv = some rs → resVals fr H rs = some vs →
    ∃ us : List Value, (rv.mapM fun (r : ResultVar) => (match r with | .tmp t => pure (a.tmps.getD t Go.undef) | .cell x t => do loadVar t (← asAddr (a.tmps.getD x Go.undef)) : Sem Value)).run X.P w = .ok us w ∧ RelL vs g w us
  | [], rs, vs, h1, h2 => by
    simp [compileRes] at h1; subst h1
    simp [resVals] at h2; subst h2
    exact ⟨[], rfl, by simp [RelL]⟩
  | .tmp t :: rv, rs, vs, h1, h2 => by
    simp only [compileRes] at h1
    split at h1
    · rename_i as h3
      cases h1
      simp only [resVals, ARes.val] at h2
      split at h2
      · rename_i v vs' h4 h5
        cases h2; cases h4
        obtain ⟨us, h6, h7⟩ := resVals_run hs h3 h5
        refine ⟨a.tmps.getD t Go.undef :: us, ?_, ?_⟩
        · simp only [List.mapM_cons, Sem.run_bind, Sem.run_pure, Result.andThen_ok, h6]
        · simp only [RelL]; exact ⟨_, _, rfl, hs.fr t, h7⟩
      · cases h2
    · cases h1
  | .cell x ty :: rv, rs, vs, h1, h2 => by
    simp only [compileRes] at h1
    split at h1
    · rename_i n as hn h3
      cases h1
      simp only [resVals] at h2
      split at h2
      · rename_i v vs' h4 h5
        cases h2
        obtain ⟨us, h6, h7⟩ := resVals_run hs h3 h5
        have hv : ∃ u, (do loadVar ty (← asAddr (a.tmps.getD x Go.undef)) : Sem Value).run X.P w = .ok u w ∧ Rel v g w u := by
          unfold ARes.val at h4
          simp only at h4
          split at h4
          · rename_i id off hx
            have hr := hs.fr x
            rw [hx] at hr
            simp only [Rel] at hr
            obtain ⟨b, hp, hb⟩ := hr
            split at h4
            · rename_i cs hH
              obtain ⟨arr, e, fz, hheap, hvs⟩ := hs.hr.box hH hb
              cases n with
              | none =>
                simp only at h4
                split at h4
                · rename_i hlt
                  cases h4
                  obtain ⟨d, hd, hda⟩ := ldN_one hn
                  obtain ⟨u, hu, hru⟩ := hvs.get' off (x := cs.getD off .undef) (by simp [hlt])
                  refine ⟨u, ?_, hru⟩
                  rw [hp]
                  simp only [asAddr, Sem.run_bind, Sem.run_pure, Result.andThen_ok]
                  exact run_loadVar_one hd hda (cell_of_heap hheap (by simpa using hu))
                · cases h4
              | some k =>
                simp only at h4
                split at h4
                · rename_i hlt
                  cases h4
                  obtain ⟨d, i, hd, hda, hi, hk⟩ := ldN_agg hn
                  refine ⟨.agg ((arr.toList.drop off).take k).toArray, ?_, by simp only [Rel]; exact ⟨_, rfl, (hvs.drop off).take k⟩⟩
                  rw [hp]
                  simp only [asAddr, Sem.run_bind, Sem.run_pure, Result.andThen_ok]
                  refine run_loadVar_agg hd hda hi (by have := hvs.length; simp at this; simp [hk]; omega) fun j v hj => ?_
                  rw [List.getElem?_take] at hj
                  split at hj
                  · rw [List.getElem?_drop] at hj; exact cell_of_heap hheap (by simpa using hj)
                  · cases hj
                · cases h4
            · cases h4
          · cases h4
        obtain ⟨u, h8, h9⟩ := hv
        refine ⟨u :: us, ?_, ?_⟩
        · simp only [List.mapM_cons, Sem.run_bind (x := (do loadVar ty (← asAddr (a.tmps.getD x Go.undef)) : Sem Value)), h8, Result.andThen_ok, Sem.run_bind, h6, Sem.run_pure]
        · simp only [RelL]; exact ⟨_, _, rfl, h9, h7⟩
      · cases h2
    · cases h1

theorem results_run {N : Nat} {g : Gh} {w : World} {fr : Fr} {H : Heap} {a : Act} (hs : StR X N g w fr H a) {fn : Func} {rs : List ARes} {vs : List AV} (h1 : compileRes X.P fn.results.toList = some rs) (h2 : resVals fr H rs = some vs) :
    ∃ u, (results fn a.tmps).run X.P w = .ok u w ∧ Rel (resOf vs) g w u := by
  obtain ⟨us, h3, h4⟩ := resVals_run hs h1 h2
  have h5 : (fn.results.mapM fun (r : ResultVar) => (match r with | .tmp t => pure (a.tmps.getD t Go.undef) | .cell x t => do loadVar t (← asAddr (a.tmps.getD x Go.undef)) : Sem Value)).run X.P w = .ok us.toArray w := by
    rw [Array.mapM_eq_mapM_toList]
    simp only [Sem.run_map, h3, Result.andThen_ok]
  have hlen := h4.length
  unfold results
  simp only [Sem.run_bind]
  erw [h5]
  simp only [Result.andThen_ok, Sem.run_pure]
  by_cases h : us.length = 1
  · obtain ⟨u, rfl⟩ := List.length_eq_one_iff.1 h
    obtain ⟨v, rfl⟩ := List.length_eq_one_iff.1 (hlen ▸ h)
    simp only [RelL] at h4
    obtain ⟨u', r', h6, h7, h8⟩ := h4
    cases h6
    exact ⟨u, rfl, h7⟩
  · refine ⟨.tuple us.toArray, ?_, ?_⟩
    · rw [dif_neg (by simpa using h)]
    · have : resOf vs = .tuple vs := by
        match vs, hlen with
        | [], _ => rfl
        | [v], hl => exact absurd hl h
        | _ :: _ :: _, _ => rfl
      rw [this]
      simp only [Rel]
      exact ⟨us, rfl, h4⟩

/-- The block for a loop's deferred calls is shut. -/
theorem shut_one {g : Gh} {w : World} {H : Heap} {D : Nat} (hwf : Wf X.G g w) (hhr : HR g w H) (hD : w.heap[D]? = some (.deferred (some []))) (hno : ∀ o, ¬ g.owns D o) :
    Mono g w g (w.putObj D (.deferred none)) ∧ Wf X.G g (w.putObj D (.deferred none)) ∧ HR g (w.putObj D (.deferred none)) H := by
  have hne : ∀ b, b ≠ D → (w.putObj D (.deferred none)).heap[b]? = w.heap[b]? := fun b h => World.putObj_heap_other h
  have hS : ∀ b o, g.S b o → b ≠ D := fun b o h e => by
    subst e
    obtain ⟨⟨vs, e', fz, h1, _⟩, _⟩ := hwf.S b o h
    rw [hD] at h1; cases h1
  have hcell : ∀ b o, b ≠ D → (w.putObj D (.deferred none)).cell? ⟨b, o, none⟩ = w.cell? ⟨b, o, none⟩ := fun b o h => by simp only [World.cell?, hne b h]
  have hm : Mono g w g (w.putObj D (.deferred none)) := ⟨fun b o h => ⟨h, hcell b o (hS b o h)⟩, fun _ _ h => h, fun i n h => ⟨n, h, .inl ⟨rfl, rfl⟩⟩⟩
  have hbx : ∀ i b, g.bx i = some b → b ≠ D := fun i b h e => hno 0 (.inl ⟨i, e ▸ h⟩)
  refine ⟨hm, ⟨fun b o h => ?_, hwf.inj, hwf.tinj, hwf.apart, fun i b h => ?_, fun i b lo hi h => ?_, fun x cs hx => Rel.mono _ hm (hwf.laid x cs hx), ex_shape hwf.ex fun b vs e fz h => ⟨vs, fz, (hne b (fun e' => by subst e'; rw [hD] at h; cases h)).trans h, rfl⟩⟩,
    ⟨fun i x hx => (hhr.blk i x hx).mono hm (fun b hb => hne b (hbx i b hb)) (fun _ h => h) (fun b lo hi h => ⟨h, hne b fun e => hno lo (.inr ⟨i, lo, hi, e ▸ h, Nat.le_refl _⟩)⟩), hhr.far⟩⟩
  · obtain ⟨⟨vs, e, fz, h1, h2⟩, h3⟩ := hwf.S b o h
    exact ⟨⟨vs, e, fz, (hne b (hS b o h)).trans h1, h2⟩, h3⟩
  · obtain ⟨h1, h2⟩ := hwf.bx i b h
    exact ⟨by rw [World.putObj_size]; exact h1, fun vs e lo hi h3 => h2 vs e lo hi ((hne b (hbx i b h)).symm.trans h3)⟩
  · have hb : b ≠ D := fun e => hno lo (.inr ⟨i, lo, hi, e ▸ h, Nat.le_refl _⟩)
    obtain ⟨vs, e, fl, fh, h1, h2, h3⟩ := hwf.tk i b lo hi h
    exact ⟨vs, e, fl, fh, (hne b hb).trans h1, h2, h3⟩

theorem ext_shut {g g' : Gh} {w w' : World} {D : Nat} (h : Ext g w g' w') (hD : w.heap.size ≤ D) (o : Obj) : Ext g w g' (w'.putObj D o) := by
  have hne : ∀ b, b < w.heap.size → (w'.putObj D o).heap[b]? = w'.heap[b]? := fun b h => World.putObj_heap_other (by omega)
  refine ⟨by rw [World.putObj_size]; exact h.size, h.S, h.S', fun b o' hb ho => ?_, fun b hb ho => (hne b hb).trans (h.obj b hb ho), fun b vs e fz hv => ?_, h.own, h.io⟩
  · rw [← h.cell b o' hb ho]; simp only [World.cell?, hne b hb]
  · rw [hne b (Array.getElem?_eq_some_iff.1 hv).1]
    exact h.shape b vs e fz hv

/-- The function leaves: its marks are come to, one after the other; then its results are handed over. -/
theorem leaves_marks {n N : Nat} {fn : Func} {rs : List ARes} {vs : List AV} {g0 g : Gh} {w0 : World} {H : Heap} {fr : Fr} {Q : AV → Heap → Prop} {rd : Option Nat} {a : Act} {w : World} (hs : StR (X.at w0.heap.size) N g w fr H a)
    (h1 : compileRes X.P fn.results.toList = some rs) (h2 : resVals fr H rs = some vs) (he : ExtM g0 w0 g w) (hq : Q (resOf vs) H) :
    LeavesInM (Fd rd) n X.P fn a.tmps (fun e w' => ∃ v r g' H', e = .returned v ∧ Rel r g' w' v ∧ Wf X.G g' w' ∧ HR g' w' H' ∧ ExtM g0 w0 g' w' ∧ Q r H') a.defers .returning w := by
  obtain ⟨Ds, hd, hnd, hD⟩ := hs.defers
  rw [hd]
  clear hd
  have key : ∀ (Ds : List Nat) (w : World), Ds.Nodup → (∀ D ∈ Ds, w0.heap.size ≤ D ∧ w.heap[D]? = some (.deferred (some [])) ∧ ∀ o, ¬ g.owns D o) → Wf X.G g w → HR g w H → (∀ t, Rel (fr t) g w (a.tmps.getD t Go.undef)) → ExtM g0 w0 g w →
      LeavesInM (Fd rd) n X.P fn a.tmps (fun e w' => ∃ v r g' H', e = .returned v ∧ Rel r g' w' v ∧ Wf X.G g' w' ∧ HR g' w' H' ∧ ExtM g0 w0 g' w' ∧ Q r H') (Ds.map mkD) .returning w := by
    intro Ds
    induction Ds with
    | nil =>
      intro w _ _ hwf hhr hfr he
      have hs' : StR X N g w fr H { tmps := a.tmps, defers := [] } → ∃ u, (results fn a.tmps).run X.P w = .ok u w ∧ Rel (resOf vs) g w u := fun hs' => results_run hs' h1 h2
      obtain ⟨u, hu, hru⟩ := results_run (X := { X with n0 := 0 }) (a := { tmps := a.tmps, defers := [] }) ⟨hwf, hhr, hfr, hs.size, DOk.nil, Nat.zero_le _⟩ h1 h2
      exact ⟨u, hu, u, _, g, H, rfl, hru, hwf, hhr, he, hq⟩
    | cons D Ds ih =>
      intro w hnd hD hwf hhr hfr he
      obtain ⟨hD1, hD2, hD3⟩ := hD D (by simp)
      obtain ⟨hm, hwf', hhr'⟩ := shut_one hwf hhr hD2 hD3
      refine ⟨by simp, .inl ⟨D, _, rfl, run_takeDeferred hD2, ih _ (List.nodup_cons.1 hnd).2 (fun D' hD' => ?_) hwf' hhr' (fun t => Rel.mono _ hm (hfr t)) ⟨ext_shut he.ext hD1 _, he.mono.trans hm⟩⟩⟩
      obtain ⟨e1, e2, e3⟩ := hD D' (by simp [hD'])
      refine ⟨e1, ?_, e3⟩
      rw [World.putObj_heap_other (fun (e : D' = D) => (List.nodup_cons.1 hnd).1 (by rw [← e]; exact hD'))]
      exact e2
  exact key Ds w hnd hD hs.wf hs.hr hs.fr he

/-- A contract that keeps what we hold. -/
def EvM (X : Cx) (f : FuncId) (args : List AV) (Hin : Heap) (Q : AV → Heap → Prop) : Prop :=
  HasBody X f ∧ ∀ g w vs, Wf X.G g w → HR g w Hin → RelL args g w vs → Calls X.P f vs.toArray w fun e w' =>
    ∃ v r g' H', e = .returned v ∧ Rel r g' w' v ∧ Wf X.G g' w' ∧ HR g' w' H' ∧ ExtM g w g' w' ∧ Q r H'

theorem EvM.evF {f : FuncId} {args : List AV} {Hin : Heap} {Q : AV → Heap → Prop} (h : EvM X f args Hin Q) : EvF X f args Hin Q :=
  ⟨h.1, fun g w vs h1 h2 h3 => (h.2 g w vs h1 h2 h3).mono fun _ _ ⟨v, r, g', H', k1, k2, k3, k4, k5, k6⟩ => ⟨v, r, g', H', k1, k2, k3, k4, k5.ext, k6⟩⟩

/-- A contract, from what is shown of the function's body. -/
theorem evM_of (hrd : X.rd = none) {f : FuncId} {hint : Nat → Bool} {af : AFun} (hc : compileFun X.P f hint = some af) {args : List AV} {Hin : Heap} {Q : AV → Heap → Prop}
    (h : XA X af.n af.code (frOf args) Hin fun e fr H => (e = .normal ∨ e = .ret) ∧ ∃ vs fr' H', WkA X af.n fr H fr' H' ∧ resVals fr' H' af.res = some vs ∧ Q (resOf vs) H') : EvM X f args Hin Q := by
  unfold compileFun at hc
  split at hc
  · rename_i fn hfn
    split at hc
    · rename_i c hb
      split at hc
      · rename_i ac rs h1 h2
        split at hc
        · rename_i hname
          cases hc
          refine ⟨⟨fn, hfn, by simpa using hname, by rw [hb]; rfl⟩, fun g w vs hwf hhr hvs => ?_⟩
          refine calls_fd (rd := X.rd) (n := 0) (callsIn_of_wp_marks hfn hb trivial ?_ hrd)
          have hs : StR (X.at w.heap.size) fn.ntmps g w (frOf args) Hin { tmps := vs.toArray ++ Array.replicate (fn.ntmps - vs.toArray.size) Go.undef, defers := [] } := by
            refine ⟨hwf, hhr, fun t => ?_, by simp; omega, DOk.nil, Nat.le_refl _⟩
            simp only [frOf]
            cases hx : args[t]? with
            | none => simp [List.getD, hx, Rel]
            | some x =>
              obtain ⟨v, hv, hr⟩ := hvs.get' t hx
              have hlt : t < vs.length := by
                rcases Nat.lt_or_ge t vs.length with h' | h'
                · exact h'
                · simp [List.getElem?_eq_none h'] at hv
              have : (vs.toArray ++ Array.replicate (fn.ntmps - vs.toArray.size) Go.undef).getD t Go.undef = v := by
                simp only [Array.getD_eq_getD_getElem?]
                rw [Array.getElem?_append_left (by simpa using hlt)]
                simp [hv]
              rw [this]
              simpa [List.getD, hx] using hr
          refine Code.wpIn_mono (fun e a' w' ⟨g', fr', H', k1, k2, k3, vs', fr'', H'', k4, k5, k6⟩ => ?_) (h c hint h1 w.heap.size g w _ hs)
          obtain ⟨g'', k7, k8⟩ := k4 w.heap.size g' w' a' k1
          have hpost : LeavesInM (Fd X.rd) 0 X.P fn a'.tmps (fun e w' => ∃ v r g' H', e = .returned v ∧ Rel r g' w' v ∧ Wf X.G g' w' ∧ HR g' w' H' ∧ ExtM g w g' w' ∧ Q r H') a'.defers .returning w' :=
            leaves_marks k7 h2 k5 (k2.trans k8) k6
          rcases k3 with rfl | rfl
          · exact hpost
          · exact hpost
        · cases hc
      · cases hc
    · cases hc
  · cases hc

end
end Go.Avm

/-
  Calls by contract; frames as lists.
-/
namespace Go.Avm
open Go

section
variable {X : Cx}

theorem EvF.body {f : FuncId} {args : List AV} {Hin : Heap} {Q : AV → Heap → Prop} (h : EvF X f args Hin Q) : HasBody X f := h.1

/-- A ghost that owns nothing. -/
theorem hr_nil {g : Gh} {w : World} (h1 : ∀ i, g.bx i = none) (h2 : ∀ i, g.tl i = none) (h3 : ∀ i, g.tk i = none) : HR g w [] :=
  ⟨fun i x hx => by simp at hx, fun i _ => ⟨h1 i, h2 i, h3 i⟩⟩

theorem wf_flat {g : Gh} {w : World} (h : Wf X.G g w) : Wf X.G g.flat w where
  S b o hs := ⟨(h.S b o hs).1, fun ho => by rcases ho with ⟨i, hi⟩ | ⟨i, lo, hi, hi', _⟩ <;> simp [Gh.flat] at *⟩
  inj i j b hi := nomatch hi
  tinj i j b lo hi lo' hi' h := nomatch h
  apart i j b lo hi h := nomatch h
  bx i b h := nomatch h
  tk i b lo hi h := nomatch h
  laid x cs hx := by
    have := h.laid x cs hx
    simp only [Rel] at this ⊢
    exact this
  ex := h.ex

theorem flat_owns {g : Gh} {b o : Nat} : ¬ g.flat.owns b o := fun ho => by
  rcases ho with ⟨i, hi⟩ | ⟨i, lo, hi, hi', _⟩ <;> simp [Gh.flat] at *

/-- What is left of the caller's state behind a call that owned nothing of it. -/
theorem good_back {g g1 g' : Gh} {w w' : World} {H : Heap} (hwf : Wf X.G g w) (hhr : HR g w H) (hb1 : ∀ i, g1.bx i = none) (hb2 : ∀ i, g1.tk i = none) (hwf' : Wf X.G g' w') (he : Ext g1 w g' w')
    (S' : Nat → Nat → Prop) (hS' : ∀ b o, S' b o → (g.S b o ∨ (w.heap.size ≤ b ∧ g'.S b o))) (hSS : ∀ b o, g.S b o → S' b o) :
    Good X g w H { g with S := S' } w' H := by
  have hno : ∀ b o, ¬ g1.owns b o := fun b o ho => by
    rcases ho with ⟨i, hi⟩ | ⟨i, lo, hi, hi', _⟩
    · rw [hb1] at hi; cases hi
    · rw [hb2] at hi'; cases hi'
  have hobj : ∀ b, b < w.heap.size → w'.heap[b]? = w.heap[b]? := fun b hb => he.obj b hb fun o => hno b o
  have hcell : ∀ b o, b < w.heap.size → w'.cell? ⟨b, o, none⟩ = w.cell? ⟨b, o, none⟩ := fun b o hb => by simp only [World.cell?, hobj b hb]
  have hm : Mono g w { g with S := S' } w' := ⟨fun b o h => ⟨hSS b o h, hcell b o (hwf.lt_S h)⟩, fun _ _ h => h, fun i n h => ⟨n, h, .inl ⟨rfl, rfl⟩⟩⟩
  refine ⟨⟨fun b o h => ?_, hwf.inj, hwf.tinj, hwf.apart, fun i b h => ?_, fun i b lo hi h => ?_, fun x cs hx => Rel.mono _ hm (hwf.laid x cs hx), ex_shape hwf.ex fun b vs e fz h => ⟨vs, fz, (hobj b (Array.getElem?_eq_some_iff.1 h).1).trans h, rfl⟩⟩,
    ⟨fun i x hx => ?_, hhr.far⟩, hm, ⟨he.size, hSS, fun b o h => ?_, fun b o hb _ => hcell b o hb, fun b hb _ => hobj b hb, fun b vs e fz h => ?_, fun b o h => .inr h, he.io⟩⟩
  · rcases hS' b o h with h1 | ⟨h1, h2⟩
    · obtain ⟨⟨vs, e, fz, h3, h4⟩, h5⟩ := hwf.S b o h1
      exact ⟨⟨vs, e, fz, (hobj b (hwf.lt_S h1)).trans h3, h4⟩, h5⟩
    · exact ⟨(hwf'.S b o h2).1, fun ho => by have : b < w.heap.size := hwf.lt_owns (o := o) ho; omega⟩
  · obtain ⟨h3, h4⟩ := hwf.bx i b h
    exact ⟨Nat.lt_of_lt_of_le h3 he.size, fun vs e lo hi h5 => h4 vs e lo hi ((hobj b h3).symm.trans h5)⟩
  · obtain ⟨vs, e, fl, fh, h3, h4, h5⟩ := hwf.tk i b lo hi h
    exact ⟨vs, e, fl, fh, (hobj b (hwf.lt_tk h)).trans h3, h4, h5⟩
  · exact (hhr.blk i x hx).mono hm (fun b hb => hobj b (hwf.lt_bx hb)) (fun _ h => h) (fun b lo hi h => ⟨h, hobj b (hwf.lt_tk h)⟩)
  · rcases hS' b o h with h1 | ⟨h1, _⟩
    · exact .inl h1
    · exact .inr (.inl h1)
  · exact ⟨vs, fz, (hobj b (Array.getElem?_eq_some_iff.1 h).1).trans h, rfl, .inl rfl⟩

/-- **A call at values alone.** -/
theorem callV_of_ev {f : FuncId} {args : List AV} {H : Heap} {r : AV} (h : Ev X f (dryL args) r) : CallV X f args H r :=
  ⟨h.1, fun g w vs hwf hhr hvs => (h.2 g.flat w vs (wf_flat hwf) (hr_nil (fun _ => rfl) (fun _ => rfl) (fun _ => rfl)) (dryL_rel args hvs)).mono fun e w' ⟨v, r', g', H', h1, h2, h3, h4, h5, h6, h7⟩ => by
    subst h6; subst h7
    have hfar := h4.far
    refine ⟨v, { g with S := g'.S }, h1, ?_, good_back hwf hhr (g1 := g.flat) (fun _ => rfl) (fun _ => rfl) h3 h5 g'.S (fun b o hs => ?_) (fun b o hs => h5.S b o hs)⟩
    · refine Rel.mono _ (g := g') ⟨fun b o hs => ⟨hs, rfl⟩, fun i b hb => ?_, fun i n hn => ?_⟩ h2
      · rw [(hfar i (Nat.zero_le _)).1] at hb; cases hb
      · rw [(hfar i (Nat.zero_le _)).2.1] at hn; cases hn
    · rcases h5.S' b o hs with h8 | h8 | h8
      · exact .inl h8
      · exact .inr ⟨h8, hs⟩
      · exact absurd h8 flat_owns⟩

/-! ### calls that look at memory that may still be written -/

mutual
/-- A value that holds no memory. -/
def flatR : AV → Bool
  | .sl .ro es | .sl .ex es => es.isEmpty
  | .sl (.tok _ _) _ | .rsl _ _ _ _ _ | .vp _ | .ptr _ _ | .grd _ _ | .yv _ | .mp _ => false
  | .agg cs | .tuple cs => flatRL cs
  | .clo _ fs cs => flatRL fs && flatRL cs
  | .ifc _ v => flatR v
  | _ => true
def flatRL : List AV → Bool
  | [] => true
  | x :: xs => flatR x && flatRL xs
end

mutual
theorem flatR_rel : ∀ (x : AV) {g g' : Gh} {w w' : World} {v : Value}, flatR x = true → Rel x g w v → Rel x g' w' v
  | .undef, _, _, _, _, _, _, _ => by simp [Rel]
  | .bool _, _, _, _, _, _, _, h => by simpa [Rel] using h
  | .int _ _, _, _, _, _, _, _, h => by simpa [Rel] using h
  | .str _, _, _, _, _, _, _, h => by simpa [Rel] using h
  | .sl p es, g, g', w, w', v, hf, h => by
    have hes : es = [] ∧ (p = .ro ∨ p = .ex) := by cases p <;> simp [flatR] at hf <;> simp [hf]
    obtain ⟨rfl, hp⟩ := hes
    simp only [Rel] at h ⊢
    obtain ⟨a, cap, vs, sz, h1, h2, h3, h4, h5⟩ := h
    refine ⟨a, cap, [], sz, h1, h2, by simp [RelL], .inl rfl, ?_⟩
    rcases hp with rfl | rfl
    · trivial
    · exact h5
  | .rsl _ _ _ _ _, _, _, _, _, _, hf, _ => by simp [flatR] at hf
  | .nilP, _, _, _, _, _, _, h => by simpa [Rel] using h
  | .vp _, _, _, _, _, _, hf, _ => by simp [flatR] at hf
  | .ptr _ _, _, _, _, _, _, hf, _ => by simp [flatR] at hf
  | .agg cs, g, g', w, w', v, hf, h => by
    simp only [Rel] at h ⊢
    obtain ⟨vs, h1, h2⟩ := h
    exact ⟨vs, h1, flatRL_rel cs (by simpa [flatR] using hf) h2⟩
  | .tuple cs, g, g', w, w', v, hf, h => by
    simp only [Rel] at h ⊢
    obtain ⟨vs, h1, h2⟩ := h
    exact ⟨vs, h1, flatRL_rel cs (by simpa [flatR] using hf) h2⟩
  | .clo f fs cs, g, g', w, w', v, hf, h => by
    simp only [flatR, Bool.and_eq_true] at hf
    simp only [Rel] at h ⊢
    obtain ⟨us, vs, h1, h2, h3⟩ := h
    exact ⟨us, vs, h1, flatRL_rel fs hf.1 h2, flatRL_rel cs hf.2 h3⟩
  | .nilF, _, _, _, _, _, _, h => by simpa [Rel] using h
  | .ifc t x, g, g', w, w', v, hf, h => by
    simp only [Rel] at h ⊢
    obtain ⟨u, h1, h2⟩ := h
    exact ⟨u, h1, flatR_rel x (by simpa [flatR] using hf) h2⟩
  | .nilI, _, _, _, _, _, _, h => by simpa [Rel] using h
  | .grd _ _, _, _, _, _, _, hf, _ => by simp [flatR] at hf
  | .yv _, _, _, _, _, _, hf, _ => by simp [flatR] at hf
  | .mp _, _, _, _, _, _, hf, _ => by simp [flatR] at hf
theorem flatRL_rel : ∀ (xs : List AV) {g g' : Gh} {w w' : World} {vs : List Value}, flatRL xs = true → RelL xs g w vs → RelL xs g' w' vs
  | [], _, _, _, _, _, _, h => by simpa [RelL] using h
  | x :: xs, g, g', w, w', vs, hf, h => by
    simp only [flatRL, Bool.and_eq_true] at hf
    simp only [RelL] at h ⊢
    obtain ⟨v, rest, h1, h2, h3⟩ := h
    exact ⟨v, rest, h1, flatR_rel x hf.1 h2, flatRL_rel xs hf.2 h3⟩
end

mutual
/-- A value as a callee may look at it that writes nothing of ours: what it leads to in our memory comes along. -/
def lend (H : Heap) : AV → AV
  | .sl _ es => .sl .ro es
  | .rsl id off n _ sz => match H[id]? with
    | some (.box cs) => bif sz == 1 && decide (off + n ≤ cs.length) && (cs.all scalarB || ((cs.drop off).take n).all scalarB) then .sl .ro (dryL ((cs.drop off).take n)) else .undef
    | _ => .undef
  | .ptr id off => match H[id]? with
    | some (.box cs) => .vp (dryL (cs.drop off))
    | _ => .undef
  | .agg cs => .agg (lendL H cs)
  | .tuple cs => .tuple (lendL H cs)
  | .clo f fs cs => .clo f (lendL H fs) (lendL H cs)
  | .ifc t v => .ifc t (lend H v)
  | .grd _ _ => .undef
  | .yv _ => .undef
  | .mp _ => .undef
  | v => v
def lendL (H : Heap) : List AV → List AV
  | [] => []
  | x :: xs => lend H x :: lendL H xs
end

/-- Every cell that there is. -/
def allS (w : World) : Gh := { S := fun b o => ∃ (vs : Array Value) (e : TypeId) (fz : Nat × Nat), w.heap[b]? = some (Obj.cells vs e fz) ∧ o < vs.size, bx := fun _ => none, tl := fun _ => none, tk := fun _ => none }

theorem allS_mono {g : Gh} {w : World} (h : Wf X.G g w) : Mono g.flat w (allS w) w := ⟨fun b o hs => ⟨(h.S b o hs).1, rfl⟩, (fun _ _ e => nomatch e), (fun _ _ e => nomatch e)⟩

theorem allS_wf {g : Gh} {w : World} (h : Wf X.G g w) : Wf X.G (allS w) w where
  S b o hs := ⟨hs, fun ho => by rcases ho with ⟨i, hi⟩ | ⟨i, lo, hi, hi', _⟩ <;> simp [allS] at *⟩
  inj i j b hi := nomatch hi
  tinj i j b lo hi lo' hi' h := nomatch h
  apart i j b lo hi h := nomatch h
  bx i b h := nomatch h
  tk i b lo hi h := nomatch h
  laid x cs hx := Rel.mono _ (allS_mono h) ((wf_flat h).laid x cs hx)
  ex := h.ex

mutual
theorem lend_rel {g : Gh} {w : World} {H : Heap} (hwf : Wf X.G g w) (hhr : HR g w H) : ∀ (x : AV) {v : Value}, Rel x g w v → Rel (lend H x) (allS w) w v
  | .undef, _, _ => by simp [lend, Rel]
  | .bool _, _, h => by simpa [lend, Rel] using h
  | .int _ _, _, h => by simpa [lend, Rel] using h
  | .str _, _, h => by simpa [lend, Rel] using h
  | .sl p es, v, h => by
    have h2 := dry_rel _ h
    simp only [lend, dry] at h2 ⊢
    exact Rel.mono _ (allS_mono hwf) h2
  | .rsl id off n cap sz, v, h => by
    simp only [lend]
    split
    · rename_i cs hH
      by_cases hc : (sz == 1 && decide (off + n ≤ cs.length) && (cs.all scalarB || ((cs.drop off).take n).all scalarB)) = true
      · rw [hc, cond_true]
        simp only [Bool.and_eq_true, beq_iff_eq, decide_eq_true_eq] at hc
        obtain ⟨⟨h1, h2⟩, h3⟩ := hc
        have h3 : ∀ (i : Nat) (c : AV), i < n → cs[off + i]? = some c → scalarB c = true := fun i c hi hcc => by
          rw [Bool.or_eq_true] at h3
          rcases h3 with h | h
          · exact List.all_eq_true.1 h c (List.mem_of_getElem? hcc)
          · refine List.all_eq_true.1 h c (List.mem_of_getElem? (i := i) ?_)
            rw [List.getElem?_take, if_pos hi, List.getElem?_drop]
            exact hcc
        simp only [Rel] at h
        obtain ⟨a, b, rfl, hb, hncap, hcap⟩ := h
        obtain ⟨arr, e, fz, hheap, hvs⟩ := hhr.box hH hb
        have hdl : ∀ (l : List AV), (dryL l).length = l.length := fun l => by
          induction l with
          | nil => rfl
          | cons x l ih => simp [dryL, ih]
        have hlen : (dryL ((cs.drop off).take n)).length = n := by rw [hdl]; simp; omega
        have hal : arr.size = cs.length := by simpa using hvs.length
        have hrel := RelL.mono _ (allS_mono hwf) (dryL_rel _ ((hvs.drop off).take n))
        simp only [Rel]
        refine ⟨a, cap, (arr.toList.drop off).take n, 1, by rw [hlen], by rw [hlen]; exact hncap, hrel, ?_, trivial⟩
        rcases hcap with rfl | rfl
        · have hn0 : n = 0 := by omega
          subst hn0
          exact .inl (by simp)
        · refine .inr ⟨b, off, rfl, fun i x hx => ?_⟩
          have hx0 := hx
          rw [List.getElem?_take] at hx
          split at hx
          · rename_i hin
            rw [List.getElem?_drop] at hx
            obtain ⟨c, hcc, hr⟩ := hvs.get (off + i) hx
            have hsc := scalar_cells hr (h3 i c hin hcc)
            refine ⟨by rw [hsc.1]; rfl, fun j z hz => ?_⟩
            rw [hsc.1] at hz
            have hj : j = 0 := by
              rcases Nat.eq_zero_or_pos j with h | h
              · exact h
              · rw [Array.getElem?_eq_none (by simp; omega)] at hz; cases hz
            subst hj
            simp at hz
            subst hz
            rw [Nat.mul_one, Nat.add_zero]
            exact ⟨⟨arr, e, fz, hheap, by omega⟩, cell_of_heap hheap (by simpa using hx)⟩
          · cases hx
      · rw [show (sz == 1 && decide (off + n ≤ cs.length) && (cs.all scalarB || ((cs.drop off).take n).all scalarB)) = false by simpa using hc, cond_false]
        simp [Rel]
    · simp [Rel]
  | .nilP, _, h => by simpa [lend, Rel] using h
  | .vp cs, v, h => by
    have h2 := dry_rel _ h
    simp only [lend, dry] at h2 ⊢
    exact Rel.mono _ (allS_mono hwf) h2
  | .ptr id off, v, h => by
    simp only [lend]
    split
    · rename_i cs hH
      simp only [Rel] at h
      obtain ⟨b, rfl, hb⟩ := h
      obtain ⟨arr, e, fz, hheap, hvs⟩ := hhr.box hH hb
      simp only [Rel]
      refine ⟨b, off, arr.toList.drop off, rfl, RelL.mono _ (allS_mono hwf) (dryL_rel _ (hvs.drop off)), fun i x hx => ?_⟩
      rw [List.getElem?_drop] at hx
      have hlt : off + i < arr.size := by
        rcases Nat.lt_or_ge (off + i) arr.size with h' | h'
        · exact h'
        · rw [List.getElem?_eq_none (by simpa using h')] at hx; cases hx
      exact ⟨⟨arr, e, fz, hheap, hlt⟩, cell_of_heap hheap (by simpa using hx)⟩
    · simp [Rel]
  | .agg cs, v, h => by
    simp only [lend, Rel] at h ⊢
    obtain ⟨vs, h1, h2⟩ := h
    exact ⟨vs, h1, lendL_rel hwf hhr cs h2⟩
  | .tuple cs, v, h => by
    simp only [lend, Rel] at h ⊢
    obtain ⟨vs, h1, h2⟩ := h
    exact ⟨vs, h1, lendL_rel hwf hhr cs h2⟩
  | .clo f fs cs, v, h => by
    simp only [lend, Rel] at h ⊢
    obtain ⟨us, vs, h1, h2, h3⟩ := h
    exact ⟨us, vs, h1, lendL_rel hwf hhr fs h2, lendL_rel hwf hhr cs h3⟩
  | .nilF, _, h => by simpa [lend, Rel] using h
  | .ifc t x, v, h => by
    simp only [lend, Rel] at h ⊢
    obtain ⟨u, h1, h2⟩ := h
    exact ⟨u, h1, lend_rel hwf hhr x h2⟩
  | .nilI, _, h => by simpa [lend, Rel] using h
  | .grd _ _, _, _ => by simp [lend, Rel]
  | .yv _, _, _ => by simp [lend, Rel]
  | .mp _, _, _ => by simp [lend, Rel]
theorem lendL_rel {g : Gh} {w : World} {H : Heap} (hwf : Wf X.G g w) (hhr : HR g w H) : ∀ (xs : List AV) {vs : List Value}, RelL xs g w vs → RelL (lendL H xs) (allS w) w vs
  | [], _, h => by simpa [lendL, RelL] using h
  | x :: xs, vs, h => by
    simp only [lendL, RelL] at h ⊢
    obtain ⟨v, rest, h1, h2, h3⟩ := h
    exact ⟨v, rest, h1, lend_rel hwf hhr x h2, lendL_rel hwf hhr xs h3⟩
end

/-- **A call that looks at our memory, and yields a value that holds none.** -/
theorem callV_lend {f : FuncId} {args : List AV} {H : Heap} {r : AV} (h : Ev X f (lendL H args) r) (hr : flatR r = true) : CallV X f args H r :=
  ⟨h.1, fun g w vs hwf hhr hvs => (h.2 (allS w) w vs (allS_wf hwf) (hr_nil (fun _ => rfl) (fun _ => rfl) (fun _ => rfl)) (lendL_rel hwf hhr args hvs)).mono fun e w' ⟨v, r', g', H', h1, h2, h3, h4, h5, h6, h7⟩ => by
    subst h6; subst h7
    exact ⟨v, { g with S := g.S }, h1, flatR_rel _ hr h2, good_back hwf hhr (g1 := allS w) (fun _ => rfl) (fun _ => rfl) h3 h5 g.S (fun b o hs => .inl hs) (fun b o hs => hs)⟩⟩

end

/-! ### frames as lists -/

abbrev FL := List (Nat × AV)

def FL.get : FL → Fr
  | [], _ => .undef
  | (i, v) :: r, t => if i = t then v else FL.get r t

def FL.set (F : FL) (d : Nat) (v : AV) : FL := (d, v) :: F

/-- The slots that live on. -/
def FL.keep (F : FL) (ks : List Nat) : FL := ks.map fun k => (k, F.get k)

theorem FL.get_set (F : FL) (d : Nat) (v : AV) : (F.get).updo (some d) v = (FL.set F d v).get := by
  funext t
  simp only [Fr.updo, Fr.upd, FL.set, FL.get]
  by_cases h : t = d
  · subst h; simp
  · rw [if_neg h, if_neg (fun e => h e.symm)]

section
variable {X : Cx} {N : Nat}

theorem wk_fr {fr fr' : Fr} {H : Heap} (h : ∀ t, fr' t = fr t ∨ fr' t = .undef) : Wk X N fr H fr' H := fun g w a hs =>
  ⟨g, hs.weak fun t v hr => by
    rcases h t with e | e
    · rw [e]; exact hr
    · rw [e]; simp [Rel], ExtM.refl g w⟩

/-- Every entry of G is one of F. -/
def FL.le (F : FL) : FL → Prop
  | [] => True
  | (i, v) :: r => F.get i = v ∧ FL.le F r

theorem frOf_get (args : List AV) : frOf args = FL.get (args.zipIdx.map fun p => (p.2, p.1)) := by
  have key : ∀ (l : List AV) (k t : Nat), FL.get ((l.zipIdx k).map fun p => (p.2, p.1)) t = if k ≤ t then l.getD (t - k) .undef else .undef := by
    intro l
    induction l with
    | nil => intro k t; simp [FL.get]
    | cons x l ih =>
      intro k t
      simp only [List.zipIdx_cons, List.map_cons, FL.get, ih]
      by_cases h : k = t
      · subst h; simp
      · rw [if_neg h]
        by_cases h2 : k ≤ t
        · rw [if_pos (by omega), if_pos h2]
          rw [show t - k = (t - (k + 1)) + 1 by omega]
          simp
        · rw [if_neg (by omega), if_neg h2]
  funext t
  have := key args 0 t
  simp only [Nat.zero_le, if_true, Nat.sub_zero] at this
  exact this.symm

end
end Go.Avm

/-
  The verification condition of a piece of code, as one proposition; what simp is to know.
-/
namespace Go.Avm
open Go

/-- The verification condition of code: loops are left as they are. -/
def wpc (X : Cx) (N : Nat) : ACode → (Exit → Fr → Heap → Prop) → Fr → Heap → Prop
  | .skip, Q, fr, H => Q .normal fr H
  | .region false ops, Q, fr, H => vcOps X (Q .normal) ops fr H
  | .region true ops, Q, fr, H => vcOpsQ X (Q .normal) H ops fr
  | .seq a b, Q, fr, H => wpc X N a (AThen (wpc X N b Q) Q) fr H
  | .cond c a b, Q, fr, H => match c.eval X.G fr with
    | .bool t => (t = true → wpc X N a Q fr H) ∧ (t = false → wpc X N b Q fr H)
    | _ => False
  | .block id c, Q, fr, H => wpc X N c (ABlk id Q) fr H
  | .loop c, Q, fr, H => XA X N (.loop c) fr H Q
  | .rangeF x ps a b, Q, fr, H => XA X N (.rangeF x ps a b) fr H Q
  | .scope c, Q, fr, H => wpc X N c (ASc Q) fr H
  | .scopeJ c, Q, fr, H => XA X N (.scopeJ c) fr H Q
  | .label _, Q, fr, H => Q .normal fr H
  | .goto l, Q, fr, H => Q (.goto l) fr H
  | .bad, _, _, _ => False
  | .exit id, Q, fr, H => Q (.exit id) fr H
  | .ret, Q, fr, H => Q .ret fr H

section
variable {X : Cx} {N : Nat}

theorem xa_of_wpc (hm : X.P.follows .mixedOrders = true) : ∀ (c : ACode) {Q : Exit → Fr → Heap → Prop} {fr : Fr} {H : Heap}, wpc X N c Q fr H → XA X N c fr H Q
  | .skip, _, _, _, h => xa_skip h
  | .region false ops, _, _, _, h => xa_region h
  | .region true ops, _, _, _, h => xa_region_draw hm h
  | .seq a b, Q, fr, H, h => xa_seq fun K hK => xa_mono (xa_of_wpc hm a h) fun e fr' H' hq => by
      cases e <;> first | exact hK _ _ (xa_of_wpc hm b hq) | exact hq
  | .cond c a b, Q, fr, H, h => by
    simp only [wpc] at h
    split at h
    · rename_i t ht
      exact xa_cond ht (fun e => xa_of_wpc hm a (h.1 e)) (fun e => xa_of_wpc hm b (h.2 e))
    · exact h.elim
  | .block id c, Q, fr, H, h => xa_block (xa_of_wpc hm c h)
  | .loop c, _, _, _, h => h
  | .rangeF _ _ _ _, _, _, _, h => h
  | .scope c, Q, fr, H, h => xa_scope (xa_of_wpc hm c h)
  | .scopeJ _, _, _, _, h => h
  | .label _, _, _, _, h => xa_label h
  | .goto _, _, _, _, h => xa_goto h
  | .bad, _, _, _, h => False.elim h
  | .exit id, _, _, _, h => xa_exit h
  | .ret, _, _, _, h => xa_ret h

end

/-! ### what is left at the end -/

mutual
/-- A value as it is when nothing will be written any more; d says what becomes of cells of ours. -/
def finB (d : List AV → List AV) (H : Heap) : AV → AV
  | .sl p es => .sl (match p with | .ex => .ex | _ => .ro) es
  | .rsl id off n _ sz => match H[id]? with
    | some (.box cs) => bif sz == 1 && decide (off + n ≤ cs.length) && (cs.all scalarB || ((cs.drop off).take n).all scalarB) then .sl .ro (d ((cs.drop off).take n)) else .undef
    | _ => .undef
  | .ptr id off => match H[id]? with
    | some (.box cs) => .vp (d (cs.drop off))
    | _ => .undef
  | .agg cs => .agg (finBL d H cs)
  | .tuple cs => .tuple (finBL d H cs)
  | .clo f fs cs => .clo f (finBL d H fs) (finBL d H cs)
  | .ifc t v => .ifc t (finB d H v)
  | .grd _ _ => .undef
  | .yv _ => .undef
  | .mp _ => .undef
  | v => v
def finBL (d : List AV → List AV) (H : Heap) : List AV → List AV
  | [] => []
  | x :: xs => finB d H x :: finBL d H xs
end

theorem finBL_length {d : List AV → List AV} {H : Heap} : ∀ (l : List AV), (finBL d H l).length = l.length
  | [] => by simp [finBL]
  | x :: l => by simp [finBL, finBL_length l]

def finN (H : Heap) : Nat → List AV → List AV
  | 0 => fun l => l.map fun _ => .undef
  | k + 1 => finBL (finN H k) H

theorem finN_length {H : Heap} : ∀ (k : Nat) (l : List AV), (finN H k l).length = l.length
  | 0, l => by simp [finN]
  | k + 1, l => by simp [finN, finBL_length]

/-- A value as it is when nothing will be written any more. -/
def fin (H : Heap) (k : Nat) : AV → AV := finB (finN H k) H

/-- Every cell of ours is one that stays. -/
def finG (g : Gh) (w : World) : Gh := { S := fun b o => g.S b o ∨ ((∃ i, g.bx i = some b) ∧ ∃ (vs : Array Value) (e : TypeId) (fz : Nat × Nat), w.heap[b]? = some (Obj.cells vs e fz) ∧ o < vs.size), bx := fun _ => none, tl := fun _ => none, tk := fun _ => none }

section
variable {X : Cx}

theorem finG_mono {g : Gh} {w : World} : Mono g.flat w (finG g w) w := ⟨fun b o hs => ⟨.inl hs, rfl⟩, (fun _ _ e => nomatch e), (fun _ _ e => nomatch e)⟩

theorem finG_flat {g : Gh} {w : World} : (finG g w).flat = finG g w := rfl

theorem finG_owns {g : Gh} {w : World} {b o : Nat} : ¬ (finG g w).owns b o := fun ho => by
  rcases ho with ⟨i, hi⟩ | ⟨i, lo, hi, hi', _⟩ <;> simp [finG] at *

theorem finG_wf {g : Gh} {w : World} (h : Wf X.G g w) : Wf X.G (finG g w) w where
  S b o hs := ⟨by rcases hs with hs | hs <;> first | exact (h.S b o hs).1 | exact hs.2, finG_owns⟩
  inj i j b hi := nomatch hi
  tinj i j b lo hi lo' hi' h := nomatch h
  apart i j b lo hi h := nomatch h
  bx i b h := nomatch h
  tk i b lo hi h := nomatch h
  laid x cs hx := Rel.mono _ finG_mono ((wf_flat h).laid x cs hx)
  ex := h.ex

theorem finG_ext {g : Gh} {w : World} : Ext g w (finG g w) w where
  io := ⟨rfl, rfl⟩
  size := Nat.le_refl _
  S b o h := .inl h
  S' b o h := by
    rcases h with h | ⟨⟨i, hi⟩, _⟩
    · exact .inl h
    · exact .inr (.inr (.inl ⟨i, hi⟩))
  cell _ _ _ _ := rfl
  obj _ _ _ := rfl
  shape b vs e fz h := ⟨vs, fz, h, rfl, .inl rfl⟩
  own b o h := absurd h finG_owns

mutual
theorem finB_rel {d : List AV → List AV} {g : Gh} {w : World} {H : Heap} (hhr : HR g w H) (hdl : ∀ l, (d l).length = l.length) (hd : ∀ l vs, RelL l g w vs → RelL (d l) (finG g w) w vs) : ∀ (x : AV) {v : Value}, Rel x g w v → Rel (finB d H x) (finG g w) w v
  | .undef, _, _ => by simp [finB, Rel]
  | .bool _, _, h => by simpa [finB, Rel] using h
  | .int _ _, _, h => by simpa [finB, Rel] using h
  | .str _, _, h => by simpa [finB, Rel] using h
  | .sl p es, v, h => by
    simp only [finB, Rel] at h ⊢
    obtain ⟨a, cap, vs, sz, h1, h2, h3, h4, h5⟩ := h
    refine ⟨a, cap, vs, sz, h1, h2, RelL.mono es finG_mono h3, ?_, ?_⟩
    · rcases h4 with h4 | ⟨b, o, ha, hc⟩
      · exact .inl h4
      · exact .inr ⟨b, o, ha, fun i x hx => ⟨(hc i x hx).1, fun j c hj => ⟨.inl ((hc i x hx).2 j c hj).1, ((hc i x hx).2 j c hj).2⟩⟩⟩
    · cases p with
      | ex => exact h5
      | _ => trivial
  | .rsl id off n cap sz, v, h => by
    simp only [finB]
    split
    · rename_i cs hH
      by_cases hc : (sz == 1 && decide (off + n ≤ cs.length) && (cs.all scalarB || ((cs.drop off).take n).all scalarB)) = true
      · rw [hc, cond_true]
        simp only [Bool.and_eq_true, beq_iff_eq, decide_eq_true_eq] at hc
        obtain ⟨⟨h1, h2⟩, h3⟩ := hc
        have h3 : ∀ (i : Nat) (c : AV), i < n → cs[off + i]? = some c → scalarB c = true := fun i c hi hcc => by
          rw [Bool.or_eq_true] at h3
          rcases h3 with h | h
          · exact List.all_eq_true.1 h c (List.mem_of_getElem? hcc)
          · refine List.all_eq_true.1 h c (List.mem_of_getElem? (i := i) ?_)
            rw [List.getElem?_take, if_pos hi, List.getElem?_drop]
            exact hcc
        simp only [Rel] at h
        obtain ⟨a, b, rfl, hb, hncap, hcap⟩ := h
        obtain ⟨arr, e, fz, hheap, hvs⟩ := hhr.box hH hb
        have hlen : (d ((cs.drop off).take n)).length = n := by rw [hdl]; simp; omega
        have hal : arr.size = cs.length := by simpa using hvs.length
        have hrel := hd _ _ ((hvs.drop off).take n)
        simp only [Rel]
        refine ⟨a, cap, (arr.toList.drop off).take n, 1, by rw [hlen], by rw [hlen]; exact hncap, hrel, ?_, trivial⟩
        rcases hcap with rfl | rfl
        · have hn0 : n = 0 := by omega
          subst hn0
          exact .inl (by simp)
        · refine .inr ⟨b, off, rfl, fun i x hx => ?_⟩
          rw [List.getElem?_take] at hx
          split at hx
          · rename_i hin
            rw [List.getElem?_drop] at hx
            obtain ⟨c, hcc, hr⟩ := hvs.get (off + i) hx
            have hsc := scalar_cells hr (h3 i c hin hcc)
            refine ⟨by rw [hsc.1]; rfl, fun j z hz => ?_⟩
            rw [hsc.1] at hz
            have hj : j = 0 := by
              rcases Nat.eq_zero_or_pos j with h | h
              · exact h
              · rw [Array.getElem?_eq_none (by simp; omega)] at hz; cases hz
            subst hj
            simp at hz
            subst hz
            rw [Nat.mul_one, Nat.add_zero]
            exact ⟨.inr ⟨⟨id, hb⟩, arr, e, fz, hheap, by omega⟩, cell_of_heap hheap (by simpa using hx)⟩
          · cases hx
      · rw [show (sz == 1 && decide (off + n ≤ cs.length) && (cs.all scalarB || ((cs.drop off).take n).all scalarB)) = false by simpa using hc, cond_false]
        simp [Rel]
    · simp [Rel]
  | .nilP, _, h => by simpa [finB, Rel] using h
  | .vp cs, v, h => by
    simp only [finB, Rel] at h ⊢
    obtain ⟨b, o, vs, h1, h2, h3⟩ := h
    exact ⟨b, o, vs, h1, RelL.mono cs finG_mono h2, fun i x hx => ⟨.inl (h3 i x hx).1, (h3 i x hx).2⟩⟩
  | .ptr id off, v, h => by
    simp only [finB]
    split
    · rename_i cs hH
      simp only [Rel] at h
      obtain ⟨b, rfl, hb⟩ := h
      obtain ⟨arr, e, fz, hheap, hvs⟩ := hhr.box hH hb
      simp only [Rel]
      refine ⟨b, off, arr.toList.drop off, rfl, hd _ _ (hvs.drop off), fun i x hx => ?_⟩
      rw [List.getElem?_drop] at hx
      have hlt : off + i < arr.size := by
        rcases Nat.lt_or_ge (off + i) arr.size with h' | h'
        · exact h'
        · rw [List.getElem?_eq_none (by simpa using h')] at hx; cases hx
      exact ⟨.inr ⟨⟨id, hb⟩, arr, e, fz, hheap, hlt⟩, cell_of_heap hheap (by simpa using hx)⟩
    · simp [Rel]
  | .agg cs, v, h => by
    simp only [finB, Rel] at h ⊢
    obtain ⟨vs, h1, h2⟩ := h
    exact ⟨vs, h1, finBL_rel hhr hdl hd cs h2⟩
  | .tuple cs, v, h => by
    simp only [finB, Rel] at h ⊢
    obtain ⟨vs, h1, h2⟩ := h
    exact ⟨vs, h1, finBL_rel hhr hdl hd cs h2⟩
  | .clo f fs cs, v, h => by
    simp only [finB, Rel] at h ⊢
    obtain ⟨us, vs, h1, h2, h3⟩ := h
    exact ⟨us, vs, h1, finBL_rel hhr hdl hd fs h2, finBL_rel hhr hdl hd cs h3⟩
  | .nilF, _, h => by simpa [finB, Rel] using h
  | .ifc t x, v, h => by
    simp only [finB, Rel] at h ⊢
    obtain ⟨u, h1, h2⟩ := h
    exact ⟨u, h1, finB_rel hhr hdl hd x h2⟩
  | .nilI, _, h => by simpa [finB, Rel] using h
  | .grd _ _, _, _ => by simp [finB, Rel]
  | .yv _, _, _ => by simp [finB, Rel]
  | .mp _, _, _ => by simp [finB, Rel]
theorem finBL_rel {d : List AV → List AV} {g : Gh} {w : World} {H : Heap} (hhr : HR g w H) (hdl : ∀ l, (d l).length = l.length) (hd : ∀ l vs, RelL l g w vs → RelL (d l) (finG g w) w vs) : ∀ (xs : List AV) {vs : List Value}, RelL xs g w vs → RelL (finBL d H xs) (finG g w) w vs
  | [], _, h => by simpa [finBL, RelL] using h
  | x :: xs, vs, h => by
    simp only [finBL, RelL] at h ⊢
    obtain ⟨v, rest, h1, h2, h3⟩ := h
    exact ⟨v, rest, h1, finB_rel hhr hdl hd x h2, finBL_rel hhr hdl hd xs h3⟩
end

theorem finN_rel {g : Gh} {w : World} {H : Heap} (hhr : HR g w H) : ∀ (k : Nat) (l : List AV) (vs : List Value), RelL l g w vs → RelL (finN H k l) (finG g w) w vs
  | 0, l, vs, h => by
    refine RelL.of_get (by simp [finN, h.length]) fun i x v hx _ => ?_
    simp only [finN, List.getElem?_map, Option.map_eq_some_iff] at hx
    obtain ⟨y, _, rfl⟩ := hx
    simp [Rel]
  | k + 1, l, vs, h => finBL_rel hhr (finN_length k) (finN_rel hhr k) l h

theorem fin_rel {g : Gh} {w : World} {H : Heap} (hhr : HR g w H) (k : Nat) (x : AV) {v : Value} (h : Rel x g w v) : Rel (fin H k x) (finG g w) w v :=
  finB_rel hhr (finN_length k) (finN_rel hhr k) x h

/-- A contract at values alone. -/
theorem ev_of_evF {f : FuncId} {args : List AV} {r : AV} (k : Nat) (h : EvF X f args [] fun r' H' => fin H' k r' = r) : Ev X f args r :=
  ⟨h.1, fun g w vs h1 h2 h3 => (h.2 g w vs h1 h2 h3).mono fun e w' ⟨v, r', g', H', k1, k2, k3, k4, k5, k6⟩ => by
    subst k6
    exact ⟨v, _, finG g' w', [], k1, fin_rel k4 k r' k2, finG_wf k3, hr_nil (fun _ => rfl) (fun _ => rfl) (fun _ => rfl), k5.trans finG_ext, rfl, rfl⟩⟩

/-- What is asked at the end of a function's body. -/
def RetIs (res : List ARes) (Q : AV → Heap → Prop) : Exit → Fr → Heap → Prop
  | .normal, fr, H | .ret, fr, H => match resVals fr H res with | some vs => Q (resOf vs) H | none => False
  | _, _, _ => False

/-- What is still to come, as a list. -/
inductive Kt where
  | seq (c : ACode)
  | blk (id : Nat)
  | sc

def kq (X : Cx) (N : Nat) (Q : Exit → Fr → Heap → Prop) : List Kt → Exit → Fr → Heap → Prop
  | [] => Q
  | .seq c :: ks => AThen (wpc X N c (kq X N Q ks)) (kq X N Q ks)
  | .blk i :: ks => ABlk i (kq X N Q ks)
  | .sc :: ks => ASc (kq X N Q ks)

/-- A context in which functions are proved. -/
structure Std (X : Cx) : Prop where
  hm : X.P.follows .mixedOrders = true
  hrd : X.rd = none

theorem evM_of_wpc (hs : Std X) {f : FuncId} {hint : Nat → Bool} {af : AFun} (hc : compileFun X.P f hint = some af) {args : List AV} {Hin : Heap} {Q : AV → Heap → Prop}
    (h : wpc X af.n af.code (kq X af.n (RetIs af.res Q) []) (FL.get (args.zipIdx.map fun p => (p.2, p.1))) Hin) : EvM X f args Hin Q := by
  refine evM_of hs.hrd hc ?_
  rw [frOf_get]
  refine xa_mono (xa_of_wpc hs.hm _ h) fun e fr H hq => ?_
  unfold kq RetIs at hq
  split at hq
  · split at hq
    · rename_i vs hv; exact ⟨.inl rfl, vs, fr, H, WkA.refl, hv, hq⟩
    · exact hq.elim
  · split at hq
    · rename_i vs hv; exact ⟨.inr rfl, vs, fr, H, WkA.refl, hv, hq⟩
    · exact hq.elim
  · exact hq.elim

/-- A contract at values alone, from the verification condition of the body. -/
theorem ev_of_wpc (hs : Std X) {f : FuncId} {hint : Nat → Bool} {af : AFun} (hc : compileFun X.P f hint = some af) {args : List AV} {r : AV} (k : Nat)
    (h : wpc X af.n af.code (kq X af.n (RetIs af.res fun r' H' => fin H' k r' = r) []) (FL.get (args.zipIdx.map fun p => (p.2, p.1))) []) : Ev X f args r :=
  ev_of_evF k (evM_of_wpc hs hc h).evF

end
end Go.Avm
