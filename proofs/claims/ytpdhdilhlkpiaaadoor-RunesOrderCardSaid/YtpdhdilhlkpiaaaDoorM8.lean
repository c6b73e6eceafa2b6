/- Ranges over functions: the round, the loop. -/
import Derived.Test.YtpdhdilhlkpiaaaDoorM7
import Derived.RangeFuncIn
import Derived.Laws.BitsLemmas
set_option linter.unusedSectionVars false
set_option linter.unusedSimpArgs false
set_option linter.unusedVariables false

/-
  Ranges over functions: the round, the loop.
-/
namespace Go.Avm
open Go

section
variable {X : Cx} {N : Nat}

/-- The record of a loop is written. -/
theorem put_loop {g : Gh} {w : World} {H : Heap} (hwf : Wf X.G g w) (hhr : HR g w H) {i l : Nat} {L L' : Loop} {frc : Fr} (hH : H[i]? = some (.lp L frc)) (hb : g.bx i = some l) (hL : w.heap[l]? = some (.loop L)) (ht : L'.tmps = L.tmps) :
    Good X g w H g (w.putObj l (.loop L')) (H.set i (.lp L' frc)) := by
  have hlt : l < w.heap.size := (Array.getElem?_eq_some_iff.1 hL).1
  have hne : ∀ b, b ≠ l → (w.putObj l (.loop L')).heap[b]? = w.heap[b]? := fun b h => World.putObj_heap_other h
  have hS : ∀ b o, g.S b o → b ≠ l := fun b o h e => by
    subst e
    obtain ⟨⟨vs, e', fz, h1, _⟩, _⟩ := hwf.S b o h
    rw [hL] at h1; cases h1
  have hcell : ∀ b o, b ≠ l → (w.putObj l (.loop L')).cell? ⟨b, o, none⟩ = w.cell? ⟨b, o, none⟩ := fun b o h => by simp only [World.cell?, hne b h]
  have hm : Mono g w g (w.putObj l (.loop L')) := ⟨fun b o h => ⟨h, hcell b o (hS b o h)⟩, fun _ _ h => h, fun i n h => ⟨n, h, .inl ⟨rfl, rfl⟩⟩⟩
  have hown : ∀ o, g.owns l o := fun o => .inl ⟨i, hb⟩
  have hsame : (w.putObj l (.loop L')).heap[l]? = some (.loop L') := World.putObj_heap_same hlt
  refine ⟨⟨fun b o h => ?_, hwf.inj, hwf.tinj, hwf.apart, fun j b h => ?_, fun j b lo hi h => ?_, fun x cs hx => Rel.mono _ hm (hwf.laid x cs hx)⟩, ⟨fun j x hx => ?_, fun j hj => hhr.far j (by simpa using hj)⟩, hm,
    ⟨by rw [World.putObj_size]; exact Nat.le_refl _, fun _ _ h => h, fun _ _ h => .inl h, fun b o hb' ho => hcell b o fun e => ho (e ▸ hown o), fun b hb' ho => hne b fun e => ho 0 (e ▸ hown 0), fun b vs e fz hv => ?_, fun _ _ h => .inr h, rfl, rfl⟩⟩
  · obtain ⟨⟨vs, e, fz, h1, h2⟩, h3⟩ := hwf.S b o h
    exact ⟨⟨vs, e, fz, (hne b (hS b o h)).trans h1, h2⟩, h3⟩
  · obtain ⟨h1, h2⟩ := hwf.bx j b h
    refine ⟨by rw [World.putObj_size]; exact h1, fun vs e lo hi h3 => ?_⟩
    by_cases hbl : b = l
    · subst hbl; rw [hsame] at h3; cases h3
    · exact h2 vs e lo hi ((hne b hbl).symm.trans h3)
  · obtain ⟨vs, e, fl, fh, h1, h2, h3⟩ := hwf.tk j b lo hi h
    have hbl : b ≠ l := fun e => hwf.apart i j b lo hi (e ▸ hb) h
    exact ⟨vs, e, fl, fh, (hne b hbl).trans h1, h2, h3⟩
  · rw [List.getElem?_set] at hx
    split at hx
    · rename_i hij
      subst hij
      split at hx
      · cases hx
        obtain ⟨b, hb', _, hfr⟩ := hhr.blk i _ hH
        rw [hb] at hb'
        cases hb'
        exact ⟨l, hb, hsame, fun t => by rw [ht]; exact Rel.mono _ hm (hfr t)⟩
      · cases hx
    · rename_i hij
      refine (hhr.blk j x hx).mono hm (fun b hb' => hne b fun e => ?_) (fun _ h => h)
      subst e
      exact hij (hwf.inj i j b hb hb')
  · by_cases hbl : b = l
    · subst hbl; rw [hL] at hv; cases hv
    · exact ⟨vs, (hne b hbl).trans hv, rfl⟩

/-- A context in a round of the loop l. -/
def Cx.in (X : Cx) (l : Nat) : Cx := { X with rd := some l }

/-- What we know of a loop's record. -/
structure LoopIs (X : Cx) (N : Nat) (ps : List Nat) (A B : ACode) (L : Loop) : Prop where
  st : L.state = .ready
  pe : L.pending = none
  ps : L.params.toList = ps
  A : ∃ hint, compile X.P N hint L.assign = some A
  B : ∃ hint, compile X.P N hint L.body = some B
  n : N ≤ L.tmps.size

def lto (L : Loop) (st : LoopState) (pe : Option Code) : Loop := { L with state := st, pending := pe }

/-- Parameters take their values. -/
def setPs (fr : Fr) : List Nat → List AV → Fr
  | p :: ps, v :: vs => setPs (fr.updo (some p) v) ps vs
  | _, _ => fr

theorem setPs_rel {g : Gh} {w : World} : ∀ (ps : List Nat) {args : List AV} {vs : List Value} {fr : Fr} {tmps : Array Value}, RelL args g w vs → args.length = ps.length → (∀ p ∈ ps, p < tmps.size) → (∀ t, Rel (fr t) g w (tmps.getD t Go.undef)) →
    (∀ t, Rel (setPs fr ps args t) g w (((ps.zip vs).foldl (fun tmps (p : Nat × Value) => tmps.setIfInBounds p.1 p.2) tmps).getD t Go.undef)) ∧ ((ps.zip vs).foldl (fun tmps (p : Nat × Value) => tmps.setIfInBounds p.1 p.2) tmps).size = tmps.size
  | [], args, vs, fr, tmps, h, hl, hp, hf => by
    cases args with
    | nil => exact ⟨by simpa [setPs] using hf, rfl⟩
    | cons x xs => simp at hl
  | p :: ps, args, vs, fr, tmps, h, hl, hp, hf => by
    cases args with
    | nil => simp at hl
    | cons x xs =>
      simp only [RelL] at h
      obtain ⟨v, rest, rfl, h1, h2⟩ := h
      have hpl : p < tmps.size := hp p (by simp)
      have := setPs_rel ps (fr := fr.updo (some p) x) (tmps := tmps.setIfInBounds p v) h2 (by simpa using hl) (fun q hq => by simpa using hp q (by simp [hq])) (fun t => by
        simp only [Fr.updo, Fr.upd]
        split
        · rename_i e
          subst e
          simpa [Array.getD, hpl] using h1
        · rename_i e
          have h3 : (tmps.setIfInBounds p v).getD t Go.undef = tmps.getD t Go.undef := by
            simp [Array.getElem?_setIfInBounds_ne (Ne.symm e)]
          rw [h3]
          exact hf t)
      refine ⟨by simpa [setPs] using this.1, ?_⟩
      have h4 := this.2
      simpa using h4

/-- What is asked at a round's end. -/
def RoundQ (i : Nat) (L : Loop) (frc : Fr) (dst : Option Nat) (fr : Fr) (K : Fr → Heap → Prop) : Exit → Fr → Heap → Prop
  | .normal, _, H => H[i]? = some (.lp (lto L .busy none) frc) ∧ K (fr.updo dst (.bool true)) (H.set i (.lp L frc))
  | .ret, _, H => H[i]? = some (.lp (lto L .busy none) frc) ∧ K (fr.updo dst (.bool false)) (H.set i (.lp (lto L .done (some .ret)) frc))
  | .exit id, _, H => H[i]? = some (.lp (lto L .busy none) frc) ∧ K (fr.updo dst (.bool false)) (H.set i (.lp (lto L .done (some (.exit id))) frc))
  | _, _, _ => False

/-- **A round.** -/
theorem yield_ok {ps : List Nat} {A B : ACode} {L : Loop} (hL : LoopIs X N ps A B L) (hps : ∀ p ∈ ps, p < N) {i : Nat} {args : List AV} {dst : Option Nat} {fr frc : Fr} {H : Heap} {K : Fr → Heap → Prop}
    (hH : H[i]? = some (.lp L frc)) (hlen : args.length = ps.length)
    (round : ∀ l, XA (X.in l) N A (setPs frc ps args) H (AThen (fun fr1 H1 => H1[i]? = some (.lp L frc) ∧ XA (X.in l) N B fr1 (H1.set i (.lp (lto L .busy none) frc)) (RoundQ i L frc dst fr K)) fun _ _ _ => False)) : YieldOk X i args dst fr H K := by
  intro g w vs l hwf hhr hvs hb
  obtain ⟨b, hb', hheap, hfr⟩ := hhr.blk i _ hH
  rw [hb] at hb'
  cases hb'
  obtain ⟨hA, hcA⟩ := hL.A
  obtain ⟨hB, hcB⟩ := hL.B
  have hpz : L.params.toList = ps := hL.ps
  have hvl : vs.length = L.params.size := by rw [hvs.length, hlen, ← hpz]; simp
  refine ⟨L, hheap, hvl, roundIn_of_wpIn (F := Fence.wide) trivial ?_⟩
  have hfold : (L.params.zip vs.toArray).foldl (fun tmps (t, a) => tmps.setIfInBounds t a) L.tmps = (ps.zip vs).foldl (fun tmps (p : Nat × Value) => tmps.setIfInBounds p.1 p.2) L.tmps := by
    rw [← Array.foldl_toList, Array.toList_zip, hpz]
  rw [hfold]
  have hset := setPs_rel ps (fr := frc) (tmps := L.tmps) hvs hlen (fun p hp => Nat.lt_of_lt_of_le (hps p hp) hL.n) hfr
  have hs0 : StR ((X.in l).at 0) N g w (setPs frc ps args) H { tmps := (ps.zip vs).foldl (fun tmps (p : Nat × Value) => tmps.setIfInBounds p.1 p.2) L.tmps, defers := [] } :=
    ⟨hwf, hhr, hset.1, by show N ≤ Array.size _; rw [hset.2]; exact hL.n, DOk.nil, Nat.zero_le _⟩
  refine Code.wpIn_mono (fun e a1 w1 ⟨g1, fr1, H1, hs1, he1, hq1⟩ => ?_) (round l L.assign hA hcA 0 g w _ hs0)
  cases e with
  | normal =>
    obtain ⟨hH1, hxb⟩ := hq1
    have hb1 : g1.bx i = some l := he1.mono.bx _ _ hb
    obtain ⟨b, hb', hheap1, hfr1⟩ := hs1.hr.blk i _ hH1
    rw [hb1] at hb'
    cases hb'
    refine ⟨_, run_beginRound hheap1 hL.st, ?_⟩
    have hbusy : ({ L with state := .busy } : Loop) = lto L .busy none := by
      have := hL.pe
      cases L
      simp only [lto] at *
      simp_all
    rw [hbusy]
    have hg2 := put_loop (X := X) hs1.wf hs1.hr hH1 hb1 hheap1 (L' := lto L .busy none) rfl
    have hs2 : StR ((X.in l).at 0) N g1 (w1.putObj l (.loop (lto L .busy none))) fr1 (H1.set i (.lp (lto L .busy none) frc)) a1 :=
      ⟨hg2.wf, hg2.hr, fun t => Rel.mono _ hg2.mono (hs1.fr t), hs1.size, hs1.defers.ext hg2.ext, Nat.zero_le _⟩
    refine Code.wpIn_mono (fun e a3 w3 ⟨g3, fr3, H3, hs3, he3, hq3⟩ => ?_) (hxb L.body hB hcB 0 g1 _ _ hs2)
    have hchain : ExtM g w g3 w3 := (he1.trans hg2.xm).trans he3
    have hb3 : g3.bx i = some l := hchain.mono.bx _ _ hb
    have fin : ∀ (jump : Option Code) (L' : Loop), H3[i]? = some (.lp (lto L .busy none) frc) → lto L (if jump.isNone then .ready else .done) jump = L' → K (fr.updo dst (.bool jump.isNone)) (H3.set i (.lp L' frc)) →
        ∃ v w', (Instr.endRound l jump).run X.P w3 = .ok v w' ∧ ∃ v' r g' H', Ending.returned v = .returned v' ∧ Rel r g' w' v' ∧ Good X g w H g' w' H' ∧ K (fr.updo dst r) H' := fun jump L' hH3 hL' hK => by
      obtain ⟨b, hb', hheap3, _⟩ := hs3.hr.blk i _ hH3
      rw [hb3] at hb'
      cases hb'
      have hg4 := put_loop (X := X) hs3.wf hs3.hr hH3 hb3 hheap3 (L' := L') (by rw [← hL']; rfl)
      have hrun := run_endRound (P := X.P) jump hheap3
      rw [show ({ lto L .busy none with state := if jump.isNone then .ready else .done, pending := jump } : Loop) = L' from hL'] at hrun
      have hx := hchain.trans hg4.xm
      exact ⟨_, _, hrun, _, .bool jump.isNone, g3, _, rfl, by simp [Rel], ⟨hg4.wf, hg4.hr, hx.mono, hx.ext⟩, hK⟩
    cases e with
    | normal =>
      obtain ⟨h1, h2⟩ := hq3
      refine fin none L h1 ?_ h2
      have h3 := hL.pe
      have h4 := hL.st
      cases L
      simp only [lto] at *
      simp_all
    | ret => exact fin (some .ret) _ hq3.1 rfl hq3.2
    | exit id => exact fin (some (.exit id)) _ hq3.1 rfl hq3.2
    | goto t => exact hq3.elim
    | panic c => exact hq3.elim
    | outgrown => exact hq3.elim
  | exit id => exact hq1.elim
  | goto l => exact hq1.elim
  | ret => exact hq1.elim
  | panic c => exact hq1.elim
  | outgrown => exact hq1.elim

/-- What is asked when the function that was ranged over has returned. -/
def LoopQ (i : Nat) (L : Loop) (fr : Fr) (Q : Exit → Fr → Heap → Prop) (H : Heap) : Prop :=
  (H[i]? = some (.lp L fr) ∧ Q .normal fr (H.set i .dead)) ∨ (H[i]? = some (.lp (lto L .done (some .ret)) fr) ∧ Q .ret fr (H.set i .dead)) ∨
    ∃ id, H[i]? = some (.lp (lto L .done (some (.exit id))) fr) ∧ Q (.exit id) fr (H.set i .dead)

theorem lto_same {L : Loop} {ps : List Nat} {A B : ACode} (h : LoopIs X N ps A B L) : lto L .ready none = L := by
  have h3 := h.pe
  have h4 := h.st
  cases L
  simp only [lto] at *
  simp_all

/-- **A range over a function.** -/
theorem xa_rangeF (hrd : X.rd = none) {gx : AX} {ps : List Nat} {A B : ACode} {f : FuncId} {fs caps : List AV} {fr : Fr} {H : Heap} {Q : Exit → Fr → Heap → Prop} (hg : gx.eval X.G fr = .clo f fs caps)
    (run : ∀ L, LoopIs X N ps A B L → (∀ p ∈ ps, p < N) → EvM X f (fs ++ [.yv H.length] ++ caps) (H ++ [.lp L fr]) fun _ H' => LoopQ H.length L fr Q H') : XA X N (.rangeF gx ps A B) fr H Q := fun c hint hc n => by
  cases c <;> simp only [compile] at hc <;> try (exfalso; (repeat' split at hc) <;> simp at hc; done)
  rename_i go psa ca cb
  split at hc
  · rename_i gx' A' B' h1 h2 h3
    split at hc
    · rename_i hall
      simp only [Option.some.injEq, ACode.rangeF.injEq] at hc
      obtain ⟨rfl, rfl, rfl, rfl⟩ := hc
      have hpn : ∀ p ∈ psa.toList, p < N := fun p hp => by simpa using List.all_eq_true.1 hall p hp
      intro g w a hs
      have hgv := cx_rel hs h1
      rw [show (X.at n).G = X.G from rfl, hg] at hgv
      simp only [Rel] at hgv
      obtain ⟨us, vs, hgv, hus, hvs⟩ := hgv
      refine wpIn_rangeFunc fun fn _ => ?_
      have hro : (Fd (X.at n).rd).round = none := hrd
      rw [hro]
      obtain ⟨L, hLd⟩ : ∃ L : Loop, L = { state := .ready, pending := none, fn, tmps := a.tmps, params := psa, assign := ca, body := cb, defers := w.heap.size } := ⟨_, rfl⟩
      have hL : LoopIs X N psa.toList A' B' L := by subst hLd; exact ⟨rfl, rfl, rfl, ⟨hint, h2⟩, ⟨hint, h3⟩, hs.size⟩
      obtain ⟨hbody, hrun⟩ := run L hL hpn
      obtain ⟨w1, hw1⟩ : ∃ w1, (w.alloc (.deferred (some []))).alloc (.loop L) = w1 := ⟨_, rfl⟩
      have hheap1 : w1.heap = (w.heap.push (.deferred (some []))).push (.loop L) := by rw [← hw1]; rfl
      have hold : ∀ b, b < w.heap.size → w1.heap[b]? = w.heap[b]? := fun b hb => by
        rw [hheap1, Array.getElem?_push, if_neg (by simp; omega), Array.getElem?_push, if_neg (by omega)]
      have hD1 : w1.heap[w.heap.size]? = some (.deferred (some [])) := by
        rw [hheap1, Array.getElem?_push, if_neg (by simp)]; simp
      have hL1 : w1.heap[w.heap.size + 1]? = some (.loop L) := by
        rw [hheap1, Array.getElem?_push, if_pos (by simp)]
      have hsz : w1.heap.size = w.heap.size + 2 := by rw [hheap1]; simp
      have hfar := hs.hr.far H.length (Nat.le_refl _)
      let g1 : Gh := { g with bx := fun k => if k = H.length then some (w.heap.size + 1) else g.bx k }
      have hcell : ∀ b o, b < w.heap.size → w1.cell? ⟨b, o, none⟩ = w.cell? ⟨b, o, none⟩ := fun b o h => by simp only [World.cell?, hold b h]
      have hm : Mono g w g1 w1 := by
        refine ⟨fun b o h => ⟨h, hcell b o (hs.wf.lt_S h)⟩, fun k b hk => ?_, fun k m hk => ⟨m, hk, .inl ⟨rfl, rfl⟩⟩⟩
        have : k ≠ H.length := fun e => by rw [e, hfar.1] at hk; cases hk
        show (if k = H.length then _ else g.bx k) = _
        rw [if_neg this]; exact hk
      have hbx : ∀ k b, g1.bx k = some b → (k = H.length ∧ b = w.heap.size + 1) ∨ (k ≠ H.length ∧ g.bx k = some b) := fun k b hk => by
        change (if k = H.length then _ else g.bx k) = _ at hk
        split at hk
        · rename_i e; cases hk; exact .inl ⟨e, rfl⟩
        · rename_i e; exact .inr ⟨e, hk⟩
      have howns : ∀ b o, g1.owns b o → b = w.heap.size + 1 ∨ g.owns b o := fun b o ho => by
        rcases ho with ⟨k, hk⟩ | h
        · rcases hbx k b hk with ⟨_, h⟩ | ⟨_, h⟩
          · exact .inl h
          · exact .inr (.inl ⟨k, h⟩)
        · exact .inr (.inr h)
      have hwf1 : Wf X.G g1 w1 := by
        refine ⟨fun b o h => ?_, fun j k b hj hk => ?_, hs.wf.tinj, fun j k b lo hi hj hk => ?_, fun k b hk => ?_, fun k b lo hi hk => ?_, fun x cs hx => Rel.mono _ hm (hs.wf.laid x cs hx)⟩
        · obtain ⟨⟨vs, e, fz, h1, h2⟩, h3⟩ := hs.wf.S b o h
          have hlt := hs.wf.lt_S h
          refine ⟨⟨vs, e, fz, (hold b hlt).trans h1, h2⟩, fun ho => ?_⟩
          rcases howns b o ho with h | h
          · omega
          · exact h3 h
        · rcases hbx j b hj with ⟨e1, h1⟩ | ⟨e1, h1⟩ <;> rcases hbx k b hk with ⟨e2, h2⟩ | ⟨e2, h2⟩
          · omega
          · have := hs.wf.lt_bx h2; omega
          · have := hs.wf.lt_bx h1; omega
          · exact hs.wf.inj j k b h1 h2
        · rcases hbx j b hj with ⟨e1, h1⟩ | ⟨e1, h1⟩
          · have := hs.wf.lt_tk hk; omega
          · exact hs.wf.apart j k b lo hi h1 hk
        · rcases hbx k b hk with ⟨e1, h1⟩ | ⟨e1, h1⟩
          · subst h1
            exact ⟨by omega, fun vs e lo hi h => by rw [hL1] at h; cases h⟩
          · obtain ⟨h2, h3⟩ := hs.wf.bx k b h1
            exact ⟨by omega, fun vs e lo hi h => h3 vs e lo hi ((hold b h2).symm.trans h)⟩
        · obtain ⟨vs, e, fl, fh, h1, h2⟩ := hs.wf.tk k b lo hi hk
          exact ⟨vs, e, fl, fh, (hold b (hs.wf.lt_tk hk)).trans h1, h2⟩
      have hLt : L.tmps = a.tmps := by rw [hLd]
      have hhr1 : HR g1 w1 (H ++ [.lp L fr]) := by
        refine ⟨fun k x hx => ?_, fun k hk => ?_⟩
        · rw [List.getElem?_append] at hx
          split at hx
          · exact (hs.hr.blk k x hx).mono hm (fun b hb => hold b (hs.wf.lt_bx hb)) (fun _ h => h)
          · rename_i hk
            have hk' : k = H.length := by
              rcases Nat.lt_or_ge (k - H.length) 1 with h' | h'
              · omega
              · simp [List.getElem?_eq_none (l := [Blk.lp L fr]) (by simpa using h')] at hx
            subst hk'
            simp at hx
            subst hx
            exact ⟨w.heap.size + 1, if_pos rfl, hL1, fun t => by rw [hLt]; exact Rel.mono _ hm (hs.fr t)⟩
        · simp at hk
          obtain ⟨f1, f2, f3⟩ := hs.hr.far k (by omega)
          refine ⟨?_, f2, f3⟩
          show (if k = H.length then _ else g.bx k) = _
          rw [if_neg (by omega)]; exact f1
      have hext : Ext g w g1 w1 := by
        refine ⟨by omega, fun _ _ h => h, fun _ _ h => .inl h, fun b o hb _ => hcell b o hb, fun b hb _ => hold b hb, fun b vs e fz h => ⟨vs, (hold b (Array.getElem?_eq_some_iff.1 h).1).trans h, rfl⟩, fun b o ho => ?_, by rw [← hw1]; exact ⟨rfl, rfl⟩⟩
        rcases howns b o ho with h | h
        · exact .inl (by omega)
        · exact .inr h
      have hargs : RelL (fs ++ [.yv H.length] ++ caps) g1 w1 (us ++ [.func (.yield (w.heap.size + 1)) #[] #[]] ++ vs) := by
        refine ((RelL.mono _ hm hus).append ?_).append (RelL.mono _ hm hvs)
        simp only [RelL, Rel]
        exact ⟨_, [], rfl, ⟨w.heap.size + 1, rfl, if_pos rfl⟩, rfl⟩
      refine ⟨w.heap.size + 1, [mkD w.heap.size], w1, { target := .fn (.func f) vs.toArray, args := us.toArray ++ #[Value.func (.yield (w.heap.size + 1)) #[] #[]] }, w1, f,
        (us ++ [Value.func (.yield (w.heap.size + 1)) #[] #[]] ++ vs).toArray, w1, ?_, ?_, fun _ _ => trivial, ?_, (fun h => by simp [Fd, Fence.wide] at h), ?_⟩
      · rw [← hw1, hLd]; exact run_enterLoop_outer _ _ _ _ _
      · have hev : a.eval go = .func (.func f) us.toArray vs.toArray := hgv
        simp only [resolve, hev, Deferred.ofValue, Sem.run_pure]
        simp [Act.eval]
      · simp only [invoke]
        rw [run_enter (X := X.at n) hbody]
        congr 2
        apply Array.ext'; simp
      · refine callsIn_fd ((hrun g1 w1 _ hwf1 hhr1 hargs).mono fun e w3 ⟨v, r, g3, H3, he, hr3, hwf3, hhr3, hx3, hq⟩ => ?_)
        subst he
        have hb3 : g3.bx H.length = some (w.heap.size + 1) := hx3.mono.bx _ _ (if_pos rfl)
        have hdo : ∀ o, ¬ g1.owns w.heap.size o := fun o ho => by
          rcases howns _ o ho with h | h
          · omega
          · have := hs.wf.lt_owns h; omega
        have hD3 : w3.heap[w.heap.size]? = some (.deferred (some [])) := (hx3.ext.obj _ (by omega) hdo).trans hD1
        have finish : ∀ (L' : Loop) (e : Exit) (jump : Option Code), H3[H.length]? = some (.lp L' fr) → L'.pending = jump → L'.state ≠ .busy → Q e fr (H3.set H.length .dead) →
            (∀ a' w', Code.wpIn (Fd (X.at n).rd) 0 X.P .skip (fun e' a' w' => True) a' w' ∨ True) →
            ∃ w4, (Instr.endLoop (w.heap.size + 1)).run X.P w3 = .ok jump w4 ∧ ∃ g' fr' H', StR (X.at n) N g' w4 fr' H' { a with defers := [mkD w.heap.size] ++ a.defers } ∧ ExtM g w g' w4 ∧ Q e fr' H' := fun L' e jump hH3 hpe hst hqe _ => by
          obtain ⟨b, hb', hheap3, hfr3⟩ := hhr3.blk _ _ hH3
          rw [hb3] at hb'
          cases hb'
          have hput := put_loop (X := X) hwf3 hhr3 hH3 hb3 hheap3 (L' := { L' with state := .exhausted }) rfl
          have hrune := run_endLoop (P := X.P) hheap3 hst
          subst hpe
          have hx := (hx3.trans hput.xm)
          have hxx : ExtM g w g3 (w3.putObj (w.heap.size + 1) (.loop { L' with state := .exhausted })) := (ExtM.mk hext hm).trans hx
          refine ⟨_, hrune, g3, fr, H3.set H.length .dead, ⟨hput.wf, ⟨fun k x hk => ?_, fun k hk => hput.hr.far k (by simpa using hk)⟩, fun t => Rel.mono _ hxx.mono (hs.fr t), hs.size, ?_, Nat.le_trans hs.n0 hxx.ext.size⟩, hxx, hqe⟩
          · by_cases hkk : k = H.length
            · subst hkk
              rw [List.getElem?_set] at hk
              rw [if_pos rfl] at hk
              split at hk
              · cases hk; trivial
              · cases hk
            · refine hput.hr.blk k x ?_
              rw [List.getElem?_set_ne (Ne.symm hkk)] at hk ⊢
              exact hk
          · obtain ⟨Ds, h1, h2, h3⟩ := hs.defers.ext hxx.ext
            refine ⟨w.heap.size :: Ds, by simp [h1], List.nodup_cons.2 ⟨fun hm' => ?_, h2⟩, fun D hD => ?_⟩
            · obtain ⟨Ds', h1', _, h3'⟩ := hs.defers
              have : w.heap.size ∈ Ds' := by
                have hmap : Ds.map mkD = Ds'.map mkD := h1.symm.trans h1'
                have hinj : Ds = Ds' := by
                  have := congrArg (List.map fun d => match d.target with | .collected D => D | _ => 0) hmap
                  simpa [mkD, Function.comp_def] using this
                exact hinj ▸ hm'
              have := (Array.getElem?_eq_some_iff.1 (h3' _ this).2.1).1
              omega
            · rcases List.mem_cons.1 hD with rfl | hD
              · have hdo3 : ∀ o, ¬ g3.owns w.heap.size o := fun o ho => by
                  rcases hx3.ext.own _ o ho with h | h
                  · omega
                  · exact hdo o h
                exact ⟨hs.n0, by rw [World.putObj_heap_other (by omega)]; exact hD3, hdo3⟩
              · exact h3 D hD
        rcases hq with ⟨hH3, hqe⟩ | ⟨hH3, hqe⟩ | ⟨id, hH3, hqe⟩
        · obtain ⟨w4, h1, h2⟩ := finish L .normal none hH3 hL.pe (by rw [hL.st]; decide) hqe fun _ _ => .inr trivial
          exact ⟨none, w4, h1, h2⟩
        · obtain ⟨w4, h1, h2⟩ := finish _ .ret (some .ret) hH3 rfl (by simp [lto]) hqe fun _ _ => .inr trivial
          exact ⟨some .ret, w4, h1, wpIn_ret h2⟩
        · obtain ⟨w4, h1, h2⟩ := finish _ (.exit id) (some (.exit id)) hH3 rfl (by simp [lto]) hqe fun _ _ => .inr trivial
          exact ⟨some (.exit id), w4, h1, wpIn_exit h2⟩
    · cases hc
  · cases hc

end
end Go.Avm

/-
  Verification conditions of regions that draw their order; of ranges over functions.
-/
namespace Go.Avm
open Go

/-- Operations that leave the memory as it is. -/
def pureOp : AOp → Bool
  | .alloc _ | .box _ | .st _ _ _ | .app _ _ _ _ | .mkT _ _ _ | .mkR _ _ _ _ _ | .s2b _ _ | .call _ _ | .callv _ _ => false
  | _ => true

theorem aop_pure {G : Consts} {fr : Fr} {H : Heap} {op : AOp} {c : Bool} {v : AV} {h : Option Heap} (hp : pureOp op = true) (he : aop G fr H op = some (c, v, h)) : h = none := by
  cases op <;> first | (simp [pureOp] at hp; done) | skip
  case ld n x => cases n <;> simp only [aop] at he <;> ((repeat' split at he) <;> simp_all)
  case fld o n x => cases n <;> simp only [aop] at he <;> ((repeat' split at he) <;> simp_all)
  case idxG a b n x y => cases n <;> simp only [aop] at he <;> ((repeat' split at he) <;> simp_all)
  case sls n x a b m => cases m <;> cases b <;> simp only [aop] at he <;> ((repeat' split at he) <;> simp_all)
  case slA k n x a b m => cases m <;> simp only [aop] at he <;> ((repeat' split at he) <;> simp_all)
  case bin o x y =>
    simp only [aop, Option.map_eq_some_iff] at he
    obtain ⟨⟨a, b⟩, _, h2⟩ := he
    cases h2; rfl
  case b2s x =>
    simp only [aop] at he
    split at he
    · simp only [Option.map_eq_some_iff] at he
      obtain ⟨a, _, h2⟩ := he
      cases h2; rfl
    · cases he
  all_goals (simp only [aop] at he; (repeat' split at he) <;> simp_all)

/-- What is still to come of a region that draws its order. -/
def qk (X : Cx) (K : Fr → Heap → Prop) (H : Heap) (r : List AOper) (d : Option Nat) (fr : Fr) (v : AV) : Prop := vcOpsQ X K H r (fr.updo d v)
def qr (X : Cx) (K : Fr → Heap → Prop) (r : List AOper) (fr : Fr) (H : Heap) : Prop := vcOpsQ X K H r fr
/-- A call in such a region. -/
def CallQ (X : Cx) (f : Nat) (args : List AV) (d : Option Nat) (fr : Fr) (H : Heap) (K : Fr → Heap → Prop) : Prop := ∃ r, CallV X f args H r ∧ K (fr.updo d r) H

section
variable {X : Cx} {fr : Fr} {H : Heap} {K : Fr → Heap → Prop} (r : List AOper) (d : Option Nat)
theorem vq_nil : vcOpsQ X K H [] fr = K fr H := id rfl
theorem vq_cons (o : AOper) : vcOpsQ X K H (o :: r) fr = vcOpQ X o fr H (qk X K H r o.dst) := id rfl
theorem vq_no (op : AOp) (k : Fr → AV → Prop) : vcOpQ X ⟨d, op, none⟩ fr H k = vcDoQ X op fr H (k fr) := id rfl
theorem vq_g (op : AOp) (t : Nat) (b : Bool) (k : Fr → AV → Prop) : vcOpQ X ⟨d, op, some (t, b)⟩ fr H k = vcGQ X t b op fr H k (fr t) := id rfl
theorem vgq_t (op : AOp) (t : Nat) (e : Bool) (k : Fr → AV → Prop) : vcGQ X t true op fr H k (.bool e) = vcSplit e (vcDoQ X op (fr.updo (some t) (.bool true)) H (k (fr.updo (some t) (.bool true)))) (k (fr.updo (some t) (.bool false)) noV) := id rfl
theorem vgq_f (op : AOp) (t : Nat) (e : Bool) (k : Fr → AV → Prop) : vcGQ X t false op fr H k (.bool e) = vcSplit e (k (fr.updo (some t) (.bool true)) noV) (vcDoQ X op (fr.updo (some t) (.bool false)) H (k (fr.updo (some t) (.bool false)))) := id rfl
theorem vgq_no (op : AOp) (t : Nat) (b : Bool) (k : Fr → AV → Prop) : vcGQ X t b op fr H k noV = k fr noV := by cases b <;> rfl
theorem qk_ap (v : AV) : qk X K H r d fr v = vcOpsQ X K H r (fr.updo d v) := id rfl
theorem qr_ap : qr X K r fr H = vcOpsQ X K H r fr := id rfl
theorem vdq {op : AOp} (hc : callee X.G fr op = none) (hp : pureOp op = true) : vcDoQ X op fr H (qk X K H r d fr) = vcR d fr H (qr X K r) (aop X.G fr H op) := by
  unfold vcDoQ
  rw [hc]
  cases ha : aop X.G fr H op with
  | none => rfl
  | some y =>
    obtain ⟨c, v, h⟩ := y
    have := aop_pure hp ha
    subst this
    rfl
theorem vq_mov (x' : AX) : vcDoQ X (.mov x') fr H (qk X K H r d fr) = vcR d fr H (qr X K r) (aop X.G fr H (.mov x')) := vdq r d rfl rfl
theorem vq_pick (c' : AX) (a' : AX) (b' : AX) : vcDoQ X (.pick c' a' b') fr H (qk X K H r d fr) = vcR d fr H (qr X K r) (aop X.G fr H (.pick c' a' b')) := vdq r d rfl rfl
theorem vq_bin (op' : BinOp) (x' : AX) (y' : AX) : vcDoQ X (.bin op' x' y') fr H (qk X K H r d fr) = vcR d fr H (qr X K r) (aop X.G fr H (.bin op' x' y')) := vdq r d rfl rfl
theorem vq_beq (n' : Bool) (x' : AX) (y' : AX) : vcDoQ X (.beq n' x' y') fr H (qk X K H r d fr) = vcR d fr H (qr X K r) (aop X.G fr H (.beq n' x' y')) := vdq r d rfl rfl
theorem vq_not (x' : AX) : vcDoQ X (.not x') fr H (qk X K H r d fr) = vcR d fr H (qr X K r) (aop X.G fr H (.not x')) := vdq r d rfl rfl
theorem vq_neg (x' : AX) : vcDoQ X (.neg x') fr H (qk X K H r d fr) = vcR d fr H (qr X K r) (aop X.G fr H (.neg x')) := vdq r d rfl rfl
theorem vq_conv (k' : IntKind) (x' : AX) : vcDoQ X (.conv k' x') fr H (qk X K H r d fr) = vcR d fr H (qr X K r) (aop X.G fr H (.conv k' x')) := vdq r d rfl rfl
theorem vq_b2s (x' : AX) : vcDoQ X (.b2s x') fr H (qk X K H r d fr) = vcR d fr H (qr X K r) (aop X.G fr H (.b2s x')) := vdq r d rfl rfl
theorem vq_r2s (x' : AX) : vcDoQ X (.r2s x') fr H (qk X K H r d fr) = vcR d fr H (qr X K r) (aop X.G fr H (.r2s x')) := vdq r d rfl rfl
theorem vq_smov (x' : AX) : vcDoQ X (.smov x') fr H (qk X K H r d fr) = vcR d fr H (qr X K r) (aop X.G fr H (.smov x')) := vdq r d rfl rfl
theorem vq_len (x' : AX) : vcDoQ X (.len x') fr H (qk X K H r d fr) = vcR d fr H (qr X K r) (aop X.G fr H (.len x')) := vdq r d rfl rfl
theorem vq_lenS (x' : AX) : vcDoQ X (.lenS x') fr H (qk X K H r d fr) = vcR d fr H (qr X K r) (aop X.G fr H (.lenS x')) := vdq r d rfl rfl
theorem vq_idxA (n' : Nat) (x' : AX) (y' : AX) : vcDoQ X (.idxA n' x' y') fr H (qk X K H r d fr) = vcR d fr H (qr X K r) (aop X.G fr H (.idxA n' x' y')) := vdq r d rfl rfl
theorem vq_idxP (n' : Nat) (m' : Nat) (x' : AX) (y' : AX) : vcDoQ X (.idxP n' m' x' y') fr H (qk X K H r d fr) = vcR d fr H (qr X K r) (aop X.G fr H (.idxP n' m' x' y')) := vdq r d rfl rfl
theorem vq_ld (n' : Option Nat) (x' : AX) : vcDoQ X (.ld n' x') fr H (qk X K H r d fr) = vcR d fr H (qr X K r) (aop X.G fr H (.ld n' x')) := vdq r d rfl rfl
theorem vq_fldA (n' : Nat) (x' : AX) : vcDoQ X (.fldA n' x') fr H (qk X K H r d fr) = vcR d fr H (qr X K r) (aop X.G fr H (.fldA n' x')) := vdq r d rfl rfl
theorem vq_fld (n' : Nat) (m' : Option Nat) (x' : AX) : vcDoQ X (.fld n' m' x') fr H (qk X K H r d fr) = vcR d fr H (qr X K r) (aop X.G fr H (.fld n' m' x')) := vdq r d rfl rfl
theorem vq_idxS (x' : AX) (y' : AX) : vcDoQ X (.idxS x' y') fr H (qk X K H r d fr) = vcR d fr H (qr X K r) (aop X.G fr H (.idxS x' y')) := vdq r d rfl rfl
theorem vq_idxG (n' : Nat) (m' : Nat) (l' : Option Nat) (x' : AX) (y' : AX) : vcDoQ X (.idxG n' m' l' x' y') fr H (qk X K H r d fr) = vcR d fr H (qr X K r) (aop X.G fr H (.idxG n' m' l' x' y')) := vdq r d rfl rfl
theorem vq_ssl (x' : AX) (y' : Option AX) (z' : Option AX) : vcDoQ X (.ssl x' y' z') fr H (qk X K H r d fr) = vcR d fr H (qr X K r) (aop X.G fr H (.ssl x' y' z')) := vdq r d rfl rfl
theorem vq_sls (n' : Nat) (x' : AX) (y' : Option AX) (z' : Option AX) (u' : Option AX) : vcDoQ X (.sls n' x' y' z' u') fr H (qk X K H r d fr) = vcR d fr H (qr X K r) (aop X.G fr H (.sls n' x' y' z' u')) := vdq r d rfl rfl
theorem vq_slA (n' : Nat) (m' : Nat) (x' : AX) (y' : Option AX) (z' : Option AX) (u' : Option AX) : vcDoQ X (.slA n' m' x' y' z' u') fr H (qk X K H r d fr) = vcR d fr H (qr X K r) (aop X.G fr H (.slA n' m' x' y' z' u')) := vdq r d rfl rfl
theorem vq_build (cs' : List AV) (ps' : List (Nat × Nat × AX)) : vcDoQ X (.build cs' ps') fr H (qk X K H r d fr) = vcR d fr H (qr X K r) (aop X.G fr H (.build cs' ps')) := vdq r d rfl rfl
theorem vq_bsl (n' : Nat) (z' : AV) (m' : Nat) (ps' : List (Nat × AX)) : vcDoQ X (.bsl n' z' m' ps') fr H (qk X K H r d fr) = vcR d fr H (qr X K r) (aop X.G fr H (.bsl n' z' m' ps')) := vdq r d rfl rfl
theorem vq_extr (x' : AX) (n' : Nat) : vcDoQ X (.extr x' n') fr H (qk X K H r d fr) = vcR d fr H (qr X K r) (aop X.G fr H (.extr x' n')) := vdq r d rfl rfl
theorem vq_mkf (n' : Nat) (fs' : List AX) (cs' : List AX) : vcDoQ X (.mkf n' fs' cs') fr H (qk X K H r d fr) = vcR d fr H (qr X K r) (aop X.G fr H (.mkf n' fs' cs')) := vdq r d rfl rfl
theorem vq_mki (n' : Nat) (x' : AX) : vcDoQ X (.mki n' x') fr H (qk X K H r d fr) = vcR d fr H (qr X K r) (aop X.G fr H (.mki n' x')) := vdq r d rfl rfl
theorem vq_call (f : Nat) (as : List AX) : vcDoQ X (.call f as) fr H (qk X K H r d fr) = CallQ X f (as.map (·.eval X.G fr)) d fr H (qr X K r) := id rfl
end

section
variable {X : Cx} {N : Nat}
theorem callq_ev {f : Nat} {args : List AV} {d : Option Nat} {fr : Fr} {H : Heap} {K : Fr → Heap → Prop} {r : AV} (h : Ev X f (dryL args) r) (hK : K (fr.updo d r) H) : CallQ X f args d fr H K :=
  ⟨r, callV_of_ev h, hK⟩

theorem callq_lend {f : Nat} {args : List AV} {d : Option Nat} {fr : Fr} {H : Heap} {K : Fr → Heap → Prop} {r : AV} (h : Ev X f (lendL H args) r) (hr : flatR r = true) (hK : K (fr.updo d r) H) : CallQ X f args d fr H K :=
  ⟨r, callV_lend h hr, hK⟩

/-- A call that may write our memory. -/
theorem call_evm {f : Nat} {args : List AV} {d : Option Nat} {fr : Fr} {H : Heap} {K : Fr → Heap → Prop} {Q : AV → Heap → Prop} (h : EvM X f args H Q) (hK : ∀ r H', Q r H' → K (fr.updo d r) H') : CallOk X f args d fr H K :=
  ⟨h.1, fun g w vs h1 h2 h3 => (h.2 g w vs h1 h2 h3).mono fun _ _ ⟨v, r, g', H', k1, k2, k3, k4, k5, k6⟩ => ⟨v, r, g', H', k1, k2, ⟨k3, k4, k5.mono, k5.ext⟩, hK _ _ k6⟩⟩

/-- A value may be looked at as one of which less is said. -/
theorem ev_weak {f : Nat} {args : List AV} {r r' : AV} (h : Ev X f args r) (hw : ∀ g w v, Rel r g w v → Rel r' g w v) : Ev X f args r' :=
  ⟨h.1, fun g w vs h1 h2 h3 => (h.2 g w vs h1 h2 h3).mono fun _ _ ⟨v, r0, g', H', k1, k2, k3, k4, k5, k6, k7⟩ => ⟨v, r', g', H', k1, hw _ _ _ (k6 ▸ k2), k3, k4, k5, rfl, k7⟩⟩

theorem rel_ro {g : Gh} {w : World} {p : Perm} {es : List AV} {v : Value} (h : Rel (.sl p es) g w v) : Rel (.sl .ro es) g w v := by
  simp only [Rel] at h ⊢
  obtain ⟨a, cap, vs, sz, h1, h2, h3, h4, _⟩ := h
  exact ⟨a, cap, vs, sz, h1, h2, h3, h4, trivial⟩

theorem in_G (l : Nat) : (X.in l).G = X.G := rfl
theorem in_P (l : Nat) : (X.in l).P = X.P := rfl
theorem ev_in {l : Nat} {f : Nat} {args : List AV} {r : AV} (h : Ev X f args r) : Ev (X.in l) f args r := h

/-- A range over a function whose body is known. -/
theorem w_rangeF (hs : Std X) {gx : AX} {ps : List Nat} {A B : ACode} {f : FuncId} {fs caps : List AV} {fr : Fr} {H : Heap} {Q : Exit → Fr → Heap → Prop} {hint : Nat → Bool} {af : AFun} (hg : gx.eval X.G fr = .clo f fs caps) (hc : compileFun X.P f hint = some af)
    (run : ∀ L, LoopIs X N ps A B L → (∀ p ∈ ps, p < N) → wpc X af.n af.code (kq X af.n (RetIs af.res fun _ H' => LoopQ H.length L fr Q H') []) (FL.get ((fs ++ [AV.yv H.length] ++ caps).zipIdx.map fun p => (p.2, p.1))) (H ++ [.lp L fr])) :
    wpc X N (.rangeF gx ps A B) Q fr H :=
  xa_rangeF hs.hrd hg fun L hL hp => evM_of_wpc hs hc (run L hL hp)

/-- A round. -/
theorem w_round (hm : X.P.follows .mixedOrders = true) {ps : List Nat} {A B : ACode} {L : Loop} (hL : LoopIs X N ps A B L) (hps : ∀ p ∈ ps, p < N) {i : Nat} {args : List AV} {dst : Option Nat} {fr frc : Fr} {H : Heap} {K : Fr → Heap → Prop}
    (hH : H[i]? = some (.lp L frc)) (hlen : args.length = ps.length)
    (round : ∀ l, wpc (X.in l) N A (AThen (fun fr1 H1 => H1[i]? = some (.lp L frc) ∧ wpc (X.in l) N B (kq (X.in l) N (RoundQ i L frc dst fr K) []) fr1 (H1.set i (.lp (lto L .busy none) frc))) fun _ _ _ => False) (setPs frc ps args) H) : YieldOk X i args dst fr H K :=
  yield_ok hL hps hH hlen fun l => xa_mono (xa_of_wpc (X := X.in l) hm _ (round l)) fun e fr1 H1 hq => by
    cases e with
    | normal => exact ⟨hq.1, xa_of_wpc (X := X.in l) hm _ hq.2⟩
    | _ => exact hq
end
end Go.Avm

/-
  Numbers.
-/
namespace Go.Avm
open Go

theorem w_i64 (n : Int) : IntKind.i64.wrap n = if 9223372036854775808 ≤ n % 18446744073709551616 then n % 18446744073709551616 - 18446744073709551616 else n % 18446744073709551616 := by
  simp [IntKind.wrap, IntKind.bits, IntKind.signed]
theorem w_i32 (n : Int) : IntKind.i32.wrap n = if 2147483648 ≤ n % 4294967296 then n % 4294967296 - 4294967296 else n % 4294967296 := by
  simp [IntKind.wrap, IntKind.bits, IntKind.signed]
theorem w_i8 (n : Int) : IntKind.i8.wrap n = if 128 ≤ n % 256 then n % 256 - 256 else n % 256 := by
  simp [IntKind.wrap, IntKind.bits, IntKind.signed]
theorem w_u8 (n : Int) : IntKind.u8.wrap n = n % 256 := by simp [IntKind.wrap, IntKind.bits, IntKind.signed]
theorem w_u32 (n : Int) : IntKind.u32.wrap n = n % 4294967296 := by simp [IntKind.wrap, IntKind.bits, IntKind.signed]
theorem w_u64 (n : Int) : IntKind.u64.wrap n = n % 18446744073709551616 := by simp [IntKind.wrap, IntKind.bits, IntKind.signed]
theorem wi64 {n : Int} (h : -9223372036854775808 ≤ n ∧ n < 9223372036854775808) : IntKind.i64.wrap n = n := by rw [w_i64]; split <;> omega
theorem wi32 {n : Int} (h : -2147483648 ≤ n ∧ n < 2147483648) : IntKind.i32.wrap n = n := by rw [w_i32]; split <;> omega
theorem wu8 {n : Int} (h : 0 ≤ n ∧ n < 256) : IntKind.u8.wrap n = n := by rw [w_u8]; omega
theorem wu32 {n : Int} (h : 0 ≤ n ∧ n < 4294967296) : IntKind.u32.wrap n = n := by rw [w_u32]; omega
theorem wu64 {n : Int} (h : 0 ≤ n ∧ n < 18446744073709551616) : IntKind.u64.wrap n = n := by rw [w_u64]; omega
theorem wraps_i64 (n : Int) (h₀ : 0 ≤ n) (h₁ : n < 2 ^ 63) : IntKind.i64.wrap n = n := wi64 (by omega)
theorem i64_mask (i : Nat) (hi : i ≤ 63) {x : Int} (h₀ : 0 ≤ x) (h₁ : x < 2 ^ 63) : bits .and .i64 x (2 ^ i - 1) = x % 2 ^ i := bits_mask .i64 63 (by decide) wraps_i64 i hi x h₀ h₁
theorem i64_and63 {x : Int} (h₀ : 0 ≤ x) (h₁ : x < 9223372036854775808) : bits .and .i64 x 63 = x % 64 := i64_mask 6 (by decide) h₀ h₁
theorem i64_or128 {y : Int} (h₀ : 0 ≤ y) (h₁ : y < 64) : bits .or .i64 128 y = 128 + y := bits_join .i64 63 (by decide) wraps_i64 6 128 y (by decide) (by decide) (by decide) h₀ h₁ (by omega)
theorem i64_or192 {y : Int} (h₀ : 0 ≤ y) (h₁ : y < 64) : bits .or .i64 192 y = 192 + y := bits_join .i64 63 (by decide) wraps_i64 6 192 y (by decide) (by decide) (by decide) h₀ h₁ (by omega)
theorem i64_or224 {y : Int} (h₀ : 0 ≤ y) (h₁ : y < 32) : bits .or .i64 224 y = 224 + y := bits_join .i64 63 (by decide) wraps_i64 5 224 y (by decide) (by decide) (by decide) h₀ h₁ (by omega)
theorem i64_or240 {y : Int} (h₀ : 0 ≤ y) (h₁ : y < 16) : bits .or .i64 240 y = 240 + y := bits_join .i64 63 (by decide) wraps_i64 4 240 y (by decide) (by decide) (by decide) h₀ h₁ (by omega)
theorem shr_i64 (n : Int) (k : Nat) (hk : k ≤ 64) : n.fdiv (2 ^ min k IntKind.i64.bits) = n / 2 ^ k := by
  rw [Nat.min_eq_left (by simpa [IntKind.bits] using hk), Int.fdiv_eq_ediv_of_nonneg _ (Int.pow_nonneg (by decide))]
end Go.Avm
