/- The abstract values of our program logic, what a value of the model they stand for (Rel), the ghost of a state, and the frame condition. -/
import Derived.Calls
import Derived.Orders
import Derived.Still
import Derived.Laws.World
import Derived.Tactics
import Derived.TacticsIn
import Derived.OrdersIn
import Derived.RangeFuncRecord
import Derived.WalkKit
set_option linter.all false
/-
  The abstract values of our program logic, what a value of the model they stand for (Rel), the ghost of a state, and the frame condition.
-/
namespace Go.Avm
open Go

/-- What may be done with the places behind a slice's end. -/
inductive Perm where
  | ro
  | ex
  | tok (i sz : Nat)
  deriving DecidableEq, Repr, Inhabited

inductive AV where
  | undef
  | bool (b : Bool)
  | int (k : IntKind) (n : Int)
  | str (l : List UInt8)
  | sl (p : Perm) (es : List AV)
  | rsl (id off n cap sz : Nat)
  | nilP
  | vp (cs : List AV)
  | ptr (id off : Nat)
  | agg (cs : List AV)
  | tuple (vs : List AV)
  | clo (f : Nat) (first caps : List AV)
  | nilF
  | ifc (t : Nat) (v : AV)
  | nilI
  | grd (c : Bool) (v : AV)
  | yv (i : Nat)
  | mp (i : Nat)
  deriving Repr, Inhabited

def AV.cells : AV → List AV
  | .agg cs => cs
  | v => [v]

/-- The ghost: the cells that will not change (S); boxes' blocks (bx); of each token how long its slice is (tl), and which cells behind it may be written (tk). -/
structure Gh where
  S : Nat → Nat → Prop
  bx : Nat → Option Nat
  tl : Nat → Option Nat
  tk : Nat → Option (Nat × Nat × Nat)

def Gh.flat (g : Gh) : Gh := { g with bx := fun _ => none, tl := fun _ => none, tk := fun _ => none }

def Gh.owns (g : Gh) (b o : Nat) : Prop := (∃ i, g.bx i = some b) ∨ ∃ i lo hi, g.tk i = some (b, lo, hi) ∧ lo ≤ o

def Lies (g : Gh) (w : World) (a : Option Addr) (sz : Nat) (vs : List Value) : Prop :=
  vs = [] ∨ ∃ b o, a = some ⟨b, o, none⟩ ∧ ∀ i x, vs[i]? = some x → x.cells.size = sz ∧ ∀ j c, x.cells[j]? = some c →
    g.S b (o + i * sz + j) ∧ w.cell? ⟨b, o + i * sz + j, none⟩ = some c

def PermOk (g : Gh) (p : Perm) (a : Option Addr) (len cap sz : Nat) : Prop :=
  match p with
  | .ro => True
  | .ex => cap = len
  | .tok i s => s = sz ∧ ∃ n, g.tl i = some n ∧ len ≤ n ∧ (len = n → (cap = len ∧ len = 0) ∨ ∃ b o hi, a = some ⟨b, o, none⟩ ∧ g.tk i = some (b, o + len * sz, hi) ∧ o + cap * sz ≤ hi)

mutual
def Rel : AV → Gh → World → Value → Prop
  | .undef, _, _, _ => True
  | .bool b, _, _, v => v = .bool b
  | .int k n, _, _, v => v = .int k n
  | .str l, _, _, v => ∃ s : ByteArray, v = .string s ∧ s.data.toList = l
  | .sl p es, g, w, v => ∃ a cap vs sz, v = .slice a es.length cap ∧ es.length ≤ cap ∧ RelL es g.flat w vs ∧ Lies g w a sz vs ∧ PermOk g p a es.length cap sz
  | .rsl i off n cap _, g, _, v => ∃ a b, v = .slice a n cap ∧ g.bx i = some b ∧ n ≤ cap ∧ (cap = 0 ∨ a = some ⟨b, off, none⟩)
  | .nilP, _, _, v => v = .pointer none
  | .vp cs, g, w, v => ∃ b o vs, v = .pointer (some ⟨b, o, none⟩) ∧ RelL cs g.flat w vs ∧ ∀ i x, vs[i]? = some x → g.S b (o + i) ∧ w.cell? ⟨b, o + i, none⟩ = some x
  | .ptr i off, g, _, v => ∃ b, v = .pointer (some ⟨b, off, none⟩) ∧ g.bx i = some b
  | .agg cs, g, w, v => ∃ vs : List Value, v = .agg vs.toArray ∧ RelL cs g w vs
  | .tuple cs, g, w, v => ∃ vs : List Value, v = .tuple vs.toArray ∧ RelL cs g w vs
  | .clo f fs cs, g, w, v => ∃ us vs : List Value, v = .func (.func f) us.toArray vs.toArray ∧ RelL fs g w us ∧ RelL cs g w vs
  | .nilF, _, _, v => v = .nilFunc
  | .ifc t x, g, w, v => ∃ u, v = .iface t u ∧ Rel x g w u
  | .nilI, _, _, v => v = .nilIface
  | .yv i, g, _, v => ∃ l, v = .func (.yield l) #[] #[] ∧ g.bx i = some l
  | .mp i, g, _, v => ∃ b, v = .map (some b) ∧ g.bx i = some b
  | .grd c x, g, w, v => (c = true → Rel x g w v) ∧ (c = false → v = Go.undef)
def RelL : List AV → Gh → World → List Value → Prop
  | [], _, _, vs => vs = []
  | a :: as, g, w, vs => ∃ v rest, vs = v :: rest ∧ Rel a g w v ∧ RelL as g w rest
end

/-- What keeps every relation: stable cells stay, boxes stay, tokens stay or grow. -/
structure Mono (g : Gh) (w : World) (g' : Gh) (w' : World) : Prop where
  stable : ∀ b o, g.S b o → g'.S b o ∧ w'.cell? ⟨b, o, none⟩ = w.cell? ⟨b, o, none⟩
  bx : ∀ i b, g.bx i = some b → g'.bx i = some b
  tl : ∀ i n, g.tl i = some n → ∃ n', g'.tl i = some n' ∧ ((n' = n ∧ g'.tk i = g.tk i) ∨ n < n')

theorem Mono.flat {g g' : Gh} {w w' : World} (h : Mono g w g' w') : Mono g.flat w g'.flat w' :=
  ⟨h.stable, (fun _ _ e => nomatch e), (fun _ _ e => nomatch e)⟩

theorem Mono.refl (g : Gh) (w : World) : Mono g w g w := ⟨fun _ _ h => ⟨h, rfl⟩, fun _ _ h => h, fun _ n h => ⟨n, h, .inl ⟨rfl, rfl⟩⟩⟩

theorem Mono.trans {g g' g'' : Gh} {w w' w'' : World} (h : Mono g w g' w') (h' : Mono g' w' g'' w'') : Mono g w g'' w'' where
  stable b o hs := ⟨(h'.stable b o (h.stable b o hs).1).1, ((h'.stable b o (h.stable b o hs).1).2).trans (h.stable b o hs).2⟩
  bx i b hb := h'.bx i b (h.bx i b hb)
  tl i n hn := by
    obtain ⟨n', hn', h1⟩ := h.tl i n hn
    obtain ⟨n'', hn'', h2⟩ := h'.tl i n' hn'
    refine ⟨n'', hn'', ?_⟩
    rcases h1 with ⟨e1, t1⟩ | l1 <;> rcases h2 with ⟨e2, t2⟩ | l2
    · exact .inl ⟨e2.trans e1, t2.trans t1⟩
    · exact .inr (by omega)
    · exact .inr (by omega)
    · exact .inr (by omega)

theorem Lies.mono {g g' : Gh} {w w' : World} (h : Mono g w g' w') {a : Option Addr} {sz : Nat} {vs : List Value} (hl : Lies g w a sz vs) : Lies g' w' a sz vs := by
  rcases hl with hl | ⟨b, o, ha, hc⟩
  · exact .inl hl
  · exact .inr ⟨b, o, ha, fun i x hx => ⟨(hc i x hx).1, fun j c hj => ⟨(h.stable _ _ ((hc i x hx).2 j c hj).1).1, ((h.stable _ _ ((hc i x hx).2 j c hj).1).2).trans ((hc i x hx).2 j c hj).2⟩⟩⟩

theorem PermOk.mono {g g' : Gh} {w w' : World} (h : Mono g w g' w') {p : Perm} {a : Option Addr} {len cap sz : Nat} (hp : PermOk g p a len cap sz) : PermOk g' p a len cap sz := by
  cases p with
  | ro => trivial
  | ex => exact hp
  | tok i s =>
    obtain ⟨hs, n, hn, hle, hc⟩ := hp
    obtain ⟨n', hn', h1⟩ := h.tl i n hn
    refine ⟨hs, n', hn', ?_, fun e => ?_⟩
    · rcases h1 with ⟨e1, _⟩ | l <;> omega
    · rcases h1 with ⟨e1, t1⟩ | l
      · rw [t1]; exact hc (by omega)
      · omega

mutual
theorem Rel.mono : ∀ (x : AV) {g g' : Gh} {w w' : World} {v : Value}, Mono g w g' w' → Rel x g w v → Rel x g' w' v
  | .undef, _, _, _, _, _, _, _ => by simp only [Rel]
  | .bool _, _, _, _, _, _, _, h => by simpa only [Rel] using h
  | .int _ _, _, _, _, _, _, _, h => by simpa only [Rel] using h
  | .str _, _, _, _, _, _, _, h => by simpa only [Rel] using h
  | .sl p es, g, g', w, w', v, m, h => by
    simp only [Rel] at h ⊢
    obtain ⟨a, cap, vs, sz, h1, h2, h3, h4, h5⟩ := h
    exact ⟨a, cap, vs, sz, h1, h2, RelL.mono es m.flat h3, h4.mono m, h5.mono m⟩
  | .rsl i off n cap sz, g, g', w, w', v, m, h => by
    simp only [Rel] at h ⊢
    obtain ⟨a, b, h1, h2, h3, h4⟩ := h
    exact ⟨a, b, h1, m.bx _ _ h2, h3, h4⟩
  | .nilP, _, _, _, _, _, _, h => by simpa only [Rel] using h
  | .vp cs, g, g', w, w', v, m, h => by
    simp only [Rel] at h ⊢
    obtain ⟨b, o, vs, h1, h2, h3⟩ := h
    exact ⟨b, o, vs, h1, RelL.mono cs m.flat h2, fun i x hx => ⟨(m.stable _ _ (h3 i x hx).1).1, ((m.stable _ _ (h3 i x hx).1).2).trans (h3 i x hx).2⟩⟩
  | .ptr i off, g, g', w, w', v, m, h => by
    simp only [Rel] at h ⊢
    obtain ⟨b, h1, h2⟩ := h
    exact ⟨b, h1, m.bx _ _ h2⟩
  | .agg cs, g, g', w, w', v, m, h => by
    simp only [Rel] at h ⊢
    obtain ⟨vs, h1, h2⟩ := h
    exact ⟨vs, h1, RelL.mono cs m h2⟩
  | .tuple cs, g, g', w, w', v, m, h => by
    simp only [Rel] at h ⊢
    obtain ⟨vs, h1, h2⟩ := h
    exact ⟨vs, h1, RelL.mono cs m h2⟩
  | .clo f fs cs, g, g', w, w', v, m, h => by
    simp only [Rel] at h ⊢
    obtain ⟨us, vs, h1, h2, h3⟩ := h
    exact ⟨us, vs, h1, RelL.mono fs m h2, RelL.mono cs m h3⟩
  | .nilF, _, _, _, _, _, _, h => by simpa only [Rel] using h
  | .ifc t x, g, g', w, w', v, m, h => by
    simp only [Rel] at h ⊢
    obtain ⟨u, h1, h2⟩ := h
    exact ⟨u, h1, Rel.mono x m h2⟩
  | .nilI, _, _, _, _, _, _, h => by simpa only [Rel] using h
  | .yv i, g, g', w, w', v, m, h => by
    simp only [Rel] at h ⊢
    obtain ⟨l, h1, h2⟩ := h
    exact ⟨l, h1, m.bx _ _ h2⟩
  | .mp i, g, g', w, w', v, m, h => by
    simp only [Rel] at h ⊢
    obtain ⟨l, h1, h2⟩ := h
    exact ⟨l, h1, m.bx _ _ h2⟩
  | .grd c x, g, g', w, w', v, m, h => by
    simp only [Rel] at h ⊢
    exact ⟨fun hc => Rel.mono x m (h.1 hc), h.2⟩
theorem RelL.mono : ∀ (xs : List AV) {g g' : Gh} {w w' : World} {vs : List Value}, Mono g w g' w' → RelL xs g w vs → RelL xs g' w' vs
  | [], _, _, _, _, _, _, h => by simpa only [RelL] using h
  | x :: xs, g, g', w, w', vs, m, h => by
    simp only [RelL] at h ⊢
    obtain ⟨v, rest, h1, h2, h3⟩ := h
    exact ⟨v, rest, h1, Rel.mono x m h2, RelL.mono xs m h3⟩
end

theorem RelL.length : ∀ {xs : List AV} {g : Gh} {w : World} {vs : List Value}, RelL xs g w vs → vs.length = xs.length
  | [], _, _, _, h => by simp only [RelL] at h; subst h; rfl
  | x :: xs, g, w, vs, h => by
    simp only [RelL] at h
    obtain ⟨v, rest, rfl, _, h3⟩ := h
    simp [RelL.length h3]

theorem RelL.get : ∀ {xs : List AV} {g : Gh} {w : World} {vs : List Value} (i : Nat) {v : Value}, RelL xs g w vs → vs[i]? = some v → ∃ x, xs[i]? = some x ∧ Rel x g w v
  | [], _, _, _, i, v, h, hv => by simp only [RelL] at h; subst h; simp at hv
  | x :: xs, g, w, vs, i, v, h, hv => by
    simp only [RelL] at h
    obtain ⟨u, rest, rfl, h2, h3⟩ := h
    cases i with
    | zero => simp at hv; subst hv; exact ⟨x, rfl, h2⟩
    | succ i => simpa using RelL.get i h3 (by simpa using hv)

theorem RelL.get' {xs : List AV} {g : Gh} {w : World} {vs : List Value} (i : Nat) {x : AV} (h : RelL xs g w vs) (hx : xs[i]? = some x) : ∃ v, vs[i]? = some v ∧ Rel x g w v := by
  have hi : i < xs.length := by
    rcases Nat.lt_or_ge i xs.length with h' | h'
    · exact h'
    · simp [List.getElem?_eq_none h'] at hx
  have hi' : i < vs.length := by rw [h.length]; exact hi
  obtain ⟨x', hx', hr⟩ := h.get i (v := vs[i]) (by simp [hi'])
  rw [hx] at hx'
  cases hx'
  exact ⟨vs[i], by simp [hi'], hr⟩

theorem RelL.of_get : ∀ {xs : List AV} {g : Gh} {w : World} {vs : List Value}, vs.length = xs.length → (∀ (i : Nat) x v, xs[i]? = some x → vs[i]? = some v → Rel x g w v) → RelL xs g w vs
  | [], _, _, vs, hl, _ => by simp only [RelL]; exact List.length_eq_zero_iff.1 hl
  | x :: xs, g, w, [], hl, _ => by simp at hl
  | x :: xs, g, w, v :: vs, hl, h => by
    simp only [RelL]
    exact ⟨v, vs, rfl, h 0 x v rfl rfl, RelL.of_get (by simpa using hl) fun i a b ha hb => h (i + 1) a b (by simpa using ha) (by simpa using hb)⟩

theorem RelL.append {xs ys : List AV} {g : Gh} {w : World} {vs us : List Value} (h : RelL xs g w vs) (h' : RelL ys g w us) : RelL (xs ++ ys) g w (vs ++ us) := by
  refine RelL.of_get (by simp [h.length, h'.length]) fun i x v hx hv => ?_
  rw [List.getElem?_append] at hx hv
  rw [h.length] at hv
  split at hx
  · rename_i hi
    rw [if_pos hi] at hv
    obtain ⟨u, hu, hr⟩ := h.get' i hx
    rw [hv] at hu; cases hu; exact hr
  · rename_i hi
    rw [if_neg hi] at hv
    obtain ⟨u, hu, hr⟩ := h'.get' _ hx
    rw [hv] at hu; cases hu; exact hr

theorem RelL.take {xs : List AV} {g : Gh} {w : World} {vs : List Value} (n : Nat) (h : RelL xs g w vs) : RelL (xs.take n) g w (vs.take n) := by
  refine RelL.of_get (by simp [h.length]) fun i x v hx hv => ?_
  rw [List.getElem?_take] at hx hv
  split at hx
  · rename_i hi
    rw [if_pos hi] at hv
    obtain ⟨u, hu, hr⟩ := h.get' i hx
    rw [hv] at hu; cases hu; exact hr
  · cases hx

theorem RelL.drop {xs : List AV} {g : Gh} {w : World} {vs : List Value} (n : Nat) (h : RelL xs g w vs) : RelL (xs.drop n) g w (vs.drop n) := by
  refine RelL.of_get (by simp [h.length]) fun i x v hx hv => ?_
  rw [List.getElem?_drop] at hx hv
  obtain ⟨u, hu, hr⟩ := h.get' _ hx
  rw [hv] at hu; cases hu; exact hr

theorem RelL.set {xs : List AV} {g : Gh} {w : World} {vs : List Value} (n : Nat) {x : AV} {v : Value} (h : RelL xs g w vs) (hr : Rel x g w v) : RelL (xs.set n x) g w (vs.set n v) := by
  refine RelL.of_get (by simp [h.length]) fun i y u hy hu => ?_
  rw [List.getElem?_set] at hy hu
  split at hy
  · rename_i hi
    rw [if_pos hi] at hu
    split at hy
    · split at hu
      · cases hy; cases hu; exact hr
      · cases hu
    · cases hy
  · rename_i hi
    rw [if_neg hi] at hu
    obtain ⟨u', hu', hr'⟩ := h.get' i hy
    rw [hu] at hu'; cases hu'; exact hr'

/-- The frame condition of a stretch of the run. -/
structure Ext (g : Gh) (w : World) (g' : Gh) (w' : World) : Prop where
  size : w.heap.size ≤ w'.heap.size
  S : ∀ b o, g.S b o → g'.S b o
  S' : ∀ b o, g'.S b o → g.S b o ∨ w.heap.size ≤ b ∨ g.owns b o
  cell : ∀ b o, b < w.heap.size → ¬ g.owns b o → w'.cell? ⟨b, o, none⟩ = w.cell? ⟨b, o, none⟩
  obj : ∀ b : Nat, b < w.heap.size → (∀ o, ¬ g.owns b o) → w'.heap[b]? = w.heap[b]?
  shape : ∀ (b : Nat) (vs : Array Value) e fz, w.heap[b]? = some (Obj.cells vs e fz) → ∃ (vs' : Array Value) (fz' : Nat × Nat), w'.heap[b]? = some (Obj.cells vs' e fz') ∧ vs'.size = vs.size ∧ (fz' = fz ∨ ∃ o, g.owns b o)
  own : ∀ b o, g'.owns b o → w.heap.size ≤ b ∨ g.owns b o
  io : w'.os = w.os ∧ w'.output = w.output

theorem Ext.refl (g : Gh) (w : World) : Ext g w g w :=
  ⟨Nat.le_refl _, fun _ _ h => h, fun _ _ h => .inl h, fun _ _ _ _ => rfl, fun _ _ _ => rfl, fun _ vs _ fz h => ⟨vs, fz, h, rfl, .inl rfl⟩, fun _ _ h => .inr h, rfl, rfl⟩

theorem Ext.trans {g g' g'' : Gh} {w w' w'' : World} (h : Ext g w g' w') (h' : Ext g' w' g'' w'') : Ext g w g'' w'' where
  size := Nat.le_trans h.size h'.size
  S b o hs := h'.S b o (h.S b o hs)
  S' b o hs := by
    rcases h'.S' b o hs with h1 | h1 | h1
    · exact h.S' b o h1
    · exact .inr (.inl (Nat.le_trans h.size h1))
    · exact .inr (h.own b o h1)
  cell b o hb hn := by
    refine (h'.cell b o (Nat.lt_of_lt_of_le hb h.size) fun hx => ?_).trans (h.cell b o hb hn)
    rcases h.own b o hx with h1 | h1
    · omega
    · exact hn h1
  obj b hb hn := by
    refine (h'.obj b (Nat.lt_of_lt_of_le hb h.size) fun o hx => ?_).trans (h.obj b hb hn)
    rcases h.own b o hx with h1 | h1
    · omega
    · exact hn o h1
  shape b vs e fz hv := by
    obtain ⟨vs', fz', h1, h2, h5⟩ := h.shape b vs e fz hv
    obtain ⟨vs'', fz'', h3, h4, h6⟩ := h'.shape b vs' e fz' h1
    refine ⟨vs'', fz'', h3, h4.trans h2, ?_⟩
    rcases h6 with rfl | ⟨o, ho⟩
    · exact h5
    · rcases h.own b o ho with h7 | h7
      · have := (Array.getElem?_eq_some_iff.1 hv).1; omega
      · exact .inr ⟨o, h7⟩
  own b o hx := by
    rcases h'.own b o hx with h1 | h1
    · exact .inl (Nat.le_trans h.size h1)
    · exact h.own b o h1
  io := ⟨h'.io.1.trans h.io.1, h'.io.2.trans h.io.2⟩

structure ExtM (g : Gh) (w : World) (g' : Gh) (w' : World) : Prop where
  ext : Ext g w g' w'
  mono : Mono g w g' w'

theorem ExtM.refl (g : Gh) (w : World) : ExtM g w g w := ⟨Ext.refl g w, Mono.refl g w⟩
theorem ExtM.trans {g g' g'' : Gh} {w w' w'' : World} (h : ExtM g w g' w') (h' : ExtM g' w' g'' w'') : ExtM g w g'' w'' := ⟨h.ext.trans h'.ext, h.mono.trans h'.mono⟩

/-- Abstract blocks. -/
inductive Blk where
  | box (cs : List AV)
  | tok (n : Nat)
  | lp (L : Loop) (fr : Nat → AV)
  | df
  | dead
  | bld (T e : Nat) (l : List UInt8)
  | sit (l : List UInt8) (p : Nat)
  | mpb (ks : List (List UInt8))
  deriving Inhabited

abbrev Heap := List Blk

/-- The constants that are laid: of a global variable the cells, if they are known. -/
abbrev Consts := Nat → Option (List AV)

structure Wf (G : Consts) (g : Gh) (w : World) : Prop where
  S : ∀ b o, g.S b o → (∃ (vs : Array Value) (e : TypeId) (fz : Nat × Nat), w.heap[b]? = some (Obj.cells vs e fz) ∧ o < vs.size) ∧ ¬ g.owns b o
  inj : ∀ i j b, g.bx i = some b → g.bx j = some b → i = j
  tinj : ∀ i j b lo hi lo' hi', g.tk i = some (b, lo, hi) → g.tk j = some (b, lo', hi') → i = j
  apart : ∀ i j b lo hi, g.bx i = some b → g.tk j ≠ some (b, lo, hi)
  bx : ∀ i b, g.bx i = some b → b < w.heap.size ∧ ∀ (vs : Array Value) (e : TypeId) (lo hi : Nat), w.heap[b]? = some (Obj.cells vs e (lo, hi)) → ∀ o, o < vs.size → ¬ (lo ≤ o ∧ o < hi)
  tk : ∀ i b lo hi, g.tk i = some (b, lo, hi) → ∃ (vs : Array Value) (e : TypeId) (fl fh : Nat), w.heap[b]? = some (Obj.cells vs e (fl, fh)) ∧ hi ≤ vs.size ∧ ∀ o, lo ≤ o → o < vs.size → ¬ (fl ≤ o ∧ o < fh)
  laid : ∀ x cs, G x = some cs → Rel (.vp cs) g w (.pointer (some ⟨x, 0, none⟩))
  ex : ∀ x cs, G x = some cs → ∃ (vs : Array Value) (e : TypeId) (fz : Nat × Nat), w.heap[x]? = some (Obj.cells vs e fz) ∧ vs.size = cs.length

/-- Blocks keep their sizes. -/
theorem ex_shape {G : Consts} {w w' : World} (h : ∀ x cs, G x = some cs → ∃ (vs : Array Value) (e : TypeId) (fz : Nat × Nat), w.heap[x]? = some (Obj.cells vs e fz) ∧ vs.size = cs.length)
    (hs : ∀ (b : Nat) (vs : Array Value) e fz, w.heap[b]? = some (Obj.cells vs e fz) → ∃ (vs' : Array Value) (fz' : Nat × Nat), w'.heap[b]? = some (Obj.cells vs' e fz') ∧ vs'.size = vs.size) :
    ∀ x cs, G x = some cs → ∃ (vs : Array Value) (e : TypeId) (fz : Nat × Nat), w'.heap[x]? = some (Obj.cells vs e fz) ∧ vs.size = cs.length := fun x cs hx => by
  obtain ⟨vs, e, fz, h1, h2⟩ := h x cs hx
  obtain ⟨vs', fz', h3, h4⟩ := hs x vs e fz h1
  exact ⟨vs', e, fz', h3, h4.trans h2⟩

/-- A builder's buffer: no row yet, or a row of its own. -/
def BufOk (w : World) (e : TypeId) (l : List UInt8) (v : Value) : Prop :=
  (v = .slice none 0 0 ∧ l = []) ∨ ∃ (g0 cap : Nat) (cur : Array Value) (fz : Nat × Nat), v = .slice (some ⟨g0, 0, none⟩) l.length cap ∧ w.heap[g0]? = some (Obj.cells cur e fz) ∧ fz.2 ≤ l.length ∧ l.length ≤ cap ∧ cap ≤ 9223372036854775807 ∧ cur.size = cap ∧
    cur.toList.take l.length = l.map fun b => Value.int .u8 b.toNat
/-- The row in which a slice lies. -/
def bufBlk : Value → Option Nat
  | .slice (some a) _ _ => some a.block
  | _ => none
theorem BufOk.keep {w w' : World} {e : TypeId} {l : List UInt8} {v : Value} (h : BufOk w e l v) (hk : ∀ g0, bufBlk v = some g0 → w'.heap[g0]? = w.heap[g0]?) : BufOk w' e l v := by
  rcases h with h | ⟨g0, cap, cur, fz, hv, hg, r⟩
  · exact .inl h
  · exact .inr ⟨g0, cap, cur, fz, hv, (hk g0 (by rw [hv]; rfl)).trans hg, r⟩

/-- A map's entries: strings, each with true. -/
def KeysAre (es : Array MapEntry) (ks : List (List UInt8)) : Prop := ∃ ss : List ByteArray, ss.map (fun s => s.data.toList) = ks ∧ es.toList.map (fun e => (e.key, e.val)) = ss.map fun s => (Value.string s, Value.bool true)

def BlkOk (g : Gh) (w : World) (i : Nat) : Blk → Prop
  | .box cs => ∃ (b : Nat) (vs : Array Value) (e : TypeId) (fz : Nat × Nat), g.bx i = some b ∧ w.heap[b]? = some (Obj.cells vs e fz) ∧ RelL cs g w vs.toList
  | .tok n => g.tl i = some n
  | .lp L fr => ∃ b, g.bx i = some b ∧ w.heap[b]? = some (.loop L) ∧ ∀ t, Rel (fr t) g w (L.tmps.getD t Go.undef)
  | .df => ∃ b, g.bx i = some b ∧ w.heap[b]? = some (.deferred (some []))
  | .dead => True
  | .bld T e l => ∃ (b : Nat) (p v : Value), g.bx i = some b ∧ w.heap[b]? = some (Obj.cells #[p, v] T (0, 0)) ∧ (p = .pointer none ∨ p = .pointer (some ⟨b, 0, none⟩)) ∧ BufOk w e l v ∧ (∀ g0, bufBlk v = some g0 → ∃ hi, g.tk i = some (g0, 0, hi))
  | .sit l p => ∃ (b : Nat) (s : ByteArray), g.bx i = some b ∧ w.heap[b]? = some (.stringIter s p) ∧ s.data.toList = l
  | .mpb ks => ∃ (b : Nat) (es : Array MapEntry) (clock : Nat), g.bx i = some b ∧ w.heap[b]? = some (.map es clock) ∧ KeysAre es ks

theorem BlkOk.mono {g g' : Gh} {w w' : World} (hm : Mono g w g' w') {i : Nat} {x : Blk} (h : BlkOk g w i x) (hbox : ∀ b, g.bx i = some b → w'.heap[b]? = w.heap[b]?) (htl : ∀ n, g.tl i = some n → g'.tl i = some n)
    (htk : ∀ b lo hi, g.tk i = some (b, lo, hi) → g'.tk i = some (b, lo, hi) ∧ w'.heap[b]? = w.heap[b]?) : BlkOk g' w' i x := by
  cases x with
  | box cs =>
    obtain ⟨b, vs, e, fz, hb, hh, hr⟩ := h
    exact ⟨b, vs, e, fz, hm.bx i b hb, (hbox b hb).trans hh, RelL.mono cs hm hr⟩
  | tok n => exact htl n h
  | lp L fr =>
    obtain ⟨b, hb, hh, hr⟩ := h
    exact ⟨b, hm.bx i b hb, (hbox b hb).trans hh, fun t => Rel.mono _ hm (hr t)⟩
  | df =>
    obtain ⟨b, hb, hh⟩ := h
    exact ⟨b, hm.bx i b hb, (hbox b hb).trans hh⟩
  | sit l p =>
    obtain ⟨b, s, hb, hh, hl⟩ := h
    exact ⟨b, s, hm.bx i b hb, (hbox b hb).trans hh, hl⟩
  | mpb ks =>
    obtain ⟨b, es, clock, hb, hh, hl⟩ := h
    exact ⟨b, es, clock, hm.bx i b hb, (hbox b hb).trans hh, hl⟩
  | dead => trivial
  | bld T e l =>
    obtain ⟨b, p, v, hb, hh, hp, hv, ho⟩ := h
    refine ⟨b, p, v, hm.bx i b hb, (hbox b hb).trans hh, hp, hv.keep fun g0 hg => ?_, fun g0 hg => ?_⟩
    · obtain ⟨hi, h1⟩ := ho g0 hg
      exact (htk _ _ _ h1).2
    · obtain ⟨hi, h1⟩ := ho g0 hg
      exact ⟨hi, (htk _ _ _ h1).1⟩

structure HR (g : Gh) (w : World) (H : Heap) : Prop where
  blk : ∀ i x, H[i]? = some x → BlkOk g w i x
  far : ∀ i, H.length ≤ i → g.bx i = none ∧ g.tl i = none ∧ g.tk i = none

end Go.Avm

/-
  States of the program logic, and its rules for control.
-/
namespace Go.Avm
open Go

abbrev Fr := Nat → AV

def Fr.upd (fr : Fr) (d : Nat) (v : AV) : Fr := fun t => if t = d then v else fr t

def Fr.updo (fr : Fr) (d : Option Nat) (v : AV) : Fr := match d with | some d => fr.upd d v | none => fr

/-- The context: the program, its constants, of which loop over a function the round is that we are in, and how many blocks there were when the function was entered. -/
structure Cx where
  P : Program
  G : Consts
  rd : Option Nat := none
  n0 : Nat := 0

/-- No fence; in a round of the loop rd. -/
def Fd (rd : Option Nat) : Fence := { Fence.wide with round := rd }

theorem fd_room (rd : Option Nat) (n : Nat) : (Fd rd).room n := fun _ h => by simp [Fd, Fence.wide] at h
theorem callsIn_fd {rd : Option Nat} {n : Nat} {P : Program} {f : FuncId} {args : Array Value} {w : World} {R : Ending → World → Prop} (h : Calls P f args w R) : CallsIn (Fd rd) n P f args w R :=
  ⟨trivial, fun cs _ => (callsIn_wide.2 h).2 cs (room_wide _ : Fence.wide.room (cs.length + 1 + n))⟩
theorem calls_fd {rd : Option Nat} {n : Nat} {P : Program} {f : FuncId} {args : Array Value} {w : World} {R : Ending → World → Prop} (h : CallsIn (Fd rd) n P f args w R) : Calls P f args w R :=
  (callsIn_wide (n := n)).1 ⟨trivial, fun cs _ => h.2 cs (fd_room _ _)⟩

def mkD (D : Nat) : Deferred := { target := .collected D, args := #[] }

/-- The marks of loops over functions among the deferred calls. -/
def DOk (n0 : Nat) (g : Gh) (w : World) (ds : List Deferred) : Prop :=
  ∃ Ds : List Nat, ds = Ds.map mkD ∧ Ds.Nodup ∧ ∀ D ∈ Ds, n0 ≤ D ∧ w.heap[D]? = some (.deferred (some [])) ∧ ∀ o, ¬ g.owns D o

theorem DOk.nil {n0 : Nat} {g : Gh} {w : World} : DOk n0 g w [] := ⟨[], rfl, List.nodup_nil, (fun _ h => nomatch h)⟩

theorem DOk.ext {n0 : Nat} {g g' : Gh} {w w' : World} {ds : List Deferred} (h : DOk n0 g w ds) (he : Ext g w g' w') : DOk n0 g' w' ds := by
  obtain ⟨Ds, h1, h2, h3⟩ := h
  refine ⟨Ds, h1, h2, fun D hD => ?_⟩
  obtain ⟨h4, h5, h6⟩ := h3 D hD
  have hlt : D < w.heap.size := (Array.getElem?_eq_some_iff.1 h5).1
  refine ⟨h4, (he.obj D hlt h6).trans h5, fun o ho => ?_⟩
  rcases he.own D o ho with h | h
  · omega
  · exact h6 o h

structure StR (X : Cx) (N : Nat) (g : Gh) (w : World) (fr : Fr) (H : Heap) (a : Act) : Prop where
  wf : Wf X.G g w
  hr : HR g w H
  fr : ∀ t, Rel (fr t) g w (a.tmps.getD t undef)
  size : N ≤ a.tmps.size
  defers : DOk X.n0 g w a.defers
  n0 : X.n0 ≤ w.heap.size

def Ex (X : Cx) (N : Nat) (c : Code) (fr : Fr) (H : Heap) (Q : Exit → Fr → Heap → Prop) : Prop :=
  ∀ g w a, StR X N g w fr H a → c.wpIn (Fd X.rd) 0 X.P (fun e a' w' => ∃ g' fr' H', StR X N g' w' fr' H' a' ∧ ExtM g w g' w' ∧ Q e fr' H') a w

/-- Like Exit.then. -/
def AThen (K : Fr → Heap → Prop) (Q : Exit → Fr → Heap → Prop) : Exit → Fr → Heap → Prop
  | .normal, fr, H => K fr H
  | e, fr, H => Q e fr H

def ABlk (id : Nat) (Q : Exit → Fr → Heap → Prop) : Exit → Fr → Heap → Prop
  | .exit id', fr, H => if id' = id then Q .normal fr H else Q (.exit id') fr H
  | e, fr, H => Q e fr H

section
variable {X : Cx} {N : Nat} {Q : Exit → Fr → Heap → Prop} {fr : Fr} {H : Heap}

theorem Ex.mono {c : Code} {Q' : Exit → Fr → Heap → Prop} (h : Ex X N c fr H Q) (hq : ∀ e fr H, Q e fr H → Q' e fr H) : Ex X N c fr H Q' :=
  fun g w a hs => Code.wpIn_mono (fun _ _ _ ⟨g', fr', H', h1, h2, h3⟩ => ⟨g', fr', H', h1, h2, hq _ _ _ h3⟩) (h g w a hs)

/-- A state that may be looked at as another one. -/
def Wk (X : Cx) (N : Nat) (fr : Fr) (H : Heap) (fr' : Fr) (H' : Heap) : Prop :=
  ∀ g w a, StR X N g w fr H a → ∃ g', StR X N g' w fr' H' a ∧ ExtM g w g' w

theorem Wk.refl : Wk X N fr H fr H := fun g w _ h => ⟨g, h, ExtM.refl g w⟩

theorem Wk.trans {fr' fr'' : Fr} {H' H'' : Heap} (h : Wk X N fr H fr' H') (h' : Wk X N fr' H' fr'' H'') : Wk X N fr H fr'' H'' := fun g w a hs => by
  obtain ⟨g1, h1, e1⟩ := h g w a hs
  obtain ⟨g2, h2, e2⟩ := h' g1 w a h1
  exact ⟨g2, h2, e1.trans e2⟩

theorem Ex.wk {c : Code} {fr' : Fr} {H' : Heap} (h : Wk X N fr H fr' H') (hx : Ex X N c fr' H' Q) : Ex X N c fr H Q := fun g w a hs => by
  obtain ⟨g1, h1, e1⟩ := h g w a hs
  exact Code.wpIn_mono (fun _ _ _ ⟨g', fr', H', h1, h2, h3⟩ => ⟨g', fr', H', h1, e1.trans h2, h3⟩) (hx g1 w a h1)

theorem Ex.post {c : Code} {Q' : Exit → Fr → Heap → Prop} (h : Ex X N c fr H Q) (hq : ∀ e fr H, Q e fr H → ∃ fr' H', Wk X N fr H fr' H' ∧ Q' e fr' H') : Ex X N c fr H Q' :=
  fun g w a hs => Code.wpIn_mono (fun _ _ _ ⟨_, _, _, h1, h2, h3⟩ => by
    obtain ⟨fr2, H2, hw, hq2⟩ := hq _ _ _ h3
    obtain ⟨g2, h4, e4⟩ := hw _ _ _ h1
    exact ⟨g2, fr2, H2, h4, h2.trans e4, hq2⟩) (h g w a hs)

theorem ex_skip (h : Q .normal fr H) : Ex X N .skip fr H Q := fun g w _ hs => wpIn_skip ⟨g, fr, H, hs, ExtM.refl g w, h⟩
theorem ex_label {l : Nat} (h : Q .normal fr H) : Ex X N (.label l) fr H Q := fun g w _ hs => wpIn_label ⟨g, fr, H, hs, ExtM.refl g w, h⟩
theorem ex_exit {id : Nat} (h : Q (.exit id) fr H) : Ex X N (.exit id) fr H Q := fun g w _ hs => wpIn_exit ⟨g, fr, H, hs, ExtM.refl g w, h⟩
theorem ex_goto {l : Nat} (h : Q (.goto l) fr H) : Ex X N (.goto l) fr H Q := fun g w _ hs => wpIn_goto ⟨g, fr, H, hs, ExtM.refl g w, h⟩
theorem ex_ret (h : Q .ret fr H) : Ex X N .ret fr H Q := fun g w _ hs => wpIn_ret ⟨g, fr, H, hs, ExtM.refl g w, h⟩

theorem ex_seq {x y : Code} (h : Ex X N x fr H (AThen (fun fr H => Ex X N y fr H Q) Q)) : Ex X N (.seq x y) fr H Q := fun g w a hs => by
  refine wpIn_seq (Code.wpIn_mono (fun e a' w' ⟨g', fr', H', h1, h2, h3⟩ => ?_) (h g w a hs))
  cases e with
  | normal => exact Code.wpIn_mono (fun _ _ _ ⟨g'', fr'', H'', k1, k2, k3⟩ => ⟨g'', fr'', H'', k1, h2.trans k2, k3⟩) (h3 g' w' a' h1)
  | _ => exact ⟨g', fr', H', h1, h2, h3⟩

theorem ex_seq_k {x y : Code} (h : ∀ K : Fr → Heap → Prop, (∀ fr H, Ex X N y fr H Q → K fr H) → Ex X N x fr H (AThen K Q)) : Ex X N (.seq x y) fr H Q :=
  ex_seq (h _ fun _ _ h => h)

theorem ex_cond {c : Operand} {x y : Code} {b : Bool} (hc : ∀ g w a, StR X N g w fr H a → a.eval c = .bool b)
    (ht : b = true → Ex X N x fr H Q) (hf : b = false → Ex X N y fr H Q) : Ex X N (.cond c x y) fr H Q := fun g w a hs =>
  wpIn_cond_split (hc g w a hs) (fun h => ht h g w a hs) (fun h => hf h g w a hs)

theorem ex_block {id : Nat} {c : Code} (h : Ex X N c fr H (ABlk id Q)) : Ex X N (.block id c) fr H Q := fun g w a hs =>
  wpIn_block (Code.wpIn_mono (fun e a' w' ⟨g', fr', H', h1, h2, h3⟩ => by
    cases e with
    | exit id' =>
      simp only [ABlk] at h3
      simp only [Exit.inBlock]
      split
      · rename_i hid; rw [if_pos hid] at h3; exact ⟨g', fr', H', h1, h2, h3⟩
      · rename_i hid; rw [if_neg hid] at h3; exact ⟨g', fr', H', h1, h2, h3⟩
    | _ => exact ⟨g', fr', H', h1, h2, h3⟩) (h g w a hs))

def ASc (Q : Exit → Fr → Heap → Prop) : Exit → Fr → Heap → Prop
  | .goto _, _, _ => False
  | e, fr, H => Q e fr H
theorem stepR_scope {P : Program} {b : Frame} {a : Act} {k : List Item} {cs : List Frame} {w : World} {c : Code} : step P (lone (b.atR a (.code (.scope c) :: k)) cs w) = .next (lone (b.atR a (.code c :: .inScope c :: k)) cs w) :=
  step_lone_go (by simp [stepG, stepG.exec, Frame.atR])
theorem stepR_inScope {P : Program} {b : Frame} {a : Act} {k : List Item} {cs : List Frame} {w : World} {c : Code} : step P (lone (b.atR a (.inScope c :: k)) cs w) = .next (lone (b.atR a k) cs w) :=
  step_lone_go (by simp [stepG, stepG.exec, Frame.atR])
/-- A scope through which the run goes without a goto. -/
theorem wpIn_scope {F : Fence} {n : Nat} {P : Program} {Q : Exit → Act → World → Prop} {a : Act} {w : World} {c : Code} (h : c.wpIn F n P (fun e a w => (∀ l, e ≠ .goto l) ∧ Q e a w) a w) : (Code.scope c).wpIn F n P Q a w := by
  intro b k cs hro hb hr
  have h0 : (lone (b.atR a (.code (.scope c) :: k)) cs w).fenced P F := fenced_calm hb hr rfl
  obtain ⟨e, a₁, w₁, ⟨hg, hq⟩, harr⟩ := h b (.inScope c :: k) cs hro hb hr
  cases e with
  | normal => exact ⟨.normal, a₁, w₁, hq, .head h0 stepR_scope (StepsIn.trans harr (.one (fenced_calm hb hr rfl) stepR_inScope))⟩
  | exit id =>
    have hx : exitTo id (.inScope c :: k) = exitTo id k := by simp [exitTo]
    exact ⟨.exit id, a₁, w₁, hq, fun k' hk => .head h0 stepR_scope (harr.1 k' (by rw [hx]; exact hk)),
      fun hr' hk => let ⟨k₁, h1, h2⟩ := harr.2 hr' (by rw [hx]; exact hk); ⟨k₁, h1, .head h0 stepR_scope h2⟩⟩
  | goto l => exact absurd rfl (hg l)
  | ret => exact ⟨_, a₁, w₁, hq, .of_steps (.one h0 stepR_scope) harr⟩
  | panic ch => exact ⟨_, a₁, w₁, hq, .of_steps (.one h0 stepR_scope) harr⟩
  | outgrown => exact ⟨_, a₁, w₁, hq, .of_steps (.one h0 stepR_scope) harr⟩
theorem ex_scope {c : Code} (h : Ex X N c fr H (ASc Q)) : Ex X N (.scope c) fr H Q := fun g w a hs =>
  wpIn_scope (Code.wpIn_mono (fun e a' w' ⟨g', fr', H', h1, h2, h3⟩ => by
    cases e with
    | goto l => exact h3.elim
    | _ => exact ⟨by intro l; simp, g', fr', H', h1, h2, h3⟩) (h g w a hs))

theorem wpIn_loop_ix {F : Fence} {n : Nat} {P : Program} {Q : Exit → Act → World → Prop} {a : Act} {w : World} {c : Code} {ι : Type} (I : ι → Act → World → Prop) (μ : ι → Nat) (i : ι) (h₀ : I i a w)
    (round : ∀ i a w, I i a w → c.wpIn F n P (Exit.then (fun a' w' => ∃ j, μ j < μ i ∧ I j a' w') Q) a w) : (Code.loop c).wpIn F n P Q a w := by
  intro b k cs hro hb hr
  have key : ∀ m i a w, μ i = m → I i a w →
      ∃ e a' w', Q e a' w' ∧ ArrivesIn (Machine.fenced P F) P (lone (b.atR a (.code c :: .inLoop c :: k)) cs w) b k cs e a' w' := by
    intro m
    induction m using Nat.strongRecOn with
    | _ m ih =>
      intro i a w hn hI
      obtain ⟨e, a₁, w₁, hq, harr⟩ := round i a w hI b (.inLoop c :: k) cs hro hb hr
      cases e with
      | normal =>
        obtain ⟨j, hlt, hI₁⟩ := hq
        obtain ⟨e₂, a₂, w₂, hq₂, harr₂⟩ := ih (μ j) (hn ▸ hlt) j a₁ w₁ rfl hI₁
        exact ⟨e₂, a₂, w₂, hq₂, .of_steps (StepsIn.trans harr (.one (fenced_calm hb hr rfl) stepR_inLoop)) harr₂⟩
      | exit id => exact ⟨_, a₁, w₁, hq, .pass (x := .inLoop c) rfl (fun _ _ => .inl (by simp)) harr⟩
      | goto l => exact ⟨_, a₁, w₁, hq, .pass (x := .inLoop c) rfl (fun _ _ => .inl (by simp)) harr⟩
      | ret => exact ⟨_, a₁, w₁, hq, .pass (x := .inLoop c) rfl (fun _ _ => .inl (by simp)) harr⟩
      | panic ch => exact ⟨_, a₁, w₁, hq, .pass (x := .inLoop c) rfl (fun _ _ => .inl (by simp)) harr⟩
      | outgrown => exact ⟨_, a₁, w₁, hq, .pass (x := .inLoop c) rfl (fun _ _ => .inl (by simp)) harr⟩
  obtain ⟨e, a', w', hq, harr⟩ := key _ i a w rfl h₀
  exact ⟨e, a', w', hq, .of_steps (.one (fenced_calm hb hr rfl) stepR_loop) harr⟩

/-- A loop: whatever the index i of the round, the invariant leads on to one of a lower measure, or out. -/
theorem ex_loop {c : Code} {ι : Type} (inv : ι → Fr → Heap → Prop) (μ : ι → Nat) (i : ι) (h₀ : ∃ fr' H', Wk X N fr H fr' H' ∧ inv i fr' H')
    (round : ∀ i fr H, inv i fr H → Ex X N c fr H (AThen (fun fr H => ∃ j, μ j < μ i ∧ ∃ fr' H', Wk X N fr H fr' H' ∧ inv j fr' H') Q)) : Ex X N (.loop c) fr H Q := by
  obtain ⟨fr0, H0, hw0, hi0⟩ := h₀
  refine Ex.wk hw0 ?_
  intro g w a hs
  refine wpIn_loop_ix (fun i a' w' => ∃ g' fr' H', StR X N g' w' fr' H' a' ∧ ExtM g w g' w' ∧ inv i fr' H') μ i ⟨g, fr0, H0, hs, ExtM.refl g w, hi0⟩ ?_
  rintro i a1 w1 ⟨g1, fr1, H1, hs1, he1, hi1⟩
  refine Code.wpIn_mono (fun e a' w' ⟨g', fr', H', h1, h2, h3⟩ => ?_) (round i fr1 H1 hi1 g1 w1 a1 hs1)
  cases e with
  | normal =>
    obtain ⟨j, hj, fr2, H2, hw2, hi2⟩ := h3
    obtain ⟨g2, hs2, he2⟩ := hw2 g' w' a' h1
    exact ⟨j, hj, g2, fr2, H2, hs2, he1.trans (h2.trans he2), hi2⟩
  | _ => exact ⟨g', fr', H', h1, he1.trans h2, h3⟩

end

/-! ### Contracts -/

/-- A Go function with a body. -/
def HasBody (X : Cx) (f : FuncId) : Prop := ∃ fn, X.P.funcs[f]? = some fn ∧ fn.name ≠ "runtime.NumGoroutine" ∧ fn.body.isSome = true

/-- A call of function f at these arguments, in a memory that holds Hin (what it may write): it returns, as Q says. -/
def EvF (X : Cx) (f : FuncId) (args : List AV) (Hin : Heap) (Q : AV → Heap → Prop) : Prop :=
  HasBody X f ∧ ∀ g w vs, Wf X.G g w → HR g w Hin → RelL args g w vs → Calls X.P f vs.toArray w fun e w' =>
    ∃ v r g' H', e = .returned v ∧ Rel r g' w' v ∧ Wf X.G g' w' ∧ HR g' w' H' ∧ Ext g w g' w' ∧ Q r H'

/-- A call at values alone. -/
def Ev (X : Cx) (f : FuncId) (args : List AV) (r : AV) : Prop := EvF X f args [] fun r' H' => r' = r ∧ H' = []

theorem EvF.mono {X : Cx} {f : FuncId} {args : List AV} {Hin : Heap} {Q Q' : AV → Heap → Prop} (h : EvF X f args Hin Q) (hq : ∀ r H, Q r H → Q' r H) : EvF X f args Hin Q' :=
  ⟨h.1, fun g w vs h1 h2 h3 => (h.2 g w vs h1 h2 h3).mono fun _ _ ⟨v, r, g', H', k1, k2, k3, k4, k5, k6⟩ => ⟨v, r, g', H', k1, k2, k3, k4, k5, hq _ _ k6⟩⟩

def frOf (args : List AV) : Fr := fun t => args.getD t .undef

end Go.Avm

/-
  The operations of the program logic: their operands' types are looked up once, when the model's code is read (compileOp); what they yield (aop).
-/
namespace Go.Avm
open Go

/-- Operands. -/
inductive AX where
  | t (n : Nat)
  | c (v : AV)
  | gl (g : Nat)
  | m (odd : Bool) (n : Nat)
  deriving Repr, Inhabited

inductive AOp where
  | mov (x : AX)
  | pick (c a b : AX)
  | bin (op : BinOp) (x y : AX)
  | beq (neg : Bool) (x y : AX)
  | not (x : AX)
  | neg (x : AX)
  | conv (k : IntKind) (x : AX)
  | b2s (x : AX)
  | s2b (tok : Bool) (x : AX)
  | r2s (x : AX)
  | smov (x : AX)
  | len (x : AX)
  | lenS (x : AX)
  | idxA (sz : Nat) (x i : AX)
  | idxP (n sz : Nat) (x i : AX)
  | ld (n : Option Nat) (x : AX)
  | st (n : Nat) (x v : AX)
  | fldA (off : Nat) (x : AX)
  | fld (off : Nat) (n : Option Nat) (x : AX)
  | idxS (x i : AX)
  | idxG (n sz : Nat) (m : Option Nat) (x i : AX)
  | ssl (x : AX) (lo hi : Option AX)
  | sls (sz : Nat) (x : AX) (lo hi mx : Option AX)
  | slA (n sz : Nat) (x : AX) (lo hi mx : Option AX)
  | alloc (cs : List AV)
  | allocB (T e : Nat)
  | box (x : AX)
  | build (cs : List AV) (parts : List (Nat × Nat × AX))
  | bsl (sz : Nat) (z : AV) (len : Nat) (parts : List (Nat × AX))
  | extr (x : AX) (i : Nat)
  | mkf (f : Nat) (fs cs : List AX)
  | mki (t : Nat) (x : AX)
  | mkT (sz bytes : Nat) (c : AX)
  | mkR (sz bytes : Nat) (z : List AV) (l c : AX)
  | app (sz bytes : Nat) (x y : AX)
  | nck (x : AX)
  | peq (neg : Bool) (x y : AX)
  | isn (neg : Bool) (x : AX)
  | ifn (neg : Bool) (x : AX)
  | aeq (neg : Bool) (ks : List Nat) (x y : AX)
  | mm (mx : Bool) (x y : AX)
  | cpy (x y : AX)
  | boxS (n : Nat) (x : AX)
  | call (f : Nat) (args : List AX)
  | callv (x : AX) (args : List AX)
  | lds (n : Option Nat) (x : AX)
  | rng (x : AX)
  | nxt (x : AX)
  | mkM
  | mget (x k : AX)
  | mset (x k : AX)
  | inv (tb : List (Nat × Nat)) (x : AX) (args : List AX)
  deriving Repr, Inhabited

/-- The box that is loaded from where another one is stored into. -/
def oddM (i : Nat) : Bool := i == 1
theorem om_0 : oddM 0 = false := id rfl
theorem om_1 : oddM 1 = true := id rfl
theorem om_2 (n : Nat) : oddM (n + 2) = false := id rfl
theorem om_3 (n : Nat) : oddM (n + 1 + 1) = false := id rfl
/-- Of the other kind of marks: the boxes with odd numbers. -/
def parM (n i : Nat) : Bool := if n < 65536 then oddM i else i % 2 == 1
theorem pm_a {n i : Nat} (h : n < 65536) : parM n i = oddM i := if_pos h
theorem pm_b {n i : Nat} (h : (n < 65536) = False) : parM n i = (i % 2 == 1) := if_neg (by rw [h]; exact id)
theorem parM_eq {t u : Nat} (h : decide (t < 65536) = decide (u < 65536)) (i : Nat) : parM t i = parM u i := by
  unfold parM
  rw [decide_eq_decide] at h
  by_cases c : t < 65536
  · rw [if_pos c, if_pos (h.1 c)]
  · rw [if_neg c, if_neg (fun e => c (h.2 e))]
def AX.eval (G : Consts) (fr : Fr) : AX → AV
  | .t n => fr n
  | .c v => v
  | .gl g => match G g with | some cs => .vp cs | none => .undef
  | .m odd n => match fr (n % 65536) with | .ptr i o => if parM n i = odd then .ptr i o else .undef | _ => .undef

/-! ### what operations on numbers and strings yield -/

def sh (op : BinOp) (k : IntKind) (x y : Int) : Option (Bool × AV) :=
  match op with
  | .shl => some (decide (0 ≤ y), .int k (k.wrap (x * 2 ^ (min y.toNat k.bits))))
  | .shr => some (decide (0 ≤ y), .int k (x.fdiv (2 ^ (min y.toNat k.bits))))
  | _ => none

def bint (op : BinOp) (k : IntKind) (x y : Int) : Option (Bool × AV) :=
  match op with
  | .add => some (true, .int k (k.wrap (x + y)))
  | .sub => some (true, .int k (k.wrap (x - y)))
  | .mul => some (true, .int k (k.wrap (x * y)))
  | .quo => some (decide (y ≠ 0), .int k (k.wrap (x.tdiv y)))
  | .rem => some (decide (y ≠ 0), .int k (x.tmod y))
  | .and => some (true, .int k (bits .and k x y))
  | .or => some (true, .int k (bits .or k x y))
  | .xor => some (true, .int k (bits .xor k x y))
  | .andNot => some (true, .int k (bits .andNot k x y))
  | .eql => some (true, .bool (x == y))
  | .neq => some (true, .bool (x != y))
  | .lss => some (true, .bool (decide (x < y)))
  | .leq => some (true, .bool (decide (x ≤ y)))
  | .gtr => some (true, .bool (decide (x > y)))
  | .geq => some (true, .bool (decide (x ≥ y)))
  | _ => none

def bstr (op : BinOp) (x y : List UInt8) : Option (Bool × AV) :=
  match op with
  | .add => some (decide (x.length + y.length ≤ 9223372036854775807), .str (x ++ y))
  | .eql => some (true, .bool (x == y))
  | .neq => some (true, .bool (!(x == y)))
  | .lss => some (true, .bool (Op.bytesLess x y))
  | .leq => some (true, .bool (Op.bytesLess x y || x == y))
  | .gtr => some (true, .bool (!(Op.bytesLess x y || x == y)))
  | .geq => some (true, .bool (!Op.bytesLess x y))
  | _ => none

def isShift : BinOp → Bool
  | .shl | .shr => true
  | _ => false

def abin (op : BinOp) : AV → AV → Option (Bool × AV)
  | .int k a, .int k' b => if isShift op then sh op k a b else if k = k' then bint op k a b else none
  | .str a, .str b => bstr op a b
  | _, _ => none

/-- Bytes as elements. -/
def u8 (b : UInt8) : AV := .int .u8 b.toNat

def byteOf? : AV → Option UInt8
  | .int .u8 n => some (UInt8.ofNat n.toNat)
  | _ => none

def scalarB : AV → Bool
  | .undef | .agg _ | .tuple _ | .grd _ _ => false
  | _ => true

mutual
/-- What may lie among a slice's elements: no reference to what may still be written. -/
def dry : AV → AV
  | .sl _ es => .sl .ro es
  | .rsl _ _ _ _ _ => .undef
  | .ptr _ _ => .undef
  | .agg cs => .agg (dryL cs)
  | .tuple cs => .tuple (dryL cs)
  | .clo f fs cs => .clo f (dryL fs) (dryL cs)
  | .ifc t v => .ifc t (dry v)
  | .grd _ _ => .undef
  | .yv _ => .undef
  | .mp _ => .undef
  | v => v
def dryL : List AV → List AV
  | [] => []
  | x :: xs => dry x :: dryL xs
end

/-- A row of cells, from place i on. -/
def setCells (cs : List AV) (i : Nat) : List AV → List AV
  | [] => cs
  | v :: vs => setCells (cs.set i v) (i + 1) vs

def notTup : AV → Bool
  | .undef | .tuple _ | .grd _ _ => false
  | _ => true

/-- A struct's or an array's cells, its parts filled in one after the other. -/
def fillA (cs : List AV) : List (Nat × Nat × AV) → Bool × List AV
  | [] => (true, cs)
  | (off, n, v) :: r =>
    let x := fillA (setCells cs off v.cells) r
    (decide (v.cells.length = n) && decide (off + n ≤ cs.length) && notTup v && x.1, x.2)

/-- A slice's elements, some of them filled in. -/
def fillE (sz : Nat) (es : List AV) : List (Nat × AV) → Bool × List AV
  | [] => (true, es)
  | (i, v) :: r =>
    let x := fillE sz (es.set i (dry v)) r
    (decide (v.cells.length = sz) && decide (i < es.length) && notTup v && x.1, x.2)

/-- Elements of this size, each cell of which can be stored. -/
def okE (sz : Nat) (es : List AV) : Bool := es.all fun e => decide (e.cells.length = sz) && e.cells.all scalarB

/-- So many zero elements. -/
def repCells (m : Nat) : List AV → List AV
  | [v] => List.replicate m v
  | z => (List.replicate m z).flatten

/-- Elements of this size. -/
def szE (sz : Nat) (es : List AV) : Bool := es.all fun e => decide (e.cells.length = sz) && notTup e

/-- What may be appended. -/
def appSrc : AV → Option (List AV)
  | .sl _ es => some es
  | .str l => some (l.map u8)
  | _ => none

/-- What an operation yields that did not run. -/
def noV : AV := .grd false .undef

/-- What a guard says. -/
def gval (b : Bool) : AV → Option Bool
  | .bool x => some (bif b then x else !x)
  | .grd false _ => some false
  | _ => none

def bothB (t : Bool) : AV → AV → AV
  | .bool p, .bool q => .bool (bif t then p else q)
  | x, y => bif t then x else y

def pickV (t : Bool) (x y : AV) : AV := bothB t x y

/-- Two cells of this kind (0: a number, 1: a truth value, 2: a string), held against each other. -/
def eqCellK : Nat → AV → AV → Option Bool
  | 0, .int k a, .int k' b => if k = k' then some (a == b) else none
  | 1, .bool a, .bool b => some (a == b)
  | 2, .str a, .str b => some (a == b)
  | _, _, _ => none

def eqCells : List Nat → List AV → List AV → Option Bool
  | [], [], [] => some true
  | k :: ks, x :: xs, y :: ys => match eqCellK k x y, eqCells ks xs ys with
    | some a, some b => some (a && b)
    | _, _ => none
  | _, _, _ => none

/-- What may be copied: cells. -/
def cpySrc (H : Heap) : AV → Option (List AV)
  | .sl _ es => some es
  | .rsl id off n _ s => match H[id]? with
    | some (.box cs) => if s = 1 ∧ off + n ≤ cs.length then some ((cs.drop off).take n) else none
    | _ => none
  | _ => none

/-- The rune at the beginning of these bytes, and how many of them it has. -/
def dec (r : List UInt8) : Nat × Nat :=
  let at' (k : Nat) : Nat := (r.getD k 0).toNat
  let cont (k : Nat) : Bool := decide (k < r.length) && at' k / 64 == 2
  let b0 := at' 0
  if b0 < 0x80 then (b0, 1)
  else if (b0 / 32 == 6 && cont 1) = true then
    (if (b0 % 32) * 64 + at' 1 % 64 ≥ 0x80 then ((b0 % 32) * 64 + at' 1 % 64, 2) else (0xFFFD, 1))
  else if (b0 / 16 == 14 && cont 1 && cont 2) = true then
    (if ((b0 % 16) * 4096 + (at' 1 % 64) * 64 + at' 2 % 64 ≥ 0x800 && Utf8.valid ((b0 % 16) * 4096 + (at' 1 % 64) * 64 + at' 2 % 64 : Nat)) = true then ((b0 % 16) * 4096 + (at' 1 % 64) * 64 + at' 2 % 64, 3) else (0xFFFD, 1))
  else if (b0 / 8 == 30 && cont 1 && cont 2 && cont 3) = true then
    (if ((b0 % 8) * 262144 + (at' 1 % 64) * 4096 + (at' 2 % 64) * 64 + at' 3 % 64 ≥ 0x10000 && Utf8.valid ((b0 % 8) * 262144 + (at' 1 % 64) * 4096 + (at' 2 % 64) * 64 + at' 3 % 64 : Nat)) = true then ((b0 % 8) * 262144 + (at' 1 % 64) * 4096 + (at' 2 % 64) * 64 + at' 3 % 64, 4) else (0xFFFD, 1))
  else (0xFFFD, 1)

/-- What the next round over a string yields, and where it leaves it. -/
def nxtV (l : List UInt8) (p : Nat) : AV := if p < l.length then .tuple [.bool true, .int .i64 p, .int .i32 ((dec (l.drop p)).1 : Nat)] else .tuple [.bool false]
def nxtP (l : List UInt8) (p : Nat) : Nat := if p < l.length then p + (dec (l.drop p)).2 else p

/-- What an operation yields, and under which condition; none: as the memory is (else the new one). -/
def aop (G : Consts) (fr : Fr) (H : Heap) : AOp → Option (Bool × AV × Option Heap)
  | .mov x => some (true, x.eval G fr, none)
  | .pick c a b => match c.eval G fr with
    | .bool t => some (true, pickV t (a.eval G fr) (b.eval G fr), none)
    | _ => none
  | .bin op x y => (abin op (x.eval G fr) (y.eval G fr)).map fun (c, v) => (c, v, none)
  | .beq neg x y => match x.eval G fr, y.eval G fr with
    | .bool a, .bool b => some (true, .bool (bif neg then !(a == b) else a == b), none)
    | _, _ => none
  | .not x => match x.eval G fr with
    | .bool a => some (true, .bool (!a), none)
    | _ => none
  | .neg x => match x.eval G fr with
    | .int k n => some (true, .int k (k.wrap (0 - n)), none)
    | _ => none
  | .conv k x => match x.eval G fr with
    | .int _ n => some (true, .int k (k.wrap n), none)
    | _ => none
  | .lenS x => match x.eval G fr with
    | .str l => some (true, .int .i64 l.length, none)
    | _ => none
  | .len x => match x.eval G fr with
    | .sl _ es => some (true, .int .i64 es.length, none)
    | .rsl _ _ n _ _ => some (true, .int .i64 n, none)
    | _ => none
  | .idxA sz x i => match x.eval G fr, i.eval G fr with
    | .sl _ es, .int _ n => some (decide (0 ≤ n) && decide (n < es.length) && decide ((es.getD n.toNat .undef).cells.length = sz) && notTup (es.getD n.toNat .undef), .vp (es.getD n.toNat .undef).cells, none)
    | .rsl id off m _ s, .int _ n => some (decide (0 ≤ n) && decide (n < m) && decide (s = sz), .ptr id (off + n.toNat * sz), none)
    | _, _ => none
  | .idxP m sz x i => match x.eval G fr, i.eval G fr with
    | .ptr id off, .int _ n => some (decide (0 ≤ n) && decide (n < m), .ptr id (off + n.toNat * sz), none)
    | .vp cs, .int _ n => some (decide (0 ≤ n) && decide (n < m), .vp (cs.drop (n.toNat * sz)), none)
    | _, _ => none
  | .ld none x => match x.eval G fr with
    | .vp (c :: _) => some (true, c, none)
    | .vp cs => some (decide (0 < cs.length), cs.getD 0 .undef, none)
    | .ptr id off => match H[id]? with
      | some (.box cs) => some (decide (off < cs.length), cs.getD off .undef, none)
      | _ => none
    | _ => none
  | .ld (some n) x => match x.eval G fr with
    | .vp cs => some (decide (n ≤ cs.length), .agg (cs.take n), none)
    | .ptr id off => match H[id]? with
      | some (.box cs) => some (decide (off + n ≤ cs.length), .agg ((cs.drop off).take n), none)
      | _ => none
    | _ => none
  | .st n x v => match x.eval G fr with
    | .ptr id off => match H[id]? with
      | some (.box cs) =>
        let u := v.eval G fr
        some (decide (u.cells.length = n) && decide (off + n ≤ cs.length) && u.cells.all scalarB, .undef, some (H.set id (.box (setCells cs off u.cells))))
      | _ => none
    | _ => none
  | .fldA off x => match x.eval G fr with
    | .ptr id o => some (true, .ptr id (o + off), none)
    | .vp cs => some (true, .vp (cs.drop off), none)
    | _ => none
  | .fld off none x => match x.eval G fr with
    | .agg cs => some (decide (off < cs.length), cs.getD off .undef, none)
    | _ => none
  | .fld off (some n) x => match x.eval G fr with
    | .agg cs => some (true, .agg ((cs.drop off).take n), none)
    | _ => none
  | .idxS x i => match x.eval G fr, i.eval G fr with
    | .str l, .int _ n => some (decide (0 ≤ n) && decide (n < l.length), u8 (l.getD n.toNat 0), none)
    | _, _ => none
  | .idxG m sz none x i => match x.eval G fr, i.eval G fr with
    | .agg cs, .int _ n => some (decide (0 ≤ n) && decide (n < m) && decide (n.toNat * sz < cs.length), cs.getD (n.toNat * sz) .undef, none)
    | _, _ => none
  | .idxG m sz (some k) x i => match x.eval G fr, i.eval G fr with
    | .agg cs, .int _ n => some (decide (0 ≤ n) && decide (n < m), .agg ((cs.drop (n.toNat * sz)).take k), none)
    | _, _ => none
  | .extr x i => match x.eval G fr with
    | .tuple vs => some (decide (i < vs.length), vs.getD i .undef, none)
    | _ => none
  | .mkf f fs cs => some (true, .clo f (fs.map (·.eval G fr)) (cs.map (·.eval G fr)), none)
  | .mki t x => some (true, .ifc t (x.eval G fr), none)
  | .b2s x => match cpySrc H (x.eval G fr) with
    | some es => (es.mapM byteOf?).map fun l => (true, .str l, none)
    | none => none
  | .ssl x lo hi => match x.eval G fr with
    | .str l =>
      match (lo.map (·.eval G fr)).getD (.int .i64 0), (hi.map (·.eval G fr)).getD (.int .i64 l.length) with
      | .int _ a, .int _ b => some (decide (0 ≤ b) && decide (b ≤ l.length) && decide (0 ≤ a) && decide (a ≤ b), .str ((l.take b.toNat).drop a.toNat), none)
      | _, _ => none
    | _ => none
  | .alloc cs => some (true, .ptr H.length 0, some (H ++ [.box cs]))
  | .allocB T e => some (true, .ptr H.length 0, some (H ++ [.bld T e []]))
  | .box x =>
    let u := x.eval G fr
    some (notTup u, .ptr H.length 0, some (H ++ [.box u.cells]))
  | .boxS n x =>
    let u := x.eval G fr
    some (decide (u.cells.length = n) && u.cells.all scalarB, .ptr H.length 0, some (H ++ [.box u.cells]))
  | .build cs parts =>
    let x := fillA cs (parts.map fun p => (p.1, p.2.1, p.2.2.eval G fr))
    some (x.1, .agg x.2, none)
  | .bsl sz z len parts =>
    let x := fillE sz (List.replicate len z) (parts.map fun p => (p.1, p.2.eval G fr))
    some (x.1, .sl .ex x.2, none)
  | .app sz bytes x y =>
    match appSrc (y.eval G fr) with
    | some ys => match x.eval G fr with
      | .sl .ex es => if !es.isEmpty && ys.isEmpty then some (true, .sl .ex es, none) else some (decide ((es.length + ys.length) * bytes ≤ 140737488355328) && decide (es.length + ys.length ≤ 9223372036854775807) && okE sz es && okE sz ys, .sl (.tok H.length sz) (es ++ ys), some (H ++ [.tok (es.length + ys.length)]))
      | .sl (.tok i s) es => match H[i]? with
        | some (.tok n) => some (decide (n = es.length) && decide (s = sz) && decide ((es.length + ys.length) * bytes ≤ 140737488355328) && decide (es.length + ys.length ≤ 9223372036854775807) && okE sz ys, .sl (.tok i sz) (es ++ ys), some (H.set i (.tok (es.length + ys.length))))
        | _ => none
      | _ => none
    | none => none
  | .mkT sz bytes c => match c.eval G fr with
    | .int .i64 n => some (decide (0 ≤ n) && decide (n * bytes ≤ 140737488355328) && decide (n ≤ 9223372036854775807), .sl (.tok H.length sz) [], some (H ++ [.tok 0]))
    | _ => none
  | .smov x => match x.eval G fr with
    | .str l => some (true, .str l, none)
    | _ => none
  | .r2s x => match x.eval G fr with
    | .int _ n => some (true, .str (Utf8.encode n).data.toList, none)
    | _ => none
  | .s2b false x => match x.eval G fr with
    | .str l => some (decide (l.length ≤ 9223372036854775807), .sl .ro (l.map u8), none)
    | _ => none
  | .s2b true x => match x.eval G fr with
    | .str l => some (decide (l.length ≤ 9223372036854775807), .sl (.tok H.length 1) (l.map u8), some (H ++ [.tok l.length]))
    | _ => none
  | .sls sz x lo hi none => match x.eval G fr with
    | .sl p es => match (lo.map (·.eval G fr)).getD (.int .i64 0), (hi.map (·.eval G fr)).getD (.int .i64 es.length) with
      | .int _ a, .int _ b => some (decide (0 ≤ a) && decide (a ≤ b) && decide (b ≤ es.length) && szE sz es, .sl (match p, hi with | .ex, none => .ex | _, _ => .ro) ((es.take b.toNat).drop a.toNat), none)
      | _, _ => none
    | .rsl id off n cap s => match (lo.map (·.eval G fr)).getD (.int .i64 0), (hi.map (·.eval G fr)).getD (.int .i64 n) with
      | .int _ a, .int _ b => some (decide (s = sz) && decide (0 ≤ a) && decide (a ≤ b) && decide (b ≤ cap), .rsl id (off + a.toNat * sz) (b.toNat - a.toNat) (cap - a.toNat) sz, none)
      | _, _ => none
    | _ => none
  | .sls sz x lo (some hi) (some mx) => match x.eval G fr with
    | .sl _ es => match (lo.map (·.eval G fr)).getD (.int .i64 0), hi.eval G fr, mx.eval G fr with
      | .int _ a, .int _ b, .int _ c => some (decide (0 ≤ a) && decide (a ≤ b) && decide (b ≤ c) && decide (c ≤ es.length) && szE sz es, .sl (if b = c then .ex else .ro) ((es.take b.toNat).drop a.toNat), none)
      | _, _, _ => none
    | .rsl id off _ cap s => match (lo.map (·.eval G fr)).getD (.int .i64 0), hi.eval G fr, mx.eval G fr with
      | .int _ a, .int _ b, .int _ c => some (decide (s = sz) && decide (0 ≤ a) && decide (a ≤ b) && decide (b ≤ c) && decide (c ≤ cap), .rsl id (off + a.toNat * sz) (b.toNat - a.toNat) (c.toNat - a.toNat) sz, none)
      | _, _, _ => none
    | _ => none
  | .slA m sz x lo hi none => match x.eval G fr with
    | .ptr id off => match (lo.map (·.eval G fr)).getD (.int .i64 0), (hi.map (·.eval G fr)).getD (.int .i64 m) with
      | .int _ a, .int _ b => some (decide (0 ≤ a) && decide (a ≤ b) && decide (b ≤ m), .rsl id (off + a.toNat * sz) (b.toNat - a.toNat) (m - a.toNat) sz, none)
      | _, _ => none
    | .vp cs => match (lo.map (·.eval G fr)).getD (.int .i64 0), (hi.map (·.eval G fr)).getD (.int .i64 m) with
      | .int _ a, .int _ b => some (decide (sz = 1) && decide (0 ≤ a) && decide (a ≤ b) && decide (b ≤ m) && decide (m ≤ cs.length) && cs.all scalarB, .sl .ro ((cs.take b.toNat).drop a.toNat), none)
      | _, _ => none
    | _ => none
  | .mkR sz bytes z l c => match l.eval G fr, c.eval G fr with
    | .int .i64 n, .int .i64 m => some (decide (0 ≤ n) && decide (n ≤ m) && decide (m * bytes ≤ 140737488355328) && decide (m ≤ 9223372036854775807), .rsl H.length 0 n.toNat m.toNat sz, some (H ++ [.box (repCells m.toNat z)]))
    | _, _ => none
  | .nck x => match x.eval G fr with
    | .ptr i o => some (true, .ptr i o, none)
    | .vp cs => some (true, .vp cs, none)
    | _ => none
  | .peq neg x y => match x.eval G fr, y.eval G fr with
    | .nilP, .nilP => some (true, .bool (!neg), none)
    | .ptr _ _, .nilP | .vp _, .nilP => some (true, .bool neg, none)
    | _, _ => none
  | .isn neg x => match x.eval G fr with
    | .sl _ es => some (!es.isEmpty, .bool neg, none)
    | _ => none
  | .ifn neg x => match x.eval G fr with
    | .nilI => some (true, .bool (!neg), none)
    | .ifc _ _ => some (true, .bool neg, none)
    | _ => none
  | .aeq neg ks x y => match x.eval G fr, y.eval G fr with
    | .agg xs, .agg ys => (eqCells ks xs ys).map fun b => (true, .bool (bif neg then !b else b), none)
    | _, _ => none
  | .cpy x y => match x.eval G fr with
    | .rsl id off n _ s => match cpySrc H (y.eval G fr), H[id]? with
      | some es, some (.box cs) => some (decide (s = 1) && decide (off + n ≤ cs.length) && (es.take n).all scalarB, .int .i64 (min n es.length : Nat), some (H.set id (.box (setCells cs off (es.take n)))))
      | _, _ => none
    | _ => none
  | .lds none x => match x.eval G fr with
    | .vp (c :: _) => some (true, c, none)
    | _ => none
  | .lds (some n) x => match x.eval G fr with
    | .vp cs => some (decide (n ≤ cs.length), .agg (cs.take n), none)
    | _ => none
  | .rng x => match x.eval G fr with
    | .str l => some (true, .ptr H.length 0, some (H ++ [.sit l 0]))
    | _ => none
  | .nxt x => match x.eval G fr with
    | .ptr id 0 => match H[id]? with
      | some (.sit l p) => some (true, nxtV l p, some (H.set id (.sit l (nxtP l p))))
      | _ => none
    | _ => none
  | .mkM => some (true, .mp H.length, some (H ++ [.mpb []]))
  | .mget x k => match x.eval G fr, k.eval G fr with
    | .mp id, .str s => match H[id]? with
      | some (.mpb ks) => some (true, .bool (ks.contains s), none)
      | _ => none
    | _, _ => none
  | .mset x k => match x.eval G fr, k.eval G fr with
    | .mp id, .str s => match H[id]? with
      | some (.mpb ks) => if ks.contains s then none else some (true, .undef, some (H.set id (.mpb (ks ++ [s]))))
      | _ => none
    | _, _ => none
  | .mm mx x y => match x.eval G fr, y.eval G fr with
    | .int k a, .int _ b => some (true, .int k (bif mx then (if a < b then b else a) else (if b < a then b else a)), none)
    | _, _ => none
  | _ => none

end Go.Avm
