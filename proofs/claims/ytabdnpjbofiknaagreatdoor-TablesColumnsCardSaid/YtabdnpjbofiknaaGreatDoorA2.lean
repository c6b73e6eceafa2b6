/- The model's operations, read as those of the program logic. -/
import Derived.Test.YtabdnpjbofiknaaGreatDoorA1
set_option linter.all false
/-
  The model's operations, read as those of the program logic.
-/
namespace Go.Avm
open Go

def constS : Value → Option AV
  | .bool b => some (.bool b)
  | .int k n => some (.int k n)
  | .string s => some (.str s.data.toList)
  | .slice none 0 0 => some (.sl .ex [])
  | .pointer none => some .nilP
  | .nilFunc => some .nilF
  | .nilIface => some .nilI
  | _ => none

def constL : List Value → Option (List AV)
  | [] => some []
  | v :: vs => match constS v, constL vs with
    | some a, some as => some (a :: as)
    | _, _ => none

def constAV : Value → Option AV
  | .agg cs => (constL cs.toList).map .agg
  | v => constS v

def cx : Operand → Option AX
  | .tmp t => some (.t t)
  | .const v => (constAV v).map .c
  | .global g => some (.gl g)
  | .func f => some (.c (.clo f [] []))

def cxL : List Operand → Option (List AX)
  | [] => some []
  | x :: xs => match cx x, cxL xs with
    | some a, some as => some (a :: as)
    | _, _ => none

def cxO : Option Operand → Option (Option AX)
  | none => some none
  | some x => (cx x).map some

def isAggD : TypeDesc → Bool
  | .struct _ | .array _ _ => true
  | _ => false

/-- How a variable of this type is loaded: one cell, or so many. -/
def ldN (P : Program) (t : TypeId) : Option (Option Nat) :=
  match P.underlying t, P.info? t with
  | some d, some i => some (if isAggD d then some i.size else none)
  | _, _ => none

def zeroCells (P : Program) (t : TypeId) : Option (List AV) :=
  match P.info? t with
  | some i => match i.zero with
    | some z => (constAV z).map AV.cells
    | none => none
  | none => none

/-- Is it a builder's type: a pointer and a slice? Of which elements? -/
def bldOf (P : Program) (t : TypeId) : Option TypeId :=
  match P.info? t with
  | some i => match i.zero with
    | some (.agg vs) => match vs.toList with
      | [.pointer none, .slice none 0 0] => match P.underlying t with
        | some (.struct fs) => match fs[1]? with
          | some fd => match P.underlying fd.type with
            | some (.slice e) => some e
            | _ => none
          | none => none
        | _ => none
      | _ => none
    | _ => none
  | none => none

def zeroAV (P : Program) (t : TypeId) : Option AV :=
  match P.info? t with
  | some i => match i.zero with
    | some z => constAV z
    | none => none
  | none => none

def placesOf (P : Program) : List Field → Option (List (Nat × Nat))
  | [] => some []
  | f :: fs => match P.info? f.type, placesOf P fs with
    | some i, some r => some ((f.offset, i.size) :: r)
    | _, _ => none

def partsP (place : Nat → Option (Nat × Nat)) : List (Nat × Operand) → Option (List (Nat × Nat × AX))
  | [] => some []
  | (i, x) :: r => match place i, cx x, partsP place r with
    | some (o, n), some a, some as => some ((o, n, a) :: as)
    | _, _, _ => none

def partsE : List (Nat × Operand) → Option (List (Nat × AX))
  | [] => some []
  | (i, x) :: r => match cx x, partsE r with
    | some a, some as => some ((i, a) :: as)
    | _, _ => none

def compileLen (P : Program) (x : Operand) (t : TypeId) : Option AOp :=
  match P.underlying t, cx x with
  | some .string, some x => some (.lenS x)
  | some (.slice _), some x => some (.len x)
  | some (.array n _), _ => some (.mov (.c (.int .i64 n)))
  | _, _ => none

def srcB (P : Program) (u : TypeId) : Bool :=
  match P.underlying u with
  | some (.slice _) | some .string => true
  | _ => false

def compileApp (P : Program) (x y : Operand) (t u : TypeId) : Option AOp :=
  match P.underlying t, cx x, cx y with
  | some (.slice e), some x, some y => match P.info? e with
    | some i => match i.zero with
      | some z => if z.cells.size = i.size ∧ i.size ≠ 0 ∧ srcB P u = true then some (.app i.size i.bytes x y) else none
      | none => none
    | none => none
  | _, _, _ => none

def kindD : TypeDesc → Option Nat
  | .int _ => some 0
  | .bool => some 1
  | .string => some 2
  | _ => none

/-- The kinds of an array's cells. -/
def eqKinds (P : Program) (t : TypeId) (n : Nat) (e : TypeId) : Option (List Nat) :=
  match P.underlying e, P.info? e with
  | some d, some i => match kindD d with
    | some k => if i.size = 1 ∧ P.eqGuardType P.depth t = false then some (List.replicate n k) else none
    | none => none
  | _, _ => none

/-- The kinds of the cells of a field: a cell, or an array of cells. -/
def fieldKinds (P : Program) (t : TypeId) : Option (List Nat) :=
  match P.underlying t with
  | some d => match kindD d with
    | some k => some [k]
    | none => match d with
      | .array n e => match P.underlying e, P.info? e, P.info? t with
        | some d', some i, some it => match kindD d' with
          | some k => if i.size = 1 ∧ it.size = n then some (List.replicate n k) else none
          | none => none
        | _, _, _ => none
      | _ => none
  | none => none

def fieldsKinds (P : Program) : Nat → List Field → Option (List Nat)
  | _, [] => some []
  | off, f :: fs => if f.name ≠ "_" ∧ f.offset = off then match fieldKinds P f.type with
    | some ks => (fieldsKinds P (off + ks.length) fs).map (ks ++ ·)
    | none => none
    else none

/-- The kinds of a struct's cells. -/
def structKinds (P : Program) (t : TypeId) (fs : List Field) : Option (List Nat) :=
  if P.stoodInHeld t = false ∧ P.eqGuardType P.depth t = false then fieldsKinds P 0 fs else none

def negOf : BinOp → Option Bool
  | .eql => some false
  | .neq => some true
  | _ => none

def compileCpy (P : Program) (x y : Operand) (t u : TypeId) : Option AOp :=
  match P.underlying t, P.underlying u, cx x, cx y with
  | some (.slice e), some (.slice _), some x, some y => if (P.info? e).map (·.size) = some 1 then some (.cpy x y) else none
  | _, _, _, _ => none

def compileBuiltin (P : Program) (b : Builtin) (as : List Operand) (ts : List TypeId) : Option AOp :=
  match b, as, ts with
  | .len, [x], [t] => compileLen P x t
  | .append, [x, y], [t, u] => compileApp P x y t u
  | .copy, [x, y], [t, u] => compileCpy P x y t u
  | .min, [x, y], [_, _] => match cx x, cx y with
    | some x, some y => some (.mm false x y)
    | _, _ => none
  | .max, [x, y], [_, _] => match cx x, cx y with
    | some x, some y => some (.mm true x y)
    | _, _ => none
  | _, _, _ => none

def isPtrD : TypeDesc → Bool
  | .pointer _ => true
  | _ => false

/-- The function that a type's method of this name is. -/
def methOf (P : Program) (name : String) (t : TypeId) : Option (Nat × Nat) :=
  match P.info? t, P.underlying t with
  | some i, some u => match i.methods.find? (·.name == name) with
    | some m => if m.path.isEmpty then match m.func with
      | some (f, p) => if p == isPtrD u then some (t, f) else none
      | none => none
      else none
    | none => none
  | _, _ => none

/-- Of all types with a method of this name. -/
def methTab (P : Program) (name : String) : List (Nat × Nat) := (List.range P.types.size).filterMap (methOf P name)

def compileCall (P : Program) (c : Call) : Option AOp :=
  match c.callee with
  | .invoke r name => match cx r, cxL c.args.toList with
    | some x, some as => some (.inv (methTab P name) x as)
    | _, _ => none
  | .builtin b => compileBuiltin P b c.args.toList c.argTypes.toList
  | .value (.func f) => match P.funcs[f]?, cxL c.args.toList with
    | some fn, some as => if fn.name != "runtime.NumGoroutine" && fn.body.isSome then some (.call f as) else none
    | _, _ => none
  | .value (.tmp t) => (cxL c.args.toList).map (.callv (.t t))
  | _ => none

def isTrueC : Operand → Bool
  | .const (.bool true) => true
  | _ => false
theorem isTrueC_eq {v : Operand} (h : isTrueC v = true) : v = .const (.bool true) := by
  unfold isTrueC at h
  split at h
  · rfl
  · cases h

def compileOp (P : Program) (hint : Bool) : Op → Option AOp
  | .move x | .assign x => (cx x).map .mov
  | .pick c a b => match cx c, cx a, cx b with
    | some c, some a, some b => some (.pick c a b)
    | _, _, _ => none
  | .binOp op t x y _ => match P.underlying t, cx x, cx y with
    | some (.int _), some x, some y | some .string, some x, some y => some (.bin op x y)
    | some .bool, some x, some y => match op with
      | .eql => some (.beq false x y)
      | .neq => some (.beq true x y)
      | _ => none
    | some (.pointer _), some ax, some ay => match negOf op with
      | some n => some (.peq n ax ay)
      | none => none
    | some (.slice _), some ax, some (.c (.sl .ex [])) => match negOf op with
      | some n => match y with
        | .const (.slice none 0 0) => some (.isn n ax)
        | _ => none
      | none => none
    | some (.interface _), some ax, some (.c .nilI) => match negOf op with
      | some n => match y with
        | .const .nilIface => some (.ifn n ax)
        | _ => none
      | none => none
    | some (.interface _), some _, some _ => some (.extr (.c .nilI) 0)
    | some (.array n e), some ax, some ay => match negOf op, eqKinds P t n e with
      | some ng, some ks => some (.aeq ng ks ax ay)
      | _, _ => none
    | some (.struct fs), some ax, some ay => match negOf op, structKinds P t fs.toList with
      | some ng, some ks => some (.aeq ng ks ax ay)
      | _, _ => none
    | _, _, _ => none
  | .unOp op _ x => match op with
    | .not => (cx x).map .not
    | .neg => (cx x).map .neg
    | _ => none
  | .convert src dst x => match P.underlying src, P.underlying dst, cx x with
    | some (.int _), some (.int k), some x => some (.conv k x)
    | some (.slice e), some .string, some x => match P.underlying e with
      | some (.int .u8) => some (.b2s x)
      | _ => none
    | some .string, some .string, some x => some (.smov x)
    | some (.int _), some .string, some x => some (.r2s x)
    | some .string, some (.slice e), some x => match P.underlying e with
      | some (.int .u8) => some (.s2b hint x)
      | _ => none
    | _, _, _ => none
  | .call c => compileCall P c
  | .indexAddr t x i => match P.underlying t, cx x, cx i with
    | some (.slice e), some x, some i => (P.info? e).map fun d => .idxA d.size x i
    | some (.array n e), some x, some i => (P.info? e).map fun d => .idxP n d.size x i
    | _, _, _ => none
  | .load t x => match ldN P t, cx x with
    | some n, some (.gl y) => some (.lds n (.gl y))
    | some n, some x => some (.ld n x)
    | _, _ => none
  | .range t x => match P.underlying t, cx x with
    | some .string, some x => some (.rng x)
    | _, _ => none
  | .next it isString => match isString, cx it with
    | true, some x => some (.nxt x)
    | _, _ => none
  | .makeMap t r => match P.underlying t, r with
    | some (.map _ _), none => some .mkM
    | _, _ => none
  | .lookup t x k ok => match P.underlying t, ok, cx x, cx k with
    | some (.map kt et), false, some x, some k => match P.underlying kt, (P.info? et).bind (·.zero) with
      | some .string, some (.bool false) => some (.mget x k)
      | _, _ => none
    | _, _, _, _ => none
  | .mapUpdate t x k v => match P.underlying t, isTrueC v, cx x, cx k with
    | some (.map kt _), true, some x, some k => match P.underlying kt with
      | some .string => some (.mset x k)
      | _ => none
    | _, _, _, _ => none
  | .store t x v => match P.info? t, cx x, cx v with
    | some i, some x, some v => some (.st i.size x v)
    | _, _, _ => none
  | .fieldAddr s x f => match P.underlying s, cx x with
    | some (.struct fs), some x => match fs[f]? with
      | some fd => match P.info? fd.type with
        | some i => if i.size = 0 then none else some (.fldA fd.offset x)
        | none => none
      | none => none
    | _, _ => none
  | .field s x f => match P.underlying s, cx x with
    | some (.struct fs), some x => match fs[f]? with
      | some fd => (ldN P fd.type).map fun n => .fld fd.offset n x
      | none => none
    | _, _ => none
  | .index t x i => match P.underlying t, cx x, cx i with
    | some .string, some x, some i => some (.idxS x i)
    | some (.array n e), some x, some i => match P.info? e, ldN P e with
      | some d, some m => some (.idxG n d.size m x i)
      | _, _ => none
    | _, _, _ => none
  | .slice t x lo hi mx => match P.underlying t, cx x, cxO lo, cxO hi, cxO mx with
    | some .string, some x, some lo, some hi, some none => some (.ssl x lo hi)
    | some (.slice e), some x, some lo, some hi, some mx => (P.info? e).map fun d => .sls d.size x lo hi mx
    | some (.array n e), some x, some lo, some hi, some mx => (P.info? e).map fun d => .slA n d.size x lo hi mx
    | _, _, _, _, _ => none
  | .alloc t => match bldOf P t with
    | some e => some (.allocB t e)
    | none => (zeroCells P t).map .alloc
  | .box _ x => (cx x).map .box
  | .build t parts => match P.underlying t, zeroCells P t with
    | some (.struct fs), some z => match placesOf P fs.toList with
      | some pl => (partsP (pl[·]?) parts.toList).map (.build z)
      | none => none
    | some (.array _ e), some z => match P.info? e with
      | some d => (partsP (fun i => some (i * d.size, d.size)) parts.toList).map (.build z)
      | none => none
    | _, _ => none
  | .buildSlice t len parts => match P.underlying t with
    | some (.slice e) => match P.info? e, zeroAV P e, partsE parts.toList with
      | some d, some z, some ps => if z.cells.length = d.size ∧ len * d.size ≤ 2 ^ 24 ∧ d.size ≠ 0 then some (.bsl d.size z len ps) else none
      | _, _, _ => none
    | _ => none
  | .extract x i => (cx x).map fun x => .extr x i
  | .nilCheck x => (cx x).map .nck
  | .makeFunc fn fs cs => match fn with
    | .func f => match cxL fs.toList, cxL cs.toList with
      | some fs, some cs => some (.mkf f fs cs)
      | _, _ => none
    | _ => none
  | .makeInterface t x => if P.concrete t then (cx x).map (.mki t) else none
  | .makeSlice t l c => match P.underlying t with
    | some (.slice e) => match P.info? e, zeroCells P e, cx l, cx c with
      | some d, some z, some l, some c => if z.length = d.size ∧ d.size ≠ 0 then
          match l with
          | .c (.int .i64 0) => some (.mkT d.size d.bytes c)
          | l => some (.mkR d.size d.bytes z l c)
        else none
      | _, _, _, _ => none
    | _ => none
  | _ => none

structure AOper where
  dst : Option Nat
  op : AOp
  g : Option (Nat × Bool)
  deriving Repr, Inhabited

inductive ACode where
  | skip
  | region (draw : Bool) (ops : List AOper)
  | seq (a b : ACode)
  | cond (c : AX) (thn els : ACode)
  | block (id : Nat) (body : ACode)
  | loop (body : ACode)
  | exit (id : Nat)
  | ret
  | rangeF (g : AX) (ps : List Nat) (assign body : ACode)
  | scope (body : ACode)
  | label (l : Nat)
  | goto (l : Nat)
  | scopeJ (body : ACode)
  | bad
  deriving Repr, Inhabited

def dstOk (N : Nat) : Option Nat → Bool
  | some d => decide (d < N)
  | none => true

def hintOf (hint : Nat → Bool) : Option Nat → Bool
  | some d => hint d
  | none => false

def compileGuard (ops : Array Oper) : Option (Nat × Bool) → Option (Option (Nat × Bool))
  | none => some none
  | some (j, b) => match (ops[j]?).bind (·.dst) with
    | some t => some (some (t, b))
    | none => none

def compileOper (P : Program) (N : Nat) (hint : Nat → Bool) (ops : Array Oper) (o : Oper) : Option AOper :=
  match compileOp P (hintOf hint o.dst) o.op, compileGuard ops o.guard, dstOk N o.dst with
  | some op, some g, true => some ⟨o.dst, op, g⟩
  | _, _, _ => none

def compileOps (P : Program) (N : Nat) (hint : Nat → Bool) (ops : Array Oper) : List Oper → Option (List AOper)
  | [] => some []
  | o :: r => match compileOper P N hint ops o, compileOps P N hint ops r with
    | some a, some as => some (a :: as)
    | _, _ => none

end Go.Avm

/-
  The operations' soundness: those that leave the memory as it is.
-/
namespace Go.Avm
open Go

/-- The abstract step is sound for the concrete one. -/
structure GoodG (G : Consts) (g : Gh) (w : World) (H : Heap) (g' : Gh) (w' : World) (H' : Heap) : Prop where
  wf : Wf G g' w'
  hr : HR g' w' H'
  mono : Mono g w g' w'
  ext : Ext g w g' w'

theorem GoodG.xm {G : Consts} {g : Gh} {w : World} {H : Heap} {g' : Gh} {w' : World} {H' : Heap} (h : GoodG G g w H g' w' H') : ExtM g w g' w' := ⟨h.ext, h.mono⟩

abbrev Good (X : Cx) := GoodG X.G

def OpOk (X : Cx) (g : Gh) (w : World) (H : Heap) (r : Result Next) (v : AV) (H' : Heap) : Prop :=
  ∃ u w' g', (r = .ok (.value u) w' ∨ (r = .ok .skip w' ∧ u = Go.undef)) ∧ Good X g w H g' w' H' ∧ Rel v g' w' u

theorem Good.refl {X : Cx} {N : Nat} {g : Gh} {w : World} {fr : Fr} {H : Heap} {a : Act} (hs : StR X N g w fr H a) : Good X g w H g w H :=
  ⟨hs.wf, hs.hr, Mono.refl g w, Ext.refl g w⟩

theorem constS_rel {v : Value} {c : AV} {g : Gh} {w : World} (h : constS v = some c) : Rel c g w v := by
  unfold constS at h
  split at h <;> first | (cases h; done) | (cases h; simp [Rel]; done) | skip
  · cases h
    simp only [Rel]
    exact ⟨none, 0, [], 0, rfl, Nat.le_refl _, by simp [RelL], .inl rfl, rfl⟩

theorem constL_rel {g : Gh} {w : World} : ∀ {vs : List Value} {cs : List AV}, constL vs = some cs → RelL cs g w vs
  | [], cs, h => by simp [constL] at h; subst h; simp [RelL]
  | v :: vs, cs, h => by
    simp only [constL] at h
    split at h
    · rename_i c cs' h1 h2
      cases h
      simp only [RelL]
      exact ⟨v, vs, rfl, constS_rel h1, constL_rel h2⟩
    · cases h

theorem constAV_rel {v : Value} {c : AV} {g : Gh} {w : World} (h : constAV v = some c) : Rel c g w v := by
  unfold constAV at h
  split at h
  · rename_i cs
    simp only [Option.map_eq_some_iff] at h
    obtain ⟨as, h1, rfl⟩ := h
    simp only [Rel]
    exact ⟨cs.toList, by simp, constL_rel h1⟩
  · exact constS_rel h

section
variable {X : Cx} {N : Nat} {g : Gh} {w : World} {fr : Fr} {H : Heap} {a : Act}

theorem cx_rel (hs : StR X N g w fr H a) {x : Operand} {ax : AX} (h : cx x = some ax) : Rel (ax.eval X.G fr) g w (a.eval x) := by
  cases x with
  | tmp t => simp [cx] at h; subst h; exact hs.fr t
  | const v =>
    simp only [cx, Option.map_eq_some_iff] at h
    obtain ⟨c, h1, rfl⟩ := h
    exact constAV_rel h1
  | global x =>
    simp [cx] at h; subst h
    simp only [AX.eval, Act.eval]
    split
    · rename_i cs hc; exact hs.wf.laid x cs hc
    · simp [Rel]
  | func f =>
    simp [cx] at h; subst h
    simp only [AX.eval, Act.eval, Rel]
    exact ⟨[], [], by simp, by simp [RelL], by simp [RelL]⟩

theorem cxL_rel (hs : StR X N g w fr H a) : ∀ {xs : List Operand} {as : List AX}, cxL xs = some as → RelL (as.map (·.eval X.G fr)) g w (xs.map a.eval)
  | [], as, h => by simp [cxL] at h; subst h; simp [RelL]
  | x :: xs, as, h => by
    simp only [cxL] at h
    split at h
    · rename_i c cs h1 h2
      cases h
      simp only [RelL, List.map_cons]
      exact ⟨_, _, rfl, cx_rel hs h1, cxL_rel hs h2⟩
    · cases h

/-- What execOp says of an operation that yields one value. -/
theorem ok_value (hs : StR X N g w fr H a) {o : Oper} {s : Sem Value} {u : Value} {v : AV}
    (hx : execOp a.eval o = (do pure (.value (← s)))) (hr : s.run X.P w = .ok u w) (hv : Rel v g w u) : OpOk X g w H ((execOp a.eval o).run X.P w) v H :=
  ⟨u, w, g, .inl (by rw [hx]; simp [hr]), Good.refl hs, hv⟩

theorem rel_int {k : IntKind} {n : Int} {v : Value} : Rel (.int k n) g w v ↔ v = .int k n := by simp [Rel]
theorem rel_bool {b : Bool} {v : Value} : Rel (.bool b) g w v ↔ v = .bool b := by simp [Rel]
theorem rel_str {l : List UInt8} {v : Value} : Rel (.str l) g w v ↔ ∃ s : ByteArray, v = .string s ∧ s.data.toList = l := by simp [Rel]

theorem op_mov (hs : StR X N g w fr H a) {o : Oper} {x : Operand} {ax : AX} (ho : o.op = .move x ∨ o.op = .assign x) (h : cx x = some ax) :
    OpOk X g w H ((execOp a.eval o).run X.P w) (ax.eval X.G fr) H := by
  refine ok_value hs (s := pure (a.eval x)) ?_ rfl (cx_rel hs h)
  rcases ho with ho | ho <;> simp [execOp, ho]

theorem pickV_rel {t : Bool} {x y : AV} {v : Value} (h : if t then Rel x g w v else Rel y g w v) : Rel (pickV t x y) g w v := by
  have key : ∀ x y : AV, (if t then Rel x g w v else Rel y g w v) → Rel (bothB t x y) g w v := fun x y h => by
    unfold bothB
    split
    · rename_i p q
      cases t
      · simpa [Rel] using h
      · simpa [Rel] using h
    · cases t
      · simpa using h
      · simpa using h
  exact key _ _ h

theorem op_pick (hs : StR X N g w fr H a) {o : Oper} {c x y : Operand} {ac ax ay : AX} {t : Bool} (ho : o.op = .pick c x y) (h1 : cx c = some ac) (h2 : cx x = some ax) (h3 : cx y = some ay)
    (ht : ac.eval X.G fr = .bool t) : OpOk X g w H ((execOp a.eval o).run X.P w) (pickV t (ax.eval X.G fr) (ay.eval X.G fr)) H := by
  have hc := cx_rel hs h1
  rw [ht, rel_bool] at hc
  refine ok_value hs (s := pure (if t then a.eval x else a.eval y)) ?_ rfl (pickV_rel ?_)
  · simp [execOp, ho, hc, asBool]
  · cases t
    · exact cx_rel hs h3
    · exact cx_rel hs h2

theorem sh_sound {op : BinOp} {k yk : IntKind} {x y : Int} {v : AV} (h : sh op k x y = some (true, v)) : ∃ u, (Op.shift op k x yk y).run X.P w = .ok u w ∧ Rel v g w u := by
  unfold sh at h
  split at h
  · simp at h
    obtain ⟨h1, rfl⟩ := h
    exact ⟨_, by simp [Op.shift, show ¬ y < 0 by omega]; rfl, by simp [Rel]⟩
  · simp at h
    obtain ⟨h1, rfl⟩ := h
    exact ⟨_, by simp [Op.shift, show ¬ y < 0 by omega]; rfl, by simp [Rel]⟩
  · cases h

theorem bint_sound {op : BinOp} {k : IntKind} {t : TypeId} {x y : Int} {v : AV} (hop : isShift op = false) (h : bint op k x y = some (true, v)) :
    ∃ u, (binOp op t (.int k x) (.int k y)).run X.P w = .ok u w ∧ Rel v g w u := by
  cases op <;> simp [isShift] at hop <;> simp only [bint, Option.some.injEq, Prod.mk.injEq, true_and, decide_eq_true_eq] at h <;> first
    | (subst h; exact ⟨_, by simp only [binOp_and, binOp_or, binOp_xor, binOp_andNot, intBits_and, intBits_or, intBits_xor, intBits_andNot, Sem.run_pure]; rfl, by simp [Rel]⟩)
    | (subst h; exact ⟨_, by simp [binOp, Op.intArith, Op.intCmp]; rfl, by simp [Rel]⟩)
    | (obtain ⟨h1, rfl⟩ := h; exact ⟨_, by simp [binOp, Op.intDiv, h1]; rfl, by simp [Rel]⟩)

theorem bstr_sound {op : BinOp} {t : TypeId} {x y : ByteArray} {v : AV} (h : bstr op x.data.toList y.data.toList = some (true, v)) :
    ∃ u, (binOp op t (.string x) (.string y)).run X.P w = .ok u w ∧ Rel v g w u := by
  have e1 : x.toList = x.data.toList := ByteArray.toList_eq x
  have e2 : y.toList = y.data.toList := ByteArray.toList_eq y
  cases op <;> simp only [bstr, Option.some.injEq, Prod.mk.injEq, true_and, decide_eq_true_eq] at h <;> first
    | (cases h; done)
    | (subst h; exact ⟨_, by simp [binOp, Op.stringOp, e1, e2]; rfl, by simp [Rel]⟩)
    | (obtain ⟨h1, rfl⟩ := h
       refine ⟨.string (x ++ y), ?_, by simp only [Rel]; exact ⟨_, rfl, by simp⟩⟩
       have h2 : ¬ ((x.size + y.size : Nat) : Int) > IntKind.i64.max := by
         simp only [Array.length_toList] at h1
         have : IntKind.i64.max = 9223372036854775807 := by decide
         rw [this]; simp only [ByteArray.size]; omega
       simp only [binOp, Op.stringOp]
       rw [if_neg h2]; rfl)

theorem op_bin (hs : StR X N g w fr H a) {o : Oper} {op : BinOp} {t yt : TypeId} {x y : Operand} {ax ay : AX} {v : AV} (ho : o.op = .binOp op t x y yt) (h1 : cx x = some ax) (h2 : cx y = some ay)
    (h : abin op (ax.eval X.G fr) (ay.eval X.G fr) = some (true, v)) : OpOk X g w H ((execOp a.eval o).run X.P w) v H := by
  have r1 := cx_rel hs h1
  have r2 := cx_rel hs h2
  generalize ax.eval X.G fr = u1 at *
  generalize ay.eval X.G fr = u2 at *
  have key : ∃ u, (do eqGuard op t x y (a.eval x) (a.eval y); binOp op t (a.eval x) (a.eval y) : Sem Value).run X.P w = .ok u w ∧ Rel v g w u := by
    unfold abin at h
    split at h
    · rename_i k n k' n'
      rw [rel_int] at r1 r2
      rw [r1, r2]
      have he : eqGuard op t x y (.int k n) (.int k' n') = pure () := by cases op <;> rfl
      rw [he]
      simp only [Sem.run_bind, Sem.run_pure, Result.andThen_ok]
      by_cases hop : isShift op = true
      · rw [if_pos hop] at h
        obtain ⟨u, hu, hr⟩ := sh_sound (X := X) (w := w) (g := g) (yk := k') h
        refine ⟨u, ?_, hr⟩
        cases op <;> simp [isShift] at hop <;> simpa [binOp] using hu
      · rw [if_neg hop] at h
        split at h
        · rename_i hk
          subst hk
          exact bint_sound (by simpa using hop) h
        · cases h
    · rename_i l l'
      rw [rel_str] at r1 r2
      obtain ⟨s1, e1, rfl⟩ := r1
      obtain ⟨s2, e2, rfl⟩ := r2
      rw [e1, e2]
      have he : eqGuard op t x y (.string s1) (.string s2) = pure () := by cases op <;> rfl
      rw [he]
      simp only [Sem.run_bind, Sem.run_pure, Result.andThen_ok]
      exact bstr_sound h
    · cases h
  obtain ⟨u, hu, hr⟩ := key
  exact ok_value hs (by simp only [execOp, ho]; try rfl) hu hr

theorem run_equalIn_bool (d : Nat) (t : TypeId) (p q : Bool) (ht : X.P.underlying t = some .bool) : (Op.equalIn (d + 1) t (.bool p) (.bool q)).run X.P w = .ok (p == q) w := by
  simp [Op.equalIn, run_underlying ht]
theorem run_equal_bool (t : TypeId) (p q : Bool) (ht : X.P.underlying t = some .bool) : (Op.equal t (.bool p) (.bool q)).run X.P w = .ok (p == q) w :=
  run_equalIn_bool 9999 t p q ht

theorem op_beq (hs : StR X N g w fr H a) {o : Oper} {op : BinOp} {t yt : TypeId} {x y : Operand} {ax ay : AX} {p q : Bool} (ho : o.op = .binOp op t x y yt) (hop : op = .eql ∨ op = .neq) (ht : X.P.underlying t = some .bool)
    (h1 : cx x = some ax) (h2 : cx y = some ay) (e1 : ax.eval X.G fr = .bool p) (e2 : ay.eval X.G fr = .bool q) :
    OpOk X g w H ((execOp a.eval o).run X.P w) (.bool (bif op == .neq then !(p == q) else p == q)) H := by
  have r1 := cx_rel hs h1
  have r2 := cx_rel hs h2
  rw [e1, rel_bool] at r1
  rw [e2, rel_bool] at r2
  refine ok_value hs (u := .bool (bif op == .neq then !(p == q) else p == q)) (by simp only [execOp, ho]; try rfl) ?_ (by simp [Rel])
  rw [r1, r2]
  rcases hop with rfl | rfl <;> simp only [eqGuard, binOp, Sem.run_bind, run_equal_bool t p q ht, Result.andThen_ok, Sem.run_pure] <;> rfl

theorem op_not (hs : StR X N g w fr H a) {o : Oper} {t : TypeId} {x : Operand} {ax : AX} {p : Bool} (ho : o.op = .unOp .not t x) (h1 : cx x = some ax) (e1 : ax.eval X.G fr = .bool p) :
    OpOk X g w H ((execOp a.eval o).run X.P w) (.bool (!p)) H := by
  have r1 := cx_rel hs h1
  rw [e1, rel_bool] at r1
  exact ok_value hs (u := .bool (!p)) (by simp only [execOp, ho]; try rfl) (by rw [r1]; rfl) (by simp [Rel])

theorem op_neg (hs : StR X N g w fr H a) {o : Oper} {t : TypeId} {x : Operand} {ax : AX} {k : IntKind} {n : Int} (ho : o.op = .unOp .neg t x) (h1 : cx x = some ax) (e1 : ax.eval X.G fr = .int k n) :
    OpOk X g w H ((execOp a.eval o).run X.P w) (.int k (k.wrap (0 - n))) H := by
  have r1 := cx_rel hs h1
  rw [e1, rel_int] at r1
  exact ok_value hs (u := .int k (k.wrap (0 - n))) (by simp only [execOp, ho]; try rfl) (by rw [r1]; rfl) (by simp [Rel])

theorem op_conv (hs : StR X N g w fr H a) {o : Oper} {s d : TypeId} {x : Operand} {ax : AX} {k k' : IntKind} {n : Int} {sd : TypeDesc} (ho : o.op = .convert s d x) (h1 : cx x = some ax)
    (hs1 : X.P.underlying s = some sd) (hd : X.P.underlying d = some (.int k)) (e1 : ax.eval X.G fr = .int k' n) :
    OpOk X g w H ((execOp a.eval o).run X.P w) (.int k (k.wrap n)) H := by
  have r1 := cx_rel hs h1
  rw [e1, rel_int] at r1
  exact ok_value hs (u := .int k (k.wrap n)) (by simp only [execOp, ho]; try rfl) (by rw [r1]; simp [convert, run_underlying hs1, run_underlying hd, Conv.intToInt]) (by simp [Rel])

theorem op_strmov (hs : StR X N g w fr H a) {o : Oper} {s d : TypeId} {x : Operand} {ax : AX} {l : List UInt8} (ho : o.op = .convert s d x) (h1 : cx x = some ax)
    (hs1 : X.P.underlying s = some .string) (hd : X.P.underlying d = some .string) (e1 : ax.eval X.G fr = .str l) :
    OpOk X g w H ((execOp a.eval o).run X.P w) (.str l) H := by
  have r1 := cx_rel hs h1
  rw [e1, rel_str] at r1
  obtain ⟨b, rb, hb⟩ := r1
  exact ok_value hs (u := .string b) (by simp only [execOp, ho]; try rfl) (by rw [rb]; simp [convert, run_underlying hs1, run_underlying hd]) (by rw [rel_str]; exact ⟨b, rfl, hb⟩)

theorem op_extr (hs : StR X N g w fr H a) {o : Oper} {x : Operand} {ax : AX} {i : Nat} {vs : List AV} (ho : o.op = .extract x i) (h1 : cx x = some ax) (e1 : ax.eval X.G fr = .tuple vs) (hi : i < vs.length) :
    OpOk X g w H ((execOp a.eval o).run X.P w) (vs.getD i .undef) H := by
  have r1 := cx_rel hs h1
  rw [e1] at r1
  simp only [Rel] at r1
  obtain ⟨us, r1, r2⟩ := r1
  obtain ⟨u, hu, hr⟩ := r2.get' i (x := vs.getD i .undef) (by simp [hi])
  exact ok_value hs (u := u) (by simp only [execOp, ho]; try rfl) (by rw [r1]; simp [Instr.extract, hu]) hr

theorem op_mkf (hs : StR X N g w fr H a) {o : Oper} {f : FuncId} {fs cs : Array Operand} {afs acs : List AX} (ho : o.op = .makeFunc (.func f) fs cs) (h1 : cxL fs.toList = some afs) (h2 : cxL cs.toList = some acs) :
    OpOk X g w H ((execOp a.eval o).run X.P w) (.clo f (afs.map (·.eval X.G fr)) (acs.map (·.eval X.G fr))) H := by
  refine ok_value hs (u := .func (.func f) (fs.map a.eval) (cs.map a.eval)) (by simp only [execOp, ho]; try rfl) (by simp [Instr.makeFunc]) ?_
  simp only [Rel]
  refine ⟨fs.toList.map a.eval, cs.toList.map a.eval, ?_, cxL_rel hs h1, cxL_rel hs h2⟩
  congr 1 <;> (apply Array.ext'; simp)

theorem op_mki (hs : StR X N g w fr H a) {o : Oper} {t : TypeId} {x : Operand} {ax : AX} (ho : o.op = .makeInterface t x) (ht : X.P.concrete t = true) (h1 : cx x = some ax) :
    OpOk X g w H ((execOp a.eval o).run X.P w) (.ifc t (ax.eval X.G fr)) H :=
  ok_value hs (u := .iface t (a.eval x)) (by simp only [execOp, ho]; try rfl) (run_makeInterface w t _ ht) (by simp only [Rel]; exact ⟨_, rfl, cx_rel hs h1⟩)

/-- A call of a builtin. -/
theorem ok_builtin (hs : StR X N g w fr H a) {o : Oper} {b : Builtin} {as : Array Operand} {ts : Array TypeId} {u : Value} {v : AV}
    (ho : o.op = .call { callee := .builtin b, args := as, argTypes := ts })
    (hr : (builtin b ts o.type (as.map fun | .const _ => true | _ => false) (as.map a.eval)).run X.P w = .ok (.value u) w) (hv : Rel v g w u) : OpOk X g w H ((execOp a.eval o).run X.P w) v H := by
  refine ⟨u, w, g, .inl ?_, Good.refl hs, hv⟩
  simp only [execOp, ho, resolve, Sem.run_bind, Sem.run_pure, Result.andThen_ok, invoke]
  exact hr

theorem op_len_str (hs : StR X N g w fr H a) {o : Oper} {x : Operand} {t : TypeId} {ax : AX} {l : List UInt8} (ho : o.op = .call { callee := .builtin .len, args := #[x], argTypes := #[t] }) (h1 : cx x = some ax)
    (ht : X.P.underlying t = some .string) (e1 : ax.eval X.G fr = .str l) : OpOk X g w H ((execOp a.eval o).run X.P w) (.int .i64 l.length) H := by
  have r1 := cx_rel hs h1
  rw [e1, rel_str] at r1
  obtain ⟨b, rb, hb⟩ := r1
  refine ok_builtin hs (u := .int .i64 l.length) ho ?_ (by simp [Rel])
  have hz : b.size = l.length := by rw [← hb]; rfl
  simp [builtin, Builtin.len_, rb, run_underlying ht, goInt, hz]

theorem op_len_sl (hs : StR X N g w fr H a) {o : Oper} {x : Operand} {t e : TypeId} {n : Nat} {v : Option Addr} {c : Nat} (ho : o.op = .call { callee := .builtin .len, args := #[x], argTypes := #[t] })
    (ht : X.P.underlying t = some (.slice e)) (e1 : a.eval x = .slice v n c) : OpOk X g w H ((execOp a.eval o).run X.P w) (.int .i64 n) H := by
  refine ok_builtin hs (u := .int .i64 n) ho ?_ (by simp [Rel])
  simp [builtin, Builtin.len_, e1, run_underlying ht, goInt]

theorem op_len_arr (hs : StR X N g w fr H a) {o : Oper} {x : Operand} {t e : TypeId} {n : Nat} (ho : o.op = .call { callee := .builtin .len, args := #[x], argTypes := #[t] })
    (ht : X.P.underlying t = some (.array n e)) : OpOk X g w H ((execOp a.eval o).run X.P w) (.int .i64 n) H := by
  refine ok_builtin hs (u := .int .i64 n) ho ?_ (by simp [Rel])
  simp [builtin, Builtin.len_, run_underlying ht, goInt]

end

end Go.Avm

/-
  The operations' soundness: those that read the memory.
-/
namespace Go.Avm
open Go

theorem addr_add (b o n : Nat) : (⟨b, o, none⟩ : Addr).add n = ⟨b, o + n, none⟩ := by
  unfold Addr.add
  split
  · rename_i h; subst h; rfl
  · rfl

theorem scalar_cells {x : AV} {g : Gh} {w : World} {v : Value} (h : Rel x g w v) (hx : scalarB x = true) : v.cells = #[v] ∧ v.oneCell' = true := by
  cases x <;> simp [scalarB] at hx <;> simp only [Rel] at h
  case bool => subst h; exact ⟨rfl, rfl⟩
  case int => subst h; exact ⟨rfl, rfl⟩
  case str => obtain ⟨s, rfl, _⟩ := h; exact ⟨rfl, rfl⟩
  case sl => obtain ⟨a, cap, vs, sz, rfl, _⟩ := h; exact ⟨rfl, rfl⟩
  case rsl => obtain ⟨a, b, rfl, _⟩ := h; exact ⟨rfl, rfl⟩
  case nilP => subst h; exact ⟨rfl, rfl⟩
  case vp => obtain ⟨b, o, vs, rfl, _⟩ := h; exact ⟨rfl, rfl⟩
  case ptr => obtain ⟨b, rfl, _⟩ := h; exact ⟨rfl, rfl⟩
  case clo => obtain ⟨us, vs, rfl, _⟩ := h; exact ⟨rfl, rfl⟩
  case nilF => subst h; exact ⟨rfl, rfl⟩
  case ifc => obtain ⟨u, rfl, _⟩ := h; exact ⟨rfl, rfl⟩
  case nilI => subst h; exact ⟨rfl, rfl⟩
  case yv => obtain ⟨l, rfl, _⟩ := h; exact ⟨rfl, rfl⟩
  case mp => obtain ⟨l, rfl, _⟩ := h; exact ⟨rfl, rfl⟩

theorem rel_cells {x : AV} {g : Gh} {w : World} {v : Value} (h : Rel x g w v) (hx : notTup x = true) : RelL x.cells g w v.cells.toList := by
  by_cases hs : scalarB x = true
  · rw [(scalar_cells h hs).1]
    have : x.cells = [x] := by cases x <;> first | rfl | simp [scalarB] at hs
    rw [this]
    simp only [RelL]
    exact ⟨v, [], rfl, h, rfl⟩
  · cases x <;> simp [scalarB] at hs <;> simp [notTup] at hx
    simp only [Rel] at h
    obtain ⟨vs, rfl, h2⟩ := h
    simpa [AV.cells, Value.cells] using h2

theorem cell_of_heap {w : World} {b o : Nat} {vs : Array Value} {e : TypeId} {fz : Nat × Nat} {v : Value} (h : w.heap[b]? = some (.cells vs e fz)) (hv : vs[o]? = some v) : w.cell? ⟨b, o, none⟩ = some v := by
  simp [World.cell?, h, hv]

theorem byteOf_rel {es : List AV} {l : List UInt8} {g : Gh} {w : World} {vs : List Value} (h : es.mapM byteOf? = some l) (hr : RelL es g w vs) :
    ∃ ns : List Int, vs = ns.map (Value.int .u8) ∧ l = ns.map fun n => UInt8.ofNat n.toNat := by
  induction es generalizing l vs with
  | nil => simp at h; simp [RelL] at hr; subst h; subst hr; exact ⟨[], rfl, rfl⟩
  | cons x es ih =>
    simp only [RelL] at hr
    obtain ⟨v, rest, rfl, h2, h3⟩ := hr
    simp only [List.mapM_cons, Option.bind_eq_bind, Option.bind_eq_some_iff, Option.pure_def, Option.some.injEq] at h
    obtain ⟨b, hb, bs, hbs, rfl⟩ := h
    obtain ⟨ns, rfl, rfl⟩ := ih hbs h3
    unfold byteOf? at hb
    split at hb
    · rename_i n
      cases hb
      rw [rel_int] at h2
      exact ⟨n :: ns, by simp [h2], by simp⟩
    · cases hb

section
variable {X : Cx} {N : Nat} {g : Gh} {w : World} {fr : Fr} {H : Heap} {a : Act}

theorem op_idxA_sl (hs : StR X N g w fr H a) {o : Oper} {t e : TypeId} {d : TypeInfo} {x i : Operand} {ax ai : AX} {p : Perm} {es : List AV} {k : IntKind} {n : Int} (ho : o.op = .indexAddr t x i)
    (ht : X.P.underlying t = some (.slice e)) (hd : X.P.info? e = some d) (h1 : cx x = some ax) (h2 : cx i = some ai) (e1 : ax.eval X.G fr = .sl p es) (e2 : ai.eval X.G fr = .int k n)
    (hn0 : 0 ≤ n) (hn1 : n < es.length) (hc : (es.getD n.toNat .undef).cells.length = d.size) (ht' : notTup (es.getD n.toNat .undef) = true) :
    OpOk X g w H ((execOp a.eval o).run X.P w) (.vp (es.getD n.toNat .undef).cells) H := by
  have r1 := cx_rel hs h1
  have r2 := cx_rel hs h2
  rw [e1] at r1
  rw [e2, rel_int] at r2
  simp only [Rel] at r1
  obtain ⟨ad, cap, vs, sz, r1, hcap, hvs, hlies, _⟩ := r1
  have hi : n.toNat < es.length := by omega
  obtain ⟨v, hv, hrv⟩ := hvs.get' n.toNat (x := es.getD n.toNat .undef) (by simp [hi])
  have hcs := rel_cells hrv ht'
  rcases hlies with h0 | ⟨b, off, rfl, hl⟩
  · rw [h0] at hv; simp at hv
  · obtain ⟨hsz, hcells⟩ := hl _ _ hv
    have hszd : sz = d.size := by rw [← hsz, ← hc]; simpa using hcs.length
    refine ok_value hs (u := .pointer (some ⟨b, off + n.toNat * d.size, none⟩)) (by simp only [execOp, ho]; try rfl) ?_ ?_
    · rw [r1, r2]
      simp [Instr.indexAt, run_underlying ht, asIntOf, sizeOf, typeInfo, hd, hn0, hn1, addr_add]
    · simp only [Rel]
      refine ⟨b, off + n.toNat * d.size, v.cells.toList, rfl, hcs, fun j c hj => ?_⟩
      have := hcells j c (by simpa using hj)
      rwa [hszd] at this

theorem op_idxA_rsl (hs : StR X N g w fr H a) {o : Oper} {t e : TypeId} {d : TypeInfo} {x i : Operand} {ax ai : AX} {id off m cap : Nat} {k : IntKind} {n : Int} (ho : o.op = .indexAddr t x i)
    (ht : X.P.underlying t = some (.slice e)) (hd : X.P.info? e = some d) (h1 : cx x = some ax) (h2 : cx i = some ai) (e1 : ax.eval X.G fr = .rsl id off m cap d.size) (e2 : ai.eval X.G fr = .int k n)
    (hn0 : 0 ≤ n) (hn1 : n < m) : OpOk X g w H ((execOp a.eval o).run X.P w) (.ptr id (off + n.toNat * d.size)) H := by
  have r1 := cx_rel hs h1
  have r2 := cx_rel hs h2
  rw [e1] at r1
  rw [e2, rel_int] at r2
  simp only [Rel] at r1
  obtain ⟨ad, b, r1, hb, hmc, hc⟩ := r1
  rcases hc with hc | rfl
  · omega
  · refine ok_value hs (u := .pointer (some ⟨b, off + n.toNat * d.size, none⟩)) (by simp only [execOp, ho]; try rfl) ?_ ?_
    · rw [r1, r2]
      simp [Instr.indexAt, run_underlying ht, asIntOf, sizeOf, typeInfo, hd, hn0, hn1, addr_add]
    · simp only [Rel]; exact ⟨b, rfl, hb⟩

theorem run_indexAt_arr (t e : TypeId) (m : Nat) (d : TypeInfo) (b off : Nat) (k : IntKind) (n : Int) (ht : X.P.underlying t = some (.array m e)) (hd : X.P.info? e = some d) (hn0 : 0 ≤ n) (hn1 : n < m) :
    (Instr.indexAt t (.pointer (some ⟨b, off, none⟩)) (.int k n)).run X.P w = .ok (.pointer (some ⟨b, off + n.toNat * d.size, none⟩)) w := by
  simp [Instr.indexAt, run_underlying ht, asIntOf, sizeOf, typeInfo, hd, hn0, hn1, addr_add, Instr.sureAddr]

theorem op_idxP_ptr (hs : StR X N g w fr H a) {o : Oper} {t e : TypeId} {d : TypeInfo} {x i : Operand} {ax ai : AX} {id off m : Nat} {k : IntKind} {n : Int} (ho : o.op = .indexAddr t x i)
    (ht : X.P.underlying t = some (.array m e)) (hd : X.P.info? e = some d) (h1 : cx x = some ax) (h2 : cx i = some ai) (e1 : ax.eval X.G fr = .ptr id off) (e2 : ai.eval X.G fr = .int k n)
    (hn0 : 0 ≤ n) (hn1 : n < m) : OpOk X g w H ((execOp a.eval o).run X.P w) (.ptr id (off + n.toNat * d.size)) H := by
  have r1 := cx_rel hs h1
  have r2 := cx_rel hs h2
  rw [e1] at r1
  rw [e2, rel_int] at r2
  simp only [Rel] at r1
  obtain ⟨b, r1, hb⟩ := r1
  refine ok_value hs (by simp only [execOp, ho]; try rfl) (by rw [r1, r2]; exact run_indexAt_arr t e m d b off k n ht hd hn0 hn1) ?_
  simp only [Rel]; exact ⟨b, rfl, hb⟩

theorem rel_vp_drop {cs : List AV} {b off : Nat} (n : Nat) (h : Rel (.vp cs) g w (.pointer (some ⟨b, off, none⟩))) : Rel (.vp (cs.drop n)) g w (.pointer (some ⟨b, off + n, none⟩)) := by
  simp only [Rel] at h ⊢
  obtain ⟨b', o', vs, he, hvs, hc⟩ := h
  cases he
  exact ⟨b, off + n, vs.drop n, rfl, hvs.drop n, fun i x hx => by rw [Nat.add_assoc]; exact hc (n + i) x (by simpa using hx)⟩

theorem op_idxP_vp (hs : StR X N g w fr H a) {o : Oper} {t e : TypeId} {d : TypeInfo} {x i : Operand} {ax ai : AX} {cs : List AV} {m : Nat} {k : IntKind} {n : Int} (ho : o.op = .indexAddr t x i)
    (ht : X.P.underlying t = some (.array m e)) (hd : X.P.info? e = some d) (h1 : cx x = some ax) (h2 : cx i = some ai) (e1 : ax.eval X.G fr = .vp cs) (e2 : ai.eval X.G fr = .int k n)
    (hn0 : 0 ≤ n) (hn1 : n < m) : OpOk X g w H ((execOp a.eval o).run X.P w) (.vp (cs.drop (n.toNat * d.size))) H := by
  have r1 := cx_rel hs h1
  have r2 := cx_rel hs h2
  rw [e1] at r1
  rw [e2, rel_int] at r2
  have r1' := r1
  simp only [Rel] at r1
  obtain ⟨b, off, vs, hp, _, _⟩ := r1
  rw [hp] at r1'
  exact ok_value hs (by simp only [execOp, ho]; try rfl) (by rw [hp, r2]; exact run_indexAt_arr t e m d b off k n ht hd hn0 hn1) (rel_vp_drop _ r1')

theorem Rel.of_flat {x : AV} {g : Gh} {w : World} {v : Value} (h : Rel x g.flat w v) : Rel x g w v :=
  Rel.mono x (g := g.flat) ⟨fun _ _ h => ⟨h, rfl⟩, (fun _ _ e => nomatch e), (fun _ _ e => nomatch e)⟩ h
theorem RelL.of_flat {x : List AV} {g : Gh} {w : World} {v : List Value} (h : RelL x g.flat w v) : RelL x g w v :=
  RelL.mono x (g := g.flat) ⟨fun _ _ h => ⟨h, rfl⟩, (fun _ _ e => nomatch e), (fun _ _ e => nomatch e)⟩ h

/-- Loads. -/
theorem run_loadVar_one {t : TypeId} {d : TypeDesc} {ad : Addr} {v : Value} (ht : X.P.underlying t = some d) (hd : isAggD d = false) (hv : w.cell? ad = some v) : (loadVar t ad).run X.P w = .ok v w := by
  have : (isAgg t).run X.P w = .ok false w := by
    simp only [isAgg, Sem.run_bind, run_underlying ht, Result.andThen_ok]
    cases d <;> first | rfl | simp [isAggD] at hd
  simp [loadVar, this, hv]

theorem run_loadVar_agg {t : TypeId} {d : TypeDesc} {i : TypeInfo} {b off : Nat} {vs : List Value} (ht : X.P.underlying t = some d) (hd : isAggD d = true) (hi : X.P.info? t = some i) (hl : vs.length = i.size)
    (hv : ∀ (j : Nat) x, vs[j]? = some x → w.cell? ⟨b, off + j, none⟩ = some x) : (loadVar t ⟨b, off, none⟩).run X.P w = .ok (.agg vs.toArray) w := by
  have : (isAgg t).run X.P w = .ok true w := by
    simp only [isAgg, Sem.run_bind, run_underlying ht, Result.andThen_ok]
    cases d <;> first | rfl | simp [isAggD] at hd
  have h2 := run_loadCells_list (P := X.P) w ⟨b, off, none⟩ vs (fun j v hj => by rw [addr_add]; exact hv j v hj)
  rw [hl] at h2
  simp [loadVar, this, sizeOf, typeInfo, hi, h2]

theorem ldN_one {t : TypeId} (h : ldN X.P t = some none) : ∃ d, X.P.underlying t = some d ∧ isAggD d = false := by
  unfold ldN at h
  split at h
  · rename_i d i h1 h2
    refine ⟨d, h1, ?_⟩
    by_cases hd : isAggD d = true
    · simp [hd] at h
    · simpa using hd
  · cases h
theorem ldN_agg {t : TypeId} {n : Nat} (h : ldN X.P t = some (some n)) : ∃ d i, X.P.underlying t = some d ∧ isAggD d = true ∧ X.P.info? t = some i ∧ i.size = n := by
  unfold ldN at h
  split at h
  · rename_i d i h1 h2
    refine ⟨d, i, h1, ?_, h2, ?_⟩ <;>
    · by_cases hd : isAggD d = true
      · simp [hd] at h; first | exact hd | exact h
      · simp [hd] at h
  · cases h

theorem op_ld1_vp (hs : StR X N g w fr H a) {o : Oper} {t : TypeId} {x : Operand} {ax : AX} {cs : List AV} (ho : o.op = .load t x) (ht : ldN X.P t = some none) (h1 : cx x = some ax)
    (e1 : ax.eval X.G fr = .vp cs) (hc : 0 < cs.length) : OpOk X g w H ((execOp a.eval o).run X.P w) (cs.getD 0 .undef) H := by
  have r1 := cx_rel hs h1
  rw [e1] at r1
  simp only [Rel] at r1
  obtain ⟨b, off, vs, hp, hvs, hcell⟩ := r1
  obtain ⟨d, hd, hda⟩ := ldN_one ht
  obtain ⟨v, hv, hr⟩ := hvs.get' 0 (x := cs.getD 0 .undef) (by simp [hc])
  exact ok_value hs (by simp only [execOp, ho]; try rfl) (by rw [hp]; simp only [Instr.loadAt, Instr.sureAddr, Sem.run_bind, Sem.run_pure, Result.andThen_ok]; exact run_loadVar_one hd hda (hcell 0 v hv).2) hr.of_flat

theorem HR.box (h : HR g w H) {id b : Nat} {cs : List AV} (hH : H[id]? = some (.box cs)) (hb : g.bx id = some b) : ∃ (vs : Array Value) (e : TypeId) (fz : Nat × Nat), w.heap[b]? = some (.cells vs e fz) ∧ RelL cs g w vs.toList := by
  obtain ⟨b', vs, e, fz, h1, h2, h3⟩ := h.blk id _ hH
  rw [hb] at h1
  cases h1
  exact ⟨vs, e, fz, h2, h3⟩

theorem op_ld1_ptr (hs : StR X N g w fr H a) {o : Oper} {t : TypeId} {x : Operand} {ax : AX} {id off : Nat} {cs : List AV} (ho : o.op = .load t x) (ht : ldN X.P t = some none) (h1 : cx x = some ax)
    (e1 : ax.eval X.G fr = .ptr id off) (hH : H[id]? = some (.box cs)) (hc : off < cs.length) : OpOk X g w H ((execOp a.eval o).run X.P w) (cs.getD off .undef) H := by
  have r1 := cx_rel hs h1
  rw [e1] at r1
  simp only [Rel] at r1
  obtain ⟨b, hp, hb⟩ := r1
  obtain ⟨vs, e, fz, hheap, hvs⟩ := hs.hr.box hH hb
  obtain ⟨d, hd, hda⟩ := ldN_one ht
  obtain ⟨v, hv, hr⟩ := hvs.get' off (x := cs.getD off .undef) (by simp [hc])
  exact ok_value hs (by simp only [execOp, ho]; try rfl) (by rw [hp]; simp only [Instr.loadAt, Instr.sureAddr, Sem.run_bind, Sem.run_pure, Result.andThen_ok]; exact run_loadVar_one hd hda (cell_of_heap hheap (by simpa using hv))) hr

theorem op_ldn_vp (hs : StR X N g w fr H a) {o : Oper} {t : TypeId} {n : Nat} {x : Operand} {ax : AX} {cs : List AV} (ho : o.op = .load t x) (ht : ldN X.P t = some (some n)) (h1 : cx x = some ax)
    (e1 : ax.eval X.G fr = .vp cs) (hc : n ≤ cs.length) : OpOk X g w H ((execOp a.eval o).run X.P w) (.agg (cs.take n)) H := by
  have r1 := cx_rel hs h1
  rw [e1] at r1
  simp only [Rel] at r1
  obtain ⟨b, off, vs, hp, hvs, hcell⟩ := r1
  obtain ⟨d, i, hd, hda, hi, hn⟩ := ldN_agg ht
  refine ok_value hs (u := .agg (vs.take n).toArray) (by simp only [execOp, ho]; try rfl) ?_ ?_
  · rw [hp]
    simp only [Instr.loadAt, Instr.sureAddr, Sem.run_bind, Sem.run_pure, Result.andThen_ok]
    refine run_loadVar_agg hd hda hi (by simp [hvs.length, hn]; omega) fun j v hj => ?_
    rw [List.getElem?_take] at hj
    split at hj
    · exact (hcell j v hj).2
    · cases hj
  · simp only [Rel]
    exact ⟨vs.take n, rfl, (hvs.take n).of_flat⟩

theorem op_ldn_ptr (hs : StR X N g w fr H a) {o : Oper} {t : TypeId} {n : Nat} {x : Operand} {ax : AX} {id off : Nat} {cs : List AV} (ho : o.op = .load t x) (ht : ldN X.P t = some (some n)) (h1 : cx x = some ax)
    (e1 : ax.eval X.G fr = .ptr id off) (hH : H[id]? = some (.box cs)) (hc : off + n ≤ cs.length) : OpOk X g w H ((execOp a.eval o).run X.P w) (.agg ((cs.drop off).take n)) H := by
  have r1 := cx_rel hs h1
  rw [e1] at r1
  simp only [Rel] at r1
  obtain ⟨b, hp, hb⟩ := r1
  obtain ⟨vs, e, fz, hheap, hvs⟩ := hs.hr.box hH hb
  obtain ⟨d, i, hd, hda, hi, hn⟩ := ldN_agg ht
  refine ok_value hs (u := .agg ((vs.toList.drop off).take n).toArray) (by simp only [execOp, ho]; try rfl) ?_ ?_
  · rw [hp]
    simp only [Instr.loadAt, Instr.sureAddr, Sem.run_bind, Sem.run_pure, Result.andThen_ok]
    refine run_loadVar_agg hd hda hi (by have := hvs.length; simp at this; simp [hn]; omega) fun j v hj => ?_
    rw [List.getElem?_take] at hj
    split at hj
    · rw [List.getElem?_drop] at hj; exact cell_of_heap hheap (by simpa using hj)
    · cases hj
  · simp only [Rel]
    exact ⟨_, rfl, (hvs.drop off).take n⟩

theorem run_fieldAt {s : TypeId} {fs : Array Field} {f : Nat} {fd : Field} {i : TypeInfo} {b off : Nat} (hu : X.P.underlying s = some (.struct fs)) (hf : fs[f]? = some fd) (hi : X.P.info? fd.type = some i) (hz : i.size ≠ 0) :
    (Instr.fieldAt s (.pointer (some ⟨b, off, none⟩)) f).run X.P w = .ok (.pointer (some ⟨b, off + fd.offset, none⟩)) w := by
  simp [Instr.fieldAt, run_underlying hu, hf, Instr.sureAddr, fieldPlace, sizeOf, typeInfo, hi, hz, addr_add]

theorem op_fldA_ptr (hs : StR X N g w fr H a) {o : Oper} {s : TypeId} {fs : Array Field} {f : Nat} {fd : Field} {i : TypeInfo} {x : Operand} {ax : AX} {id off : Nat} (ho : o.op = .fieldAddr s x f)
    (hu : X.P.underlying s = some (.struct fs)) (hf : fs[f]? = some fd) (hi : X.P.info? fd.type = some i) (hz : i.size ≠ 0) (h1 : cx x = some ax) (e1 : ax.eval X.G fr = .ptr id off) :
    OpOk X g w H ((execOp a.eval o).run X.P w) (.ptr id (off + fd.offset)) H := by
  have r1 := cx_rel hs h1
  rw [e1] at r1
  simp only [Rel] at r1
  obtain ⟨b, hp, hb⟩ := r1
  exact ok_value hs (by simp only [execOp, ho]; try rfl) (by rw [hp]; exact run_fieldAt hu hf hi hz) (by simp only [Rel]; exact ⟨b, rfl, hb⟩)

theorem op_fldA_vp (hs : StR X N g w fr H a) {o : Oper} {s : TypeId} {fs : Array Field} {f : Nat} {fd : Field} {i : TypeInfo} {x : Operand} {ax : AX} {cs : List AV} (ho : o.op = .fieldAddr s x f)
    (hu : X.P.underlying s = some (.struct fs)) (hf : fs[f]? = some fd) (hi : X.P.info? fd.type = some i) (hz : i.size ≠ 0) (h1 : cx x = some ax) (e1 : ax.eval X.G fr = .vp cs) :
    OpOk X g w H ((execOp a.eval o).run X.P w) (.vp (cs.drop fd.offset)) H := by
  have r1 := cx_rel hs h1
  rw [e1] at r1
  have r1' := r1
  simp only [Rel] at r1
  obtain ⟨b, off, vs, hp, _, _⟩ := r1
  rw [hp] at r1'
  exact ok_value hs (by simp only [execOp, ho]; try rfl) (by rw [hp]; exact run_fieldAt hu hf hi hz) (rel_vp_drop _ r1')

theorem run_part_one {t : TypeId} {d : TypeDesc} {cs : Array Value} {off : Nat} {v : Value} (ht : X.P.underlying t = some d) (hd : isAggD d = false) (hv : cs[off]? = some v) : (part t cs off).run X.P w = .ok v w := by
  have : (isAgg t).run X.P w = .ok false w := by
    simp only [isAgg, Sem.run_bind, run_underlying ht, Result.andThen_ok]
    cases d <;> first | rfl | simp [isAggD] at hd
  simp [part, this, hv]

theorem run_part_agg {t : TypeId} {d : TypeDesc} {i : TypeInfo} {cs : Array Value} {off : Nat} (ht : X.P.underlying t = some d) (hd : isAggD d = true) (hi : X.P.info? t = some i) :
    (part t cs off).run X.P w = .ok (.agg ((cs.toList.drop off).take i.size).toArray) w := by
  have : (isAgg t).run X.P w = .ok true w := by
    simp only [isAgg, Sem.run_bind, run_underlying ht, Result.andThen_ok]
    cases d <;> first | rfl | simp [isAggD] at hd
  simp [part, this, sizeOf, typeInfo, hi]
  apply Array.ext'
  simp [Array.toList_extract, List.extract]

theorem rel_part_one {t : TypeId} {cs : List AV} {vs : List Value} {off : Nat} (ht : ldN X.P t = some none) (h : RelL cs g w vs) (ho : off < cs.length) :
    ∃ v, (part t vs.toArray off).run X.P w = .ok v w ∧ Rel (cs.getD off .undef) g w v := by
  obtain ⟨d, hd, hda⟩ := ldN_one ht
  obtain ⟨v, hv, hr⟩ := h.get' off (x := cs.getD off .undef) (by simp [ho])
  exact ⟨v, run_part_one hd hda (by simpa using hv), hr⟩

theorem rel_part_agg {t : TypeId} {n : Nat} {cs : List AV} {vs : List Value} {off : Nat} (ht : ldN X.P t = some (some n)) (h : RelL cs g w vs) :
    ∃ v, (part t vs.toArray off).run X.P w = .ok v w ∧ Rel (.agg ((cs.drop off).take n)) g w v := by
  obtain ⟨d, i, hd, hda, hi, rfl⟩ := ldN_agg ht
  exact ⟨_, run_part_agg hd hda hi, by simp only [Rel]; exact ⟨_, rfl, (h.drop off).take _⟩⟩

theorem op_fld (hs : StR X N g w fr H a) {o : Oper} {s : TypeId} {fs : Array Field} {f : Nat} {fd : Field} {n : Option Nat} {x : Operand} {ax : AX} {cs : List AV} (ho : o.op = .field s x f)
    (hu : X.P.underlying s = some (.struct fs)) (hf : fs[f]? = some fd) (hn : ldN X.P fd.type = some n) (h1 : cx x = some ax) (e1 : ax.eval X.G fr = .agg cs) (hc : n = none → fd.offset < cs.length) :
    OpOk X g w H ((execOp a.eval o).run X.P w) (match n with | none => cs.getD fd.offset .undef | some k => .agg ((cs.drop fd.offset).take k)) H := by
  have r1 := cx_rel hs h1
  rw [e1] at r1
  simp only [Rel] at r1
  obtain ⟨vs, hp, hvs⟩ := r1
  have key : ∃ v, (part fd.type vs.toArray fd.offset).run X.P w = .ok v w ∧ Rel (match n with | none => cs.getD fd.offset .undef | some k => .agg ((cs.drop fd.offset).take k)) g w v := by
    cases n with
    | none => exact rel_part_one hn hvs (hc rfl)
    | some k => exact rel_part_agg hn hvs
  obtain ⟨v, hv, hr⟩ := key
  exact ok_value hs (by simp only [execOp, ho]; try rfl) (by rw [hp]; simp [Instr.field, run_underlying hu, hf, asAgg, hv]) hr

theorem op_idxG (hs : StR X N g w fr H a) {o : Oper} {t e : TypeId} {d : TypeInfo} {m : Nat} {n : Option Nat} {x i : Operand} {ax ai : AX} {cs : List AV} {k : IntKind} {z : Int} (ho : o.op = .index t x i)
    (hu : X.P.underlying t = some (.array m e)) (hd : X.P.info? e = some d) (hn : ldN X.P e = some n) (h1 : cx x = some ax) (h2 : cx i = some ai) (e1 : ax.eval X.G fr = .agg cs) (e2 : ai.eval X.G fr = .int k z)
    (hz0 : 0 ≤ z) (hz1 : z < m) (hc : n = none → z.toNat * d.size < cs.length) :
    OpOk X g w H ((execOp a.eval o).run X.P w) (match n with | none => cs.getD (z.toNat * d.size) .undef | some k => .agg ((cs.drop (z.toNat * d.size)).take k)) H := by
  have r1 := cx_rel hs h1
  have r2 := cx_rel hs h2
  rw [e1] at r1
  rw [e2, rel_int] at r2
  simp only [Rel] at r1
  obtain ⟨vs, hp, hvs⟩ := r1
  have key : ∃ v, (part e vs.toArray (z.toNat * d.size)).run X.P w = .ok v w ∧ Rel (match n with | none => cs.getD (z.toNat * d.size) .undef | some k => .agg ((cs.drop (z.toNat * d.size)).take k)) g w v := by
    cases n with
    | none => exact rel_part_one hn hvs (hc rfl)
    | some k => exact rel_part_agg hn hvs
  obtain ⟨v, hv, hr⟩ := key
  exact ok_value hs (by simp only [execOp, ho]; try rfl) (by rw [hp, r2]; simp [Instr.index, run_underlying hu, asIntOf, hz0, hz1, sizeOf, typeInfo, hd, hv]) hr

theorem op_idxS (hs : StR X N g w fr H a) {o : Oper} {t : TypeId} {x i : Operand} {ax ai : AX} {l : List UInt8} {k : IntKind} {z : Int} (ho : o.op = .index t x i)
    (hu : X.P.underlying t = some .string) (h1 : cx x = some ax) (h2 : cx i = some ai) (e1 : ax.eval X.G fr = .str l) (e2 : ai.eval X.G fr = .int k z)
    (hz0 : 0 ≤ z) (hz1 : z < l.length) : OpOk X g w H ((execOp a.eval o).run X.P w) (u8 (l.getD z.toNat 0)) H := by
  have r1 := cx_rel hs h1
  have r2 := cx_rel hs h2
  rw [e1, rel_str] at r1
  rw [e2, rel_int] at r2
  obtain ⟨s, hp, rfl⟩ := r1
  have hzl : z.toNat < s.size := by simp only [ByteArray.size]; simp only [Array.length_toList] at hz1; omega
  have hget : s[z.toNat]? = some (s.data.toList.getD z.toNat 0) := by
    have h2 : z.toNat < s.data.size := hzl
    rw [getElem?_pos s z.toNat hzl]
    have h3 : s.data.toList.getD z.toNat 0 = s.data[z.toNat] := by rw [List.getD, Array.getElem?_toList, Array.getElem?_eq_getElem h2]; rfl
    rw [h3]
    rfl
  exact ok_value hs (u := .int .u8 (s.data.toList.getD z.toNat 0).toNat) (by simp only [execOp, ho]; try rfl) (by rw [hp, r2]; simp only [Instr.index, asIntOf, Sem.run_bind, Sem.run_pure, Result.andThen_ok, run_underlying hu, if_pos hz0, hget]) (by simp [Rel, u8])

theorem foldl_push (ns : List Int) : ∀ s : ByteArray, ns.foldl (fun (r : ByteArray) n => r.push (UInt8.ofNat n.toNat)) s = ⟨(s.data.toList ++ ns.map fun n => UInt8.ofNat n.toNat).toArray⟩ := by
  induction ns with
  | nil => intro s; simp
  | cons n ns ih =>
    intro s
    rw [List.foldl_cons, ih]
    congr 1
    simp [ByteArray.push]

theorem run_sliceBounds {isS : Bool} {len cap : Nat} {lo hi : Option Value} {l h : Int} {kl kh : IntKind} (h1 : lo.getD (.int .i64 0) = .int kl l) (h2 : hi.getD (.int .i64 len) = .int kh h)
    (hl0 : 0 ≤ l) (hlh : l ≤ h) (hhm : h ≤ cap) :
    (Instr.sliceBounds isS len cap lo hi none).run X.P w = .ok (l.toNat, h.toNat, cap) w := by
  have eh : (h.toNat : Int) = h := Int.toNat_of_nonneg (by omega)
  cases lo with
  | none =>
    cases h1
    cases hi with
    | none => cases h2; simp [Instr.sliceBounds]
    | some v => cases h2; simp [Instr.sliceBounds, run_sliceBound w kh h cap _ (by omega) hhm]
  | some v =>
    cases h1
    cases hi with
    | none => cases h2; simp [Instr.sliceBounds, run_sliceBound w kl l len _ hl0 hlh]
    | some v => cases h2; simp [Instr.sliceBounds, run_sliceBound w kh h cap _ (by omega) hhm, run_sliceBound w kl l h.toNat _ hl0 (by omega)]

theorem run_sliceBounds3 {isS : Bool} {len cap : Nat} {lo hi mx : Option Value} {l h m : Int} {kl kh km : IntKind} (h1 : lo.getD (.int .i64 0) = .int kl l) (h2 : hi = some (.int kh h)) (h3 : mx = some (.int km m))
    (hl0 : 0 ≤ l) (hlh : l ≤ h) (hhm : h ≤ m) (hmc : m ≤ cap) :
    (Instr.sliceBounds isS len cap lo hi mx).run X.P w = .ok (l.toNat, h.toNat, m.toNat) w := by
  subst h2 h3
  cases lo with
  | none => cases h1; simp [Instr.sliceBounds, run_sliceBound w km m cap _ (by omega) hmc, run_sliceBound w kh h m.toNat _ (by omega) (by omega)]
  | some v => cases h1; simp [Instr.sliceBounds, run_sliceBound w km m cap _ (by omega) hmc, run_sliceBound w kh h m.toNat _ (by omega) (by omega), run_sliceBound w kl l h.toNat _ hl0 (by omega)]

theorem cxO_rel (hs : StR X N g w fr H a) {x : Option Operand} {ax : Option AX} (h : cxO x = some ax) {n : Int} {k : IntKind} {d : AV} {dv : Value} (hd : Rel d g w dv) (he : (ax.map (·.eval X.G fr)).getD d = .int k n) :
    (x.map a.eval).getD dv = .int k n := by
  cases x with
  | none => simp [cxO] at h; subst h; simp at he ⊢; rw [he, rel_int] at hd; exact hd
  | some x =>
    simp only [cxO, Option.map_eq_some_iff] at h
    obtain ⟨ax', h1, rfl⟩ := h
    simp at he ⊢
    have := cx_rel hs h1
    rw [he, rel_int] at this
    exact this

theorem op_ssl (hs : StR X N g w fr H a) {o : Oper} {t : TypeId} {x : Operand} {lo hi : Option Operand} {ax : AX} {alo ahi : Option AX} {l : List UInt8} {kl kh : IntKind} {p q : Int} (ho : o.op = .slice t x lo hi none)
    (hu : X.P.underlying t = some .string) (h1 : cx x = some ax) (h2 : cxO lo = some alo) (h3 : cxO hi = some ahi) (e1 : ax.eval X.G fr = .str l) (e2 : (alo.map (·.eval X.G fr)).getD (.int .i64 0) = .int kl p) (e3 : (ahi.map (·.eval X.G fr)).getD (.int .i64 l.length) = .int kh q)
    (hq : q ≤ l.length) (hp0 : 0 ≤ p) (hpq : p ≤ q) : OpOk X g w H ((execOp a.eval o).run X.P w) (.str ((l.take q.toNat).drop p.toNat)) H := by
  have r1 := cx_rel hs h1
  rw [e1, rel_str] at r1
  obtain ⟨s, hp, rfl⟩ := r1
  have b1 := cxO_rel hs h2 (dv := .int .i64 0) (by simp [Rel]) e2
  have b2 := cxO_rel hs h3 (dv := .int .i64 s.size) (by simp only [Rel]; rfl) e3
  have hq' : q ≤ s.size := by simp only [Array.length_toList] at hq; exact hq
  refine ok_value hs (u := .string (s.extract p.toNat q.toNat)) (by simp only [execOp, ho]; try rfl) ?_ (by rw [rel_str]; exact ⟨_, rfl, by simp [ByteArray.data_extract, Array.toList_extract, List.extract, List.drop_take]⟩)
  rw [hp]
  have hb := run_sliceBounds (X := X) (w := w) (isS := false) (len := s.size) (cap := s.size) b1 b2 hp0 hpq hq'
  simp [Instr.sliceAt, run_underlying hu, Instr.slice, hb]

end
end Go.Avm
