/- What is written, and that it is read again. -/
import Derived.Test.YtcldomkahgaplaaGreatDoorML
set_option linter.all false
namespace Go.Lx
open Go Go.Avm Go.Rn
def hexs (n:Nat):List UInt8:=if h:n<16 then [Wo.hexd n] else hexs (n / 16)++[Wo.hexd (n % 16)]
termination_by n
def escR (r:Int):List UInt8:=if r=34∨r=92 then 92::enc r else if r=10 then [92,110] else if 32<=r/\r<=126 then enc r else 92::117::(hexs r.toNat++[59])
def qt (s:List UInt8):List UInt8:=34::((zbd s).flatMap escR++[34])
def mk (k:Int):List UInt8:=if k=4 then [40] else if k=5 then [41] else if k=6 then [91] else if k=7 then [93] else if k=8 then [60,45] else [61]
def wr (t:Tok):List UInt8:=if t.kind=1 then t.s else if t.kind=2 then Lib.itoa t.n else if t.kind=3 then qt t.s else mk t.kind
def nmd (s:List UInt8):Bool:=ltr (s.getD 0 0)&&s.all al
def chk (t:Tok):Int:=
 if t.kind<1∨9<t.kind∨(t.kind≠2/\t.n≠0)∨(t.kind≠1/\t.kind≠3/\t.s≠[]) then 2
 else if t.kind=1 then (if nmd t.s=false then 6 else if 16<t.s.length then 3 else 0)
 else if t.kind=3 then (if okT t.s=false then 6 else if 2000<t.s.length then 3 else 0) else 0
def isOp (t:Tok):Bool:=decide (t.kind=4)||decide (t.kind=6)
def isCl (t:Tok):Bool:=decide (t.kind=5)||decide (t.kind=7)
def prR:Bool->List Tok->List UInt8
 | _,[]=>[]
 | b,t::l=>(if b||isCl t then [] else [32])++(wr t++prR (isOp t) l)
theorem zeH {n:Nat}(h:n<16):hexs n=[Wo.hexd n]:=by rw[hexs,dif_pos h]
theorem zkD {n:Nat}(h:¬n<16):hexs n=hexs (n / 16)++[Wo.hexd (n % 16)]:=by rw[hexs,dif_neg h]
theorem zvr {n:Nat}(h:n<16):Wo.hexv (Wo.hexd n)=some n:=Wo.zxs h
theorem zxN (a:Nat)(l r:List UInt8):hxL a (l++r)=hxL (hxL a l) r:=by
 induction l generalizing a with
 | nil=>rfl
 | cons c l ih=>simp only[List.cons_append,hxL,ih]
theorem zta:∀n:Nat,(hexs n).all hxB=true/\hxL 0 (hexs n)=n/\hexs n≠[]:=by
 intro n
 induction n using Nat.strongRecOn with
 | _ n ih =>
  by_cases h:n<16
  ·rw[zeH h]
   simp [hxB,zvr h,hxL]
  ·obtain ⟨a,b,c⟩:=ih (n / 16) (by omega)
   rw[zkD h]
   have hm:n % 16<16:=Nat.mod_lt _ (by decide)
   refine ⟨?_,?_,by simp⟩
   ·rw[List.all_append,a];simp [hxB,zvr hm]
   ·rw[zxN,b];simp only[hxL,zvr hm,Option.getD_some];omega
theorem ze8:∀(k n:Nat),n<16 ^ (k+1)->(hexs n).length<=k+1
 | 0,n,h=>by rw[zeH (by omega)];simp
 | k + 1,n,h=>by
  by_cases h1:n<16
  ·rw[zeH h1];simp
  ·rw [zkD h1,List.length_append]
   have:n / 16<16 ^ (k+1):=by
    rw[Nat.div_lt_iff_lt_mul (by decide)]
    rw[<-Nat.pow_succ];exact h
   have:=ze8 k _ this
   simp only[List.length_singleton];omega
theorem zB6:∀c:UInt8,hxB c=true->c≠59:=by
 intro c h e
 subst e
 exact absurd h (by decide)
theorem zBc {l w:List UInt8}(h:l.all hxB=true):Lat.idx 59 (l++59::w)=l.length:=by
 refine Lat.ztr (by simp) ?_ fun k hk=>?_
 ·rw[gR (Nat.le_refl _),Nat.sub_self];rfl
 ·rw[gL hk]
  refine zB6 _ (List.all_eq_true.1 h _ ?_)
  rw[List.getD_eq_getElem?_getD,List.getElem?_eq_getElem hk]
  exact List.getElem_mem hk
theorem zbH {r:Int}(h:0<=r/\r<128):enc r=[zaB r]:=by
 rw[zfZ ((zbk r).2 (.inl ⟨h.1,by omega⟩))]
 simp [encI,h.2]
theorem ztF {r:Int}(h:0<=r/\r<256)(c:UInt8)(hn:r≠(c.toNat:Int)):zaB r≠c:=fun e=>hn (by rw[<-e,zar h])
theorem zyc {r:Int}(hv:valid r=true)(w:List UInt8):elem (escR r++w)=some (enc r,(escR r).length)/\(escR r).getD 0 0≠34/\escR r≠[]:=by
 have hr:=zao hv
 unfold escR
 by_cases c1:r=34∨r=92
 ·rw [if_pos c1,zbH (by omega)]
  refine ⟨?_,by simp only[List.getD_cons_zero];decide,by simp⟩
  have e:zaB r=34∨zaB r=92:=by
   rcases c1 with rfl|rfl
   ·exact .inl rfl
   ·exact .inr rfl
  have e2:((zaB r).toNat:Int)=r:=zar (by omega)
  have e3:escp (zaB r::w)=some (r,1):=by rw[escp,if_pos e,e2]
  simp only[elem,List.cons_append,List.nil_append,List.getD_cons_zero,if_true,List.drop_succ_cons,List.drop_zero,e3,Option.map_some,zbH (show 0<=r/\r<128 by omega),List.length_cons,List.length_nil]
 rw[if_neg c1]
 by_cases c2:r=10
 ·subst c2
  rw[if_pos rfl]
  refine ⟨?_,by decide,by simp⟩
  have e3:escp (110::w)=some (10,1):=by
   rw[escp,if_neg (by decide),if_pos rfl]
  simp only[elem,List.cons_append,List.nil_append,List.getD_cons_zero,if_true,List.drop_succ_cons,List.drop_zero,e3,Option.map_some,List.length_cons,List.length_nil]
 rw[if_neg c2]
 by_cases c3:32<=r/\r<=126
 ·rw[if_pos c3,zbH (by omega)]
  have n92:zaB r≠92:=ztF (by omega) 92 (by intro e;exact c1 (.inr e))
  have n34:zaB r≠34:=ztF (by omega) 34 (by intro e;exact c1 (.inl e))
  refine ⟨?_,by simpa using n34,by simp⟩
  have hd:=zff hv w
  rw[zbH (by omega)]at hd
  simp only[elem,hd]
  rw[if_neg (by simpa using n92),if_neg (by omega)]
  rw[zbH (by omega)]
 ·rw [if_neg c3]
  obtain ⟨h1,h2,h3⟩:=zta r.toNat
  refine ⟨?_,by simp only[List.getD_cons_zero];decide,by simp⟩
  have e0:92::117::(hexs r.toNat++[59])++w=92::117::(hexs r.toNat++59::w):=by simp
  have hlen:(hexs r.toNat).length<=6:=ze8 5 r.toNat (by rw[show (16:Nat) ^ (5+1)=16777216 by rfl];omega)
  have hpos:(hexs r.toNat).length≠0:=fun e=>h3 (List.length_eq_zero_iff.1 e)
  have hnum:((hxL 0 (hexs r.toNat):Nat):Int)=r:=by rw[h2];omega
  have e3:escp (117::(hexs r.toNat++59::w))=some (r,(hexs r.toNat).length+2):=by
   rw[escp,if_neg (by decide),if_neg (by decide),if_neg (by decide),zBc h1,List.take_left' rfl,hnum,if_pos ⟨by rw[List.length_append,List.length_cons];omega,hlen,h1,hpos,hv⟩]
  rw[e0]
  simp only[elem,List.getD_cons_zero,if_true,List.drop_succ_cons,List.drop_zero,e3,Option.map_some,List.length_cons,List.length_append,List.length_nil]
theorem zxM:∀(l:List Int),(∀r∈l,valid r=true)->∀w,txtS 0 (l.flatMap escR++34::w)=.ok (l.map enc).flatten ((l.flatMap escR).length+1)
 | [],_,w=>by simp [txtS]
 | r :: l,h,w=>by
  obtain ⟨e1,e2,e3⟩:=zyc (h r (by simp)) (l.flatMap escR++34::w)
  have ih:=zxM l (fun x hx=>h x (by simp [hx])) w
  rw[List.flatMap_cons,List.append_assoc]
  cases hq:escR r with
  | nil=>exact absurd hq e3
  | cons c q =>
   rw[hq]at e1 e2
   simp only[List.cons_append,List.getD_cons_zero]at e1 e2⊢
   rw[zfW e2 e1]
   have e4:(c::(q++(l.flatMap escR++34::w))).drop (c::q).length=l.flatMap escR++34::w:=by
    simp only[List.length_cons,List.drop_succ_cons,List.drop_left]
   rw[e4,ih]
   simp only[TR.up,List.map_cons,List.flatten_cons,List.length_append,List.length_cons,TR.ok.injEq,true_and]
   omega
theorem zzJ {s:List UInt8}(h:okT s=true):((zbd s).map enc).flatten=s:=by
 have h1:=zxd s
 have h2:stop s=s.length:=by simpa [okT] using h
 rw[h2,List.take_length]at h1
 exact h1.symm
theorem zrR {s:List UInt8}(h:okT s=true)(w:List UInt8):tokO (qt s++w)=.ok ⟨3,0,s⟩ (qt s).length:=by
 have e0:qt s++w=34::((zbd s).flatMap escR++34::w):=by simp [qt]
 have e1:=zxM (zbd s) (zdk s) w
 rw[zzJ h]at e1
 unfold tokO
 rw[e0]
 have l34:ltr 34=false:=by decide
 have d34:(dg 34||decide ((34:UInt8)=45))=false:=by decide
 simp only[List.getD_cons_zero,l34,d34,Bool.false_eq_true,if_false,if_true,zer,List.drop_succ_cons,List.drop_zero,e1]
 simp [qt]
theorem zxA {p:UInt8->Bool}{s v:List UInt8}(h:s.all p=true)(hv:cnt p v=0):cnt p (s++v)=s.length:=by
 rw[zpE p s v (List.all_eq_true.1 h),hv,Nat.add_zero]
theorem zCg {s:List UInt8}(h:nmd s=true)(h2:s.length<=16){v:List UInt8}(hv:sepB v=true):tokO (s++v)=.ok ⟨1,0,s⟩ s.length:=by
 simp only[nmd,Bool.and_eq_true]at h
 have hne:0<s.length:=by cases s with
  | nil=>exact absurd h.1 (by decide)
  | cons=>simp
 have hc:=zxA h.2 (zoK (p:=al) (fun _ h=>h) v hv)
 unfold tokO
 rw[gL hne,if_pos h.1]
 unfold zdK
 rw[hc,if_neg (by omega),List.take_left' rfl]
theorem zEf {s v:List UInt8}{n:Int}(hd:Wo.decS s=true)(hp:Lib.parseIntB 64 s=.ok n)(hv:sepB v=true):tokO (s++v)=.ok ⟨2,n,[]⟩ s.length:=by
 simp only[Wo.decS,Bool.and_eq_true,Bool.not_eq_true',List.isEmpty_eq_false_iff]at hd
 obtain ⟨⟨h1,h2⟩,_⟩:=hd
 have hne:0<s.length:=by cases s with
  | nil=>exact absurd rfl h1
  | cons=>simp
 have hmg:Wo.mg s=s.drop (sg s):=by
  unfold Wo.mg sg
  split<;>rfl
 have hsg:sg (s++v)=sg s:=by unfold sg;rw[gL hne]
 have hle:sg s<=s.length:=by unfold sg;split<;>omega
 rw[hmg]at h1 h2
 have hlen:0<(s.drop (sg s)).length:=by
  cases hq:s.drop (sg s) with
  | nil=>exact absurd hq h1
  | cons=>simp
 rw[List.length_drop]at hlen
 have h2':(s.drop (sg s)).all dg=true:=h2
 have hc:cnt dg ((s++v).drop (sg (s++v)))=s.length-sg s:=by
  rw[hsg,List.drop_append_of_le_length hle,zxA h2' (zoK (fun _ h=>zFT h) v hv),List.length_drop]
 have h0:ltr (s.getD 0 0)=false/\(dg (s.getD 0 0)||decide (s.getD 0 0=45))=true:=by
  by_cases hs:s.getD 0 0=45
  ·rw[hs];decide
  ·have:sg s=0:=by unfold sg;rw[if_neg hs]
   rw[this,List.drop_zero]at h2'
   have hm:dg (s.getD 0 0)=true:=List.all_eq_true.1 h2' _ (by rw[List.getD_eq_getElem?_getD,List.getElem?_eq_getElem hne];exact List.getElem_mem hne)
   rw[hm]
   refine ⟨?_,rfl⟩
   simp only[dg,ltr,Bool.and_eq_true,decide_eq_true_eq,Bool.and_eq_false_iff,decide_eq_false_iff_not]at hm⊢
   omega
 unfold tokO
 rw[gL hne,h0.1,h0.2]
 simp only[Bool.false_eq_true,if_false,if_true]
 unfold numO
 rw[hsg]at hc
 simp only[hsg,hc]
 rw[if_neg (by omega),show sg s+(s.length-sg s)=s.length by omega,List.take_left' rfl,hp]
 simp only
 rw[gR (Nat.le_refl _),Nat.sub_self,zxg hv]
 simp
theorem zBT {k:Int}(h:4<=k/\k<=9)(v:List UInt8):tokO (mk k++v)=.ok ⟨k,0,[]⟩ (mk k).length:=by
 have e:∀c:UInt8,ltr c=false->(dg c||decide (c=45))=false->c≠34->∀r,tokO (c::r)=zee (c::r):=fun c a b d r=>by
  unfold tokO
  simp only[List.getD_cons_zero,a,b,d,Bool.false_eq_true,if_false]
 rcases (by omega:k=4∨k=5∨k=6∨k=7∨k=8∨k=9) with rfl|rfl|rfl|rfl|rfl|rfl
 ·exact e 40 (by decide) (by decide) (by decide) v
 ·exact e 41 (by decide) (by decide) (by decide) v
 ·exact e 91 (by decide) (by decide) (by decide) v
 ·exact e 93 (by decide) (by decide) (by decide) v
 ·exact e 60 (by decide) (by decide) (by decide) (45::v)
 ·exact e 61 (by decide) (by decide) (by decide) v
end Go.Lx
namespace Go.Lx
open Go Go.Wo
theorem zBw {s:List UInt8}(h1:Wo.mg s≠[])(h2:∀c∈Wo.mg s,Wo.digB c=true):Lib.parseIntB 64 s=if -9223372036854775808<=valS s/\valS s<=9223372036854775807 then .ok (valS s) else .range:=by
 cases s with
 | nil=>exact absurd rfl h1
 | cons c r =>
  by_cases hc:c=45
  ·subst hc
   have em:mg (45::r)=r:=rfl
   rw[em]at h1 h2
   have ev:valS (45::r)=-(magL 0 r:Int):=rfl
   rw[ev]
   have hu:Lib.parseUintB 64 r=if magL 0 r<=18446744073709551615 then .ok (magL 0 r) else .range:=by
    rw[Lib.parseUintB,if_neg h1]
    exact zqN rfl h2 (by decide)
   have e45:(45:UInt8).toNat=45:=rfl
   simp only[Lib.parseIntB,e45,or_true,if_true,hu,true_and,not_true_eq_false,false_and,if_false]
   by_cases hm:magL 0 r<=18446744073709551615
   ·rw[if_pos hm]
    simp only
    by_cases hm2:2 ^ (64-1)<magL 0 r
    ·rw[if_pos hm2,if_neg (by simp at hm2;omega)]
    ·rw[if_neg hm2,if_pos (by simp at hm2;omega)]
   ·rw[if_neg hm]
    simp only
    rw[if_neg (by omega)]
  ·have hc0:¬(c::r).getD 0 0=45:=by simpa using hc
   have em:mg (c::r)=c::r:=by rw[mg,if_neg hc0]
   rw[em]at h1 h2
   have ev:valS (c::r)=(magL 0 (c::r):Int):=by rw[valS,if_neg hc0,em]
   rw[ev]
   have hd:=h2 c (by simp)
   simp only[digB,Bool.and_eq_true,decide_eq_true_eq]at hd
   have hu:Lib.parseUintB 64 (c::r)=if magL 0 (c::r)<=18446744073709551615 then .ok (magL 0 (c::r)) else .range:=by
    rw[Lib.parseUintB,if_neg h1]
    exact zqN rfl h2 (by decide)
   generalize hmm:magL 0 (c::r)=m at hu⊢
   have n43:¬c.toNat=43:=by omega
   have n45:¬c.toNat=45:=by omega
   simp only[Lib.parseIntB,n43,n45,or_self,if_false,hu,not_false_eq_true,true_and,false_and]
   by_cases hm:m<=18446744073709551615
   ·rw[if_pos hm]
    simp only
    by_cases hm2:2 ^ (64-1)<=m
    ·rw[if_pos hm2,if_neg (by simp at hm2;omega)]
    ·rw[if_neg hm2,if_pos (by simp at hm2;omega)]
   ·rw[if_neg hm]
    simp only
    rw[if_neg (by omega)]
end Go.Lx
namespace Go.Lx
open Go Go.Avm Go.Rn
def zeh (s:List UInt8):List PT×Nat×Int:=if 2000<s.length then ([],0,3) else match lexS 0 0 s with
 | .ok l=>(l,0,0)
 | .bad d e=>([],d,e)
theorem zty {s:List UInt8}{l:List PT}(hl:s.length<=2000)(h:Lx 0 s l):zeh s=(l,0,0):=by
 unfold zeh
 rw[if_neg (by omega),zF3 h]
theorem zsC (s:List UInt8)(hl:s.length<=2000):(∃l,zeh s=(l,0,0)/\Lx 0 s l)∨∃d e,zeh s=([],d,e)/\d<=s.length/\(e=3∨e=6∨e=7)/\lexS 0 0 s=.bad d e:=by
 unfold zeh
 rw[if_neg (by omega)]
 cases h:lexS 0 0 s with
 | ok l=>exact .inl ⟨l,rfl,(zCR _ _ _).1 h⟩
 | bad d e =>
  have:=zfa _ 0 0 s d e (Nat.le_refl _) h
  exact .inr ⟨d,e,rfl,by omega,this.2.2.2,rfl⟩
def I64 (n:Int):Prop:=-9223372036854775808<=n/\n<=9223372036854775807
theorem zFG {c:UInt8}{r:List UInt8}{t:Tok}{n:Nat}(h:tokO (c::r)=.ok t n):c≠32:=by
 rintro rfl
 have:tokO (32::r)=.bad 0 6:=rfl
 rw[this]at h;cases h
theorem zyN {n:Int}(h:I64 n):Wo.decS (Lib.itoa n)=true/\Lib.parseIntB 64 (Lib.itoa n)=.ok n:=by
 have key:∀s,Wo.decS s=true->Wo.valS s=n->Lib.parseIntB 64 s=.ok n:=fun s h1 h2=>by
  rw[Wo.zz3 h1,h2]
  exact if_pos h
 by_cases h0:0<=n
 ·obtain ⟨h1,h2⟩:=Wo.zlH h0
  have h3:¬(Lib.itoa n).getD 0 0=45:=fun e=>by
   simp only[Wo.natS,Bool.and_eq_true,Bool.not_eq_true',List.isEmpty_eq_false_iff]at h1
   have hm:Wo.digB ((Lib.itoa n).getD 0 0)=true:=by
    cases hq:Lib.itoa n with
    | nil=>exact absurd hq h1.1.1
    | cons x y=>exact List.all_eq_true.1 h1.1.2 _ (by rw[hq];simp)
   rw[e]at hm
   exact absurd hm (by decide)
  have hmg:Wo.mg (Lib.itoa n)=Lib.itoa n:=by unfold Wo.mg;rw[if_neg h3]
  have hd:Wo.decS (Lib.itoa n)=true:=by
   unfold Wo.decS
   rw[hmg];exact h1
  refine ⟨hd,key _ hd ?_⟩
  unfold Wo.valS
  rw[if_neg h3,hmg,h2]
  omega
 ·have e1:=Wo.itoa_neg (n:=n) (by omega)
  obtain ⟨h1,h2⟩:=Wo.zlH (n:=-n) (by omega)
  have hmg:Wo.mg (Lib.itoa n)=Lib.itoa (-n):=by rw[e1];rfl
  have h48:(Lib.itoa (-n)).getD 0 0≠48:=fun e=>by
   simp only[Wo.natS,Bool.and_eq_true,Bool.or_eq_true,Bool.not_eq_true',decide_eq_false_iff_not,decide_eq_true_eq]at h1
   rcases h1.2 with h|h
   ·exact h e
   ·rw[h]at h2
    have:Wo.magL 0 [48]=0:=by decide
    omega
  have hd:Wo.decS (Lib.itoa n)=true:=by
   unfold Wo.decS
   rw[hmg]
   simp only[Wo.natS,Bool.and_eq_true]at h1
   simp only[h1.1.1,h1.1.2,Bool.true_and,Bool.or_eq_true,Bool.not_eq_true',decide_eq_false_iff_not]
   exact .inl h48
  refine ⟨hd,key _ hd ?_⟩
  unfold Wo.valS
  have e45:(Lib.itoa n).getD 0 0=45:=by rw[e1];rfl
  rw[if_pos e45,hmg,h2]
  omega
theorem zDu {t:Tok}(h:chk t=0)(hn:I64 t.n){v:List UInt8}(hv:needs t=true->sepB v=true):tokO (wr t++v)=.ok t (wr t).length:=by
 obtain ⟨k,n,s⟩:=t
 unfold chk at h
 dsimp only at h hn hv
 split at h
 ·cases h
 rename_i c1
 have hk:1<=k/\k<=9:=by omega
 have hn0:k≠2->n=0:=fun e=>by
  rcases Int.decEq n 0 with h|h
  ·exact absurd (.inr (.inr (.inl ⟨e,h⟩))) c1
  ·exact h
 have hs0:k≠1->k≠3->s=[]:=fun e e'=>Decidable.byContradiction fun h=>c1 (.inr (.inr (.inr ⟨e,e',h⟩)))
 split at h
 ·rename_i e1
  subst e1
  split at h
  ·cases h
  rename_i e2
  split at h
  ·cases h
  rename_i e3
  rw[hn0 (by decide)]
  exact zCg (s:=s) (by simpa using e2) (by omega) (hv rfl)
 rename_i k1
 split at h
 ·rename_i e1
  subst e1
  split at h
  ·cases h
  rename_i e2
  rw[hn0 (by decide)]
  exact zrR (by simpa using e2) v
 rename_i k3
 rw[hs0 k1 k3]
 by_cases k2:k=2
 ·subst k2
  obtain ⟨d1,d2⟩:=zyN hn
  exact zEf d1 d2 (hv rfl)
 ·rw[hn0 k2]
  have e:wr ⟨k,0,[]⟩=mk k:=by unfold wr;rw[if_neg k1,if_neg k2,if_neg k3]
  rw[e]
  exact zBT (by omega) v
theorem zC3 {l:List Tok}:sepB (prR false l)=true:=by
 cases l with
 | nil=>rfl
 | cons t l =>
  simp only[prR,Bool.false_or]
  split
  ·rename_i h
   simp only[isCl,Bool.or_eq_true,decide_eq_true_eq]at h
   unfold wr mk
   rcases h with h|h<;>simp [h,sepB,al,ltr,dg]
  ·rfl
theorem zEg:∀(l:List Tok) (b:Bool) (p:Nat),(∀t∈l,chk t=0/\I64 t.n)->∃l',Lx p (prR b l) l'/\l'.map (·.1)=l
 | [],b,p,_=>⟨[],.nil p,rfl⟩
 | t :: l,b,p,h=>by
  obtain ⟨h1,h2⟩:=h t (by simp)
  have hv:needs t=true->sepB (prR (isOp t) l)=true:=fun e=>by
   have:isOp t=false:=by
    simp only[needs,Bool.or_eq_true,decide_eq_true_eq]at e
    simp only[isOp,Bool.or_eq_false_iff,decide_eq_false_iff_not]
    omega
   rw[this];exact zC3
  have ht:=zDu h1 h2 hv
  have go:∀q,∃l',Lx q (wr t++prR (isOp t) l) l'/\l'.map (·.1)=t::l:=fun q=>by
   obtain ⟨l',i1,i2⟩:=zEg l (isOp t) (q+(wr t).length) fun x hx=>h x (by simp [hx])
   have hne:wr t++prR (isOp t) l≠[]:=fun e=>by
    rw[e]at ht
    have:tokO []=.bad 0 6:=rfl
    rw[this]at ht;cases ht
   cases hq:wr t++prR (isOp t) l with
   | nil=>exact absurd hq hne
   | cons c r =>
    rw[hq]at ht
    refine ⟨(t,q,q+(wr t).length)::l',.tok (zFG ht) ht ?_,by simp [i2]⟩
    rw[<-hq,List.drop_left]
    exact i1
  simp only[prR]
  split
  ·exact go p
  ·obtain ⟨l',i1,i2⟩:=go (p+1)
   exact ⟨l',.blank i1,i2⟩
def badT:List Tok->Option (Nat×Int)
 | []=>none
 | t::l=>if chk t=0 then (badT l).map fun (i,e)=>(i+1,e) else some (0,chk t)
def prS (l:List Tok):List UInt8×Nat×Int:=match badT l with
 | some (i,e)=>([],i,e)
 | none=>if 2000<(prR true l).length then ([],0,3) else (prR true l,0,0)
theorem zrv:∀{l:List Tok},badT l=none↔∀t∈l,chk t=0
 | []=>by simp [badT]
 | t::l=>by
  simp only[badT]
  by_cases h:chk t=0
  ·rw[if_pos h,Option.map_eq_none_iff,zrv]
   simp [h]
  ·rw[if_neg h];simp [h]
theorem zrH:∀{l:List Tok} {i:Nat} {e:Int},badT l=some (i,e)->e≠0
 | [],_,_,h=>by simp [badT]at h
 | t :: l,i,e,h=>by
  simp only[badT]at h
  split at h
  ·cases hb:badT l with
   | none=>rw[hb]at h;cases h
   | some x =>
    rw[hb]at h
    simp only[Option.map_some,Option.some.injEq,Prod.mk.injEq]at h
    obtain ⟨rfl,rfl⟩:=h
    exact zrH hb
  ·rename_i h0
   simp only[Option.some.injEq,Prod.mk.injEq]at h
   obtain ⟨rfl,rfl⟩:=h
   exact h0
theorem back {l:List Tok}(hn:∀t∈l,I64 t.n):((prS l).2.2≠0/\(prS l).1=[])∨∃m,(prS l).2.2=0/\zeh (prS l).1=(m,0,0)/\m.map (·.1)=l:=by
 unfold prS
 cases hb:badT l with
 | some x =>
  obtain ⟨i,e⟩:=x
  exact .inl ⟨zrH hb,rfl⟩
 | none =>
  simp only
  split
  ·exact .inl ⟨by simp,rfl⟩
  ·rename_i hl
   obtain ⟨m,h1,h2⟩:=zEg l true 0 fun t ht=>⟨zrv.1 hb t ht,hn t ht⟩
   exact .inr ⟨m,rfl,zty (by dsimp only;omega) h1,h2⟩
end Go.Lx
namespace Go.Lx
open Go Go.Avm Go.Rn
theorem zor {x:UInt8}(h:x.toNat<128)(t:List UInt8):dcO (x::t)=some ((x.toNat:Int),1):=by
 have hv:valid (x.toNat:Int)=true:=(zbk _).2 (.inl ⟨by omega,by omega⟩)
 have:=zff hv t
 rw[zbH (by omega),zto]at this
 simpa using this
theorem zk5 {x:UInt8}{t:List UInt8}{r:Int}{n:Nat}(h:dcO (x::t)=some (r,n))(hr:r<128):r=(x.toNat:Int)/\n=1:=by
 have hs:=za4 h
 have h0:=zao hs.1
 have e:=zbH (r:=r) ⟨h0.1,hr⟩
 have hn:n=1:=by rw[hs.2.2.2,e];rfl
 subst hn
 refine ⟨?_,rfl⟩
 have h2:=hs.2.2.1
 rw[e]at h2
 simp only[List.take_succ_cons,List.take_zero,List.cons.injEq,and_true]at h2
 rw[h2,zar ⟨h0.1,by omega⟩]
theorem zwI {x:UInt8}(h:x.toNat<128)(t:List UInt8):dec (x::t)=(x.toNat,1):=by
 rw[znn _ (by simp),zor h]
 simp [pr]
theorem zGa {c:UInt8}(h:hxB c=true):c.toNat<128:=by
 simp only[hxB,Wo.hexv]at h
 split at h
 ·omega
 ·split at h
  ·omega
  ·cases h
theorem zy1 {w:List UInt8}{r:Int}{n:Nat}(h:escp w=some (r,n)):n<=8/\∀i,i<n->(w.getD i 0).toNat<128:=by
 cases w with
 | nil=>simp [escp]at h
 | cons c t =>
  simp only[escp]at h
  have one:∀{c:UInt8} {t:List UInt8},c.toNat<128->∀i,i<1->((c::t).getD i 0).toNat<128:=fun h i hi=>by
   have:i=0:=by omega
   subst this;exact h
  by_cases h1:c=34∨c=92
  ·rw[if_pos h1]at h
   simp only[Option.some.injEq,Prod.mk.injEq]at h
   obtain ⟨rfl,rfl⟩:=h
   refine ⟨by omega,one ?_⟩
   rcases h1 with rfl|rfl<;>decide
  rw[if_neg h1]at h
  by_cases h2:c=110
  ·rw[if_pos h2]at h
   simp only[Option.some.injEq,Prod.mk.injEq]at h
   obtain ⟨rfl,rfl⟩:=h
   subst h2
   exact ⟨by omega,one (by decide)⟩
  rw[if_neg h2]at h
  by_cases h3:c≠117
  ·rw[if_pos h3]at h;cases h
  rw[if_neg h3]at h
  split at h
  ·rename_i hc
   obtain ⟨a1,a2,a3,a4,a5⟩:=hc
   simp only[Option.some.injEq,Prod.mk.injEq]at h
   obtain ⟨rfl,rfl⟩:=h
   have h3:c=117:=Decidable.not_not.1 h3
   subst h3
   refine ⟨by omega,fun i hi=>?_⟩
   cases i with
   | zero=>simp only[List.getD_cons_zero];decide
   | succ i =>
    simp only[List.getD_cons_succ]
    by_cases hk:i=Lat.idx 59 t
    ·rw[hk,Lat.zqD a1];decide
    ·refine zGa (List.all_eq_true.1 a3 _ ?_)
     have hi':i<t.length:=by omega
     rw[List.getD_eq_getElem?_getD,List.getElem?_eq_getElem hi']
     simp only[Option.getD_some]
     rw[List.mem_take_iff_getElem]
     exact ⟨i,by omega,rfl⟩
  ·cases h
theorem ztd:enc 65533=[239,191,189]:=by decide
theorem zAV {v:List UInt8}(h:dcO v=none):¬v.take 3=[239,191,189]:=fun e=>by
 have h2:v=enc 65533++v.drop 3:=by rw[ztd,<-e,List.take_append_drop]
 have h3:=zff (n:=65533) (by decide) (v.drop 3)
 rw[<-h2,h]at h3
 cases h3
theorem zvB {x:UInt8}{t:List UInt8}(hx:x≠92)(h:dcO (x::t)=none):elem (x::t)=none:=by
 unfold elem
 rw[if_neg (by simpa using hx),h]
theorem zyS {x:UInt8}{t:List UInt8}{r:Int}{n:Nat}(hx:x≠92)(h:dcO (x::t)=some (r,n))(hr:r<32):elem (x::t)=none:=by
 unfold elem
 rw[if_neg (by simpa using hx),h]
 simp only
 rw[if_pos hr]
theorem zBL {x:UInt8}{t:List UInt8}{r:Int}{n:Nat}(hx:x≠92)(h:dcO (x::t)=some (r,n))(hr:¬r<32):elem (x::t)=some (enc r,n):=by
 unfold elem
 rw[if_neg (by simpa using hx),h]
 simp only
 rw[if_neg hr]
theorem zwx {t:List UInt8}:elem (92::t)=(escp t).map fun (r,n)=>(enc r,n+1):=by
 unfold elem
 rw[if_pos (by rfl)];rfl
end Go.Lx
namespace Go.Lx
open Go Go.Avm Go.Rn
theorem zww {u:List UInt8}{k:Int}(hk:4<=k/\k<=9)(h:u.take (mk k).length=mk k):zee u=.ok ⟨k,0,[]⟩ (mk k).length:=by
 have e:u=mk k++u.drop (mk k).length:=by
  conv=>lhs;rw[<-List.take_append_drop (mk k).length u,h]
 rw[e]
 generalize u.drop (mk k).length=v
 rcases (by omega:k=4∨k=5∨k=6∨k=7∨k=8∨k=9) with rfl|rfl|rfl|rfl|rfl|rfl<;>rfl
theorem zvp {u:List UInt8}(h:∀k:Int,4<=k->k<=9->¬u.take (mk k).length=mk k):zee u=.bad 0 6:=by
 have one:∀(k:Int) (c:UInt8),4<=k->k<=9->mk k=[c]->c≠0->¬u.getD 0 0=c:=fun k c h1 h2 h3 h4 e=>by
  refine h k h1 h2 ?_
  rw[h3]
  cases u with
  | nil=>exact absurd e.symm h4
  | cons x r =>
   simp only[List.getD_cons_zero]at e
   simp [e]
 unfold zee
 rw[if_neg (one 4 40 (by decide) (by decide) rfl (by decide)),if_neg (one 5 41 (by decide) (by decide) rfl (by decide)),if_neg (one 6 91 (by decide) (by decide) rfl (by decide)),if_neg (one 7 93 (by decide) (by decide) rfl (by decide))]
 have h8:¬(u.getD 0 0=60/\u.getD 1 0=45):=fun ⟨e1,e2⟩=>by
  refine h 8 (by decide) (by decide) ?_
  cases u with
  | nil=>simp at e1
  | cons x r =>
   cases r with
   | nil=>simp at e2
   | cons y r =>
    simp only[List.getD_cons_zero,List.getD_cons_succ]at e1 e2
    rw[e1,e2];rfl
 rw[if_neg h8,if_neg (one 9 61 (by decide) (by decide) rfl (by decide))]
theorem zG0 {k:Int}(h:4<=k):wr ⟨k,0,[]⟩=mk k:=by
 unfold wr
 rw[if_neg (by dsimp only;omega),if_neg (by dsimp only;omega),if_neg (by dsimp only;omega)]
theorem ztB {r:Int}(hv:valid r=true):(escR r).length<=9:=by
 have h1:=zaQ hv
 have hr:=zao hv
 have hlen:(hexs r.toNat).length<=6:=ze8 5 r.toNat (by rw[show (16:Nat) ^ (5+1)=16777216 by rfl];omega)
 unfold escR
 split
 ·simp;omega
 split
 ·simp
 split
 ·omega
 ·simp;omega
theorem zB7 {v:List UInt8}(h:okT v=true)(h0:v≠[]):∃r n,dcO v=some (r,n)/\zbd v=r::zbd (v.drop n)/\okT (v.drop n)=true:=by
 cases hd:dcO v with
 | none=>rw[zop hd h0]at h;cases h
 | some x =>
  obtain ⟨r,n⟩:=x
  exact ⟨r,n,rfl,zco hd,by rw[<-zpn hd];exact h⟩
theorem zrr:zbd []=[]:=rfl
structure QS where
 q:Nat
 pre:List Int
def QI (s:List UInt8)(x:QS):Prop:=x.q<=s.length/\zbd s=x.pre++zbd (s.drop x.q)/\okT (s.drop x.q)=true/\(x.pre.flatMap escR).length<=9*x.q/\x.pre.length<=x.q
theorem QI_0 {s:List UInt8}(h:okT s=true):QI s ⟨0,[]⟩:=⟨Nat.zero_le _,rfl,h,Nat.le_refl _,Nat.le_refl _⟩
theorem zAO {s:List UInt8}{x:QS}(h:QI s x)(hq:x.q<s.length):∃r n,dcO (s.drop x.q)=some (r,n)/\valid r=true/\1<=n/\QI s ⟨x.q+n,x.pre++[r]⟩:=by
 obtain ⟨q,pre⟩:=x
 obtain ⟨h1,h2,h3,h4,h6⟩:=h
 dsimp only at *
 have hne:s.drop q≠[]:=fun e=>by have:=congrArg List.length e;rw[List.length_drop]at this;simp at this;omega
 obtain ⟨r,n,k1,k2,k3⟩:=zB7 h3 hne
 have hs:=za4 k1
 have hr:=za3 k1
 rw[List.length_drop]at hr
 rw[List.drop_drop]at k2 k3
 refine ⟨r,n,k1,hs.1,hr.1,by dsimp only;omega,?_,k3,?_,by simp;omega⟩
 ·dsimp only
  rw[h2,k2,List.append_assoc];rfl
 ·have:=ztB hs.1
  dsimp only
  rw[List.flatMap_append,List.length_append]
  simp only[List.flatMap_cons,List.flatMap_nil,List.append_nil]
  omega
theorem zDi {s:List UInt8}{x:QS}(h:QI s x)(hq:¬x.q<s.length):x.pre=zbd s:=by
 obtain ⟨q,pre⟩:=x
 obtain ⟨h1,h2,_⟩:=h
 dsimp only at *
 rw[h2,List.drop_eq_nil_of_le (by omega),zrr,List.append_nil]
end Go.Lx
namespace Go.Lx
open Go Go.Avm Go.Rn
theorem zp3 (s:List UInt8):(zbd s).length<=s.length:=by
 refine zh2 (P:=fun t=>(zbd t).length<=t.length) (fun t h=>by rw[zeQ h];simp) (fun t r n h ih=>?_) s
 have hr:=za3 h
 rw[zco h,List.length_cons]
 rw[List.length_drop]at ih
 omega
theorem zpU:∀l:List Int,(∀r∈l,valid r=true)->(l.flatMap escR).length<=9*l.length
 | [],_=>by simp
 | r::l,h=>by
  have h1:=ztB (h r (by simp))
  have h2:=zpU l fun x hx=>h x (by simp [hx])
  rw[List.flatMap_cons,List.length_append,List.length_cons];omega
theorem zzP (s:List UInt8):(qt s).length<=2+9*s.length:=by
 have h1:=zpU (zbd s) (zdk s)
 have h2:=zp3 s
 unfold qt
 rw[List.length_cons,List.length_append,List.length_singleton];omega
end Go.Lx
namespace Go.Lx
open Go Go.Avm Go.Rn
theorem zsL (r:Int):(enc r).length<=4:=by
 by_cases hv:valid r=true
 ·exact (zaQ hv).2
 ·simp [enc,hv]
theorem ztt {v bs:List UInt8}{n:Nat}(h:elem v=some (bs,n)):bs.length<=4:=by
 unfold elem at h
 split at h
 ·cases he:escp (v.drop 1) with
  | none=>rw[he]at h;cases h
  | some x =>
   rw[he]at h
   obtain ⟨r,m⟩:=x
   simp only[Option.map_some,Option.some.injEq,Prod.mk.injEq]at h
   rw[<-h.1]
   exact zsL r
 ·split at h
  ·cases h
  ·split at h
   ·cases h
   ·cases h
    exact zsL _
theorem zsK:∀(u:List UInt8) (k:Nat) (c:List UInt8) (m:Nat),txtS k u=.ok c m->c.length<=4*u.length
 | [],k,c,m,h=>by cases k<;>simp [txtS]at h
 | x::r,k+1,c,m,h=>by
  rw[txtS]at h
  cases e:txtS k r with
  | ok c' m' =>
   rw[e]at h
   simp only[TR.up,TR.ok.injEq,List.nil_append]at h
   have:=zsK r k c' m' e
   rw[<-h.1,List.length_cons]
   omega
  | bad d=>rw[e]at h;simp [TR.up]at h
  | out=>rw[e]at h;simp [TR.up]at h
 | x :: r,0,c,m,h=>by
  rw[txtS]at h
  split at h
  ·simp only[TR.ok.injEq]at h
   rw[<-h.1]
   simp
  ·split at h
   ·cases h
   ·rename_i bs n he
    have h4:=ztt he
    cases e:txtS (n-1) r with
    | ok c' m' =>
     rw[e]at h
     simp only[TR.up,TR.ok.injEq]at h
     have:=zsK r (n-1) c' m' e
     rw[<-h.1,List.length_cons,List.length_append]
     omega
    | bad d=>rw[e]at h;simp [TR.up]at h
    | out=>rw[e]at h;simp [TR.up]at h
theorem zwy {u:List UInt8}{t:Tok}{n:Nat}(h:tokO u=.ok t n):t.s.length<=4*u.length:=by
 unfold tokO at h
 split at h
 ·unfold zdK at h
  split at h
  ·cases h
  ·cases h
   dsimp only
   rw[List.length_take]
   omega
 ·split at h
  ·unfold numO at h
   dsimp only at h
   split at h
   ·cases h
   ·split at h
    ·split at h
     ·cases h
     ·cases h
      simp
    ·cases h
  ·split at h
   ·unfold zer at h
    split at h
    ·rename_i c k e
     cases h
     have:=zsK _ _ _ _ e
     rw[List.length_drop]at this
     dsimp only
     omega
    ·cases h
    ·cases h
   ·unfold zee at h
    repeat' split at h
    all_goals first|cases h;simp|cases h
theorem zGz {p:Nat}{u:List UInt8}{l:List PT}(h:Lx p u l):∀x∈l,x.1.s.length<=4*u.length:=by
 induction h with
 | nil p=>simp
 | @blank p r l hl ih =>
  intro x hx
  have:=ih x hx
  rw[List.length_cons]
  omega
 | @tok p c r t n l h1 ht hl ih =>
  intro x hx
  rcases List.mem_cons.1 hx with rfl|hx
  ·exact zwy ht
  ·have:=ih x hx
   rw[List.length_drop]at this
   omega
theorem zzx (s:List UInt8):∀x∈(zeh s).1,x.1.s.length<=4*s.length:=by
 by_cases hl:s.length<=2000
 ·rcases zsC s hl with ⟨l,h1,h2⟩|⟨d,e,h1,_⟩
  ·rw[h1]
   exact zGz h2
  ·rw[h1]
   intro x hx
   cases hx
 ·unfold zeh
  rw[if_pos (by omega)]
  intro x hx
  cases hx
end Go.Lx
