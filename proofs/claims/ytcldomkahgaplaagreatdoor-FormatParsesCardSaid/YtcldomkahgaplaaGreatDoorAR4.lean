/- The reader: text. -/
import Derived.Test.YtcldomkahgaplaaGreatDoorAR3
import Derived.Test.YtcldomkahgaplaaGreatDoorAR2
import Derived.Test.YtcldomkahgaplaaGreatDoorML2
set_option linter.all false
namespace Go.Avm
open Go Go.Rn Go.Lx
set_option maxRecDepth 10000
theorem gx2 {α:Type}(G:List α)(x y z:α)(r:List α):(G++x::y::z::r)[G.length+2]?=some z:=by
 rw[List.getElem?_append_right (by omega),show G.length+2-G.length=2 by omega];rfl
theorem gx3 {α:Type}(G:List α)(x y z u:α)(r:List α):(G++x::y::z::u::r)[G.length+3]?=some u:=by
 rw[List.getElem?_append_right (by omega),show G.length+3-G.length=3 by omega];rfl
theorem gs2 {α:Type}(G:List α)(x y z u:α)(r:List α):(G++x::y::z::r).set (G.length+2) u=G++x::y::u::r:=by
 rw[List.set_append_right _ _ (by omega),show G.length+2-G.length=2 by omega];rfl
theorem gs3 {α:Type}(G:List α)(x y z u v:α)(r:List α):(G++x::y::z::u::r).set (G.length+3) v=G++x::y::z::v::r:=by
 rw[List.set_append_right _ _ (by omega),show G.length+3-G.length=3 by omega];rfl
theorem gl4 {α:Type}(G:List α)(x y z:α):(G++[x,y,z]).length=G.length+3:=by simp
theorem w11:IntKind.i64.wrap (1-1)=0:=by decide
structure TS where
 q:Nat
 j:Nat
 c:List UInt8
def TI (u:List UInt8)(x:TS):Prop:=x.q<=u.length/\x.j<=10/\((x.q=0/\x.j=1/\x.c=[])∨(1<=x.q/\x.q+(x.j-1)<=u.length/\x.c.length<=4*(x.q+(x.j-1))/\(∀i,i<x.j-1->(u.getD (x.q+i) 0).toNat<128)/\txtS 0 (u.drop 1)=(txtS 0 (u.drop (x.q+(x.j-1)))).up x.c (x.q+(x.j-1)-1)))
def tz:Blk:=.box [.int .i64 0,.int .i64 0,.int .i64 0,.int .i64 0,.str []]
def fz:Blk:=.box [.int .i64 0,.int .i64 0]
theorem zxB {u:List UInt8}{c:List UInt8}{q:Nat}{r:TR}(h:txtS 0 (u.drop 1)=r.up c (q-1))(hq:1<=q):zer u=(match (generalizing:=false) r with
  | .ok c' k=>Out.ok ⟨3,0,c++c'⟩ (q+k)
  | .bad d=>Out.bad (q+d) 6
  | .out=>Out.bad 0 6):=by
 have e:zer u=(match (generalizing:=false) r.up c (q-1) with
  | .ok c k=>Out.ok ⟨3,0,c⟩ (k+1)
  | .bad d=>Out.bad (d+1) 6
  | .out=>Out.bad 0 6):=by rw[<-h];rfl
 rw[e]
 cases r with
 | ok c' k=>simp only[TR.up];congr 1;omega
 | bad d=>simp only[TR.up];congr 1;omega
 | out=>rfl
theorem zEN (v:List UInt8):hasP v [239,191,189]=decide (v.take 3=[239,191,189]):=by
 unfold hasP
 by_cases h:v.take 3=[239,191,189]
 ·have:=congrArg List.length h
  rw[List.length_take]at this
  simp only[List.length_cons,List.length_nil]at this⊢
  simp [h];omega
 ·simp [h]
section
variable {X:Cx}(hX:X.P=Go.Proofs.Tryz.prog)(hs:Std X)(hN:X.G 2=some [.int .i64 0,.int .i64 0]){te:Nat}(hR:X.G 5=some [.ifc te .undef])
include hX hs hN hR
set_option maxHeartbeats 4000000 in
theorem zBx (s:List UInt8)(p:Nat)(G:Heap)(hl:s.length<1000000)(hp:p<s.length)(h34:s.getD p 0=34) :
  EvM X zla [.ptr 1 0] (RH s p G) (OutQ s p G (zer (s.drop p))):=by
 refine zaz hs (zqz hX) ?_
 unfold RH
 simp only[zqM,go_sem,Nat.reduceEqDiff,Nat.reduceAdd,reduceCtorEq,Nat.reduceLT,rdr,List.append_assoc,gl2,gl3,gl4,List.take_length]
 refine ⟨⟨⟨by omega,by omega⟩,by omega⟩,?_⟩
 have hul:(s.drop p).length=s.length-p:=List.length_drop
 have hu0:(s.drop p).getD 0 0=34:=by rw[<-h34];simp [List.getD_eq_getElem?_getD,List.getElem?_drop]
 have hsd:∀k,s.drop (p+k)=(s.drop p).drop k:=fun k=>(List.drop_drop ..).symm
 generalize hu:s.drop p=u at *
 refine zaj hs.hm (ι:=TS) (TI u) (fun x=>[(0,.ptr 1 0),(2,.ptr (G.length+1+1) 0),(3,.ptr (G.length+1+1+1) 0),(4,.int .i64 p),(5,.ptr (G.length+2+1+1) 0),(6,.int .i64 x.j),(23,.ptr (G.length+3+1+1) 0)]) (fun x=>.dead::.box [.str s,.int .i64 p]::(G++[tz,fz,.bld 61 5 x.c,.sit u x.q])) (fun x=>u.length-x.q) ⟨0,1,[]⟩ ?_ fun x hx=>?_
 ·simp only[go_sem,Nat.reduceEqDiff,reduceCtorEq]
  exact ⟨⟨Nat.zero_le _,by decide,.inl ⟨rfl,rfl,rfl⟩⟩,rfl⟩
 obtain ⟨q,j,c⟩:=x
 obtain ⟨x1,x2,x3⟩:=hx
 dsimp only at x1 x2 x3⊢
 have hset:∀z c',(Blk.dead::Blk.box [AV.str s,AV.int IntKind.i64 z]::(G++[tz,fz,Blk.bld 61 5 c,Blk.sit u c']))=(Blk.dead::Blk.box [AV.str s,AV.int IntKind.i64 z]::(G++[tz,fz,Blk.bld 61 5 c,Blk.sit u c'])):=fun _ _=>rfl
 have hg:∀(z:Int) (c':Nat),(Blk.dead::Blk.box [AV.str s,AV.int IntKind.i64 z]::(G++[tz,fz,Blk.bld 61 5 c,Blk.sit u c']))[G.length+2+1+1]?=some (.bld 61 5 c):=fun z c'=>by
  simp only[List.getElem?_cons_succ,gx2]
 by_cases hq:q<u.length
 ·obtain ⟨y,v,hv⟩:∃y v,u.drop q=y::v:=by
   cases hd:u.drop q with
   | nil=>have:=congrArg List.length hd;rw[List.length_drop]at this;simp at this;omega
   | cons y v=>exact ⟨y,v,rfl⟩
  have hyg:u.getD q 0=y:=by
   have:=congrArg (fun l=>List.getD l 0 0) hv
   simpa [List.getD_eq_getElem?_getD,List.getElem?_drop] using this
  have hvl:(y::v).length=u.length-q:=by rw[<-hv,List.length_drop]
  rcases x3 with ⟨rfl,rfl,rfl⟩|⟨y1,y2,y3,y4,y5⟩
  · -- the quote at the beginning
   have hy:y=34:=by rw[<-hyg];exact hu0
   subst hy
   have hd:=zwI (x:=34) (by decide) v
   have d1:(dec (34::v)).1=34:=by rw[hd];rfl
   have d2:(dec (34::v)).2=1:=by rw[hd]
   have w0:IntKind.i64.wrap (1-1)=0:=by decide
   simp only[zaP,go_sem,Nat.reduceEqDiff,Nat.reduceAdd,Int.reduceLT,reduceCtorEq,Nat.reduceLT,Nat.reduceLeDiff,gx0,gx3,gs0,gs3,hq,hv,d1,d2,w0,Int.cast_ofNat_Int]
   refine ⟨⟨1,0,[]⟩,by dsimp only;omega,⟨by dsimp only;omega,by decide,.inr ⟨Nat.le_refl _,by dsimp only;omega,Nat.zero_le _,fun i hi=>absurd hi (by simp),?_⟩⟩,rfl,rfl⟩
   exact (up_0 _).symm
  have hq0:¬(q:Int)=0:=by omega
  by_cases hj:2<=j
  · -- a byte of an escape
   have hy:y.toNat<128:=by
    have:=y4 0 (by omega)
    rw[Nat.add_zero,hyg]at this
    exact this
   have hd:=zwI hy v
   have d1:(dec (y::v)).1=y.toNat:=by rw[hd]
   have d2:(dec (y::v)).2=1:=by rw[hd]
   have a1:(0:Int)<(j:Int):=by omega
   have a2:IntKind.i64.wrap ((j:Int)-1)=((j-1:Nat):Int):=by rw[wi64 (by omega)];omega
   have a3:(0:Int)<((j-1:Nat):Int):=by omega
   simp only[zaP,go_sem,Nat.reduceEqDiff,Nat.reduceAdd,reduceCtorEq,Nat.reduceLT,Nat.reduceLeDiff,gx0,gx3,gs0,gs3,hq,hv,d1,d2,a1,a2,a3]
   refine ⟨⟨q+1,j-1,c⟩,by dsimp only;omega,⟨by dsimp only;omega,by dsimp only;omega,.inr ⟨by dsimp only;omega,by dsimp only;omega,by dsimp only;omega,fun i hi=>?_,?_⟩⟩,rfl,rfl⟩
   ·dsimp only at hi⊢
    have:=y4 (i+1) (by omega)
    rw[show q+1+i=q+(i+1) by omega]
    exact this
   ·dsimp only
    rw[show q+1+(j-1-1)=q+(j-1) by omega]
    exact y5
  have ej:q+(j-1)=q:=by omega
  rw[ej]at y2 y3 y5
  rw[hv]at y5
  clear y4 ej
  have wpq:IntKind.i64.wrap ((p:Int)+q)=((p+q:Nat):Int):=by rw[wi64 (by omega)];omega
  have wpq1:IntKind.i64.wrap (((p+q:Nat):Int)+1)=((p+q+1:Nat):Int):=by rw[wi64 (by omega)];omega
  have dr1:s.drop (p+q+1)=v:=by
   rw[Nat.add_assoc,hsd,<-List.drop_drop,hv];rfl
  have dr0:s.drop (p+q)=y::v:=by rw[hsd,hv]
  have j01:(j=0∨j=1):=by omega
  have next:∀(k:Nat) (bs:List UInt8) (j' n':Nat),elem (y::v)=some (bs,k)->y≠34->bs.length<=4*k->1<=n'->n' + (j' - 1)=k->j'<=10->(∀i,i<j' - 1->(u.getD (q+n' + i) 0).toNat<128) ->
    TI u ⟨q+n',j',c++bs⟩:=fun k bs j' n' he h34 hb h1 h2 h3 h4=>by
   have hes:=zfJ he
   have htx:=zfW h34 he
   refine ⟨by dsimp only;omega,h3,.inr ⟨by dsimp only;omega,by dsimp only;omega,?_,fun i hi=>h4 i hi,?_⟩⟩
   ·dsimp only
    rw[List.length_append];omega
   ·dsimp only
    rw[y5,htx,zvD,show q+n' + (j' - 1)=q+k by omega,<-List.drop_drop,hv,show k+(q-1)=q+k-1 by omega]
  have bad:txtS 0 (y::v)=.bad 0->zer u=.bad q 6:=fun h=>by
   rw[h]at y5
   exact (zxB y5 y1).trans rfl
  have nbad:y≠34->elem (y::v)=none->zer u=.bad q 6:=fun h1 h2=>bad (by rw[txtS,if_neg h1,h2])
  cases hd:dcO (y::v) with
  | none =>
   have hasc:¬y.toNat<128:=fun h=>by rw[zor h]at hd;cases hd
   have hde:=znn (y::v) (by simp)
   rw[hd]at hde
   have d1:(dec (y::v)).1=65533:=by rw[hde];rfl
   have d2:(dec (y::v)).2=1:=by rw[hde];rfl
   have n34:y≠34:=fun e=>hasc (by rw[e];decide)
   have n92:y≠92:=fun e=>hasc (by rw[e];decide)
   have ht:=nbad n34 (zvB n92 hd)
   rcases j01 with rfl|rfl
   all_goals
    simp only[zaP,go_sem,Nat.reduceEqDiff,Nat.reduceAdd,Int.reduceLT,Int.reduceEq,reduceCtorEq,Nat.reduceLT,Nat.reduceLeDiff,gx0,gx3,gs0,gs3,hq,hv,d1,d2,hq0,wpq,w11,Int.cast_ofNat_Int,List.take_length,dr0]
    refine ⟨⟨⟨by omega,by omega⟩,by omega⟩,?_⟩
    refine zab (za8 hX hs (y::v) [239,191,189] (by omega) (by decide)) ?_
    rw[zEN,decide_eq_false (zAV hd)]
    simp only[go_sem,Nat.reduceEqDiff,Nat.reduceAdd,reduceCtorEq,Nat.reduceLeDiff,tz,fz,gx0,gx1,gs0,gs1]
    refine ⟨[_,_,_,_],_,rfl,?_,fun t k e=>?_⟩
    ·rw[ht];rfl
    ·rw[ht]at e;cases e
  | some rn =>
   obtain ⟨r,n⟩:=rn
   have hde:=znn (y::v) (by simp)
   rw[hd]at hde
   have hsm:=za4 hd
   have hvr:=zao hsm.1
   have hrn:=za3 hd
   have d1:(((dec (y::v)).1:Nat):Int)=r:=by rw[hde];simp only[pr];omega
   have d2:(dec (y::v)).2=n:=by rw[hde];rfl
   by_cases c34:r=34
   ·have hy:=(zk5 hd (by omega)).1
    have hy34:y=34:=UInt8.toNat_inj.1 ((by omega:y.toNat=34).trans rfl)
    have htx:txtS 0 (y::v)=.ok [] 1:=by rw[txtS,if_pos hy34]
    rw[htx]at y5
    have ht:zer u=.ok ⟨3,0,c⟩ (q+1):=by
     have:=zxB y5 y1
     simp only[List.append_nil]at this
     exact this
    rcases j01 with rfl|rfl
    all_goals
     simp only[zaP,go_sem,Nat.reduceEqDiff,Nat.reduceAdd,Int.reduceLT,reduceCtorEq,Nat.reduceLT,Nat.reduceLeDiff,gx0,gx3,gs0,gs3,hq,hv,d1,d2,hq0,wpq,wpq1,w11,Int.cast_ofNat_Int,c34]
     refine ⟨_,_,zr6 hX (hg _ _),?_⟩
     simp only[go_sem,Nat.reduceEqDiff,Nat.reduceAdd,reduceCtorEq,Nat.reduceLeDiff,tz,fz,gx0,gx1,gs0,gs1,gs2,hN]
     refine ⟨[_,_,_,_],_,rfl,?_,fun t k e=>?_⟩
     ·rw[ht];rfl
     ·rw[ht]at e;cases e;rfl
   have n34:y≠34:=fun e=>c34 (by
    have:=zor (x:=y) (by rw[e];decide) v
    rw[hd]at this
    simp only[Option.some.injEq,Prod.mk.injEq]at this
    rw[this.1,e];rfl)
   by_cases c92:r=92
   ·have hy:=(zk5 hd (by omega)).1
    have hy92:y=92:=UInt8.toNat_inj.1 ((by omega:y.toNat=92).trans rfl)
    have hn1:n=1:=(zk5 hd (by omega)).2
    cases he:escp v with
    | none =>
     have ht:=nbad n34 (by rw[hy92,zwx,he];rfl)
     rcases j01 with rfl|rfl
     all_goals
      simp only[zaP,go_sem,Nat.reduceEqDiff,Nat.reduceAdd,Int.reduceLT,Int.reduceEq,reduceCtorEq,Nat.reduceLT,Nat.reduceLeDiff,gx0,gx3,gs0,gs3,hq,hv,d1,d2,hq0,wpq,wpq1,w11,Int.cast_ofNat_Int,List.take_length,dr1,c92]
      refine ⟨⟨⟨⟨by omega,by omega⟩,by omega⟩,by omega⟩,?_⟩
      refine zab (zqu hX hs hR v (by simp only[List.length_cons]at hvl;omega)) ?_
      unfold escV
      rw[he]
      simp only[go_sem,Nat.reduceEqDiff,Nat.reduceAdd,reduceCtorEq,Nat.reduceLT,Nat.reduceLeDiff,tz,fz,gx0,gx1,gs0,gs1]
      refine ⟨[_,_,_,_],_,rfl,?_,fun t k e=>?_⟩
      ·rw[ht];rfl
      ·rw[ht]at e;cases e
    | some x =>
     obtain ⟨r2,n2⟩:=x
     have hes:=zrK he
     have hea:=zy1 he
     have hvr2:=zao hes.2.2.1
     have hel:elem (y::v)=some (enc r2,n2+1):=by rw[hy92,zwx,he];rfl
     have hlp:=zaQ hes.2.2.1
     have wn:IntKind.i64.wrap ((n2:Int)+1)=((n2+1:Nat):Int):=by rw[wi64 (by omega)];omega
     have hTI:=next (n2+1) (enc r2) (n2+1) 1 hel n34 (by omega) (Nat.le_refl _) (by omega) (by omega) fun i hi=>by
      have:=hea.2 i (by omega)
      have e:u.getD (q+1+i) 0=v.getD i 0:=by
       have:=congrArg (fun l=>List.getD l (i+1) 0) hv
       simp only[List.getD_cons_succ]at this
       rw[<-this]
       simp only[List.getD_eq_getElem?_getD,List.getElem?_drop]
       rw[show q+1+i=q+(i+1) by omega]
      rw[e];exact this
     rcases j01 with rfl|rfl
     all_goals
      simp only[zaP,go_sem,Nat.reduceEqDiff,Nat.reduceAdd,Int.reduceLT,Int.reduceEq,reduceCtorEq,Nat.reduceLT,Nat.reduceLeDiff,gx0,gx3,gs0,gs3,hq,hv,d1,d2,hq0,wpq,wpq1,w11,Int.cast_ofNat_Int,List.take_length,dr1,c92]
      refine ⟨⟨⟨⟨by omega,by omega⟩,by omega⟩,by omega⟩,?_⟩
      refine zab (zqu hX hs hR v (by simp only[List.length_cons]at hvl;omega)) ?_
      unfold escV
      rw[he]
      simp only[go_sem,Nat.reduceEqDiff,Nat.reduceAdd,reduceCtorEq,Nat.reduceLT]
      refine zae (zna hX r2 hes.2.2.1 (hg _ _) (by omega)) ?_
      rintro r3 H3 ⟨rfl,rfl⟩
      simp only[go_sem,Nat.reduceEqDiff,reduceCtorEq,gs2,wn]
      exact ⟨⟨q+1,n2+1,c++enc r2⟩,by dsimp only;omega,hTI,rfl,by rw[hn1]⟩
   have n92:y≠92:=fun e=>c92 (by
    have:=zor (x:=y) (by rw[e];decide) v
    rw[hd]at this
    simp only[Option.some.injEq,Prod.mk.injEq]at this
    rw[this.1,e];rfl)
   by_cases c32:r<32
   ·have ht:=nbad n34 (zyS n92 hd c32)
    rcases j01 with rfl|rfl
    all_goals
     simp only[zaP,go_sem,Nat.reduceEqDiff,Nat.reduceAdd,Int.reduceLT,reduceCtorEq,Nat.reduceLT,Nat.reduceLeDiff,gx0,gx1,gx3,gs0,gs1,gs3,hq,hv,d1,d2,hq0,wpq,w11,Int.cast_ofNat_Int,c34,c92,c32,tz,fz]
     refine ⟨[_,_,_,_],_,rfl,?_,fun t k e=>?_⟩
     ·rw[ht];rfl
     ·rw[ht]at e;cases e
   have hel:=zBL n92 hd c32
   have hlp:=zaQ hsm.1
   have hTI:=next n (enc r) 0 n hel n34 (by omega) hrn.1 (by omega) (by omega) fun i hi=>absurd hi (by omega)
   by_cases cff:r=65533
   ·have hpre:(y::v).take 3=[239,191,189]:=by
     have h1:=hsm.2.2.1
     have h2:=hsm.2.2.2
     rw[cff,ztd]at h1 h2
     rw[h2]at h1
     exact h1
    rcases j01 with rfl|rfl
    all_goals
     simp only[zaP,go_sem,Nat.reduceEqDiff,Nat.reduceAdd,Int.reduceLT,Int.reduceEq,reduceCtorEq,Nat.reduceLT,Nat.reduceLeDiff,gx0,gx3,gs0,gs3,hq,hv,d1,d2,hq0,wpq,w11,Int.cast_ofNat_Int,List.take_length,dr0,cff]
     refine ⟨⟨⟨by omega,by omega⟩,by omega⟩,?_⟩
     refine zab (za8 hX hs (y::v) [239,191,189] (by omega) (by decide)) ?_
     rw[zEN,decide_eq_true hpre]
     simp only[go_sem,Nat.reduceEqDiff,reduceCtorEq]
     rw[<-cff]
     refine zae (zna hX r hsm.1 (hg _ _) (by omega)) ?_
     rintro r3 H3 ⟨rfl,rfl⟩
     simp only[go_sem,Nat.reduceEqDiff,reduceCtorEq,gs2]
     exact ⟨⟨q+n,0,c++enc r⟩,by dsimp only;omega,hTI,rfl,rfl⟩
   ·rcases j01 with rfl|rfl
    all_goals
     simp only[zaP,go_sem,Nat.reduceEqDiff,Nat.reduceAdd,Int.reduceLT,reduceCtorEq,Nat.reduceLT,Nat.reduceLeDiff,gx0,gx3,gs0,gs3,hq,hv,d1,d2,hq0,wpq,w11,Int.cast_ofNat_Int,c34,c92,c32,cff]
     refine zae (zna hX r hsm.1 (hg _ _) (by omega)) ?_
     rintro r3 H3 ⟨rfl,rfl⟩
     simp only[go_sem,Nat.reduceEqDiff,reduceCtorEq,gs2]
     exact ⟨⟨q+n,0,c++enc r⟩,by dsimp only;omega,hTI,rfl,rfl⟩
 ·have hqe:q=u.length:=by omega
  have ht:zer u=.bad 0 6:=by
   rcases x3 with ⟨rfl,rfl,rfl⟩|⟨y1,y2,y3,y4,y5⟩
   ·omega
   ·have e:u.drop (q+(j-1))=[]:=List.drop_eq_nil_of_le (by omega)
    rw[e]at y5
    have:txtS 0 (u.drop 1)=.out:=by rw[y5];rfl
    unfold zer
    rw[this]
  simp only[zaP,go_sem,Nat.reduceEqDiff,Nat.reduceAdd,reduceCtorEq,Nat.reduceLT,Nat.reduceLeDiff,gx0,gx1,gx3,gs0,gs1,gs3,hq,tz,fz]
  refine ⟨[_,_,_,_],_,rfl,?_,fun t k e=>?_⟩
  ·rw[ht];rfl
  ·rw[ht]at e;cases e
end
end Go.Avm
namespace Go.Avm
open Go Go.Rn Go.Lx
set_option maxRecDepth 10000
section
variable {X:Cx}(hX:X.P=Go.Proofs.Tryz.prog)(hs:Std X)
include hX hs
set_option maxHeartbeats 1000000 in
theorem zrD (hB:X.G 8=some tabB)(s:List UInt8)(ht:okT s=true)(hl:s.length<1000000):Ev X zfc [.str s] (.str (qt s)):=by
 refine zac hs (zmY hX) 0 ?_
 simp only[zlq,go_sem,Nat.reduceEqDiff,reduceCtorEq]
 refine zae (ztl hX (i:=0) (l:=[]) 34 (by rfl) (by decide)) ?_
 rintro r H' ⟨rfl,rfl⟩
 simp only[go_sem,Nat.reduceEqDiff,reduceCtorEq]
 refine zaj hs.hm (ι:=QS) (QI s) (fun x=>[(0,.str s),(3,.ptr 0 0),(8,.ptr 1 0)]) (fun x=>[.bld 61 5 (34::x.pre.flatMap escR),.sit s x.q]) (fun x=>s.length-x.q) ⟨0,[]⟩ ?_ fun x hx=>?_
 ·simp only[go_sem,Nat.reduceEqDiff,reduceCtorEq]
  exact ⟨QI_0 ht,rfl⟩
 by_cases hq:x.q<s.length
 ·obtain ⟨r,n,hd,hv,hn,hI⟩:=zAO hx hq
  have hx4:=hx.2.2.2.1
  have hr:=zao hv
  have hlp:=zaQ hv
  have hne:s.drop x.q≠[]:=fun e=>by have:=congrArg List.length e;rw[List.length_drop]at this;simp at this;omega
  have hde:=znn (s.drop x.q) hne
  rw[hd]at hde
  have d1:(((dec (s.drop x.q)).1:Nat):Int)=r:=by rw[hde];simp only[pr];omega
  have d2:(dec (s.drop x.q)).2=n:=by rw[hde];rfl
  have hfl:(34::x.pre.flatMap escR).length<=10000000:=by rw[List.length_cons];omega
  have fin:∀bs,bs=escR r->∃j:QS,s.length-j.q<s.length-x.q/\QI s j/\[Blk.bld 61 5 (34::x.pre.flatMap escR++bs),Blk.sit s (x.q+n)]=[Blk.bld 61 5 (34::j.pre.flatMap escR),Blk.sit s j.q]:=fun bs hb=>by
   refine ⟨⟨x.q+n,x.pre++[r]⟩,by dsimp only;omega,hI,?_⟩
   subst hb
   dsimp only
   rw[List.flatMap_append]
   simp
  simp only[zfm,go_sem,Nat.reduceEqDiff,Nat.reduceAdd,reduceCtorEq,Nat.reduceLT,hq,d1,d2]
  by_cases c34:r=34
  ·simp only[go_sem,Int.reduceLE,Int.reduceLT,Int.reduceEq,c34]
   refine zae (ztl hX (i:=0) 92 (by rfl) (by omega)) ?_
   rintro r2 H2 ⟨rfl,rfl⟩
   simp only[go_sem,Nat.reduceEqDiff,reduceCtorEq]
   refine zae (zna hX (i:=0) 34 (by decide) (by rfl) (by simp only[List.length_cons,List.length_append,List.length_nil]at hfl⊢;omega)) ?_
   rintro r2 H2 ⟨rfl,rfl⟩
   simp only[go_sem,Nat.reduceEqDiff,reduceCtorEq]
   have:=fin ([92]++enc 34) (by rw[c34];rfl)
   rw[<-List.append_assoc]at this
   exact this
  by_cases c92:r=92
  ·simp only[go_sem,Int.reduceLE,Int.reduceLT,Int.reduceEq,c92]
   refine zae (ztl hX (i:=0) 92 (by rfl) (by omega)) ?_
   rintro r2 H2 ⟨rfl,rfl⟩
   simp only[go_sem,Nat.reduceEqDiff,reduceCtorEq]
   refine zae (zna hX (i:=0) 92 (by decide) (by rfl) (by simp only[List.length_cons,List.length_append,List.length_nil]at hfl⊢;omega)) ?_
   rintro r2 H2 ⟨rfl,rfl⟩
   simp only[go_sem,Nat.reduceEqDiff,reduceCtorEq]
   have:=fin ([92]++enc 92) (by rw[c92];rfl)
   rw[<-List.append_assoc]at this
   exact this
  have n1:¬(r=34∨r=92):=fun e=>e.elim c34 c92
  by_cases c10:r=10
  ·simp only[go_sem,Int.reduceLE,Int.reduceLT,Int.reduceEq,c10]
   refine zae (zka hX (i:=0) [92,110] (by rfl) (by simp only[List.length_cons,List.length_nil]at hfl⊢;omega)) ?_
   rintro r2 H2 ⟨rfl,rfl⟩
   simp only[go_sem,Nat.reduceEqDiff,Nat.reduceAdd,reduceCtorEq]
   exact fin [92,110] (by rw[c10];rfl)
  by_cases cp:32<=r/\r<127
  ·have e:enc r=escR r:=by
    unfold escR;rw[if_neg n1,if_neg c10,if_pos (by omega)]
   simp only[go_sem,c34,c92,c10,cp.1,cp.2]
   refine zae (zna hX (i:=0) r hv (by rfl) (by omega)) ?_
   rintro r2 H2 ⟨rfl,rfl⟩
   simp only[go_sem,Nat.reduceEqDiff,reduceCtorEq]
   exact fin (enc r) e
  ·have e:escR r=92::117::(Lx.hexs r.toNat++[59]):=by
    unfold escR;rw[if_neg n1,if_neg c10,if_neg (by omega)]
   have hlen:(Lx.hexs r.toNat).length<=6:=ze8 5 r.toNat (by rw[show (16:Nat) ^ (5+1)=16777216 by rfl];omega)
   have hw:IntKind.i64.wrap r=((r.toNat:Nat):Int):=by rw[wi64 (by omega)];omega
   have go:∀(K:Fr->Heap->Prop) (d:Option Nat) (fr:Fr) (H:Heap),K (fr.updo d (.str (Lx.hexs r.toNat))) H->zdT X zaN [.int .i64 ((r.toNat:Nat):Int),.int .i64 16] d fr H K:=fun K d fr H hK=>zab (zqP hX hs hB r.toNat (by omega)) hK
   by_cases c32:32<=r
   ·have c127:¬r<127:=fun h=>cp ⟨c32,h⟩
    simp only[go_sem,c34,c92,c10,c32,c127,hw]
    refine go _ _ _ _ ?_
    simp only[go_sem,Nat.reduceEqDiff,Nat.reduceAdd,reduceCtorEq,Nat.reduceLeDiff]
    refine ⟨by omega,by omega,?_⟩
    refine zae (zka hX (i:=0) (92::117::(Lx.hexs r.toNat++[59])) (by rfl) (by simp only[List.length_cons,List.length_append,List.length_nil]at hfl⊢;omega)) ?_
    rintro r2 H2 ⟨rfl,rfl⟩
    simp only[go_sem,Nat.reduceEqDiff,reduceCtorEq]
    exact fin _ e.symm
   ·simp only[go_sem,c34,c92,c10,c32,hw]
    refine go _ _ _ _ ?_
    simp only[go_sem,Nat.reduceEqDiff,Nat.reduceAdd,reduceCtorEq,Nat.reduceLeDiff]
    refine ⟨by omega,by omega,?_⟩
    refine zae (zka hX (i:=0) (92::117::(Lx.hexs r.toNat++[59])) (by rfl) (by simp only[List.length_cons,List.length_append,List.length_nil]at hfl⊢;omega)) ?_
    rintro r2 H2 ⟨rfl,rfl⟩
    simp only[go_sem,Nat.reduceEqDiff,reduceCtorEq]
    exact fin _ e.symm
 ·have he:=zDi hx hq
  have hx4:=hx.2.2.2.1
  have hx1:=hx.1
  simp only[zfm,go_sem,Nat.reduceEqDiff,Nat.reduceAdd,reduceCtorEq,Nat.reduceLT,hq]
  refine zae (ztl hX (i:=0) 34 (by rfl) (by rw[List.length_cons];omega)) ?_
  rintro r2 H2 ⟨rfl,rfl⟩
  simp only[go_sem,Nat.reduceEqDiff,reduceCtorEq]
  refine zae (zmf hX (i:=0) (by rfl)) ?_
  rintro r2 H2 ⟨rfl,rfl⟩
  simp only[go_sem,Nat.reduceEqDiff,reduceCtorEq,he]
  rfl
theorem zus (hB:X.G 8=some tabB)(hP:X.G 4=some (Lib.pow10Tab.map (AV.int .u64)))(t:Tok)(a b:Int)(hk:1<=t.kind/\t.kind<=9)(hn:I64 t.n)(ht:t.kind=3->okT t.s=true)(hl:t.s.length<1000000):Ev X zcJ [tkV t a b] (.str (wr t)):=by
 obtain ⟨k,n,s⟩:=t
 dsimp only at hk hn ht hl
 refine zac hs (zkE hX) 0 ?_
 rcases (by omega:k=1∨k=2∨k=3∨k=4∨k=5∨k=6∨k=7∨k=8∨k=9) with rfl|rfl|rfl|rfl|rfl|rfl|rfl|rfl|rfl
 ·simp only[zcR,tkV,go_sem,Nat.reduceEqDiff,Nat.reduceAdd,reduceCtorEq,Nat.reduceLT]
  rfl
 ·simp only[zcR,tkV,go_sem,Nat.reduceEqDiff,Nat.reduceAdd,Int.reduceEq,reduceCtorEq,Nat.reduceLT]
  refine zab (zf4 hX hP n hn) ?_
  simp only[go_sem,Nat.reduceEqDiff,reduceCtorEq]
  rfl
 ·simp only[zcR,tkV,go_sem,Nat.reduceEqDiff,Nat.reduceAdd,Int.reduceEq,reduceCtorEq,Nat.reduceLT]
  refine zab (zrD hX hs hB s (ht rfl) hl) ?_
  simp only[go_sem,Nat.reduceEqDiff,reduceCtorEq]
  rfl
 all_goals
  simp only[zcR,tkV,go_sem,Nat.reduceEqDiff,Nat.reduceAdd,Nat.reduceMul,Int.reduceToNat,Int.reduceLE,Int.reduceLT,Int.reduceEq,reduceCtorEq,Nat.reduceLT,Nat.reduceLeDiff]
  rfl
end
end Go.Avm
namespace Go.Avm
open Go Go.Rn Go.Lx
set_option maxRecDepth 10000
theorem zBU (u:List UInt8)(k:Int)(h:(mk k).length<=2):hasP u (mk k)=decide (u.take (mk k).length=mk k):=by
 unfold hasP
 by_cases e:u.take (mk k).length=mk k
 ·have:=congrArg List.length e
  rw[List.length_take]at this
  simp [e];omega
 ·simp [e]
theorem zF0 (k:Int):1<=(mk k).length/\(mk k).length<=2:=by
 unfold mk
 repeat' split
 all_goals decide
section
variable {X:Cx}(hX:X.P=Go.Proofs.Tryz.prog)(hs:Std X)(hN:X.G 2=some [.int .i64 0,.int .i64 0])(hB:X.G 8=some tabB)(hP:X.G 4=some (Lib.pow10Tab.map (AV.int .u64)))
include hX hs hN hB hP
theorem zCA (s:List UInt8)(p:Nat)(G:Heap)(hl:s.length<1000000)(hp:p<s.length) :
  EvM X zmj [.ptr 1 0] (RH s p G) (OutQ s p G (zee (s.drop p))):=by
 refine zaz hs (zrE hX) ?_
 unfold RH
 simp only[zrL,go_sem,rdr,List.append_assoc,gl2]
 have hul:(s.drop p).length=s.length-p:=List.length_drop
 have wrt:∀k:Nat,4<=k->k<=9->Ev X zcJ [.agg [.int .i64 (k:Int),.int .i64 0,.int .i64 0,.int .i64 0,.str []]] (.str (mk k)):=fun k h1 h2=>by
  have:=zus hX hs hB hP ⟨k,0,[]⟩ 0 0 (by dsimp only;omega) (show I64 0 by unfold I64;decide) (fun e=>by dsimp only at e;omega) (by simp)
  rw[zG0 (by omega)]at this
  exact this
 refine zaj hs.hm (ι:=Nat) (fun k=>4<=k/\k<=10/\∀j:Int,4<=j->j<k->¬(s.drop p).take (mk j).length=mk j) (fun k=>[(0,.ptr 1 0),(2,.ptr (G.length+1+1) 0),(3,.ptr (G.length+1+1+1) 0),(4,.int .i64 k)]) (fun _=>.dead::.box [.str s,.int .i64 p]::(G++[.box [.int .i64 0,.int .i64 0,.int .i64 0,.int .i64 0,.str []],.box [.int .i64 0,.int .i64 0]])) (fun k=>10-k) 4 ?_ fun k hk=>?_
 ·simp only[go_sem,Nat.reduceEqDiff,reduceCtorEq,Nat.reduceLeDiff]
  intro j h1 h2
  omega
 obtain ⟨k1,k2,k3⟩:=hk
 by_cases hk9:k<=9
 ·have hk9':(k:Int)<=9:=by omega
  have hml:=zF0 k
  simp only[zhz,go_sem,Nat.reduceEqDiff,Nat.reduceAdd,reduceCtorEq,Nat.reduceLT,Nat.reduceLeDiff,hk9',List.take_length]
  refine ⟨⟨⟨by omega,by omega⟩,by omega⟩,?_⟩
  refine za1 (wrt k k1 hk9) ?_
  simp only[go_sem,Nat.reduceEqDiff,reduceCtorEq]
  refine za1 (za8 hX hs (s.drop p) (mk k) (by omega) (by omega)) ?_
  rw[zBU _ _ hml.2]
  by_cases hh:(s.drop p).take (mk k).length=mk k
  ·have hq:=zww (u:=s.drop p) (k:=k) ⟨by omega,by omega⟩ hh
   simp only[hh,decide_true,go_sem,Nat.reduceEqDiff,Nat.reduceAdd,reduceCtorEq,Nat.reduceLT,Nat.reduceLeDiff]
   refine za1 (wrt k k1 hk9) ?_
   have hw:IntKind.i64.wrap ((p:Int)+(mk k).length)=((p+(mk k).length:Nat):Int):=by rw[wi64 (by omega)];omega
   simp only[go_sem,Nat.reduceEqDiff,Nat.reduceAdd,reduceCtorEq,Nat.reduceLeDiff,gx0,gx1,gs0,gs1,hN,hw]
   refine ⟨[_,_],_,rfl,?_,fun t n e=>?_⟩
   ·rw[hq];rfl
   ·rw[hq]at e;cases e;rfl
  ·simp only[hh,decide_false,go_sem,Nat.reduceEqDiff,reduceCtorEq]
   have hw:IntKind.i64.wrap ((k:Int)+1)=((k+1:Nat):Int):=by rw[wi64 (by omega)];omega
   rw[hw]
   refine ⟨k+1,by omega,⟨by omega,by omega,fun j h1 h2=>?_⟩,rfl⟩
   rcases (by omega:j=(k:Int)∨j<k) with rfl|h
   ·exact hh
   ·exact k3 j h1 h
 ·have hk9':¬(k:Int)<=9:=by omega
  have hq:=zvp (u:=s.drop p) fun j h1 h2=>k3 j h1 (by omega)
  simp only[zhz,go_sem,Nat.reduceMod,Nat.reduceEqDiff,Nat.reduceAdd,reduceCtorEq,Nat.reduceLT,Nat.reduceLeDiff,gx0,gx1,gs0,gs1,hk9']
  refine ⟨[_,_],_,rfl,?_,fun t n e=>?_⟩
  ·rw[hq];rfl
  ·rw[hq]at e;cases e
omit hN hP in
theorem zy0 (h0:X.G 0=some tab0)(h1:X.G 1=some tab1)(s:List UInt8)(hl:s.length<1000000):Ev X ziy [.str s] (if 2000<s.length then .tuple [.str [],.int .i64 3] else if okT s=false then .tuple [.str [],.int .i64 6] else .tuple [.str (qt s),.int .i64 0]):=by
 refine zac hs (zo4 hX) 0 ?_
 simp only[znG,go_sem,Nat.reduceEqDiff,reduceCtorEq]
 refine ⟨fun h=>by rw[if_pos (by omega)],fun h=>?_⟩
 rw[if_neg (by omega)]
 refine zab (zmH hX h0 h1 s hl) ?_
 cases hv:okT s with
 | true =>
  simp only[go_sem,Nat.reduceEqDiff,reduceCtorEq]
  refine zab (zrD hX hs hB s hv hl) ?_
  simp only[go_sem,Nat.reduceEqDiff,reduceCtorEq]
 | false =>
  simp only[go_sem,Nat.reduceEqDiff,reduceCtorEq]
end
end Go.Avm
namespace Go.Avm
open Go Go.Rn Go.Lx
set_option maxRecDepth 10000
instance : Inhabited Tok:=⟨⟨0,0,[]⟩⟩
def ptV (x:PT):AV:=tkV x.1 (x.2.1:Nat) (x.2.2:Nat)
instance : Elt ptV 5:=⟨fun _=>rfl,fun _=>rfl,fun _=>rfl,fun _=>rfl⟩
end Go.Avm
namespace Go.Lx
def LR.pre (l:List PT):LR->LR
 | .ok m=>.ok (l++m)
 | .bad d e=>.bad d e
end Go.Lx
namespace Go.Avm
open Go Go.Rn Go.Lx
set_option maxRecDepth 10000
theorem zs7 (l:List PT)(x:PT)(r:LR):(r.cons x).pre l=r.pre (l++[x]):=by
 cases r<;>simp [LR.pre,LR.cons]
structure LS where
 p:Nat
 l:List PT
 G:Heap
def LI (s:List UInt8)(x:LS):Prop:=x.p<=s.length/\x.l.length<=x.p/\lexS 0 0 s=(lexS 0 x.p (s.drop x.p)).pre x.l
def zAv (x:List PT×Nat×Int):AV:=.tuple [lst ptV .ro x.1,.int .i64 (x.2.1:Nat),.int .i64 x.2.2]
theorem zzB:∀n:Nat,n<256->(decide (zbr n=1)=decide (n=32))/\(decide (zbr n=7)=decide (n=45))/\(decide (zbr n=5)=decide (n=34))/\decide (zbr n=6)=(decide (48<=n)&&decide (n<=57)):=by decide +kernel
theorem zhB {X:Cx}(hs:Std X){f:FuncId}{hint:Nat->Bool}{af:AFun}(hc:zaa X.P f hint=some af){args:List AV}{r:AV}(k:Nat)
  (h:wpc X af.n af.code (kq X af.n (zgM af.res fun r' H'=>dry (fin H' k r')=r) []) (FL.get (args.zipIdx.map fun p=>(p.2,p.1))) [.dead]):Ev X f args r:=by
 have h0:=(zmn (Hin:=[]) hs hc h).evF
 exact ⟨h0.1,fun g w vs h1 h2 h3=>(h0.2 g w vs h1 h2 h3).mono fun e w' ⟨v,r',g',H',k1,k2,k3,k4,k5,k6⟩=>by
  subst k6
  exact ⟨v,_,finG g' w',[],k1,zqp▸zgf _ (zr2 k4 k r' k2),zsn k3,zqd (fun _=>rfl) (fun _=>rfl) (fun _=>rfl),k5.trans zou,rfl,rfl⟩⟩
section
variable {X:Cx}(hX:X.P=Go.Proofs.Tryz.prog)(hs:Std X)(hN:X.G 2=some [.int .i64 0,.int .i64 0])(hB:X.G 8=some tabB)(hP:X.G 4=some (Lib.pow10Tab.map (AV.int .u64))){te te':Nat}(hR:X.G 6=some [.ifc te .undef])(hR4:X.G 5=some [.ifc te' .undef])
include hX hs hN hB hP hR hR4
set_option maxHeartbeats 4000000 in
theorem zBm (s:List UInt8)(hl:s.length<1000000):Ev X zkZ [.str s] (zAv (zeh s)):=by
 refine zhB hs (zqL hX) 0 ?_
 simp only[zq1,go_sem,Nat.reduceEqDiff,Nat.reduceAdd,reduceCtorEq,Nat.reduceLeDiff]
 refine ⟨fun h=>?_,fun h=>?_⟩
 ·unfold zeh
  rw[if_pos (by omega)]
  rfl
 ·have hl2:s.length<=2000:=by omega
  refine zbj hs.hm (ι:=LS) (LI s) (fun x=>[(0,.str s),(2,lst ptV (.tok 2 5) x.l),(5,.ptr 1 0)]) (fun x=>.dead::.box [.str s,.int .i64 x.p]::.tok x.l.length::x.G) (fun x=>s.length-x.p) ⟨0,[],[]⟩ ⟨⟨Nat.zero_le _,Nat.le_refl _,?_⟩,_,_,zcf 2 5 rfl,⟨by simp only[go_sem,Nat.reduceEqDiff,Nat.reduceAdd,reduceCtorEq];rfl,rfl⟩⟩ fun x hx=>?_
  ·dsimp only
   rw[List.drop_zero]
   cases lexS 0 0 s<;>rfl
  obtain ⟨p,l,G⟩:=x
  obtain ⟨x1,x2,x3⟩:=hx
  dsimp only at x1 x2 x3⊢
  by_cases hp:p<s.length
  ·have hp':(p:Int)<s.length:=by omega
   obtain ⟨c,v,hv⟩:∃c v,s.drop p=c::v:=by
    cases hd:s.drop p with
    | nil=>have:=congrArg List.length hd;rw[List.length_drop]at this;simp at this;omega
    | cons y v=>exact ⟨y,v,rfl⟩
   have hcg:s.getD p 0=c:=by
    have:=congrArg (fun l=>List.getD l 0 0) hv
    simpa [List.getD_eq_getElem?_getD,List.getElem?_drop] using this
   have hcl:zbL s p=zbr (c.toNat:Int):=by unfold zbL;rw[if_pos hp,hcg]
   have hct:=c.toNat_lt
   have hcm:=zzB c.toNat hct
   have hc8:=zsj c
   rw[<-hcl]at hcm hc8
   simp only[zg8,go_sem,Nat.reduceEqDiff,Nat.reduceAdd,reduceCtorEq,Nat.reduceLT,hp']
   refine zae (zoP hX hs 1 s _ p _ (by rfl) hl (by omega)) ?_
   rintro r H' ⟨rfl,rfl⟩
   by_cases c32:c=32
   ·have e1:zbL s p=1:=by
     have:=hcm.1;rw[decide_eq_decide]at this;exact this.2 (by rw[c32];rfl)
    have hw:IntKind.i64.wrap ((p:Int)+1)=((p+1:Nat):Int):=by rw[wi64 (by omega)];omega
    simp only[go_sem,Nat.reduceBEq,Nat.reduceEqDiff,Nat.reduceAdd,reduceCtorEq,Nat.reduceLT,e1,hw]
    refine ⟨⟨p+1,l,G⟩,by dsimp only;omega,⟨by dsimp only;omega,by dsimp only;omega,?_⟩,rfl,rfl⟩
    dsimp only
    rw[x3,hv,c32,zhW]
    have:s.drop (p+1)=v:=by rw[<-List.drop_drop,hv];rfl
    rw[this]
   have n1:¬zbL s p=1:=fun e=>c32 (by
    have:=hcm.1;rw[decide_eq_decide]at this
    exact UInt8.toNat_inj.1 ((this.1 e).trans rfl))
   have tail_bad:∀(d:Nat) (e:Int),tokO (c::v)=.bad d e->AV.tuple [.sl .ro [],.int .i64 ((p+d:Nat):Int),.int .i64 e]=zAv (zeh s):=fun d e hto=>by
    unfold zeh
    rw[if_neg (by omega),x3,hv,zr5 c32 hto]
    rfl
   have nextI:∀(t:Tok) (k:Nat) (G3:Heap),tokO (c::v)=.ok t k->1<=k->p+k<=s.length->LI s ⟨p+k,l++[(t,p,p+k)],G3⟩:=fun t k G3 hto h1 h2=>by
    refine ⟨h2,by dsimp only;rw[List.length_append,List.length_singleton];omega,?_⟩
    dsimp only
    rw[x3,hv,zo3 c32 hto,zs7,<-List.drop_drop,hv]
   by_cases cl:ltr c=true
   ·have e1:zbL s p=8:=by rw[cl,decide_eq_true_eq]at hc8;exact hc8
    have ht:tokO (c::v)=zdK (c::v):=by unfold tokO;rw[List.getD_cons_zero,if_pos cl]
    simp only[go_sem,Nat.reduceEqDiff,Nat.reduceAdd,Int.reduceEq,reduceCtorEq,Nat.reduceLT,e1]
    refine zae (zA5 hX hs hN s p (.tok l.length::G) hl hp) ?_
    rintro r H2 ⟨G2,p2,rfl,rfl,hp2⟩
    rw[hv,<-ht]at hp2
    rw[hv,<-ht]
    have hRH:RH s p2 (.tok l.length::G++G2)=.dead::.box [.str s,.int .i64 p2]::.tok l.length::(G++G2):=rfl
    rw[hRH]
    generalize G++G2=G3
    cases hto:tokO (c::v) with
    | ok t k =>
     have hst:=zc4 (by simp) hto
     have hp2:=hp2 t k hto
     subst hp2
     have hkl:p+k<=s.length:=by
      have:=congrArg List.length hv
      rw[List.length_drop]at this
      omega
     simp only[outV,tkV,go_sem,Nat.reduceMod,Nat.reduceEqDiff,Nat.reduceAdd,reduceCtorEq,Nat.reduceLT,Nat.reduceLeDiff,List.append_assoc,List.cons_append,gx0,gx1,gs0,gs1,gl2]
     rw[show [AV.agg [AV.int .i64 t.kind,AV.int .i64 (p:Nat),AV.int .i64 ((p+k:Nat):Int),AV.int .i64 t.n,AV.str t.s]]=[((t,p,p+k):PT)].map ptV from rfl,zdU]
     simp only[go_sem,Nat.reduceEqDiff,reduceCtorEq,Nat.reduceLeDiff]
     refine ⟨⟨by omega,by omega⟩,⟨p+k,l++[(t,p,p+k)],G3++[.box [.int .i64 t.kind,.int .i64 (p:Nat),.int .i64 ((p+k:Nat):Int),.int .i64 t.n,.str t.s],.box [.int .i64 0,.int .i64 0]]⟩,by dsimp only;omega,nextI t k _ hto hst.1 hkl,rfl,?_⟩
     dsimp only
     rw[List.length_append];rfl
    | bad d e =>
     have hbd:=zhG (by simp) hto
     have hne:¬e=0:=by omega
     simp only[outV,tkV,go_sem,Nat.reduceEqDiff,Nat.reduceAdd,reduceCtorEq,Nat.reduceLT,List.append_assoc,List.cons_append,gx0,gx1,gs0,gs1,gl2,hne]
     exact tail_bad d e hto
   have n8:¬zbL s p=8:=fun e=>by rw[e]at hc8;exact cl hc8.symm
   have cl':¬ltr ((c::v).getD 0 0)=true:=cl
   by_cases cd:dg c=true
   ·have e1:zbL s p=6:=by have h6:=hcm.2.2.2;rw[show (decide (48<=c.toNat)&&decide (c.toNat<=57))=dg c from rfl,cd,decide_eq_true_eq]at h6;exact h6
    have ht:tokO (c::v)=numO (c::v):=by unfold tokO;rw[if_neg cl',if_pos (by rw[List.getD_cons_zero,cd];rfl)]
    simp only[go_sem,Nat.reduceEqDiff,Nat.reduceAdd,Int.reduceEq,reduceCtorEq,Nat.reduceLT,e1]
    refine zae (zzV hX hs hN hR s p (.tok l.length::G) hl hp) ?_
    rintro r H2 ⟨G2,p2,rfl,rfl,hp2⟩
    rw[hv,<-ht]at hp2
    rw[hv,<-ht]
    have hRH:RH s p2 (.tok l.length::G++G2)=.dead::.box [.str s,.int .i64 p2]::.tok l.length::(G++G2):=rfl
    rw[hRH]
    generalize G++G2=G3
    cases hto:tokO (c::v) with
    | ok t k =>
     have hst:=zc4 (by simp) hto
     have hp2:=hp2 t k hto
     subst hp2
     have hkl:p+k<=s.length:=by
      have:=congrArg List.length hv
      rw[List.length_drop]at this
      omega
     simp only[outV,tkV,go_sem,Nat.reduceMod,Nat.reduceEqDiff,Nat.reduceAdd,reduceCtorEq,Nat.reduceLT,Nat.reduceLeDiff,List.append_assoc,List.cons_append,gx0,gx1,gs0,gs1,gl2]
     rw[show [AV.agg [AV.int .i64 t.kind,AV.int .i64 (p:Nat),AV.int .i64 ((p+k:Nat):Int),AV.int .i64 t.n,AV.str t.s]]=[((t,p,p+k):PT)].map ptV from rfl,zdU]
     simp only[go_sem,Nat.reduceEqDiff,reduceCtorEq,Nat.reduceLeDiff]
     refine ⟨⟨by omega,by omega⟩,⟨p+k,l++[(t,p,p+k)],G3++[.box [.int .i64 t.kind,.int .i64 (p:Nat),.int .i64 ((p+k:Nat):Int),.int .i64 t.n,.str t.s],.box [.int .i64 0,.int .i64 0]]⟩,by dsimp only;omega,nextI t k _ hto hst.1 hkl,rfl,?_⟩
     dsimp only
     rw[List.length_append];rfl
    | bad d e =>
     have hbd:=zhG (by simp) hto
     have hne:¬e=0:=by omega
     simp only[outV,tkV,go_sem,Nat.reduceEqDiff,Nat.reduceAdd,reduceCtorEq,Nat.reduceLT,List.append_assoc,List.cons_append,gx0,gx1,gs0,gs1,gl2,hne]
     exact tail_bad d e hto
   have n6:¬zbL s p=6:=fun e=>cd (by
    have h6:=hcm.2.2.2
    rw[show (decide (48<=c.toNat)&&decide (c.toNat<=57))=dg c from rfl,e]at h6
    exact h6.symm)
   by_cases c45:c=45
   ·have e1:zbL s p=7:=by have h7:=hcm.2.1;rw[decide_eq_decide]at h7;exact h7.2 (by rw[c45];rfl)
    have ht:tokO (c::v)=numO (c::v):=by unfold tokO;rw[if_neg cl',if_pos (by rw[List.getD_cons_zero,c45];rfl)]
    simp only[go_sem,Nat.reduceEqDiff,Nat.reduceAdd,Int.reduceEq,reduceCtorEq,Nat.reduceLT,e1]
    refine zae (zzV hX hs hN hR s p (.tok l.length::G) hl hp) ?_
    rintro r H2 ⟨G2,p2,rfl,rfl,hp2⟩
    rw[hv,<-ht]at hp2
    rw[hv,<-ht]
    have hRH:RH s p2 (.tok l.length::G++G2)=.dead::.box [.str s,.int .i64 p2]::.tok l.length::(G++G2):=rfl
    rw[hRH]
    generalize G++G2=G3
    cases hto:tokO (c::v) with
    | ok t k =>
     have hst:=zc4 (by simp) hto
     have hp2:=hp2 t k hto
     subst hp2
     have hkl:p+k<=s.length:=by
      have:=congrArg List.length hv
      rw[List.length_drop]at this
      omega
     simp only[outV,tkV,go_sem,Nat.reduceMod,Nat.reduceEqDiff,Nat.reduceAdd,reduceCtorEq,Nat.reduceLT,Nat.reduceLeDiff,List.append_assoc,List.cons_append,gx0,gx1,gs0,gs1,gl2]
     rw[show [AV.agg [AV.int .i64 t.kind,AV.int .i64 (p:Nat),AV.int .i64 ((p+k:Nat):Int),AV.int .i64 t.n,AV.str t.s]]=[((t,p,p+k):PT)].map ptV from rfl,zdU]
     simp only[go_sem,Nat.reduceEqDiff,reduceCtorEq,Nat.reduceLeDiff]
     refine ⟨⟨by omega,by omega⟩,⟨p+k,l++[(t,p,p+k)],G3++[.box [.int .i64 t.kind,.int .i64 (p:Nat),.int .i64 ((p+k:Nat):Int),.int .i64 t.n,.str t.s],.box [.int .i64 0,.int .i64 0]]⟩,by dsimp only;omega,nextI t k _ hto hst.1 hkl,rfl,?_⟩
     dsimp only
     rw[List.length_append];rfl
    | bad d e =>
     have hbd:=zhG (by simp) hto
     have hne:¬e=0:=by omega
     simp only[outV,tkV,go_sem,Nat.reduceEqDiff,Nat.reduceAdd,reduceCtorEq,Nat.reduceLT,List.append_assoc,List.cons_append,gx0,gx1,gs0,gs1,gl2,hne]
     exact tail_bad d e hto
   have n7:¬zbL s p=7:=fun e=>c45 (by
    have h7:=hcm.2.1;rw[decide_eq_decide]at h7
    exact UInt8.toNat_inj.1 ((h7.1 e).trans rfl))
   have nd:¬(dg ((c::v).getD 0 0)||decide ((c::v).getD 0 0=45))=true:=by
    rw[List.getD_cons_zero]
    simp only[Bool.or_eq_true,decide_eq_true_eq]
    exact fun e=>e.elim cd c45
   by_cases c34:c=34
   ·have e1:zbL s p=5:=by have h5:=hcm.2.2.1;rw[decide_eq_decide]at h5;exact h5.2 (by rw[c34];rfl)
    have ht:tokO (c::v)=zer (c::v):=by unfold tokO;rw[if_neg cl',if_neg nd,if_pos (by rw[List.getD_cons_zero,c34])]
    simp only[go_sem,Nat.reduceEqDiff,Nat.reduceAdd,Int.reduceEq,reduceCtorEq,Nat.reduceLT,e1]
    refine zae (zBx hX hs hN hR4 s p (.tok l.length::G) hl hp (by rw[hcg,c34])) ?_
    rintro r H2 ⟨G2,p2,rfl,rfl,hp2⟩
    rw[hv,<-ht]at hp2
    rw[hv,<-ht]
    have hRH:RH s p2 (.tok l.length::G++G2)=.dead::.box [.str s,.int .i64 p2]::.tok l.length::(G++G2):=rfl
    rw[hRH]
    generalize G++G2=G3
    cases hto:tokO (c::v) with
    | ok t k =>
     have hst:=zc4 (by simp) hto
     have hp2:=hp2 t k hto
     subst hp2
     have hkl:p+k<=s.length:=by
      have:=congrArg List.length hv
      rw[List.length_drop]at this
      omega
     simp only[outV,tkV,go_sem,Nat.reduceMod,Nat.reduceEqDiff,Nat.reduceAdd,reduceCtorEq,Nat.reduceLT,Nat.reduceLeDiff,List.append_assoc,List.cons_append,gx0,gx1,gs0,gs1,gl2]
     rw[show [AV.agg [AV.int .i64 t.kind,AV.int .i64 (p:Nat),AV.int .i64 ((p+k:Nat):Int),AV.int .i64 t.n,AV.str t.s]]=[((t,p,p+k):PT)].map ptV from rfl,zdU]
     simp only[go_sem,Nat.reduceEqDiff,reduceCtorEq,Nat.reduceLeDiff]
     refine ⟨⟨by omega,by omega⟩,⟨p+k,l++[(t,p,p+k)],G3++[.box [.int .i64 t.kind,.int .i64 (p:Nat),.int .i64 ((p+k:Nat):Int),.int .i64 t.n,.str t.s],.box [.int .i64 0,.int .i64 0]]⟩,by dsimp only;omega,nextI t k _ hto hst.1 hkl,rfl,?_⟩
     dsimp only
     rw[List.length_append];rfl
    | bad d e =>
     have hbd:=zhG (by simp) hto
     have hne:¬e=0:=by omega
     simp only[outV,tkV,go_sem,Nat.reduceEqDiff,Nat.reduceAdd,reduceCtorEq,Nat.reduceLT,List.append_assoc,List.cons_append,gx0,gx1,gs0,gs1,gl2,hne]
     exact tail_bad d e hto
   have n5:¬zbL s p=5:=fun e=>c34 (by
    have h5:=hcm.2.2.1;rw[decide_eq_decide]at h5
    exact UInt8.toNat_inj.1 ((h5.1 e).trans rfl))
   have e1:True:=trivial
   have ht:tokO (c::v)=zee (c::v):=by unfold tokO;rw[if_neg cl',if_neg nd,if_neg (by rw[List.getD_cons_zero];exact c34)]
   simp only[go_sem,Nat.reduceEqDiff,Nat.reduceAdd,reduceCtorEq,Nat.reduceLT,n1,n8,n6,n7,n5]
   refine zae (zCA hX hs hN hB hP s p (.tok l.length::G) hl hp) ?_
   rintro r H2 ⟨G2,p2,rfl,rfl,hp2⟩
   rw[hv,<-ht]at hp2
   rw[hv,<-ht]
   have hRH:RH s p2 (.tok l.length::G++G2)=.dead::.box [.str s,.int .i64 p2]::.tok l.length::(G++G2):=rfl
   rw[hRH]
   generalize G++G2=G3
   cases hto:tokO (c::v) with
   | ok t k =>
    have hst:=zc4 (by simp) hto
    have hp2:=hp2 t k hto
    subst hp2
    have hkl:p+k<=s.length:=by
     have:=congrArg List.length hv
     rw[List.length_drop]at this
     omega
    simp only[outV,tkV,go_sem,Nat.reduceMod,Nat.reduceEqDiff,Nat.reduceAdd,reduceCtorEq,Nat.reduceLT,Nat.reduceLeDiff,List.append_assoc,List.cons_append,gx0,gx1,gs0,gs1,gl2]
    rw[show [AV.agg [AV.int .i64 t.kind,AV.int .i64 (p:Nat),AV.int .i64 ((p+k:Nat):Int),AV.int .i64 t.n,AV.str t.s]]=[((t,p,p+k):PT)].map ptV from rfl,zdU]
    simp only[go_sem,Nat.reduceEqDiff,reduceCtorEq,Nat.reduceLeDiff]
    refine ⟨⟨by omega,by omega⟩,⟨p+k,l++[(t,p,p+k)],G3++[.box [.int .i64 t.kind,.int .i64 (p:Nat),.int .i64 ((p+k:Nat):Int),.int .i64 t.n,.str t.s],.box [.int .i64 0,.int .i64 0]]⟩,by dsimp only;omega,nextI t k _ hto hst.1 hkl,rfl,?_⟩
    dsimp only
    rw[List.length_append];rfl
   | bad d e =>
    have hbd:=zhG (by simp) hto
    have hne:¬e=0:=by omega
    simp only[outV,tkV,go_sem,Nat.reduceEqDiff,Nat.reduceAdd,reduceCtorEq,Nat.reduceLT,List.append_assoc,List.cons_append,gx0,gx1,gs0,gs1,gl2,hne]
    exact tail_bad d e hto
  ·have hp':¬(p:Int)<s.length:=by omega
   simp only[zg8,go_sem,Nat.reduceEqDiff,Nat.reduceAdd,reduceCtorEq,Nat.reduceLT,hp']
   unfold zeh
   rw[if_neg (by omega),x3,List.drop_eq_nil_of_le (by omega),zsp]
   simp only[LR.pre,List.append_nil]
   rfl
end
end Go.Avm
