/- Quoted forms, as the second writing makes them. -/
import Derived.Test.YtcldomkahgaplaaGreatDoorAR4
import Derived.Test.YtcldomkahgaplaaGreatDoorML2
import Derived.Test.YtcldomkahgaplaaGreatDoorAR1
import Derived.Test.YtcldomkahgaplaaGreatDoorAJ
import Derived.Test.YtcldomkahgaplaaGreatDoorM2
import Derived.Test.YtcldomkahgaplaaGreatDoorAF4
set_option linter.all false
namespace Go.Avm
open Go Go.Rn Go.Lx
set_option maxRecDepth 10000
def rnsV (s:List UInt8):AV:=if okT s then .tuple [lst (AV.int .i64) .ro (zbd s),.bool true] else .tuple [.sl .ro [],.bool false]
def RI (s:List UInt8)(x:QS):Prop:=x.q<=s.length/\zbd s=x.pre++zbd (s.drop x.q)/\okT (s.drop x.q)=okT s/\x.pre.length<=x.q
section
variable {X:Cx}(hX:X.P=Go.Proofs.Tryz.prog)(hs:Std X)
include hX hs
set_option maxHeartbeats 1000000 in
theorem zyG (s:List UInt8)(hl:s.length<1000000):Ev X ziG [.str s] (rnsV s):=by
 refine zhB hs (zpI hX) 0 ?_
 simp only[znX,go_sem]
 refine zbj hs.hm (ι:=QS) (RI s) (fun x=>[(5,.int .i64 x.q),(4,lst (AV.int .i64) (.tok 1 1) x.pre),(0,.str s)]) (fun x=>[.dead,.tok x.pre.length]) (fun x=>s.length-x.q) ⟨0,[]⟩ ⟨⟨Nat.zero_le _,rfl,rfl,Nat.le_refl _⟩,_,_,zcf 4 1 rfl,⟨by simp only[go_sem,Nat.reduceEqDiff,reduceCtorEq];rfl,rfl⟩⟩ fun x hx=>?_
 obtain ⟨q,pre⟩:=x
 obtain ⟨x1,x2,x3,x4⟩:=hx
 dsimp only at x1 x2 x3 x4⊢
 by_cases hq:q<s.length
 ·have hq':(q:Int)<s.length:=by omega
  simp only[zgg,go_sem,Nat.reduceEqDiff,reduceCtorEq,hq']
  refine ⟨by omega,zab (zdX hX hs s q hq (by omega)) ?_⟩
  unfold dcv
  have hne:s.drop q≠[]:=fun e=>by have:=congrArg List.length e;rw[List.length_drop]at this;simp at this;omega
  cases hd:dcO (s.drop q) with
  | none =>
   have hf:=zop hd hne
   rw[x3]at hf
   have hft:¬(if more (s.drop q)=true then (370:Int) else 6)=0:=by split<;>decide
   simp only[go_sem,Nat.reduceEqDiff,Nat.reduceAdd,reduceCtorEq,Nat.reduceLT,hft]
   unfold rnsV
   rw[hf];rfl
  | some y =>
   obtain ⟨r,n⟩:=y
   have hr:=za3 hd
   rw[List.length_drop]at hr
   have hw:IntKind.i64.wrap ((q:Int)+n)=((q+n:Nat):Int):=by rw[wi64 (by omega)];omega
   simp only[go_sem,Nat.reduceEqDiff,Nat.reduceAdd,reduceCtorEq,Nat.reduceLT,Nat.reduceLeDiff,hw]
   refine ⟨⟨by omega,by omega⟩,⟨q+n,pre++[r]⟩,by dsimp only;omega,⟨by dsimp only;omega,?_,?_,by dsimp only;rw[List.length_append,List.length_singleton];omega⟩,⟨rfl,rfl⟩,by dsimp only;rw[List.length_append,List.length_singleton]⟩
   ·dsimp only
    rw[x2,zco hd,List.drop_drop,List.append_assoc];rfl
   ·dsimp only
    rw[<-x3,zpn hd,List.drop_drop]
 ·have hq':¬(q:Int)<s.length:=by omega
  simp only[zgg,go_sem,Nat.reduceEqDiff,reduceCtorEq,hq']
  have hok:okT s=true:=by rw[<-x3,List.drop_eq_nil_of_le (by omega)];rfl
  have hrl:zbd s=pre:=by rw[x2,List.drop_eq_nil_of_le (by omega),zrr,List.append_nil]
  unfold rnsV
  rw[if_pos hok,hrl];rfl
theorem zBn (n:Nat)(hn:n<9223372036854775808):Ev X zfI [.int .i64 (n:Nat)] (.str (Lx.hexs n)):=by
 induction n using Nat.strongRecOn with
 | _ n ih =>
  refine zac hs (zri hX) 0 ?_
  have hm:(n:Int).tmod 16=((n % 16:Nat):Int):=by rw[Int.tmod_eq_emod_of_nonneg (by omega)];omega
  have hd:(n:Int).tdiv 16=((n / 16:Nat):Int):=by rw[Int.tdiv_eq_ediv_of_nonneg (by omega)];omega
  have w1:IntKind.i64.wrap (((n % 16:Nat):Int)+1)=((n % 16+1:Nat):Int):=by rw[wi64 (by omega)];omega
  have w2:IntKind.i64.wrap ((n / 16:Nat):Int)=((n / 16:Nat):Int):=wi64 (by omega)
  have hdg:∀k,k<16->(48::([49,50,51,52,53,54,55,56,57,97,98,99,100,101,102]:List UInt8).take k).drop k=[Wo.hexd k]:=by decide
  have hk:=hdg (n % 16) (Nat.mod_lt _ (by decide))
  simp only[zrd,go_sem,Nat.reduceEqDiff,Nat.reduceAdd,Int.reduceNe,reduceCtorEq,hm,hd,w1,w2,Int.toNat_natCast,hk]
  refine ⟨⟨⟨⟨by omega,by omega⟩,by omega⟩,by omega⟩,fun h=>?_,fun h=>?_⟩
  ·rw[zeH (by omega),Nat.mod_eq_of_lt (by omega)]
  ·refine zab (ih (n / 16) (by omega) (by omega)) ?_
   have e:=zkD (n:=n) (by omega)
   have hln:=ze8 15 (n / 16) (by omega)
   simp only[go_sem,Nat.reduceEqDiff,reduceCtorEq,Nat.reduceLeDiff]
   rw[e]
   exact ⟨by omega,rfl⟩
omit hX hs in
theorem zvF {l:List Int}(hv:∀r∈l,valid r=true)(i:Nat):((l.take i).flatMap escR).length<=9*i:=by
 have:=zpU (l.take i) fun r hr=>hv r (List.mem_of_mem_take hr)
 rw[List.length_take]at this
 omega
def qS (l:List Int)(i:Nat):List UInt8:=34::(l.take i).flatMap escR
omit hX hs in
theorem zz7 {l:List Int}(hv:∀r∈l,valid r=true){i:Nat}(hi:i<=l.length):(qS l i).length<=1+9*l.length:=by
 have:=zvF hv i
 unfold qS
 rw[List.length_cons];omega
set_option maxHeartbeats 1000000 in
theorem zuJ (l:List Int)(hv:∀r∈l,valid r=true)(hl:l.length<1000000):Ev X zhF [lst (AV.int .i64) .ro l] (.str (34::(l.flatMap escR++[34]))):=by
 refine zac hs (zmT hX) 0 ?_
 simp only[zll,go_sem]
 refine zaj hs.hm (ι:=Nat) (fun i=>i<=l.length) (fun i=>[(4,.int .i64 i),(3,.str (qS l i)),(0,lst (AV.int .i64) .ro l)]) (fun _=>[]) (fun i=>l.length-i) 0 ?_ fun i hi=>?_
 ·simp only[go_sem,Nat.reduceEqDiff,reduceCtorEq]
  exact ⟨Nat.zero_le _,rfl⟩
 by_cases hi2:i<l.length
 ·have hi':(i:Int)<l.length:=by omega
  have hw:IntKind.i64.wrap ((i:Int)+1)=((i+1:Nat):Int):=by rw[wi64 (by omega)];omega
  have hst:qS l (i+1)=qS l i++escR (l.getD i 0):=by
   unfold qS
   rw[List.take_succ_eq_append_getElem hi2,List.flatMap_append,List.getD_eq_getElem?_getD,List.getElem?_eq_getElem hi2]
   simp
  have hvr:valid (l.getD i 0)=true:=hv _ (by rw[List.getD_eq_getElem?_getD,List.getElem?_eq_getElem hi2];exact List.getElem_mem hi2)
  have hgd:l.getD i default=l.getD i 0:=rfl
  simp only[zfe,go_sem,Nat.reduceEqDiff,Nat.reduceAdd,reduceCtorEq,Nat.reduceLT,Nat.reduceLeDiff,hi',hw,hgd]
  generalize l.getD i 0=r at hst hvr
  have hr:=zao hvr
  have hq:=zz7 hv hi
  have fin:∀bs,bs=qS l i++escR r->∃j,l.length-j<l.length-i/\j<=l.length/\AV.int IntKind.i64 ((i+1:Nat):Int)=AV.int IntKind.i64 (j:Nat)/\AV.str bs=AV.str (qS l j):=fun bs hb=>⟨i+1,by omega,hi2,rfl,by rw[hst,hb]⟩
  have cr:Ev X zfI [.int .i64 r] (.str (Lx.hexs r.toNat)):=by
   have:=zBn hX hs r.toNat (by omega)
   rwa [show ((r.toNat:Nat):Int)=r by omega]at this
  have hln:=ze8 5 r.toNat (by rw[show (16:Nat) ^ (5+1)=16777216 by rfl];omega)
  have tl:escR r=92::117::(Lx.hexs r.toNat++[59])->(qS l i++[92,117]).length+(Lx.hexs r.toNat).length<=9223372036854775807/\(qS l i++[92,117]++Lx.hexs r.toNat).length<=9223372036854775806/\∃j,l.length-j<l.length-i/\j<=l.length/\AV.int IntKind.i64 ((i+1:Nat):Int)=AV.int IntKind.i64 (j:Nat)/\AV.str (qS l i++[92,117]++Lx.hexs r.toNat++[59])=AV.str (qS l j):=fun e=>by
   refine ⟨by simp only[List.length_append,List.length_cons,List.length_nil];omega,by simp only[List.length_append,List.length_cons,List.length_nil];omega,fin _ ?_⟩
   rw[e];simp
  by_cases hsm:r<256
  ·have hwu:IntKind.u8.wrap r=r:=wu8 (by omega)
   have hbs:b2sX (.sl .ex [.int .u8 r])=some (true,.str [zaB r],none):=by
    have e:(AV.sl .ex [.int .u8 r])=lst u8 .ex [zaB r]:=by
     simp only[lst,List.map_cons,List.map_nil,u8,zar (show 0<=r/\r<256 by omega)]
    rw[e,bs_l]
   have hl9:(qS l i++[92]).length<=10000000:=by rw[List.length_append,List.length_singleton];omega
   by_cases c34:r=34
   ·subst c34
    simp only[go_sem,Nat.reduceEqDiff,Int.reduceLE,Int.reduceEq,reduceCtorEq,Nat.reduceLeDiff,hwu,hbs,hw]
    exact ⟨by omega,by omega,by omega,fin _ (by rw[List.append_assoc];rfl)⟩
   by_cases c92:r=92
   ·subst c92
    simp only[go_sem,Nat.reduceEqDiff,Int.reduceLE,Int.reduceEq,reduceCtorEq,Nat.reduceLeDiff,hwu,hbs,hw]
    exact ⟨by omega,by omega,by omega,fin _ (by rw[List.append_assoc];rfl)⟩
   by_cases c10:r=10
   ·subst c10
    simp only[go_sem,Int.reduceLE,Int.reduceEq]
    exact ⟨by omega,by omega,fin _ rfl⟩
   have n1:¬(r=34∨r=92):=fun e=>e.elim c34 c92
   by_cases c32:32<=r
   ·by_cases c126:r<=126
    ·have e:escR r=[zaB r]:=by unfold escR;rw[if_neg n1,if_neg c10,if_pos ⟨c32,c126⟩,zbH (by omega)]
     simp only[go_sem,Nat.reduceEqDiff,reduceCtorEq,Nat.reduceLeDiff,c34,c92,c10,c32,c126,hwu,hbs,hw]
     exact ⟨by omega,by omega,fin _ (by rw[e])⟩
    ·have e:escR r=92::117::(Lx.hexs r.toNat++[59]):=by unfold escR;rw[if_neg n1,if_neg c10,if_neg (fun h=>c126 h.2)]
     simp only[go_sem,c34,c92,c10,c32,c126]
     refine ⟨by omega,by omega,zab cr ?_⟩
     simp only[go_sem,Nat.reduceEqDiff,reduceCtorEq,Nat.reduceLeDiff,hw]
     exact tl e
   ·have e:escR r=92::117::(Lx.hexs r.toNat++[59]):=by unfold escR;rw[if_neg n1,if_neg c10,if_neg (fun h=>c32 h.1)]
    simp only[go_sem,c34,c92,c10,c32]
    refine ⟨by omega,by omega,zab cr ?_⟩
    simp only[go_sem,Nat.reduceEqDiff,reduceCtorEq,Nat.reduceLeDiff,hw]
    exact tl e
  ·have c34:¬r=34:=by omega
   have c92:¬r=92:=by omega
   have c10:¬r=10:=by omega
   have c32:32<=r:=by omega
   have c126:¬r<=126:=by omega
   have n1:¬(r=34∨r=92):=fun e=>e.elim c34 c92
   have e:escR r=92::117::(Lx.hexs r.toNat++[59]):=by unfold escR;rw[if_neg n1,if_neg c10,if_neg (fun h=>c126 h.2)]
   simp only[go_sem,c34,c92,c10,c32,c126]
   refine ⟨by omega,by omega,zab cr ?_⟩
   simp only[go_sem,Nat.reduceEqDiff,reduceCtorEq,Nat.reduceLeDiff,hw]
   exact tl e
 ·have hi':¬(i:Int)<l.length:=by omega
  have e:qS l i++[34]=34::(l.flatMap escR++[34]):=by
   unfold qS;rw[List.take_of_length_le (by omega)];rfl
  have hq:=zz7 hv hi
  simp only[zfe,go_sem,Nat.reduceEqDiff,reduceCtorEq,Nat.reduceLeDiff,hi',e]
  omega
theorem zwC (s:List UInt8)(hl:s.length<1000000):Ev X zjD [.str s] (if 2000<s.length then .tuple [.str [],.int .i64 3] else if okT s=false then .tuple [.str [],.int .i64 6] else .tuple [.str (qt s),.int .i64 0]):=by
 refine zac hs (zoi hX) 0 ?_
 simp only[zn7,go_sem,Nat.reduceEqDiff,reduceCtorEq]
 refine ⟨fun h=>by rw[if_pos (by omega)],fun h=>?_⟩
 rw[if_neg (by omega)]
 refine zab (zyG hX hs s hl) ?_
 unfold rnsV
 cases hv:okT s with
 | true =>
  simp only[go_sem,Nat.reduceEqDiff,Nat.reduceAdd,reduceCtorEq,Nat.reduceLT]
  refine zab (zuJ hX hs (zbd s) (zdk s) (Nat.lt_of_le_of_lt (zp3 s) hl)) ?_
  simp only[go_sem,Nat.reduceEqDiff,reduceCtorEq]
  rfl
 | false =>
  simp only[go_sem,Nat.reduceEqDiff,Nat.reduceAdd,reduceCtorEq,Nat.reduceLT]
end
end Go.Avm
namespace Go.Avm
open Go Go.Fm Go.Rn Go.Lx
set_option maxRecDepth 10000
theorem zwB {l:List Int}{i:Nat}(h:i<l.length):nums (l.take (i+1))=(if 0<i then nums (l.take i)++[32] else nums (l.take i))++Lib.itoa (l.getD i 0):=by
 have h1:=Fm.zqF (l:=l.map Lib.itoa) (i:=i) (by rw[List.length_map];exact h) [32]
 unfold nums
 rw[List.map_take,List.map_take,h1]
 congr 1
 rw[List.getD_eq_getElem?_getD,List.getElem?_map,List.getElem?_eq_getElem h,List.getD_eq_getElem?_getD,List.getElem?_eq_getElem h]
 rfl
section
variable {X:Cx}(hX:X.P=Go.Proofs.Tryz.prog)(hs:Std X)
include hX hs
theorem zoX (l:List Int)(hv:R64 l)(hl:l.length<1000000):Ev X zgi [lst (AV.int .i64) .ro l] (.str (nums l)):=by
 refine zac hs (zmy hX) 0 ?_
 simp only[zj8,go_sem]
 refine zaj hs.hm (ι:=Nat) (fun i=>i<=l.length) (fun i=>[(4,.int .i64 i),(0,lst (AV.int .i64) .ro l),(3,.str (nums (l.take i)))]) (fun _=>[]) (fun i=>l.length-i) 0 ⟨Nat.zero_le _,⟨rfl,rfl,rfl,trivial⟩,rfl⟩ fun i hi=>?_
 by_cases hi':i<l.length
 ·have h1:(i:Int)<l.length:=by omega
  have hw:IntKind.i64.wrap ((i:Int)+1)=((i+1:Nat):Int):=by rw[wi64 (by omega)];omega
  have hr:=hv (l.getD i 0) (by rw[List.getD_eq_getElem?_getD,List.getElem?_eq_getElem hi'];exact List.getElem_mem _)
  have hi21:=Lib.itoa_length_le _ hr.1 hr.2
  have hnl:=zo6 (l:=l.take i) fun v h=>hv v (List.mem_of_mem_take h)
  rw[List.length_take]at hnl
  have ent:=zwB hi'
  have ed:l.getD i default=l.getD i 0:=rfl
  simp only[zef,go_sem,Nat.reduceEqDiff,reduceCtorEq,Nat.reduceLeDiff,h1]
  by_cases h0:i=0
  ·subst h0
   simp only[go_sem,Int.reduceLE,Int.reduceLT]
   rw[ed]
   refine zab (zjG hX hs _ hr) ?_
   simp only[go_sem,Nat.reduceEqDiff,Int.reduceAdd,reduceCtorEq]
   refine ⟨by simp only[nums,List.map_nil,Lib.join_nil,List.length_nil];omega,1,by omega,hi',rfl,?_⟩
   rw[show 1=0+1 from rfl,ent]
   rfl
  ·have h0':(0:Int)<(i:Nat):=by omega
   simp only[go_sem,h0']
   rw[ed]
   refine ⟨by omega,by omega,zab (zjG hX hs _ hr) ?_⟩
   simp only[go_sem,Nat.reduceEqDiff,reduceCtorEq,hw]
   refine ⟨by simp only[List.length_append,List.length_singleton];omega,i+1,by omega,hi',rfl,?_⟩
   rw[ent,if_pos (by omega)]
 ·have h1:¬(i:Int)<l.length:=by omega
  simp only[zef,go_sem,Nat.reduceEqDiff,reduceCtorEq,h1]
  rw[List.take_of_length_le (by omega)]
theorem zuE (l:List Int)(hl:l.length<=20):Ev X zln [lst (AV.int .i64) .ro l] (.str (zbE l)):=by
 refine zaE (zak hs (zq6 hX) ?_)
 simp only[zqX,go_sem]
 refine zbj hs.hm (ι:=Nat) (fun i=>i<=l.length) (fun i=>[(4,.int .i64 i),(0,lst (AV.int .i64) .ro l),(3,lst u8 (.tok 0 1) (zbE (l.take i)))]) (fun i=>[.tok (zbE (l.take i)).length]) (fun i=>l.length-i) 0 ⟨Nat.zero_le _,_,_,zcf 3 1 rfl,⟨rfl,rfl,rfl,trivial⟩,rfl⟩ fun i hi=>?_
 by_cases hi':i<l.length
 ·have h1:(i:Int)<l.length:=by omega
  have hw:IntKind.i64.wrap ((i:Int)+1)=((i+1:Nat):Int):=by rw[wi64 (by omega)];omega
  have ht:=zio l i hi'
  have h4:=zsL (l.getD i default)
  have hfl:=zpu (l.take i)
  rw[List.length_take]at hfl
  simp only[zhs,go_sem,Nat.reduceEqDiff,reduceCtorEq,h1]
  refine ⟨by omega,zab (zf5 hX hs _) ?_⟩
  simp only[go_sem,Nat.reduceEqDiff,Nat.reduceAdd,reduceCtorEq,Nat.reduceLT,hw]
  exact ⟨⟨by omega,by omega⟩,i+1,by omega,hi',⟨rfl,by rw[ht]⟩,by rw[ht,List.length_append]⟩
 ·have h1:¬(i:Int)<l.length:=by omega
  simp only[zhs,go_sem,Nat.reduceEqDiff,reduceCtorEq,h1]
  rw[List.take_of_length_le (by omega)]
  exact ⟨⟨_,rfl⟩,rfl⟩
theorem zsP (k:Int)(l:List Int)(hv:R64 l)(hl:l.length<=20)(hr:k≠1->∀r∈l,valid r=true):Ev X zgr [.int .i64 k,lst (AV.int .i64) .ro l] (.str (pcK k l)):=by
 refine zac hs (zo5 hX) 0 ?_
 unfold pcK
 by_cases hk:k=1
 ·subst hk
  simp only[zjv,go_sem,Nat.reduceEqDiff,Nat.reduceAdd,reduceCtorEq]
  refine zab (zoX hX hs l hv (by omega)) ?_
  simp only[go_sem,Nat.reduceEqDiff,reduceCtorEq]
 ·have h2:=zkW l
  have hq:=zwC hX hs (byB l) (by omega)
  rw[if_neg (by omega),zqU,if_neg (by decide)]at hq
  have ht:=zuE hX hs l hl
  rw[<-zsE l (hr hk) hl]at ht
  simp only[zjv,go_sem,Nat.reduceEqDiff,Nat.reduceAdd,reduceCtorEq,hk]
  refine zab ht ?_
  simp only[go_sem,Nat.reduceEqDiff,reduceCtorEq]
  refine zab hq ?_
  simp only[go_sem,Nat.reduceEqDiff,Nat.reduceAdd,reduceCtorEq,Nat.reduceLT]
variable (he:CEnv X)
include he
end
end Go.Avm
namespace Go.Avm
open Go Go.Fm
set_option maxRecDepth 10000
structure CutS where
 i:Nat
 f:Nat
 a:List (List UInt8)
def CutS.C (s:List UInt8)(x:CutS):Prop:=(x.i<=s.length/\x.f<=x.i/\(∀k,x.f<=k->k<x.i->s.getD k 0≠32)/\Wo.splC 32 s=x.a++Wo.splC 32 (s.drop x.f)/\x.a.length<=x.i)∨(x.i=s.length+1/\x.a=Wo.splC 32 s)
theorem zzQ {s:List UInt8}{f i:Nat}(hi:i<=s.length)(hf:f<=i)(h:∀k,f<=k->k<i->s.getD k 0≠32):(32:UInt8)∉(s.drop f).take (i-f):=
 zxv (fun k hk=>h _ (by omega) (by omega)) (by omega)
theorem zEi {s:List UInt8}{f i:Nat}(hi:i<s.length)(hf:f<=i)(h:∀k,f<=k->k<i->s.getD k 0≠32)(hb:s.getD i 0=32):Wo.splC 32 (s.drop f)=(s.take i).drop f::Wo.splC 32 (s.drop (i+1)):=by
 have e:s.drop f=(s.drop f).take (i-f)++32::s.drop (i+1):=by
  conv=>lhs;rw[<-List.take_append_drop (i-f) (s.drop f)]
  rw[List.drop_drop,show f+(i-f)=i by omega,drop_one hi,hb]
 conv=>lhs;rw[e]
 rw[zAs (zzQ (by omega) hf h),List.drop_take]
theorem zBe {s:List UInt8}{f:Nat}(hf:f<=s.length)(h:∀k,f<=k->k<s.length->s.getD k 0≠32):Wo.splC 32 (s.drop f)=[(s.take s.length).drop f]:=by
 have:=zzQ (Nat.le_refl _) hf h
 rw[List.take_of_length_le (by rw[List.length_drop];omega)]at this
 rw[zzL this,List.take_length]
section
variable {X:Cx}(hX:X.P=Go.Proofs.Tryz.prog)(hs:Std X)
include hX hs
theorem znM (s:List UInt8)(hl:s.length<1000000):Ev X zgE [.str s] (lst AV.str .ro (Wo.splC 32 s)):=by
 refine zaE (zak hs (zpV hX) ?_)
 simp only[znB,go_sem]
 refine zbj hs.hm (ι:=CutS) (CutS.C s) (fun x=>[(5,.int .i64 x.i),(0,.str s),(4,.int .i64 x.f),(3,lst AV.str (.tok 0 1) x.a)]) (fun x=>[.tok x.a.length]) (fun x=>s.length+1-x.i) ⟨0,0,[]⟩ ⟨.inl ⟨Nat.zero_le _,Nat.le_refl _,fun k _ h=>absurd h (by simp),rfl,Nat.le_refl _⟩,_,_,zcf 3 1 rfl,?_⟩ fun x hx=>?_
 ·exact ⟨⟨rfl,rfl,rfl,rfl,trivial⟩,rfl⟩
 obtain ⟨i,f,a⟩:=x
 unfold CutS.C at hx
 dsimp only at hx⊢
 rcases hx with ⟨h1,h2,h3,h4,h5⟩|⟨h1,h2⟩
 ·have c1:(i:Int)<=s.length:=by omega
  have hw:IntKind.i64.wrap ((i:Int)+1)=((i+1:Nat):Int):=by rw[wi64 (by omega)];omega
  simp only[zf0,go_sem,Nat.reduceEqDiff,reduceCtorEq,Nat.reduceLT,Nat.reduceLeDiff,c1]
  by_cases hi:i=s.length
  ·subst hi
   have hst:=zBe h2 h3
   simp only[go_sem]
   refine ⟨by omega,⟨by omega,by omega⟩,⟨s.length+1,s.length+1,a++[(s.take s.length).drop f]⟩,by dsimp only;omega,.inr ⟨rfl,?_⟩,⟨by rw[hw],by rw[hw],rfl⟩,by rw[List.length_append];rfl⟩
   dsimp only
   rw[h4,hst]
  ·have c2:¬(i:Int)=s.length:=by omega
   simp only[go_sem,c2]
   refine ⟨by omega,fun h6=>?_,fun h6=>?_⟩
   ·have hb:s.getD i 0=32:=by
     apply UInt8.toNat_inj.1
     have:(s.getD i 0).toNat=32:=by omega
     rw[this];rfl
    have hst:=zEi (by omega) h2 h3 hb
    refine ⟨by omega,⟨by omega,by omega⟩,⟨i+1,i+1,a++[(s.take i).drop f]⟩,by dsimp only;omega,.inl ⟨by dsimp only;omega,Nat.le_refl _,fun k h7 h8=>absurd h7 (by dsimp only at h8⊢;omega),?_,?_⟩,⟨by rw[hw],by rw[hw],rfl⟩,by rw[List.length_append];rfl⟩
    ·dsimp only
     rw[h4,hst,List.append_assoc]
     rfl
    ·dsimp only
     rw[List.length_append,List.length_singleton]
     omega
   ·have hb:s.getD i 0≠32:=fun e=>h6 (by rw[e];rfl)
    refine ⟨⟨i+1,f,a⟩,by dsimp only;omega,.inl ⟨by dsimp only;omega,by dsimp only;omega,fun k h7 h8=>?_,h4,by dsimp only;omega⟩,⟨by rw[hw],rfl,rfl⟩,rfl⟩
    dsimp only at h7 h8
    rcases Nat.lt_or_eq_of_le (Nat.le_of_lt_succ h8) with h9|h9
    ·exact h3 k h7 h9
    ·rw[h9];exact hb
 ·have c1:¬(i:Int)<=s.length:=by omega
  simp only[zf0,go_sem,Nat.reduceEqDiff,reduceCtorEq,c1]
  rw[h2]
  exact ⟨⟨_,rfl⟩,rfl⟩
end
end Go.Avm
