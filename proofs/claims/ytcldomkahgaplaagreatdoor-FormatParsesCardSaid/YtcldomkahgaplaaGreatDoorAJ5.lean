/- The reference's reader: quoted texts, tokens. -/
import Derived.Test.YtcldomkahgaplaaGreatDoorAJ4
import Derived.Test.YtcldomkahgaplaaGreatDoorML2
import Derived.Test.YtcldomkahgaplaaGreatDoorAR4
set_option linter.all false
namespace Go.Avm
open Go Go.Rn Go.Lx
set_option maxRecDepth 10000
structure TxS where
 i:Nat
 o:List UInt8
def TxI (s:List UInt8)(p:Nat)(x:TxS):Prop:=p+1<=x.i/\x.i<=s.length/\x.o.length<=4*(x.i-p)/\txtS 0 (s.drop (p+1))=(txtS 0 (s.drop x.i)).up x.o (x.i-(p+1))
section
variable {X:Cx}(hX:X.P=Go.Proofs.Tryz.prog)(hs:Std X)
include hX hs
theorem zvm (s:List UInt8)(p:Nat)(hl:s.length<1000000)(hp:p<s.length):Ev X zlG [.str s,.int .i64 p] (outR p (zer (s.drop p))):=by
 refine zac hs (zqC hX) 0 ?_
 have hw1:IntKind.i64.wrap ((p:Int)+1)=((p+1:Nat):Int):=by rw[wi64 (by omega)];omega
 simp only[zqk,go_sem,Nat.reduceEqDiff,Nat.reduceAdd,reduceCtorEq,hw1]
 unfold zer
 rw[List.drop_drop]
 refine zaj hs.hm (ι:=TxS) (TxI s p) (fun x=>[(8,.int .i64 x.i),(0,.str s),(1,.int .i64 p),(4,.ptr 0 0),(7,.str x.o)]) (fun _=>[.box [.int .i64 0,.int .i64 0,.int .i64 0,.int .i64 0,.str []]]) (fun x=>s.length-x.i) ⟨p+1,[]⟩ ⟨⟨Nat.le_refl _,by dsimp only;omega,Nat.zero_le _,by dsimp only;rw[Nat.sub_self,up_0]⟩,⟨rfl,rfl,rfl,rfl,rfl,trivial⟩,rfl⟩ fun x hx=>?_
 obtain ⟨i,o⟩:=x
 obtain ⟨x1,x2,x3,x4⟩:=hx
 dsimp only at x1 x2 x3 x4⊢
 by_cases hi:i<s.length
 ·have h1:(i:Int)<s.length:=by omega
  obtain ⟨c,v,hv⟩:∃c v,s.drop i=c::v:=by
   cases hd:s.drop i with
   | nil=>have:=congrArg List.length hd;rw[List.length_drop]at this;simp at this;omega
   | cons y v=>exact ⟨y,v,rfl⟩
  have hc:s.getD i 0=c:=by
   have:=zaV s i 0
   rw[hv,Nat.add_zero]at this
   exact this.symm
  by_cases h34:c=34
  ·have d1:(((s.getD i 0).toNat:Nat):Int)=34:=(b_eq _ 34 (by decide)).2 (hc.trans h34)
   have e1:txtS 0 (s.drop i)=.ok [] 1:=by rw[hv,txtS,if_pos h34]
   rw[x4,e1]
   have hwi:IntKind.i64.wrap ((i:Int)+1)=((p+(1+(i-(p+1))+1):Nat):Int):=by rw[wi64 (by omega)];omega
   simp only[zdr,go_sem,Nat.reduceEqDiff,Nat.reduceAdd,reduceCtorEq,Nat.reduceLeDiff,h1,d1,hwi]
   have h3:¬(s.length:Int)<=i:=by omega
   refine ⟨by omega,fun h=>absurd h h3,fun _=>?_⟩
   simp only[TR.up,outR,tkV,Nat.add_assoc,List.append_nil]
  ·have d1:¬(((s.getD i 0).toNat:Nat):Int)=34:=fun e=>h34 (hc.symm.trans ((b_eq _ 34 (by decide)).1 e))
   obtain ⟨r,hE,hQ⟩:=zpN hX hs s i hl hi
   cases he:elem (s.drop i) with
   | none =>
    rw[he]at hQ
    obtain ⟨t,k,rfl⟩:=hQ
    have e1:txtS 0 (s.drop i)=.bad 0:=by
     rw[hv]at he⊢
     rw[txtS,if_neg h34,he]
    rw[x4,e1]
    simp only[zdr,go_sem,Nat.reduceEqDiff,reduceCtorEq,h1,d1]
    refine ⟨by omega,zab hE ?_⟩
    simp only[go_sem,Nat.reduceEqDiff,Nat.reduceAdd,reduceCtorEq,Nat.reduceLT]
    simp only[TR.up,outR]
    rw[show p+(0+(i-(p+1))+1)=i by omega]
    rfl
   | some x =>
    obtain ⟨bs,n⟩:=x
    rw[he]at hQ
    have hQ:r=.tuple [.str bs,.int .i64 ((i+n:Nat):Int),.bool true]:=hQ
    subst hQ
    have hst:=zfJ he
    have h4:=ztt he
    have hln:n<=s.length-i:=by have:=hst.2.1;rwa [List.length_drop]at this
    have e1:txtS 0 (s.drop i)=(txtS 0 (s.drop (i+n))).up bs n:=by
     have hv2:v.drop (n-1)=s.drop (i+n):=by
      have:(s.drop i).drop n=s.drop (i+n):=by rw[List.drop_drop]
      rw[<-this,hv]
      obtain ⟨m,rfl⟩:∃m,n=m+1:=⟨n-1,by omega⟩
      rfl
     rw[hv]at he⊢
     rw[txtS,if_neg h34,he]
     dsimp only
     rw[zl3 _ _ (by have:=congrArg List.length hv;rw[List.length_drop,List.length_cons]at this;omega),hv2,zvD]
     rw[List.append_nil,show n-1+1=n by omega]
    simp only[zdr,go_sem,Nat.reduceEqDiff,reduceCtorEq,h1,d1]
    refine ⟨by omega,zab hE ?_⟩
    simp only[go_sem,Nat.reduceEqDiff,Nat.reduceAdd,reduceCtorEq,Nat.reduceLT]
    refine ⟨by omega,⟨i+n,o++bs⟩,by dsimp only;omega,⟨by dsimp only;omega,by dsimp only;omega,by dsimp only;rw[List.length_append];omega,?_⟩,rfl,rfl⟩
    dsimp only
    rw[x4,e1,zvD]
    congr 1
    omega
 ·have h1:¬(i:Int)<s.length:=by omega
  have h2:(s.length:Int)<=i:=by omega
  have e1:txtS 0 (s.drop i)=.out:=by rw[List.drop_of_length_le (by omega)];rfl
  rw[x4,e1]
  simp only[zdr,go_sem,Nat.reduceEqDiff,Nat.reduceAdd,reduceCtorEq,h1,h2]
  rfl
end
end Go.Avm
namespace Go.Avm
open Go Go.Rn Go.Lx
set_option maxRecDepth 10000
def mkS:List (List UInt8):=[[40],[41],[91],[93],[60,45],[61]]
def tokR (u:List UInt8):Out:=if dg (u.getD 0 0)||decide (u.getD 0 0=45) then numR u else tokO u
theorem zzh {u:List UInt8}{k:Nat}(h:k<6)(h4:k≠4)(h1:[u.getD 0 0]=mkS.getD k []):zee u=.ok ⟨((k+4:Nat):Int),0,[]⟩ 1:=by
 rcases (by omega:k=0∨k=1∨k=2∨k=3∨k=5) with rfl|rfl|rfl|rfl|rfl <;>
 ·have h2:=(List.cons.inj h1).1
  unfold zee
  rw[h2]
  rfl
theorem zxI {u:List UInt8}(hA:¬(u.getD 0 0=60/\u.getD 1 0=45))(h:∀i,i<6->i≠4->[u.getD 0 0]≠mkS.getD i []):zee u=.bad 0 6:=by
 have h0:¬u.getD 0 0=40:=fun e=>h 0 (by decide) (by decide) (by rw[e];rfl)
 have h1:¬u.getD 0 0=41:=fun e=>h 1 (by decide) (by decide) (by rw[e];rfl)
 have h2:¬u.getD 0 0=91:=fun e=>h 2 (by decide) (by decide) (by rw[e];rfl)
 have h3:¬u.getD 0 0=93:=fun e=>h 3 (by decide) (by decide) (by rw[e];rfl)
 have h5:¬u.getD 0 0=61:=fun e=>h 5 (by decide) (by decide) (by rw[e];rfl)
 unfold zee
 rw[if_neg h0,if_neg h1,if_neg h2,if_neg h3,if_neg hA,if_neg h5]
section
variable {X:Cx}(hX:X.P=Go.Proofs.Tryz.prog)(hs:Std X)
include hX hs
theorem zur (k:Nat)(h:k<6):Ev X zlv [.int .i64 ((k+4:Nat):Int)] (.str (mkS.getD k [])):=by
 refine zaE (zak hs (zqA hX) ?_)
 have w0:IntKind.i64.wrap (4-4)=((0:Nat):Int):=rfl
 have w1:IntKind.i64.wrap (5-4)=((1:Nat):Int):=rfl
 have w2:IntKind.i64.wrap (6-4)=((2:Nat):Int):=rfl
 have w3:IntKind.i64.wrap (7-4)=((3:Nat):Int):=rfl
 have w4:IntKind.i64.wrap (8-4)=((4:Nat):Int):=rfl
 have w5:IntKind.i64.wrap (9-4)=((5:Nat):Int):=rfl
 rcases (by omega:k=0∨k=1∨k=2∨k=3∨k=4∨k=5) with rfl|rfl|rfl|rfl|rfl|rfl <;>
 ·simp only[zrG,go_sem,Nat.reduceEqDiff,Nat.reduceAdd,reduceCtorEq,Nat.reduceLT,w0,w1,w2,w3,w4,w5]
  rw[show AV.sl .ex [.str [40],.str [41],.str [91],.str [93],.str [60,45],.str [61]]=lst AV.str .ex mkS from rfl]
  simp only[go_sem,Nat.reduceEqDiff,Int.reduceToNat,Int.reduceLE,reduceCtorEq]
  exact ⟨by decide,⟨_,rfl⟩,rfl⟩
set_option maxHeartbeats 1000000 in
theorem zsk (s:List UInt8)(p:Nat)(hl:s.length<1000000)(hp:p<s.length):Ev X ziu [.str s,.int .i64 p] (outR p (tokR (s.drop p))):=by
 refine zac hs (zps hX) 0 ?_
 have h0:(s.drop p).getD 0 0=s.getD p 0:=by rw[zaV,Nat.add_zero]
 have h0':(s.drop p).getD 1 0=s.getD (p+1) 0:=by rw[zaV]
 have hw1:IntKind.i64.wrap ((p:Int)+1)=((p+1:Nat):Int):=by rw[wi64 (by omega)];omega
 have hw2:IntKind.i64.wrap ((p:Int)+2)=((p+2:Nat):Int):=by rw[wi64 (by omega)];omega
 have hcut:(s.take (p+1)).drop p=[s.getD p 0]:=by
  rw[List.drop_take,show p+1-p=1 by omega,<-h0]
  cases hd:s.drop p with
  | nil=>have:=congrArg List.length hd;rw[List.length_drop]at this;simp at this;omega
  | cons a b=>rfl
 have hout:∀o:Out,∃a b c d e f g,outR p o=.tuple [.agg [.int .i64 a,.int .i64 b,.int .i64 c,.int .i64 d,.str e],.int .i64 f,.int .i64 g]:=fun o=>by
  cases o
  ·exact ⟨_,_,_,_,_,_,_,rfl⟩
  ·exact ⟨_,_,_,_,_,_,_,rfl⟩
 have hW:=zuw hX hs s p hl hp
 have hNu:=zqi hX hs s p hl hp
 have hT:=zvm hX hs s p hl hp
 have hL:=zcI hX hs (s.getD p 0)
 have hD:=zbQ hX hs (s.getD p 0)
 have hdl:ltr (s.getD p 0)=true->dg (s.getD p 0)=false/\¬s.getD p 0=45:=fun h=>by
  unfold ltr at h
  unfold dg
  simp only[Bool.and_eq_true,decide_eq_true_eq]at h
  refine ⟨?_,fun e=>?_⟩
  ·rw[decide_eq_false (show ¬(s.getD p 0).toNat<=57 by omega),Bool.and_false]
  ·rw[e]at h
   revert h
   decide
 by_cases cl:ltr (s.getD p 0)=true
 ·obtain ⟨d1,d2⟩:=hdl cl
  rw[cl]at hL
  rw[show tokR (s.drop p)=zdK (s.drop p) by unfold tokR tokO;rw[h0,if_neg (by rw[d1,decide_eq_false d2];decide),if_pos cl]]
  obtain ⟨a,b,c,d,e,f,g,ho⟩:=hout (zdK (s.drop p))
  rw[ho]at hW⊢
  simp only[zbD,go_sem,Nat.reduceEqDiff,Nat.reduceAdd,reduceCtorEq]
  refine ⟨by omega,zab hL ?_⟩
  simp only[go_sem,Nat.reduceEqDiff,reduceCtorEq]
  refine zab hW ?_
  simp only[go_sem,Nat.reduceEqDiff,Nat.reduceAdd,reduceCtorEq,Nat.reduceLT]
 have cl':ltr (s.getD p 0)=false:=by simpa using cl
 rw[cl']at hL
 by_cases cd:dg (s.getD p 0)=true
 ·rw[cd]at hD
  rw[show tokR (s.drop p)=numR (s.drop p) by unfold tokR;rw[h0,if_pos (by rw[cd];rfl)]]
  obtain ⟨a,b,c,d,e,f,g,ho⟩:=hout (numR (s.drop p))
  rw[ho]at hNu⊢
  simp only[zbD,go_sem,Nat.reduceEqDiff,Nat.reduceAdd,reduceCtorEq]
  refine ⟨by omega,zab hL ?_⟩
  simp only[go_sem,Nat.reduceEqDiff,reduceCtorEq]
  refine zab hD ?_
  simp only[go_sem,Nat.reduceEqDiff,reduceCtorEq]
  refine zab hNu ?_
  simp only[go_sem,Nat.reduceEqDiff,Nat.reduceAdd,reduceCtorEq,Nat.reduceLT]
 have cd':dg (s.getD p 0)=false:=by simpa using cd
 rw[cd']at hD
 by_cases c45:s.getD p 0=45
 ·have d1:(((s.getD p 0).toNat:Nat):Int)=45:=(b_eq _ 45 (by decide)).2 c45
  rw[show tokR (s.drop p)=numR (s.drop p) by unfold tokR;rw[h0,if_pos (by rw[decide_eq_true c45,Bool.or_true])]]
  obtain ⟨a,b,c,d,e,f,g,ho⟩:=hout (numR (s.drop p))
  rw[ho]at hNu⊢
  simp only[zbD,go_sem,Nat.reduceEqDiff,Nat.reduceAdd,reduceCtorEq]
  refine ⟨by omega,zab hL ?_⟩
  simp only[go_sem,Nat.reduceEqDiff,reduceCtorEq]
  refine zab hD ?_
  simp only[go_sem,Nat.reduceEqDiff,reduceCtorEq,d1]
  refine zab hNu ?_
  simp only[go_sem,Nat.reduceEqDiff,Nat.reduceAdd,reduceCtorEq,Nat.reduceLT]
 have n45:¬(((s.getD p 0).toNat:Nat):Int)=45:=fun e=>c45 ((b_eq _ 45 (by decide)).1 e)
 by_cases c34:s.getD p 0=34
 ·have d1:(((s.getD p 0).toNat:Nat):Int)=34:=(b_eq _ 34 (by decide)).2 c34
  rw[show tokR (s.drop p)=zer (s.drop p) by unfold tokR tokO;rw[h0,if_neg (by rw[cd',decide_eq_false c45];decide),if_neg cl,if_neg (by rw[cd',decide_eq_false c45];decide),if_pos c34]]
  obtain ⟨a,b,c,d,e,f,g,ho⟩:=hout (zer (s.drop p))
  rw[ho]at hT⊢
  simp only[zbD,go_sem,Nat.reduceEqDiff,Nat.reduceAdd,reduceCtorEq]
  refine ⟨by omega,zab hL ?_⟩
  simp only[go_sem,Nat.reduceEqDiff,reduceCtorEq]
  refine zab hD ?_
  simp only[go_sem,Nat.reduceEqDiff,Int.reduceEq,reduceCtorEq,d1]
  refine zab hT ?_
  simp only[go_sem,Nat.reduceEqDiff,Nat.reduceAdd,reduceCtorEq,Nat.reduceLT]
 have n34:¬(((s.getD p 0).toNat:Nat):Int)=34:=fun e=>c34 ((b_eq _ 34 (by decide)).1 e)
 rw[show tokR (s.drop p)=zee (s.drop p) by unfold tokR tokO;rw[h0,if_neg (by rw[cd',decide_eq_false c45];decide),if_neg cl,if_neg (by rw[cd',decide_eq_false c45];decide),if_neg c34]]
 have loop:∀(Q:Exit->Fr->Heap->Prop) (F:FL),¬(s.getD p 0=60/\s.getD (p+1) 0=45)->FL.has F.get [(8,.int .i64 4),(0,.str s),(1,.int .i64 p),(4,.ptr 0 0)] ->
   (∀F':FL,zee (s.drop p)=.bad 0 6->FL.has F'.get [(0,.str s),(1,.int .i64 p),(4,.ptr 0 0)]->Q (.exit 1) F'.get [.box [.int .i64 0,.int .i64 0,.int .i64 0,.int .i64 0,.str []]]) ->
   (∀(F':FL) (k:Nat),zee (s.drop p)=.ok ⟨((k+4:Nat):Int),0,[]⟩ 1->FL.has F'.get [(4,.ptr 0 0),(5,.int .i64 0),(6,.int .i64 0)]->Q .ret F'.get [.box [.int .i64 ((k+4:Nat):Int),.int .i64 p,.int .i64 ((p+1:Nat):Int),.int .i64 0,.str []]]) ->
   wpc X 87 (.loop zcS) Q F.get [.box [.int .i64 0,.int .i64 0,.int .i64 0,.int .i64 0,.str []]]:=fun Q F hA hF hQ hR=>by
  refine zaj hs.hm (ι:=Nat) (fun k=>k<=6/\∀i,i<k->i≠4->[s.getD p 0]≠mkS.getD i []) (fun k=>[(8,.int .i64 ((k+4:Nat):Int)),(0,.str s),(1,.int .i64 p),(4,.ptr 0 0)]) (fun _=>[.box [.int .i64 0,.int .i64 0,.int .i64 0,.int .i64 0,.str []]]) (fun k=>6-k) 0 ⟨⟨by decide,fun i hi=>absurd hi (by omega)⟩,hF,rfl⟩ fun k hk=>?_
  obtain ⟨k1,k2⟩:=hk
  by_cases hk6:k<6
  ·have h1:((k+4:Nat):Int)<=9:=by omega
   have hw:IntKind.i64.wrap (((k+4:Nat):Int)+1)=((k+1+4:Nat):Int):=by rw[wi64 (by omega)];omega
   by_cases h8:k=4
   ·have h2:((k+4:Nat):Int)=8:=by omega
    simp only[zcS,go_sem,Nat.reduceEqDiff,Int.reduceAdd,Int.reduceLE,reduceCtorEq,h2]
    refine ⟨k+1,by omega,⟨by omega,fun i hi hn=>k2 i (by omega) hn⟩,?_⟩
    subst h8
    rfl
   ·have h2:¬((k+4:Nat):Int)=8:=by omega
    simp only[zcS,go_sem,Nat.reduceEqDiff,reduceCtorEq,h1,h2,hw1]
    refine ⟨by omega,za1 (zur hX hs k hk6) ?_⟩
    simp only[go_sem,Nat.reduceEqDiff,Nat.reduceAdd,reduceCtorEq,Nat.reduceLeDiff,hw]
    rw[hcut]
    refine ⟨fun h=>?_,fun h=>?_⟩
    ·rw[hw1]
     exact hR _ k (zzh hk6 h8 (by rw[h0];exact h)) ⟨rfl,rfl,rfl,trivial⟩
    ·refine ⟨k+1,by omega,⟨by omega,fun i hi hn=>?_⟩,rfl⟩
     rcases Nat.lt_or_ge i k with h'|h'
     ·exact k2 i h' hn
     ·have:i=k:=by omega
      subst this
      exact h
  ·have h1:¬((k+4:Nat):Int)<=9:=by omega
   simp only[zcS,go_sem,Nat.reduceEqDiff,reduceCtorEq,h1]
   exact hQ _ (zxI (by rw[h0,h0'];exact hA) (by rw[h0];exact fun i hi=>k2 i (by omega))) ⟨rfl,rfl,rfl,trivial⟩
 by_cases c60:s.getD p 0=60
 ·have d60:(((s.getD p 0).toNat:Nat):Int)=60:=(b_eq _ 60 (by decide)).2 c60
  by_cases c1:p+1<s.length
  ·have c1':((p+1:Nat):Int)<s.length:=by omega
   by_cases c5:s.getD (p+1) 0=45
   ·have d5:(((s.getD (p+1) 0).toNat:Nat):Int)=45:=(b_eq _ 45 (by decide)).2 c5
    simp only[zbD,go_sem,Nat.reduceEqDiff,Nat.reduceAdd,reduceCtorEq]
    refine ⟨by omega,zab hL ?_⟩
    simp only[go_sem,Nat.reduceEqDiff,reduceCtorEq]
    refine zab hD ?_
    simp only[go_sem,Nat.reduceEqDiff,Nat.reduceAdd,Int.reduceEq,reduceCtorEq,Nat.reduceLeDiff,d60,hw1,hw2,c1',d5]
    refine ⟨by omega,?_⟩
    rw[show zee (s.drop p)=.ok ⟨8,0,[]⟩ 2 by unfold zee;rw[h0,h0',c60,c5];rfl]
    rfl
   ·have d5:¬(((s.getD (p+1) 0).toNat:Nat):Int)=45:=fun e=>c5 ((b_eq _ 45 (by decide)).1 e)
    simp only[zbD,go_sem,Nat.reduceEqDiff,Nat.reduceAdd,reduceCtorEq]
    refine ⟨by omega,zab hL ?_⟩
    simp only[go_sem,Nat.reduceEqDiff,reduceCtorEq]
    refine zab hD ?_
    simp only[go_sem,Nat.reduceEqDiff,Int.reduceEq,reduceCtorEq,d60,hw1,c1',d5]
    refine ⟨by omega,loop _ _ (fun h=>c5 h.2) ⟨rfl,rfl,rfl,rfl,trivial⟩ (fun F' hm hF'=>?_) (fun F' k hm hF'=>?_)⟩
    ·obtain ⟨f1,f2,f3,_⟩:=hF'
     rw[hm]
     simp only[go_sem,Nat.reduceEqDiff,Nat.reduceAdd,f2,f3]
     rfl
    ·obtain ⟨f1,f2,f3,_⟩:=hF'
     rw[hm]
     simp only[go_sem,Nat.reduceAdd,f1,f2,f3]
     rfl
  ·have c1':¬((p+1:Nat):Int)<s.length:=by omega
   simp only[zbD,go_sem,Nat.reduceEqDiff,Nat.reduceAdd,reduceCtorEq]
   refine ⟨by omega,zab hL ?_⟩
   simp only[go_sem,Nat.reduceEqDiff,reduceCtorEq]
   refine zab hD ?_
   simp only[go_sem,Nat.reduceEqDiff,Int.reduceEq,reduceCtorEq,d60,hw1,c1']
   have hz:s.getD (p+1) 0=0:=by
    rw[List.getD_eq_getElem?_getD,List.getElem?_eq_none (by omega)]
    rfl
   refine loop _ _ (fun h=>by rw[hz]at h;exact absurd h.2 (by decide)) ⟨rfl,rfl,rfl,rfl,trivial⟩ (fun F' hm hF'=>?_) (fun F' k hm hF'=>?_)
   ·obtain ⟨f1,f2,f3,_⟩:=hF'
    rw[hm]
    simp only[go_sem,Nat.reduceEqDiff,Nat.reduceAdd,f2,f3]
    rfl
   ·obtain ⟨f1,f2,f3,_⟩:=hF'
    rw[hm]
    simp only[go_sem,Nat.reduceAdd,f1,f2,f3]
    rfl
 ·have d60:¬(((s.getD p 0).toNat:Nat):Int)=60:=fun e=>c60 ((b_eq _ 60 (by decide)).1 e)
  simp only[zbD,go_sem,Nat.reduceEqDiff,Nat.reduceAdd,reduceCtorEq]
  refine ⟨by omega,zab hL ?_⟩
  simp only[go_sem,Nat.reduceEqDiff,reduceCtorEq]
  refine zab hD ?_
  simp only[go_sem,Nat.reduceEqDiff,reduceCtorEq,n45,n34,d60]
  refine loop _ _ (fun h=>c60 h.1) ⟨rfl,rfl,rfl,rfl,trivial⟩ (fun F' hm hF'=>?_) (fun F' k hm hF'=>?_)
  ·obtain ⟨f1,f2,f3,_⟩:=hF'
   rw[hm]
   simp only[go_sem,Nat.reduceEqDiff,Nat.reduceAdd,f2,f3]
   rfl
  ·obtain ⟨f1,f2,f3,_⟩:=hF'
   rw[hm]
   simp only[go_sem,Nat.reduceAdd,f1,f2,f3]
   rfl
end
end Go.Avm
namespace Go.Avm
open Go Go.Rn Go.Lx
set_option maxRecDepth 10000
theorem zBO {u:List UInt8}{t:Tok}{k:Nat}(h:numR u=.ok t k):1<=k/\k<=u.length:=by
 have hle:=zdu dg (u.drop (sg u))
 rw[List.length_drop]at hle
 unfold numR at h
 split at h
 ·cases h
 ·rename_i h1
  split at h
  ·cases h
  ·split at h
   ·cases h
   ·split at h
    ·cases h
    ·cases h
     omega
theorem zzs {u:List UInt8}{d:Nat}{e:Int}(h:numR u=.bad d e):e≠0:=by
 unfold numR at h
 split at h
 ·cases h;decide
 ·split at h
  ·cases h;decide
  ·split at h
   ·cases h;decide
   ·split at h
    ·cases h;decide
    ·cases h
theorem zAY {u:List UInt8}{t:Tok}{k:Nat}(h0:u≠[])(h:tokR u=.ok t k):1<=k/\k<=u.length:=by
 unfold tokR at h
 split at h
 ·exact zBO h
 ·have:=zc4 h0 h
  exact ⟨this.1,this.2.1⟩
theorem zs9 {u:List UInt8}{d:Nat}{e:Int}(h0:u≠[])(h:tokR u=.bad d e):e≠0:=by
 unfold tokR at h
 split at h
 ·exact zzs h
 ·have:=zhG h0 h
  omega
def lexR:Nat->Nat->List UInt8->LR
 | 0,_,_=>.ok []
 | _+1,_,[]=>.ok []
 | f+1,p,c::v=>if c=32 then lexR f (p+1) v else match tokR (c::v) with
  | .ok t k=>(lexR f (p+k) ((c::v).drop k)).cons (t,p,p+k)
  | .bad d e=>.bad (p+d) e
def zg0 (s:List UInt8):LR:=if 2000<s.length then .bad 0 3 else lexR (s.length+1) 0 s
def zqS:LR->AV
 | .ok l=>.tuple [lst ptV .ro l,.int .i64 0,.int .i64 0]
 | .bad d e=>.tuple [.sl .ro [],.int .i64 (d:Nat),.int .i64 e]
structure LS2 where
 p:Nat
 l:List PT
 G:Heap
 f:Nat
def LI2 (s:List UInt8)(x:LS2):Prop:=x.p<=s.length/\x.l.length<=x.p/\s.length<x.p+x.f/\lexR (s.length+1) 0 s=(lexR x.f x.p (s.drop x.p)).pre x.l
section
variable {X:Cx}(hX:X.P=Go.Proofs.Tryz.prog)(hs:Std X)
include hX hs
set_option maxHeartbeats 1000000 in
theorem zuO (s:List UInt8)(hl:s.length<1000000):Ev X zlz [.str s] (zqS (zg0 s)):=by
 refine zhB hs (zru hX) 2 ?_
 simp only[zrA,go_sem,Nat.reduceEqDiff,reduceCtorEq]
 unfold zg0
 refine ⟨fun h=>?_,fun h=>?_⟩
 ·rw[if_pos (by omega)]
  rfl
 ·rw [if_neg (by omega)]
  refine zbj hs.hm (ι:=LS2) (LI2 s) (fun x=>[(0,.str s),(5,lst ptV (.tok 1 5) x.l),(6,.int .i64 x.p)]) (fun x=>.dead::.tok x.l.length::x.G) (fun x=>s.length-x.p) ⟨0,[],[],s.length+1⟩ ⟨⟨Nat.zero_le _,Nat.le_refl _,by dsimp only;omega,?_⟩,_,_,zcf 5 5 rfl,⟨by simp only[go_sem,Nat.reduceEqDiff,reduceCtorEq];rfl,rfl⟩⟩ fun x hx=>?_
  ·dsimp only
   rw[List.drop_zero]
   cases lexR (s.length+1) 0 s<;>rfl
  obtain ⟨p,l,G,f⟩:=x
  obtain ⟨x1,x2,x3,x4⟩:=hx
  dsimp only at x1 x2 x3 x4⊢
  obtain ⟨f,rfl⟩:∃g,f=g+1:=⟨f-1,by omega⟩
  by_cases hp:p<s.length
  ·have hp':(p:Int)<s.length:=by omega
   obtain ⟨c,v,hv⟩:∃c v,s.drop p=c::v:=by
    cases hd:s.drop p with
    | nil=>have:=congrArg List.length hd;rw[List.length_drop]at this;simp at this;omega
    | cons y v=>exact ⟨y,v,rfl⟩
   have hcg:s.getD p 0=c:=by
    have:=zaV s p 0
    rw[hv,Nat.add_zero]at this
    exact this.symm
   have hv1:s.drop (p+1)=v:=by rw[<-List.drop_drop,hv];rfl
   rw[hv,lexR]at x4
   by_cases c32:c=32
   ·have d1:(((s.getD p 0).toNat:Nat):Int)=32:=(b_eq _ 32 (by decide)).2 (hcg.trans c32)
    have hw:IntKind.i64.wrap ((p:Int)+1)=((p+1:Nat):Int):=by rw[wi64 (by omega)];omega
    rw[if_pos c32,<-hv1]at x4
    simp only[zdq,go_sem,Nat.reduceEqDiff,reduceCtorEq,hp',d1,hw]
    exact ⟨by omega,⟨p+1,l,G,f⟩,by dsimp only;omega,⟨by dsimp only;omega,by dsimp only;omega,by dsimp only;omega,x4⟩,⟨rfl,rfl⟩,rfl⟩
   ·have d1:¬(((s.getD p 0).toNat:Nat):Int)=32:=fun e=>c32 (hcg.symm.trans ((b_eq _ 32 (by decide)).1 e))
    have hT:=zsk hX hs s p hl hp
    rw[if_neg c32]at x4
    rw[hv]at hT
    cases ht:tokR (c::v) with
    | ok t k =>
     have hk:=zAY (by simp) ht
     have hkl:p+k<=s.length:=by
      have:=congrArg List.length hv
      rw[List.length_drop]at this
      omega
     rw[ht]at hT x4
     have x4:lexR (s.length+1) 0 s=((lexR f (p+k) ((c::v).drop k)).cons (t,p,p+k)).pre l:=x4
     rw[zs7,<-hv,List.drop_drop]at x4
     simp only[zdq,go_sem,Nat.reduceEqDiff,reduceCtorEq,hp',d1]
     refine ⟨by omega,zab hT ?_⟩
     simp only[outR,tkV,go_sem,Nat.reduceEqDiff,Nat.reduceAdd,reduceCtorEq,Nat.reduceLT]
     rw[show [AV.agg [AV.int .i64 t.kind,AV.int .i64 (p:Nat),AV.int .i64 ((p+k:Nat):Int),AV.int .i64 t.n,AV.str t.s]]=[((t,p,p+k):PT)].map ptV from rfl,zdU]
     simp only[go_sem,Nat.reduceEqDiff,Nat.reduceAdd,reduceCtorEq,Nat.reduceLT,Nat.reduceLeDiff,gx0]
     refine ⟨⟨by omega,by omega⟩,⟨p+k,l++[(t,p,p+k)],G++[.box [.int .i64 t.kind,.int .i64 (p:Nat),.int .i64 ((p+k:Nat):Int),.int .i64 t.n,.str t.s]],f⟩,by dsimp only;omega,⟨hkl,by dsimp only;rw[List.length_append,List.length_singleton];omega,by dsimp only;omega,x4⟩,⟨rfl,rfl⟩,?_⟩
     dsimp only
     rw[List.length_append];rfl
    | bad d e =>
     have he:=zs9 (by simp) ht
     rw[ht]at hT x4
     have x4:lexR (s.length+1) 0 s=.bad (p+d) e:=x4
     rw[x4]
     simp only[zdq,go_sem,Nat.reduceEqDiff,reduceCtorEq,hp',d1]
     refine ⟨by omega,zab hT ?_⟩
     simp only[outR,tkV,go_sem,Nat.reduceEqDiff,Nat.reduceAdd,reduceCtorEq,Nat.reduceLT,he]
     rfl
  ·have hp':¬(p:Int)<s.length:=by omega
   rw[List.drop_eq_nil_of_le (by omega)]at x4
   have x4:lexR (s.length+1) 0 s=.ok l:=by rw[x4];simp [lexR,LR.pre]
   rw[x4]
   simp only[zdq,go_sem,Nat.reduceEqDiff,reduceCtorEq,hp']
   rfl
end
end Go.Avm
