/- The reference's reader: words, numbers. -/
import Derived.Test.YtcldomkahgaplaaGreatDoorAJ3
import Derived.Test.YtcldomkahgaplaaGreatDoorAF1
set_option linter.all false
namespace Go.Avm
open Go Go.Rn Go.Lx
set_option maxRecDepth 10000
def outR (p:Nat):Out->AV
 | .ok t k=>.tuple [tkV t p ((p+k:Nat):Int),.int .i64 0,.int .i64 0]
 | .bad d e=>.tuple [tkV ⟨0,0,[]⟩ 0 0,.int .i64 ((p+d:Nat):Int),.int .i64 e]
theorem zaV (s:List UInt8)(p j:Nat):(s.drop p).getD j 0=s.getD (p+j) 0:=by simp [List.getD_eq_getElem?_getD,List.getElem?_drop]
section
variable {X:Cx}(hX:X.P=Go.Proofs.Tryz.prog)(hs:Std X)
include hX hs
theorem zcI (c:UInt8):Ev X zdi [.int .u8 ((c.toNat:Nat):Int)] (.bool (ltr c)):=by
 refine zac hs (zmR hX) 0 ?_
 simp only[zl0,go_sem,Nat.reduceEqDiff,reduceCtorEq,ltr]
 refine ⟨fun h=>?_,fun h=>?_⟩
 ·rw[decide_eq_true (show 97<=c.toNat by omega)]
  simp only[Bool.true_and,AV.bool.injEq]
  exact decide_eq_decide.2 (by omega)
 ·rw[decide_eq_false (show ¬97<=c.toNat by omega)]
  rfl
theorem zbQ (c:UInt8):Ev X zc5 [.int .u8 ((c.toNat:Nat):Int)] (.bool (dg c)):=by
 refine zac hs (zpt hX) 0 ?_
 simp only[znN,go_sem,Nat.reduceEqDiff,reduceCtorEq,dg]
 refine ⟨fun h=>?_,fun h=>?_⟩
 ·rw[decide_eq_true (show 48<=c.toNat by omega)]
  simp only[Bool.true_and,AV.bool.injEq]
  exact decide_eq_decide.2 (by omega)
 ·rw[decide_eq_false (show ¬48<=c.toNat by omega)]
  rfl
theorem zuw (s:List UInt8)(p:Nat)(hl:s.length<1000000)(hp:p<s.length):Ev X zms [.str s,.int .i64 p] (outR p (zdK (s.drop p))):=by
 refine zac hs (zrl hX) 0 ?_
 simp only[zrj,go_sem,Nat.reduceEqDiff,Nat.reduceAdd,reduceCtorEq]
 have hle:=zdu al (s.drop p)
 have hst:=zd2 al (s.drop p)
 have hlt:=cnt_lt al (s.drop p)
 have hlen:(s.drop p).length=s.length-p:=List.length_drop
 unfold zdK
 generalize cnt al (s.drop p)=n at *
 refine zaj hs.hm (ι:=Nat) (fun j=>j<=n/\j<=16) (fun j=>[(7,.int .i64 ((p+j:Nat):Int)),(0,.str s),(1,.int .i64 p),(4,.ptr 0 0)]) (fun _=>[.box [.int .i64 0,.int .i64 0,.int .i64 0,.int .i64 0,.str []]]) (fun j=>n-j) 0 ⟨⟨Nat.zero_le _,by decide⟩,⟨rfl,rfl,rfl,rfl,trivial⟩,rfl⟩ fun j hj=>?_
 obtain ⟨j1,j2⟩:=hj
 have hg:=zaV s p j
 by_cases hj':j<n
 ·have h1:((p+j:Nat):Int)<s.length:=by omega
  have ha:=hlt j hj'
  rw[hg]at ha
  have hw:IntKind.i64.wrap (((p+j:Nat):Int)+1)=((p+(j+1):Nat):Int):=by rw[wi64 (by omega)];omega
  have hw2:IntKind.i64.wrap (((p+j:Nat):Int)-p)=(j:Int):=by rw[wi64 (by omega)];omega
  have key:∀b1 b2:Bool,al (s.getD (p+j) 0)=(b1||b2)->(b1||b2)=true:=fun b1 b2 h=>by rw[<-h];exact ha
  have hor:al (s.getD (p+j) 0)=(ltr (s.getD (p+j) 0)||dg (s.getD (p+j) 0)):=rfl
  simp only[ze9,go_sem,Nat.reduceEqDiff,reduceCtorEq,h1]
  refine ⟨by omega,zab (zcI hX hs _) ?_⟩
  cases hL:ltr (s.getD (p+j) 0) with
  | true =>
   simp only[go_sem,Nat.reduceEqDiff,Nat.reduceAdd,reduceCtorEq,hw2,hw]
   refine ⟨fun h16=>?_,fun h16=>⟨j+1,by omega,⟨by omega,by omega⟩,rfl⟩⟩
   rw[if_pos (by omega)]
   have:j=16:=by omega
   subst this
   rfl
  | false =>
   rw[hL,Bool.false_or]at hor
   simp only[go_sem,Nat.reduceEqDiff,reduceCtorEq]
   refine ⟨by omega,zab (zbQ hX hs _) ?_⟩
   rw[<-hor,ha]
   simp only[go_sem,Nat.reduceEqDiff,Nat.reduceAdd,reduceCtorEq,hw2,hw]
   refine ⟨fun h16=>?_,fun h16=>⟨j+1,by omega,⟨by omega,by omega⟩,rfl⟩⟩
   rw[if_pos (by omega)]
   have:j=16:=by omega
   subst this
   rfl
 ·have ej:j=n:=by omega
  subst ej
  rw[if_neg (by omega)]
  have hq:(s.take (p+j)).drop p=(s.drop p).take j:=by rw[List.drop_take];congr 1;omega
  by_cases h1:((p+j:Nat):Int)<s.length
  ·have ha:=hst (by omega)
   rw[hg]at ha
   have hor:al (s.getD (p+j) 0)=(ltr (s.getD (p+j) 0)||dg (s.getD (p+j) 0)):=rfl
   rw[ha]at hor
   have hL:ltr (s.getD (p+j) 0)=false:=by cases h:ltr (s.getD (p+j) 0)<;>simp_all
   have hD:dg (s.getD (p+j) 0)=false:=by cases h:dg (s.getD (p+j) 0)<;>simp_all
   simp only[ze9,go_sem,Nat.reduceEqDiff,reduceCtorEq,h1]
   refine ⟨by omega,zab (zcI hX hs _) ?_⟩
   rw[hL]
   simp only[go_sem,Nat.reduceEqDiff,reduceCtorEq]
   refine ⟨by omega,zab (zbQ hX hs _) ?_⟩
   rw[hD]
   simp only[go_sem,Nat.reduceEqDiff,Nat.reduceAdd,reduceCtorEq,Nat.reduceLeDiff]
   exact ⟨by omega,by rw[hq];rfl⟩
  ·simp only[ze9,go_sem,Nat.reduceEqDiff,Nat.reduceAdd,reduceCtorEq,Nat.reduceLeDiff,h1]
   exact ⟨by omega,by rw[hq];rfl⟩
end
def stpV (o:Option Int)(c:UInt8):Option Int:=o.bind fun n=>if n<(-9223372036854775808+((c.toNat:Int)-48)).tdiv 10 then none else some (10*n-((c.toNat:Int)-48))
def valL (l:List UInt8):Option Int:=l.foldl stpV (some 0)
theorem zwc {l:List UInt8}{i:Nat}(h:i<l.length):valL (l.take (i+1))=stpV (valL (l.take i)) (l.getD i 0):=by
 unfold valL
 rw[List.take_succ_eq_append_getElem h,List.foldl_append,List.getD_eq_getElem?_getD,List.getElem?_eq_getElem h]
 rfl
theorem zvy (l:List UInt8):l.foldl stpV none=none:=by
 induction l with
 | nil=>rfl
 | cons a r ih=>exact ih
theorem zw9 {l:List UInt8}{i:Nat}(h:valL (l.take i)=none):valL l=none:=by
 unfold valL at h⊢
 rw[<-List.take_append_drop i l,List.foldl_append,h,zvy]
def vlV (below:Bool):Option Int->AV
 | none=>.tuple [.int .i64 0,.bool false]
 | some n=>if below then .tuple [.int .i64 n,.bool true] else .tuple [.int .i64 (IntKind.i64.wrap (-n)),.bool (!decide (n=-9223372036854775808))]
section
variable {X:Cx}(hX:X.P=Go.Proofs.Tryz.prog)(hs:Std X)
include hX hs
theorem zsf (l:List UInt8)(b:Bool)(hl:l.length<1000000)(hd:∀c∈l,dg c=true):Ev X zi3 [.str l,.bool b] (vlV b (valL l)):=by
 refine zac hs (zpq hX) 0 ?_
 simp only[zm5,go_sem,Nat.reduceAdd]
 refine zaj hs.hm (ι:=Nat×Int) (fun x=>x.1<=l.length/\valL (l.take x.1)=some x.2/\-9223372036854775808<=x.2/\x.2<=0) (fun x=>[(7,.int .i64 (x.1:Nat)),(0,.str l),(1,.bool b),(6,.int .i64 x.2)]) (fun _=>[]) (fun x=>l.length-x.1) (0,0) ⟨⟨Nat.zero_le _,rfl,by decide,by decide⟩,⟨rfl,rfl,rfl,rfl,trivial⟩,rfl⟩ fun x hx=>?_
 obtain ⟨i,n⟩:=x
 obtain ⟨i1,i2,i3,i4⟩:=hx
 dsimp only at i1 i2 i3 i4⊢
 by_cases hi:i<l.length
 ·have h1:(i:Int)<l.length:=by omega
  have hw:IntKind.i64.wrap ((i:Int)+1)=((i+1:Nat):Int):=by rw[wi64 (by omega)];omega
  have hc:=hd (l.getD i 0) (by rw[List.getD_eq_getElem?_getD,List.getElem?_eq_getElem hi];exact List.getElem_mem _)
  have hcr:48<=(l.getD i 0).toNat/\(l.getD i 0).toNat<=57:=by simpa [dg] using hc
  have e1:IntKind.u8.wrap ((((l.getD i 0).toNat:Nat):Int)-48)=(((l.getD i 0).toNat:Nat):Int)-48:=by rw[wu8 (by omega)]
  have e2:IntKind.i64.wrap ((((l.getD i 0).toNat:Nat):Int)-48)=(((l.getD i 0).toNat:Nat):Int)-48:=by rw[wi64 (by omega)]
  have e3:IntKind.i64.wrap (-9223372036854775808+((((l.getD i 0).toNat:Nat):Int)-48))=-9223372036854775808+((((l.getD i 0).toNat:Nat):Int)-48):=by rw[wi64 (by omega)]
  have ev:=zwc hi
  rw[i2]at ev
  have ev2:stpV (some n) (l.getD i 0)=if n<(-9223372036854775808+(((l.getD i 0).toNat:Int)-48)).tdiv 10 then none else some (10*n-(((l.getD i 0).toNat:Int)-48)):=rfl
  rw[ev2]at ev
  generalize hD:(((l.getD i 0).toNat:Nat):Int)-48=d at *
  have hd9:0<=d/\d<=9:=by omega
  have hT:(-9223372036854775808+d).tdiv 10=-((9223372036854775808-d) / 10):=by
   rw[show -9223372036854775808+d=-(9223372036854775808-d) by omega,Int.neg_tdiv,Int.tdiv_eq_ediv_of_nonneg (by omega)]
  have e4:IntKind.i64.wrap (-((9223372036854775808-d) / 10))=-((9223372036854775808-d) / 10):=by rw[wi64 (by omega)]
  rw[hT]at ev
  simp only[zfB,go_sem,Nat.reduceEqDiff,Int.reduceNe,reduceCtorEq,h1,hD,e1,e2,e3,hT,e4,hw]
  refine ⟨by omega,fun h2=>?_,fun h2=>?_⟩
  ·rw[if_pos h2]at ev
   rw[zw9 ev]
   rfl
  ·rw[if_neg h2]at ev
   have e5:IntKind.i64.wrap (10*n)=10*n:=by rw[wi64 (by omega)]
   have e6:IntKind.i64.wrap (10*n-d)=10*n-d:=by rw[wi64 (by omega)]
   rw[e5,e6]
   exact ⟨(i+1,10*n-d),by dsimp only;omega,⟨by dsimp only;omega,ev,by dsimp only;omega,by dsimp only;omega⟩,rfl,rfl⟩
 ·have h1:¬(i:Int)<l.length:=by omega
  rw[List.take_of_length_le (by omega)]at i2
  rw[i2]
  simp only[zfB,go_sem,Nat.reduceEqDiff,reduceCtorEq,h1]
  cases b with
  | true=>exact ⟨fun _=>rfl,fun h=>(by cases h)⟩
  | false =>
   refine ⟨fun h=>(by cases h),fun _=>?_⟩
   show _=AV.tuple [.int .i64 (IntKind.i64.wrap (-n)),.bool (!decide (n=-9223372036854775808))]
   rw[show 0-n=-n by omega]
end
def numR (u:List UInt8):Out:=
 if cnt dg (u.drop (sg u))=0 then .bad 0 6 else
 match valL ((u.drop (sg u)).take (cnt dg (u.drop (sg u)))) with
 | none=>.bad 0 7
 | some n=>if sg u=0/\n=-9223372036854775808 then .bad 0 7 else if ltr (u.getD (sg u+cnt dg (u.drop (sg u))) 0) then .bad (sg u+cnt dg (u.drop (sg u))) 6
  else .ok ⟨2,if sg u=0 then IntKind.i64.wrap (-n) else n,[]⟩ (sg u+cnt dg (u.drop (sg u)))
section
variable {X:Cx}(hX:X.P=Go.Proofs.Tryz.prog)(hs:Std X)
include hX hs
theorem zqi (s:List UInt8)(p:Nat)(hl:s.length<1000000)(hp:p<s.length):Ev X zhu [.str s,.int .i64 p] (outR p (numR (s.drop p))):=by
 refine zac hs (zmL hX) 0 ?_
 have h0:(s.drop p).getD 0 0=s.getD p 0:=by rw[zaV,Nat.add_zero]
 have e45:(((s.getD p 0).toNat:Nat):Int)=45↔s.getD p 0=45:=by
  constructor
  ·intro h
   apply UInt8.toNat_inj.1
   have:(s.getD p 0).toNat=45:=by omega
   rw[this];rfl
  ·intro h
   rw[h];rfl
 obtain ⟨q,hq⟩:∃q,q=p+sg (s.drop p):=⟨_,rfl⟩
 have hsg:sg (s.drop p)=0∨sg (s.drop p)=1:=by unfold sg;split<;>omega
 have hdd:(s.drop p).drop (sg (s.drop p))=s.drop q:=by rw[List.drop_drop,hq]
 have hle:=zdu dg (s.drop q)
 have hst:=zd2 dg (s.drop q)
 have hlt:=cnt_lt dg (s.drop q)
 have hall:=zlU dg (s.drop q)
 have hlen:(s.drop q).length=s.length-q:=List.length_drop
 have hgn:(s.drop p).getD (sg (s.drop p)+cnt dg (s.drop q)) 0=s.getD (q+cnt dg (s.drop q)) 0:=by rw[zaV,hq,Nat.add_assoc]
 have hv:=zsf hX hs ((s.drop q).take (cnt dg (s.drop q))) (decide (sg (s.drop p)=1)) (by rw[List.length_take];omega) hall
 unfold numR
 rw[hdd,hgn]
 have hpl:p+(sg (s.drop p)+cnt dg (s.drop q))=q+cnt dg (s.drop q):=by omega
 generalize cnt dg (s.drop q)=n at *
 have hcut:(s.take (q+n)).drop q=(s.drop q).take n:=by rw[List.drop_take];congr 1;omega
 generalize valL ((s.drop q).take n)=V at *
 have hs1:sg (s.drop p)=1↔s.getD p 0=45:=by unfold sg;rw[h0];split<;>simp_all
 have loop:∀(Q:Exit->Fr->Heap->Prop) (F:FL),FL.has F.get [(8,.int .i64 q),(7,.int .i64 q),(0,.str s),(1,.int .i64 p),(4,.ptr 0 0)]->(∀F':FL,FL.has F'.get [(8,.int .i64 ((q+n:Nat):Int)),(7,.int .i64 q),(0,.str s),(1,.int .i64 p),(4,.ptr 0 0)]->Q (.exit 0) F'.get [.box [.int .i64 0,.int .i64 0,.int .i64 0,.int .i64 0,.str []]])->wpc X 67 (.loop zb6) Q F.get [.box [.int .i64 0,.int .i64 0,.int .i64 0,.int .i64 0,.str []]]:=fun Q F hF hQ=>by
  refine zaj hs.hm (ι:=Nat) (fun j=>j<=n) (fun j=>[(8,.int .i64 ((q+j:Nat):Int)),(7,.int .i64 q),(0,.str s),(1,.int .i64 p),(4,.ptr 0 0)]) (fun _=>[.box [.int .i64 0,.int .i64 0,.int .i64 0,.int .i64 0,.str []]]) (fun j=>n-j) 0 ⟨Nat.zero_le _,hF,rfl⟩ fun j hj=>?_
  have hg:=zaV s q j
  by_cases hj':j<n
  ·have h1:((q+j:Nat):Int)<s.length:=by omega
   have ha:=hlt j hj'
   rw[hg]at ha
   have hw:IntKind.i64.wrap (((q+j:Nat):Int)+1)=((q+(j+1):Nat):Int):=by rw[wi64 (by omega)];omega
   simp only[zb6,go_sem,Nat.reduceEqDiff,reduceCtorEq,h1]
   refine ⟨by omega,zab (zbQ hX hs _) ?_⟩
   rw[ha]
   simp only[go_sem,Nat.reduceEqDiff,reduceCtorEq,hw]
   exact ⟨j+1,by omega,hj',rfl⟩
  ·have ej:j=n:=by omega
   subst ej
   by_cases h1:((q+j:Nat):Int)<s.length
   ·have ha:=hst (by omega)
    rw[hg]at ha
    simp only[zb6,go_sem,Nat.reduceEqDiff,reduceCtorEq,h1]
    refine ⟨by omega,zab (zbQ hX hs _) ?_⟩
    rw[ha]
    simp only[go_sem,Nat.reduceEqDiff,reduceCtorEq]
    exact hQ _ ⟨rfl,rfl,rfl,rfl,rfl,trivial⟩
   ·simp only[zb6,go_sem,Nat.reduceEqDiff,reduceCtorEq,h1]
    exact hQ _ ⟨rfl,rfl,rfl,rfl,rfl,trivial⟩
 have hw:IntKind.i64.wrap ((p:Int)+1)=((p+1:Nat):Int):=by rw[wi64 (by omega)];omega
 generalize sg (s.drop p)=z at *
 rcases hsg with rfl|rfl
 ·have hq:q=p:=hq
  subst hq
  have h45:¬(((s.getD q 0).toNat:Nat):Int)=45:=fun h=>by
   have:=hs1.2 (e45.1 h)
   omega
  simp only[zhA,go_sem,Nat.reduceEqDiff,Nat.reduceAdd,reduceCtorEq,h45]
  refine ⟨by omega,loop _ _ ⟨rfl,rfl,rfl,rfl,rfl,trivial⟩ fun F' hF'=>?_⟩
  obtain ⟨f1,f2,f3,f4,f5,_⟩:=hF'
  simp only[go_sem,Nat.reduceEqDiff,Nat.reduceAdd,reduceCtorEq,f1,f2,f3,f4,f5]
  rw[show decide ((0:Nat)=1)=false from rfl]at hv
  have hb:decide ((q:Int)<q)=false:=decide_eq_false (by omega)
  refine ⟨fun h=>?_,fun h=>⟨by omega,?_⟩⟩
  ·rw[if_pos (by omega)]
   rfl
  ·rw [if_neg (by omega),hcut,hb]
   refine zab hv ?_
   cases V with
   | none =>
    simp only[vlV,go_sem,Nat.reduceEqDiff,Nat.reduceAdd,Nat.reduceLT,f4,f5]
    rfl
   | some m =>
    simp only[vlV,go_sem,Nat.reduceEqDiff,Nat.reduceAdd,reduceCtorEq,Nat.reduceLT,Nat.reduceLeDiff,f1,f3,f4,f5]
    refine ⟨fun h3=>(by rw[if_pos h3];rfl),fun h3=>?_⟩
    rw[if_neg h3]
    have hout:¬((q+n:Nat):Int)<s.length->ltr (s.getD (q+n) 0)=false:=fun h4=>by
     rw[List.getD_eq_getElem?_getD,List.getElem?_eq_none (by omega)]
     rfl
    refine ⟨fun h4=>⟨by omega,zab (zcI hX hs _) ?_⟩,fun h4=>?_⟩
    ·cases hL:ltr (s.getD (q+n) 0) with
     | true =>
      simp only[go_sem,Nat.reduceEqDiff,Nat.reduceAdd,f1,f5]
      rfl
     | false =>
      simp only[go_sem,Nat.reduceEqDiff,Nat.reduceAdd,reduceCtorEq,Nat.reduceLeDiff,f1,f4,f5]
      rfl
    ·rw[hout h4]
     simp only[go_sem,reduceCtorEq]
     rfl
 ·have h45:(((s.getD p 0).toNat:Nat):Int)=45:=e45.2 (hs1.1 rfl)
  simp only[zhA,go_sem,Nat.reduceEqDiff,Nat.reduceAdd,reduceCtorEq,h45,hw]
  refine ⟨by omega,loop _ _ ⟨by rw[hq];rfl,by rw[hq];rfl,rfl,rfl,rfl,trivial⟩ fun F' hF'=>?_⟩
  obtain ⟨f1,f2,f3,f4,f5,_⟩:=hF'
  simp only[go_sem,Nat.reduceEqDiff,Nat.reduceAdd,reduceCtorEq,f1,f2,f3,f4,f5]
  rw[show decide ((1:Nat)=1)=true from rfl]at hv
  have hb:decide ((p:Int)<q)=true:=decide_eq_true (by omega)
  refine ⟨fun h=>?_,fun h=>⟨by omega,?_⟩⟩
  ·rw[if_pos (by omega)]
   rfl
  ·rw [if_neg (by omega),hcut,hb]
   refine zab hv ?_
   cases V with
   | none =>
    simp only[vlV,go_sem,Nat.reduceEqDiff,Nat.reduceAdd,Nat.reduceLT,f4,f5]
    rfl
   | some m =>
    simp only[vlV,go_sem,Nat.reduceEqDiff,Nat.reduceAdd,reduceCtorEq,Nat.reduceLT,Nat.reduceLeDiff,f1,f3,f4,f5]
    simp only[false_and,if_false]
    have hout:¬((q+n:Nat):Int)<s.length->ltr (s.getD (q+n) 0)=false:=fun h4=>by
     rw[List.getD_eq_getElem?_getD,List.getElem?_eq_none (by omega)]
     rfl
    refine ⟨fun h4=>⟨by omega,zab (zcI hX hs _) ?_⟩,fun h4=>?_⟩
    ·cases hL:ltr (s.getD (q+n) 0) with
     | true =>
      simp only[go_sem,Nat.reduceEqDiff,Nat.reduceAdd,f1,f5]
      exact (by unfold outR;dsimp only;rw[hpl];rfl)
     | false =>
      simp only[go_sem,Nat.reduceEqDiff,Nat.reduceAdd,reduceCtorEq,Nat.reduceLeDiff,f1,f4,f5]
      exact (by unfold outR;dsimp only;rw[hpl];rfl)
    ·rw[hout h4]
     simp only[go_sem,reduceCtorEq]
     exact (by unfold outR;dsimp only;rw[hpl];rfl)
end
end Go.Avm
namespace Go.Avm
open Go Go.Rn Go.Lx
set_option maxRecDepth 10000
def hexK (u:List UInt8):Nat:=cnt hxB (u.take 7)
def hexN (u:List UInt8):Nat:=hxL 0 (u.take (hexK u))
def hexB (u:List UInt8):Bool:=decide (u.getD (hexK u) 0=59)&&decide (0<hexK u)&&valid (hexN u)
def hexV (u:List UInt8)(p:Nat):AV:=if hexK u<(u.take 7).length then .tuple [.int .i64 (hexN u:Nat),.int .i64 ((p+hexK u+1:Nat):Int),.bool (hexB u)] else .tuple [.int .i64 0,.int .i64 0,.bool false]
theorem zD7 {c:UInt8}(h:hxB c=true):c≠59:=fun e=>by
 rw[e]at h
 revert h
 decide
theorem ztk (l:List UInt8)(c:UInt8):∀a,hxL a (l++[c])=hxL a l*16+(Wo.hexv c).getD 0:=by
 induction l with
 | nil=>intro a;rfl
 | cons b r ih=>intro a;exact ih _
theorem zHs:∀n:Nat,n<256->hxB (UInt8.ofNat n)=(dg (UInt8.ofNat n)||(decide (97<=n)&&decide (n<=102)))/\(dg (UInt8.ofNat n)=true->(Wo.hexv (UInt8.ofNat n)).getD 0=n-48)/\((decide (97<=n)&&decide (n<=102))=true->(Wo.hexv (UInt8.ofNat n)).getD 0=n-87):=by decide +kernel
theorem zFz (c:UInt8):hxB c=(dg c||(decide (97<=c.toNat)&&decide (c.toNat<=102)))/\(dg c=true->(Wo.hexv c).getD 0=c.toNat-48)/\((decide (97<=c.toNat)&&decide (c.toNat<=102))=true->(Wo.hexv c).getD 0=c.toNat-87):=by
 have:=zHs c.toNat c.toNat_lt
 rwa [show UInt8.ofNat c.toNat=c by simp]at this
theorem zja (u:List UInt8){j:Nat}(h:j<7):(u.take 7).getD j 0=u.getD j 0:=by
 rw[List.getD_eq_getElem?_getD,List.getD_eq_getElem?_getD,List.getElem?_take_of_lt h]
theorem zyw (u:List UInt8):escp (117::u)=if hexK u<(u.take 7).length/\hexB u=true then some (((hexN u:Nat):Int),hexK u+2) else none:=by
 have hle:=zdu hxB (u.take 7)
 have hst:=zd2 hxB (u.take 7)
 have hlt:=cnt_lt hxB (u.take 7)
 have hl7:(u.take 7).length=min 7 u.length:=List.length_take
 have hN:hexN u=hxL 0 (u.take (hexK u)):=rfl
 have hB:hexB u=(decide (u.getD (hexK u) 0=59)&&decide (0<hexK u)&&valid (hexN u)):=rfl
 have hK:hexK u=cnt hxB (u.take 7):=rfl
 rw[<-hK]at hle hst hlt
 generalize hexK u=k at *
 have hhex:∀j,j<k->hxB (u.getD j 0)=true:=fun j hj=>by
  have:=hlt j hj
  rwa [zja u (by omega)]at this
 by_cases hc:k<(u.take 7).length/\hexB u=true
 ·obtain ⟨h1,h2⟩:=hc
  rw[if_pos ⟨h1,h2⟩]
  rw[hB]at h2
  simp only[Bool.and_eq_true,decide_eq_true_eq]at h2
  obtain ⟨⟨h3,h4⟩,h5⟩:=h2
  have hix:Lat.idx 59 u=k:=Lat.ztr (by omega) h3 fun j hj=>zD7 (hhex j hj)
  have hall:(u.take k).all hxB=true:=by
   rw[List.all_eq_true]
   intro c hm
   obtain ⟨j,hj,rfl⟩:=List.getElem_of_mem hm
   rw[List.length_take]at hj
   have:=hhex j (by omega)
   rw[List.getD_eq_getElem?_getD,List.getElem?_eq_getElem (by omega)]at this
   simpa using this
  unfold escp
  dsimp only
  rw[if_neg (by decide),if_neg (by decide),if_neg (by decide),hix,if_pos ⟨by omega,by omega,hall,by omega,by rw[<-hN];exact h5⟩,<-hN]
 ·rw [if_neg hc]
  unfold escp
  dsimp only
  rw[if_neg (by decide),if_neg (by decide),if_neg (by decide),if_neg]
  rintro ⟨c1,c2,c3,c4,c5⟩
  have h59:u.getD (Lat.idx 59 u) 0=59:=Lat.zqD c1
  have hk:k=Lat.idx 59 u:=by
   rcases Nat.lt_trichotomy k (Lat.idx 59 u) with h|h|h
   ·exfalso
    have h1:=hst (by omega)
    rw[zja u (by omega)]at h1
    have h2:=List.all_eq_true.1 c3 (u.getD k 0) (by
     rw[List.getD_eq_getElem?_getD,List.getElem?_eq_getElem (by omega),Option.getD_some]
     rw[List.mem_iff_getElem]
     exact ⟨k,by rw[List.length_take];omega,by rw[List.getElem_take]⟩)
    rw[h1]at h2
    cases h2
   ·exact h
   ·exfalso
    exact zD7 (hhex _ h) h59
  apply hc
  refine ⟨by omega,?_⟩
  rw[hB,hN]
  simp only[Bool.and_eq_true,decide_eq_true_eq]
  rw[hk]
  exact ⟨⟨h59,by omega⟩,c5⟩
section
variable {X:Cx}(hX:X.P=Go.Proofs.Tryz.prog)(hs:Std X)
include hX hs
theorem zxr (s:List UInt8)(p:Nat)(hl:s.length<1000000)(hp:p<=s.length):Ev X zpk [.str s,.int .i64 p] (hexV (s.drop p) p):=by
 refine zac hs (zsQ hX) 0 ?_
 simp only[ztI,go_sem,Nat.reduceEqDiff,Nat.reduceAdd,reduceCtorEq]
 unfold hexV hexB hexN hexK
 have hle:=zdu hxB ((s.drop p).take 7)
 have hst:=zd2 hxB ((s.drop p).take 7)
 have hlt:=cnt_lt hxB ((s.drop p).take 7)
 have hl7:((s.drop p).take 7).length=min 7 (s.length-p):=by rw[List.length_take,List.length_drop]
 generalize cnt hxB ((s.drop p).take 7)=k at *
 have hgt:∀j,j<7->((s.drop p).take 7).getD j 0=s.getD (p+j) 0:=fun j hj=>by rw[zja _ hj,zaV]
 have hb16:∀j,j<=k->hxL 0 ((s.drop p).take j)<16 ^ j:=fun j=>by
  induction j with
  | zero=>intro _;rw[List.take_zero];decide
  | succ j ih =>
   intro hj
   have h1:=ih (by omega)
   have hlen:j<(s.drop p).length:=by rw[List.length_drop];omega
   have h2:=hlt j (by omega)
   rw[hgt j (by omega),<-zaV]at h2
   have h3:(Wo.hexv ((s.drop p).getD j 0)).getD 0<16:=by
    obtain ⟨a1,a2,a3⟩:=zFz ((s.drop p).getD j 0)
    rw[h2]at a1
    cases hd:dg ((s.drop p).getD j 0) with
    | true =>
     rw[a2 hd]
     unfold dg at hd
     simp only[Bool.and_eq_true,decide_eq_true_eq]at hd
     omega
    | false =>
     rw[hd,Bool.false_or]at a1
     rw[a3 a1.symm]
     have a1:=a1.symm
     simp only[Bool.and_eq_true,decide_eq_true_eq]at a1
     omega
   have h4:(s.drop p).take (j+1)=(s.drop p).take j++[(s.drop p).getD j 0]:=by
    rw[List.take_succ_eq_append_getElem hlen,List.getD_eq_getElem?_getD,List.getElem?_eq_getElem hlen]
    rfl
   rw[h4,ztk,Nat.pow_succ]
   omega
 have hb7:∀j,j<=k->hxL 0 ((s.drop p).take j)<268435456:=fun j hj=>by
  have h1:=hb16 j hj
  have h2:16 ^ j<=16 ^ 7:=Nat.pow_le_pow_right (by decide) (by omega)
  have h3:(16:Nat) ^ 7=268435456:=by decide
  omega
 refine zaj hs.hm (ι:=Nat) (fun j=>j<=k) (fun j=>[(8,.int .i64 ((p+j:Nat):Int)),(0,.str s),(1,.int .i64 p),(7,.int .i64 (hxL 0 ((s.drop p).take j):Nat))]) (fun _=>[]) (fun j=>k-j) 0 ⟨Nat.zero_le _,⟨rfl,rfl,rfl,rfl,trivial⟩,rfl⟩ fun j hj=>?_
 have hbj:=hb7 j hj
 have hw6:IntKind.i64.wrap ((p:Int)+6)=(p:Int)+6:=by rw[wi64 (by omega)]
 have hw:IntKind.i64.wrap (((p+j:Nat):Int)+1)=((p+(j+1):Nat):Int):=by rw[wi64 (by omega)];omega
 by_cases hin:j<((s.drop p).take 7).length
 ·have h1:((p+j:Nat):Int)<s.length:=by omega
  have h2:((p+j:Nat):Int)<=(p:Int)+6:=by omega
  obtain ⟨a1,a2,a3⟩:=zFz (s.getD (p+j) 0)
  have h4:(s.drop p).take (j+1)=(s.drop p).take j++[s.getD (p+j) 0]:=by
   have hlen:j<(s.drop p).length:=by rw[List.length_drop];omega
   rw[List.take_succ_eq_append_getElem hlen,<-zaV,List.getD_eq_getElem?_getD,List.getElem?_eq_getElem hlen]
   rfl
  have hn1:hxL 0 ((s.drop p).take (j+1))=hxL 0 ((s.drop p).take j)*16+(Wo.hexv (s.getD (p+j) 0)).getD 0:=by rw[h4,ztk]
  have hcb:=(s.getD (p+j) 0).toNat_lt
  have hw16:IntKind.i64.wrap (16*(hxL 0 ((s.drop p).take j):Nat))=16*(hxL 0 ((s.drop p).take j):Nat):=by rw[wi64 (by omega)]
  by_cases hj':j<k
  ·have hx:=hlt j hj'
   rw[hgt j (by omega)]at hx
   rw[hx]at a1
   simp only[zeC,go_sem,Nat.reduceEqDiff,reduceCtorEq,h1,hw6,h2]
   refine ⟨by omega,zab (zbQ hX hs _) ?_⟩
   cases hd:dg (s.getD (p+j) 0) with
   | true =>
    have hv:=a2 hd
    have hd2:=hd
    unfold dg at hd2
    simp only[Bool.and_eq_true,decide_eq_true_eq]at hd2
    simp only[go_sem,Nat.reduceEqDiff,reduceCtorEq,hw,hw16]
    refine ⟨j+1,by omega,hj',rfl,?_⟩
    rw[hn1,hv,wu8 (by omega)]
    rw[wi64 (n:=(((s.getD (p+j) 0).toNat:Nat):Int)-48) (by omega),wi64 (by omega)]
    congr 1
    omega
   | false =>
    rw[hd,Bool.false_or]at a1
    have hv:=a3 a1.symm
    have a1:=a1.symm
    simp only[Bool.and_eq_true,decide_eq_true_eq]at a1
    have c1:(97:Int)<=(((s.getD (p+j) 0).toNat:Nat):Int):=by omega
    have c2:(((s.getD (p+j) 0).toNat:Nat):Int)<=102:=by omega
    simp only[go_sem,Nat.reduceEqDiff,reduceCtorEq,hw,hw16,c1,c2]
    refine ⟨j+1,by omega,hj',rfl,?_⟩
    rw[hn1,hv,wu8 (by omega)]
    rw[wi64 (n:=(((s.getD (p+j) 0).toNat:Nat):Int)-97) (by omega),wi64 (n:=16*((hxL 0 ((s.drop p).take j):Nat):Int)+_) (by omega),wi64 (by omega)]
    congr 1
    omega
  ·have ej:j=k:=by omega
   subst ej
   have hx:=hst hin
   rw[hgt j (by omega)]at hx
   rw[hx]at a1
   have hd:dg (s.getD (p+j) 0)=false:=by
    cases h:dg (s.getD (p+j) 0) with
    | false=>rfl
    | true=>rw[h]at a1;cases a1
   rw[hd,Bool.false_or]at a1
   rw[if_pos hin]
   simp only[zeC,go_sem,Nat.reduceEqDiff,reduceCtorEq,h1,hw6,h2]
   refine ⟨by omega,zab (zbQ hX hs _) ?_⟩
   rw[hd]
   have hgj:(s.drop p).getD j 0=s.getD (p+j) 0:=zaV s p j
   rw[hgj]
   have hr:∀c:UInt8,((c.toNat:Nat):Int)=59↔c=59:=fun c=>by
    constructor
    ·intro h
     apply UInt8.toNat_inj.1
     have:c.toNat=59:=by omega
     rw[this];rfl
    ·intro h
     rw[h];rfl
   have hw':((p+(j+1):Nat):Int)=((p+j+1:Nat):Int):=rfl
   by_cases c1:(97:Int)<=(((s.getD (p+j) 0).toNat:Nat):Int)
   ·have c2:¬(((s.getD (p+j) 0).toNat:Nat):Int)<=102:=fun c2=>by
     rw[decide_eq_true (show 97<=(s.getD (p+j) 0).toNat by omega),decide_eq_true (show (s.getD (p+j) 0).toNat<=102 by omega)]at a1
     cases a1
    have c3:¬s.getD (p+j) 0=59:=fun e=>by rw[e]at c1;revert c1;decide
    have c4:¬(((s.getD (p+j) 0).toNat:Nat):Int)=59:=fun e=>c3 ((hr _).1 e)
    simp only[go_sem,Nat.reduceEqDiff,reduceCtorEq,hw,c1,c2,c4]
    rw[decide_eq_false c3,Bool.false_and,Bool.false_and]
    rfl
   ·by_cases c3:s.getD (p+j) 0=59
    ·have c4:(((s.getD (p+j) 0).toNat:Nat):Int)=59:=(hr _).2 c3
     rw[decide_eq_true c3]
     by_cases c5:0<j
     ·have c6:(p:Int)<((p+j:Nat):Int):=by omega
      simp only[go_sem,Nat.reduceEqDiff,Int.reduceLE,reduceCtorEq,hw,c4,c6]
      refine zab (zpM hX hs _) ?_
      simp only[go_sem,Nat.reduceEqDiff,reduceCtorEq]
      rw[decide_eq_true c5,Bool.true_and]
      rfl
     ·have c6:¬(p:Int)<((p+j:Nat):Int):=by omega
      simp only[go_sem,Nat.reduceEqDiff,Int.reduceLE,reduceCtorEq,hw,c4,c6]
      rw[decide_eq_false c5,Bool.false_and]
      rfl
    ·have c4:¬(((s.getD (p+j) 0).toNat:Nat):Int)=59:=fun e=>c3 ((hr _).1 e)
     simp only[go_sem,Nat.reduceEqDiff,reduceCtorEq,hw,c1,c4]
     rw[decide_eq_false c3,Bool.false_and,Bool.false_and]
     rfl
 ·have ej:j=k:=by omega
  subst ej
  rw[if_neg hin]
  by_cases h1:((p+j:Nat):Int)<s.length
  ·have h2:¬((p+j:Nat):Int)<=(p:Int)+6:=by omega
   simp only[zeC,go_sem,Nat.reduceEqDiff,reduceCtorEq,h1,hw6,h2]
  ·simp only[zeC,go_sem,Nat.reduceEqDiff,reduceCtorEq,h1]
end
end Go.Avm
namespace Go.Avm
open Go Go.Rn Go.Lx
set_option maxRecDepth 10000
def zHG (p:Nat):Option (List UInt8×Nat)->AV->Prop
 | some (bs,n),r=>r=.tuple [.str bs,.int .i64 ((p+n:Nat):Int),.bool true]
 | none,r=>∃t k,r=.tuple [.str t,.int .i64 k,.bool false]
theorem b_eq (c:UInt8)(n:Nat)(h:n<256):(((c.toNat:Nat):Int)=n)↔c=UInt8.ofNat n:=by
 constructor
 ·intro e
  apply UInt8.toNat_inj.1
  rw[UInt8.toNat_ofNat',Nat.mod_eq_of_lt h]
  omega
 ·intro e
  rw[e,UInt8.toNat_ofNat',Nat.mod_eq_of_lt h]
theorem zBh {c:UInt8}(h:c.toNat<128):enc (c.toNat:Int)=[c]:=by
 have hv:valid (c.toNat:Int)=true:=(zbk _).2 (.inl (by omega))
 rw[zfZ hv,encI,if_pos (by omega)]
 simp [zaB]
section
variable {X:Cx}(hX:X.P=Go.Proofs.Tryz.prog)(hs:Std X)
include hX hs
set_option maxHeartbeats 1000000 in
theorem zpN           (s:List UInt8)(p:Nat)(hl:s.length<1000000)(hp:p<s.length):∃r,Ev X zgk [.str s,.int .i64 p] r/\zHG p (elem (s.drop p)) r:=by
 have h0:(s.drop p).getD 0 0=s.getD p 0:=by rw[zaV,Nat.add_zero]
 by_cases h92:s.getD p 0=92
 ·have c92:(((s.getD p 0).toNat:Nat):Int)=92:=(b_eq _ 92 (by decide)).2 h92
  have hw1:IntKind.i64.wrap ((p:Int)+1)=((p+1:Nat):Int):=by rw[wi64 (by omega)];omega
  have hw2:IntKind.i64.wrap ((p:Int)+2)=((p+2:Nat):Int):=by rw[wi64 (by omega)];omega
  have eel:elem (s.drop p)=(escp (s.drop (p+1))).map fun (r,n)=>(enc r,n+1):=by
   unfold elem
   rw[h0,if_pos h92,List.drop_drop]
  rw[eel]
  by_cases hend:p+1=s.length
  ·have c1:((p+1:Nat):Int)=(s.length:Int):=by omega
   refine ⟨.tuple [.str [],.int .i64 0,.bool false],?_,?_⟩
   ·refine zac hs (zaC hX) 0 ?_
    simp only[zaI,go_sem,Nat.reduceEqDiff,Nat.reduceAdd,reduceCtorEq,c92,hw1,c1]
    omega
   ·rw[List.drop_of_length_le (by omega)]
    exact ⟨_,_,rfl⟩
  ·have c1:¬((p+1:Nat):Int)=(s.length:Int):=by omega
   obtain ⟨c,v,hv⟩:∃c v,s.drop (p+1)=c::v:=by
    cases hd:s.drop (p+1) with
    | nil=>have:=congrArg List.length hd;rw[List.length_drop]at this;simp at this;omega
    | cons y v=>exact ⟨y,v,rfl⟩
   have hc:s.getD (p+1) 0=c:=by
    have:=zaV s (p+1) 0
    rw[hv,Nat.add_zero]at this
    exact this.symm
   have hv2:s.drop (p+2)=v:=by
    have:(s.drop (p+1)).drop 1=v:=by rw[hv];rfl
    rwa [List.drop_drop]at this
   have hex:=zxr hX hs s (p+2) hl (by omega)
   have hcut:(s.take (p+2)).drop (p+1)=[c]:=by
    rw[List.drop_take,hv,show p+2-(p+1)=1 by omega]
    rfl
   rw[hv,hv2]at *
   by_cases c34:c=34∨c=92
   ·refine ⟨.tuple [.str [c],.int .i64 ((p+2:Nat):Int),.bool true],?_,?_⟩
    ·refine zac hs (zaC hX) 0 ?_
     rcases c34 with e|e
     ·have d1:(((s.getD (p+1) 0).toNat:Nat):Int)=34:=(b_eq _ 34 (by decide)).2 (hc.trans e)
      simp only[zaI,go_sem,Nat.reduceEqDiff,Nat.reduceAdd,reduceCtorEq,c92,hw1,hw2,c1,d1]
      exact ⟨by omega,by omega,by omega,by rw[hcut]⟩
     ·have d1:(((s.getD (p+1) 0).toNat:Nat):Int)=92:=(b_eq _ 92 (by decide)).2 (hc.trans e)
      simp only[zaI,go_sem,Nat.reduceEqDiff,Nat.reduceAdd,Int.reduceEq,reduceCtorEq,c92,hw1,hw2,c1,d1]
      exact ⟨by omega,by omega,by omega,by rw[hcut]⟩
    ·have e1:escp (c::v)=some (((c.toNat:Nat):Int),1):=by unfold escp;dsimp only;rw[if_pos c34]
     rw[e1]
     show _=AV.tuple [.str (enc ((c.toNat:Nat):Int)),.int .i64 ((p+(1+1):Nat):Int),.bool true]
     rw[zBh (by rcases c34 with e|e<;>(rw[e];decide))]
   ·have n34:¬(((s.getD (p+1) 0).toNat:Nat):Int)=34:=fun e=>c34 (.inl (hc.symm.trans ((b_eq _ 34 (by decide)).1 e)))
    have n92:¬(((s.getD (p+1) 0).toNat:Nat):Int)=92:=fun e=>c34 (.inr (hc.symm.trans ((b_eq _ 92 (by decide)).1 e)))
    by_cases c110:c=110
    ·have d1:(((s.getD (p+1) 0).toNat:Nat):Int)=110:=(b_eq _ 110 (by decide)).2 (hc.trans c110)
     refine ⟨.tuple [.str [10],.int .i64 ((p+2:Nat):Int),.bool true],?_,?_⟩
     ·refine zac hs (zaC hX) 0 ?_
      simp only[zaI,go_sem,Nat.reduceEqDiff,Nat.reduceAdd,Int.reduceEq,reduceCtorEq,c92,hw1,hw2,c1,d1]
      omega
     ·have e1:escp (c::v)=some (10,1):=by unfold escp;dsimp only;rw[if_neg c34,if_pos c110]
      rw[e1]
      rfl
    ·have n110:¬(((s.getD (p+1) 0).toNat:Nat):Int)=110:=fun e=>c110 (hc.symm.trans ((b_eq _ 110 (by decide)).1 e))
     by_cases c117:c=117
     ·have d1:(((s.getD (p+1) 0).toNat:Nat):Int)=117:=(b_eq _ 117 (by decide)).2 (hc.trans c117)
      have e1:=zyw v
      rw[c117,e1]
      unfold hexV at hex
      by_cases hk:hexK v<(v.take 7).length
      ·rw [if_pos hk]at hex
       cases hB:hexB v with
       | true =>
        rw[hB]at hex
        rw[if_pos ⟨hk,rfl⟩]
        refine ⟨.tuple [.str (enc ((hexN v:Nat):Int)),.int .i64 ((p+2+hexK v+1:Nat):Int),.bool true],?_,?_⟩
        ·refine zaE (zak hs (zaC hX) ?_)
         simp only[zaI,go_sem,Nat.reduceEqDiff,Nat.reduceAdd,Int.reduceEq,reduceCtorEq,c92,hw1,hw2,c1,d1]
         refine ⟨by omega,by omega,zab hex ?_⟩
         simp only[go_sem,Nat.reduceEqDiff,Nat.reduceAdd,reduceCtorEq,Nat.reduceLT]
         refine zab (zf5 hX hs _) ?_
         simp only[go_sem,Nat.reduceEqDiff,Nat.reduceAdd,reduceCtorEq,Nat.reduceLT]
         exact ⟨⟨_,rfl⟩,rfl⟩
        ·show _=AV.tuple [.str (enc ((hexN v:Nat):Int)),.int .i64 ((p+(hexK v+2+1):Nat):Int),.bool true]
         rw[show p+(hexK v+2+1)=p+2+hexK v+1 by omega]
       | false =>
        rw[hB]at hex
        rw[if_neg (fun h=>by cases h.2)]
        refine ⟨.tuple [.str [],.int .i64 0,.bool false],?_,⟨_,_,rfl⟩⟩
        refine zaE (zak hs (zaC hX) ?_)
        simp only[zaI,go_sem,Nat.reduceEqDiff,Nat.reduceAdd,Int.reduceEq,reduceCtorEq,c92,hw1,hw2,c1,d1]
        refine ⟨by omega,by omega,zab hex ?_⟩
        simp only[go_sem,Nat.reduceEqDiff,Nat.reduceAdd,reduceCtorEq,Nat.reduceLT]
        exact ⟨⟨_,rfl⟩,rfl⟩
      ·rw[if_neg hk]at hex
       rw[if_neg (fun h=>hk h.1)]
       refine ⟨.tuple [.str [],.int .i64 0,.bool false],?_,⟨_,_,rfl⟩⟩
       refine zaE (zak hs (zaC hX) ?_)
       simp only[zaI,go_sem,Nat.reduceEqDiff,Nat.reduceAdd,Int.reduceEq,reduceCtorEq,c92,hw1,hw2,c1,d1]
       refine ⟨by omega,by omega,zab hex ?_⟩
       simp only[go_sem,Nat.reduceEqDiff,Nat.reduceAdd,reduceCtorEq,Nat.reduceLT]
       exact ⟨⟨_,rfl⟩,rfl⟩
     ·have n117:¬(((s.getD (p+1) 0).toNat:Nat):Int)=117:=fun e=>c117 (hc.symm.trans ((b_eq _ 117 (by decide)).1 e))
      refine ⟨.tuple [.str [],.int .i64 0,.bool false],?_,?_⟩
      ·refine zac hs (zaC hX) 0 ?_
       simp only[zaI,go_sem,Nat.reduceEqDiff,Nat.reduceAdd,reduceCtorEq,c92,hw1,c1,n34,n92,n110,n117]
       omega
      ·have e1:escp (c::v)=none:=by unfold escp;dsimp only;rw[if_neg c34,if_neg c110,if_pos c117]
       rw[e1]
       exact ⟨_,_,rfl⟩
 ·have n92:¬(((s.getD p 0).toNat:Nat):Int)=92:=fun e=>h92 ((b_eq _ 92 (by decide)).1 e)
  have hD:=zdX hX hs s p hp (by omega)
  have eel:elem (s.drop p)=match dcO (s.drop p) with|none=>none|some (r,n)=>if r<32 then none else some (enc r,n):=by
   unfold elem
   rw[h0,if_neg h92]
   rfl
  rw[eel]
  unfold dcv at hD
  cases hd:dcO (s.drop p) with
  | none =>
   rw[hd]at hD
   have hm:¬(if more (s.drop p)=true then (370:Int) else 6)=0:=by split<;>decide
   generalize (if more (s.drop p)=true then (370:Int) else 6)=e at hD hm
   refine ⟨.tuple [.str ((s.take p).drop p),.int .i64 p,.bool false],?_,⟨_,_,rfl⟩⟩
   refine zac hs (zaC hX) 0 ?_
   have hwp:IntKind.i64.wrap ((p:Int)+0)=(p:Int):=by rw[wi64 (by omega)];omega
   have hwp':IntKind.i64.wrap (p:Int)=(p:Int):=by rw[wi64 (by omega)]
   simp only[zaI,go_sem,Nat.reduceEqDiff,Nat.reduceAdd,reduceCtorEq,n92]
   refine ⟨by omega,by omega,zab hD ?_⟩
   simp only[go_sem,Nat.reduceEqDiff,Nat.reduceAdd,reduceCtorEq,Nat.reduceLT,hm,hwp]
   omega
  | some x =>
   obtain ⟨r,n⟩:=x
   rw[hd]at hD
   have hx:=za4 hd
   have hr:=zao hx.1
   have hn:=hx.2.1
   rw[List.length_drop]at hn
   have hw:IntKind.i64.wrap ((p:Int)+n)=((p+n:Nat):Int):=by rw[wi64 (by omega)];omega
   have hcut:(s.take (p+n)).drop p=enc r:=by rw[List.drop_take,show p+n-p=n by omega,hx.2.2.1]
   refine ⟨.tuple [.str (enc r),.int .i64 ((p+n:Nat):Int),.bool (decide (32<=r))],?_,?_⟩
   ·refine zac hs (zaC hX) 0 ?_
    simp only[zaI,go_sem,Nat.reduceEqDiff,Nat.reduceAdd,reduceCtorEq,n92]
    refine ⟨by omega,by omega,zab hD ?_⟩
    simp only[go_sem,Nat.reduceEqDiff,Nat.reduceAdd,reduceCtorEq,Nat.reduceLT,hw,hcut]
    omega
   ·dsimp only
    by_cases h32:r<32
    ·rw[if_pos h32,decide_eq_false (by omega)]
     exact ⟨_,_,rfl⟩
    ·rw[if_neg h32,decide_eq_true (by omega)]
     rfl
end
end Go.Avm
