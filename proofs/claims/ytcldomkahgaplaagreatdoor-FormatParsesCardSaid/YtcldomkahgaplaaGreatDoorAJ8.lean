/- The reference's Parse. -/
import Derived.Test.YtcldomkahgaplaaGreatDoorAJ7
set_option linter.all false
namespace Go.Avm
open Go Go.Fm Go.Rn Go.Lx
set_option maxRecDepth 10000
section
variable {X:Cx}(hX:X.P=Go.Proofs.Tryz.prog)(hs:Std X)
include hX hs
set_option maxHeartbeats 1000000 in
theorem zrW         (cf:CF)(s:List UInt8)(hl:s.length<1000000)
  (hcf:∀k p m,(k=1∨k=2)->p∈(Wo.zaF s).1->0<m->m<=20->∃l,Ev X zda [.int .i64 k,.str p,.int .i64 (m:Nat)] (.tuple [lst (AV.int .i64) .ro l,.bool (cf k p m).2])/\((cf k p m).2=true->l=(cf k p m).1))
  (hcl:∀k p m,(cf k p m).2=true->(cf k p m).1.length=m):Ev X zgA [.str s] (grV (zfT cf s)):=by
 refine zaE (zak hs (zoJ hX) ?_)
 simp only[zoa,go_sem,Nat.reduceEqDiff,reduceCtorEq]
 refine zab (zv6 hX hs s (by omega)) ?_
 unfold zfT
 have hll:=zkJ s
 have hlm:∀p∈(Wo.zaF s).1,p.length<=s.length:=fun p h=>zdb h
 unfold zhS
 generalize Wo.zaF s=L at hll hlm hcf
 obtain ⟨ls,e⟩:=L
 dsimp only at hll hlm hcf⊢
 by_cases he:e=0
 ·subst he
  rw[if_neg (by decide)]
  simp only[go_sem,Nat.reduceEqDiff,Nat.reduceAdd,Int.reduceToNat,Int.reduceLE,reduceCtorEq,Nat.reduceLT]
  by_cases h0:ls=[]
  ·subst h0
   simp only[go_sem,Int.reduceLT,List.length_nil]
   exact ⟨⟨_,rfl⟩,rfl⟩
  ·have hp := List.length_pos_iff.2 h0
   have h2:¬((ls.length:Nat):Int)=0:=by omega
   have hmem:ls.getD 0 []∈ls:=by rw[List.getD_eq_getElem?_getD,List.getElem?_eq_getElem hp];exact List.getElem_mem _
   have hlen:(ls.getD 0 []).length<1000000:=by have:=hlm _ hmem;omega
   have hm0:=zlO (ls.getD 0 [])
   have hmk:=ztg (s:=ls.getD 0 [])
   rw[if_neg h0]
   simp only[go_sem,h2]
   have ed:ls.getD 0 default=ls.getD 0 []:=rfl
   rw[ed]
   refine ⟨by omega,zae (zu4 hX hs (ls.getD 0 []) hlen) fun r1 H1 ⟨⟨K,e1⟩,e2⟩=>?_⟩
   subst e1 e2
   unfold ztv
   generalize zbF (ls.getD 0 [])=B at hm0 hmk
   obtain ⟨a,many,is⟩:=B
   dsimp only at hm0 hmk⊢
   obtain ⟨k,r,l0,l1,c⟩:=a
   simp only[arrX,go_sem,Nat.reduceEqDiff,Nat.reduceAdd,reduceCtorEq,Nat.reduceLT]
   cases is with
   | false =>
    simp only[go_sem,reduceCtorEq]
    exact ⟨⟨_,rfl⟩,rfl⟩
   | true =>
    simp only[go_sem,reduceCtorEq]
    obtain ⟨m,rfl⟩:∃m:Nat,many=m:=⟨many.toNat,by omega⟩
    have hk:=hmk rfl
    dsimp only at hk
    refine ⟨fun h3=>?_,fun h3=>?_⟩
    ·rw[if_pos h3]
     exact ⟨⟨_,rfl⟩,rfl⟩
    ·rw [if_neg h3]
     have hm4:m<=400:=by omega
     have emt:((m:Nat):Int).toNat=m:=by omega
     rw[emt]
     have hcf':∀p j,p∈ls->0<j->j<=20->∃l,Ev X zda [.int .i64 k,.str p,.int .i64 (j:Nat)] (.tuple [lst (AV.int .i64) .ro l,.bool (cf k p j).2])/\((cf k p j).2=true->l=(cf k p j).1):=fun p j hp hj0 hj=>hcf k p j hk hp hj0 hj
     have eH:(.box [.int .i64 0,.int .i64 0,.int .i64 0,.int .i64 0,.sl .ex []]::(K++[Blk.box [.int .i64 k,.int .i64 r,.int .i64 l0,.int .i64 l1,.sl .ex []]])).set (K.length+1) (.box ([AV.int .i64 k,.int .i64 r,.int .i64 l0,.int .i64 l1,.sl .ex []].set 4 (.sl (.tok (.box [.int .i64 0,.int .i64 0,.int .i64 0,.int .i64 0,.sl .ex []]::(K++[Blk.box [.int .i64 k,.int .i64 r,.int .i64 l0,.int .i64 l1,.sl .ex []]])).length 1) [])))++[.tok 0]=.box [.int .i64 0,.int .i64 0,.int .i64 0,.int .i64 0,.sl .ex []]::(K++[.box [.int .i64 k,.int .i64 r,.int .i64 l0,.int .i64 l1,lst (AV.int .i64) (.tok (K.length+2) 1) ([]:List Int)],.tok 0]):=by
      simp [lst]
     refine zbj hs.hm (ι:=Nat) (fun j=>j<=nch m/\(∀i,i<j->pBad cf k ls m i=false)/\j+1<=ls.length) (fun j=>[(10,.int .i64 ((j+1:Nat):Int)),(8,.int .i64 (m:Nat)),(5,lst AV.str .ro ls),(7,.ptr (K.length+1) 0),(2,.ptr 0 0)]) (fun j=>.box [.int .i64 0,.int .i64 0,.int .i64 0,.int .i64 0,.sl .ex []]::(K++[.box [.int .i64 k,.int .i64 r,.int .i64 l0,.int .i64 l1,lst (AV.int .i64) (.tok (K.length+2) 1) (accP cf k ls m j)],.tok (accP cf k ls m j).length])) (fun j=>nch m-j) 0 ⟨⟨Nat.zero_le _,zkG,hp⟩,_,_,zly (K.length+1) 4 1 (cs:=[.int .i64 k,.int .i64 r,.int .i64 l0,.int .i64 l1,.sl .ex []]) (by simp) rfl,?_⟩ fun j hj=>?_
     ·exact ⟨⟨rfl,rfl,rfl,rfl,rfl,trivial⟩,eH⟩
     obtain ⟨j1,j2,j3⟩:=hj
     have hal:=ztU (many:=m) (fun p n=>hcl k p n) j j2
     by_cases hj':j<nch m
     ·have hlt:=zl6.1 hj'
      have h4:(((accP cf k ls m j).length:Nat):Int)<((m:Nat):Int):=by omega
      have hw:IntKind.i64.wrap (((j+1:Nat):Int)+1)=(j:Int)+2:=by rw[wi64 (by omega)];omega
      have hwm:IntKind.i64.wrap (((m:Nat):Int)-(((accP cf k ls m j).length:Nat):Int))=((m-20*j:Nat):Int):=by rw[wi64 (by omega)];omega
      have bad:pBad cf k ls m j=true->zjW cf ls ⟨k,r,l0,l1,c⟩ m=(zA,(j:Int)+2,6):=fun h=>by
       unfold zjW
       rw[Lat.zjy hj' h fun i hi=>j2 i hi]
      have hcj0:=fun hh=>hcf' (ls.getD (j+1) []) (zfz m j) hh (by unfold zfz;omega) (by unfold zfz;omega)
      have hcl2:=hcl k (ls.getD (j+1) []) (zfz m j)
      have epc:cf k (ls.getD (j+1) []) (zfz m j)=pcl cf k ls m j:=rfl
      have eac:=zkX cf k ls m j
      rw[epc]at hcl2
      rw[epc]at hcj0
      by_cases h5:ls.length<=j+1
      ·have h6:((ls.length:Nat):Int)<=((j+1:Nat):Int):=by omega
       rw[bad (by unfold pBad;rw[decide_eq_true (by omega)];rfl)]
       simp only[zcQ,go_sem,Nat.reduceEqDiff,Nat.reduceAdd,Nat.reduceLT,gx0,h4,hwm,h6,hw]
       exact ⟨fun _=>⟨⟨_,rfl⟩,rfl⟩,fun _=>⟨⟨_,rfl⟩,rfl⟩⟩
      ·have h6:¬((ls.length:Nat):Int)<=((j+1:Nat):Int):=by omega
       have hmj:ls.getD (j+1) []∈ls:=by rw[List.getD_eq_getElem?_getD,List.getElem?_eq_getElem (by omega)];exact List.getElem_mem _
       have ed1:ls.getD (j+1) default=ls.getD (j+1) []:=rfl
       have ebd:pBad cf k ls m j=!(pcl cf k ls m j).2:=by unfold pBad;rw[decide_eq_false (by omega),Bool.false_or]
       obtain ⟨l,hcj,hel⟩:=hcj0 hmj
       have hln:zfz m j=min (m-20*j) 20:=rfl
       generalize pcl cf k ls m j=pp at hcl2 eac ebd hcj hel
       obtain ⟨pl,pb⟩:=pp
       dsimp only at hcl2 eac ebd hcj hel
       by_cases h20:(20:Int)<((m-20*j:Nat):Int)
       ·have eln:((zfz m j:Nat):Int)=20:=by omega
        rw[eln]at hcj
        simp only[zcQ,go_sem,Nat.reduceEqDiff,Nat.reduceAdd,Nat.reduceLT,gx0,h4,hwm,h6,h20]
        rw[ed1]
        refine ⟨by omega,za1 hcj ?_⟩
        cases pb with
        | false =>
         simp only[go_sem,Nat.reduceEqDiff,Nat.reduceAdd,Nat.reduceLT]
         rw[hw,bad (by rw[ebd];rfl)]
         exact ⟨⟨_,rfl⟩,rfl⟩
        | true =>
         have hpl:=hcl2 rfl
         have el:=hel rfl
         subst el
         simp only[go_sem,Nat.reduceEqDiff,Nat.reduceAdd,Nat.reduceLT,gx0,gx1,gs0,gs1]
         refine ⟨⟨by omega,by omega⟩,j+1,by omega,⟨hj',fun i hi=>?_,by omega⟩,?_,?_⟩
         ·rcases Nat.lt_or_eq_of_le (Nat.le_of_lt_succ hi) with h7|h7
          ·exact j2 i h7
          ·rw[h7,ebd];rfl
         ·rw[hw];congr 1
         ·rw[eac,List.length_append]
       ·have eln:((zfz m j:Nat):Int)=((m-20*j:Nat):Int):=by omega
        rw[eln]at hcj
        simp only[zcQ,go_sem,Nat.reduceEqDiff,Nat.reduceAdd,Nat.reduceLT,gx0,h4,hwm,h6,h20]
        rw[ed1]
        refine ⟨by omega,za1 hcj ?_⟩
        cases pb with
        | false =>
         simp only[go_sem,Nat.reduceEqDiff,Nat.reduceAdd,Nat.reduceLT]
         rw[hw,bad (by rw[ebd];rfl)]
         exact ⟨⟨_,rfl⟩,rfl⟩
        | true =>
         have hpl:=hcl2 rfl
         have el:=hel rfl
         subst el
         simp only[go_sem,Nat.reduceEqDiff,Nat.reduceAdd,Nat.reduceLT,gx0,gx1,gs0,gs1]
         refine ⟨⟨by omega,by omega⟩,j+1,by omega,⟨hj',fun i hi=>?_,by omega⟩,?_,?_⟩
         ·rcases Nat.lt_or_eq_of_le (Nat.le_of_lt_succ hi) with h7|h7
          ·exact j2 i h7
          ·rw[h7,ebd];rfl
         ·rw[hw];congr 1
         ·rw[eac,List.length_append]
     ·have h4:¬(((accP cf k ls m j).length:Nat):Int)<((m:Nat):Int):=by
       have h8:¬j*20<m:=fun h=>hj' (zl6.2 h)
       omega
      have ej:j=nch m:=by omega
      have hn:Lat.ff (nch m) (pBad cf k ls m)=none:=Lat.zg9 fun i hi=>j2 i (by omega)
      simp only[zcQ,go_sem,Nat.reduceEqDiff,Nat.reduceAdd,Nat.reduceLT,gx0,h4]
      unfold zjW
      rw[hn]
      dsimp only
      have hw:IntKind.i64.wrap (((j+1:Nat):Int)+1)=(j:Int)+2:=by rw[wi64 (by omega)];omega
      refine ⟨fun h5=>?_,fun h5=>?_⟩
      ·rw[if_pos (by omega),hw,ej]
       exact ⟨⟨_,rfl⟩,rfl⟩
      ·rw [if_neg (by omega)]
       have hck:=zuq hX hs ⟨k,r,l0,l1,accP cf k ls m j⟩ (by dsimp only;omega)
       refine zab hck ?_
       rw[<-ej]
       unfold ztC
       by_cases h7:Lat.arrE ⟨k,r,l0,l1,accP cf k ls m j⟩=0
       ·rw[if_neg (by omega)]
        simp only[go_sem,Nat.reduceEqDiff,Nat.reduceAdd,gx0,h7]
        exact ⟨⟨_,rfl⟩,rfl⟩
       ·rw[if_pos h7]
        simp only[go_sem,Nat.reduceEqDiff,Nat.reduceAdd,h7]
        exact ⟨⟨_,rfl⟩,rfl⟩
 ·rw[if_pos he]
  simp only[go_sem,Nat.reduceEqDiff,Nat.reduceAdd,reduceCtorEq,Nat.reduceLT,he]
  exact ⟨⟨_,rfl⟩,rfl⟩
end
end Go.Avm
namespace Go.Avm
open Go Go.Fm Go.Rn Go.Lx
set_option maxRecDepth 10000
theorem zwe (cf:CF)(s:List UInt8):(zfT cf s).1.c.length<=400:=by
  unfold zfT ztv zjW ztC
  repeat' split
  all_goals first
    | exact Nat.zero_le _
    | (rename_i h
       exact (arrG (Decidable.byContradiction h)).2.2.2.1)
section
variable {X:Cx}(hX:X.P=Go.Proofs.Tryz.prog)(hs:Std X)(he:CEnv X)
include hX hs he
theorem zrt (s:List UInt8)(hl:s.length<900000):Ev X zgA [.str s] (grV (zfT cfK s)):=
  zrW         hX hs cfK s (by omega) (fun k p m hk hp h0 hm=>by
    have hpl:=zdb hp
    rcases hk with rfl|rfl
    · exact zqw hX hs p m (by omega) h0
    · exact zqm hX hs p m (by omega) hm) zxJ
theorem zmw (s:List UInt8):Ev X zhe [.str s] (.bool true):=by
  obtain ⟨te,hR⟩:=he.rng
  refine zac hs (zmO hX) 3 ?_
  simp only[zlt,go_sem,Nat.reduceEqDiff,reduceCtorEq]
  refine ⟨fun h=>?_,fun h=>?_⟩
  · refine zab (ztb hX hs he.pow hR) ?_
    simp only[go_sem,Nat.reduceEqDiff,reduceCtorEq]
  · have hG:=zvU hX hs he s (by omega)
    have hG2:=zrt hX hs he s (by omega)
    have hgc:(zfT cfK s).1.c.length<1000000:=by have:=zwe cfK s;omega
    generalize zfT cfK s=g at hG hG2 hgc
    obtain ⟨a,i,e⟩:=g
    dsimp only at hgc
    have hsm:=zzG hX hs a a (by omega)
    rw[Go.Tb.zuj]at hsm
    unfold grV at hG hG2
    dsimp only at hG hG2
    obtain ⟨k,r,l0,l1,c⟩:=a
    refine zab hG ?_
    simp only[zbg,go_sem,Nat.reduceEqDiff,Nat.reduceAdd,reduceCtorEq,Nat.reduceLT]
    refine zab hG2 ?_
    simp only[zbg,go_sem,Nat.reduceEqDiff,Nat.reduceAdd,reduceCtorEq,Nat.reduceLT]
    refine zab hsm ?_
    simp only[go_sem,Nat.reduceEqDiff,reduceCtorEq]
    refine zab (ztb hX hs he.pow hR) ?_
    simp only[go_sem,Nat.reduceEqDiff,reduceCtorEq]
end
theorem zuG {X:Cx}(hX:X.P=Go.Proofs.Tryz.prog)(hs:Std X)(he:CEnv X)(s:List UInt8):Ev X zhe [.str s] (.bool true):=zmw hX hs he s
end Go.Avm
