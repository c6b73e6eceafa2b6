/- Parse. -/
import Derived.Test.YtcldomkahgaplaaGreatDoorAF3
import Derived.Test.YtcldomkahgaplaaGreatDoorM2
set_option linter.all false
namespace Go.Avm
open Go Go.Fm
set_option maxRecDepth 10000
section
variable {X:Cx}(hX:X.P=Go.Proofs.Tryz.prog)(hs:Std X)
include hX hs
theorem zgj (n:Int):Ev X zdP [.int .i64 n] (grV (zA,n,6)):=by
 refine zaE (zak hs (zlD hX) ?_)
 simp only[zkb,go_sem,Nat.reduceEqDiff,Nat.reduceAdd,reduceCtorEq]
 exact ⟨⟨_,rfl⟩,rfl⟩
variable {te:Nat}(hR:X.G (sRen.g 16)=some [.ifc te .undef])
include hR
theorem ztA      (cf:CF)(s:List UInt8)(hl:s.length<1000000)
  (hcf:∀k p m,(k=1∨k=2)->p∈(Wo.zaF s).1->k=(zbF ((Wo.zaF s).1.getD 0 [])).1.k->m<=20->Ev X zc8 [.int .i64 k,.str p,.int .i64 (m:Nat)] (.tuple [lst (AV.int .i64) .ro (cf k p m).1,.bool (cf k p m).2]))
  (hcl:∀k p m,(cf k p m).2=true->(cf k p m).1.length=m):Ev X zez [.str s] (grV (zfT cf s)):=by
 refine zaE (zak hs (zoo hX) ?_)
 simp only[zns,go_sem,Nat.reduceEqDiff,reduceCtorEq]
 refine zab (ztw hX hs s (by omega)) ?_
 unfold zfT
 have hll:=zkJ s
 have hlm:∀p∈(Wo.zaF s).1,p.length<=s.length:=fun p h=>zdb h
 unfold zhS
 generalize Wo.zaF s=L at hll hlm hcf
 obtain ⟨ls,e⟩:=L
 dsimp only at hll hlm hcf⊢
 by_cases he:e=0
 ·subst he
  rw[if_neg (by decide)]
  simp only[go_sem,Nat.reduceEqDiff,Nat.reduceAdd,Int.reduceToNat,Int.reduceLE,reduceCtorEq,Nat.reduceLT]
  by_cases h0:ls=[]
  ·subst h0
   simp only[go_sem,Int.reduceLT,List.length_nil]
   refine zab (zgj hX hs 1) ?_
   simp only[grV,zA,zbg,go_sem,Nat.reduceEqDiff,Nat.reduceAdd,reduceCtorEq,Nat.reduceLT]
   exact ⟨⟨_,rfl⟩,rfl⟩
  ·have hp:=List.length_pos_iff.2 h0
   have h2:¬((ls.length:Nat):Int)=0:=by omega
   have hmem:ls.getD 0 []∈ls:=by rw[List.getD_eq_getElem?_getD,List.getElem?_eq_getElem hp];exact List.getElem_mem _
   have hlen:(ls.getD 0 []).length<1000000:=by have:=hlm _ hmem;omega
   have hm0:=zlO (ls.getD 0 [])
   have hmk:=ztg (s:=ls.getD 0 [])
   rw[if_neg h0]
   simp only[go_sem,h2]
   have ed:ls.getD 0 default=ls.getD 0 []:=rfl
   rw[ed]
   refine ⟨by omega,zae (zBM hX hs hR (ls.getD 0 []) hlen _) fun r1 H1 ⟨⟨K,e1⟩,e2⟩=>?_⟩
   subst e1 e2
   unfold ztv
   generalize zbF (ls.getD 0 [])=B at hm0 hmk hcf
   obtain ⟨a,many,is⟩:=B
   dsimp only at hm0 hmk hcf⊢
   obtain ⟨k,r,l0,l1,c⟩:=a
   simp only[arrX,go_sem,Nat.reduceEqDiff,Nat.reduceAdd,reduceCtorEq,Nat.reduceLT]
   cases is with
   | false =>
    simp only[go_sem,reduceCtorEq]
    refine zab (zgj hX hs 1) ?_
    simp only[grV,zA,zbg,go_sem,Nat.reduceEqDiff,Nat.reduceAdd,reduceCtorEq,Nat.reduceLT]
    exact ⟨⟨_,rfl⟩,rfl⟩
   | true =>
    simp only[go_sem,reduceCtorEq]
    obtain ⟨m,rfl⟩:∃m:Nat,many=m:=⟨many.toNat,by omega⟩
    have hk:=hmk rfl
    dsimp only at hk
    refine ⟨fun h3=>?_,fun h3=>?_⟩
    ·rw[if_pos h3]
     exact ⟨⟨_,rfl⟩,rfl⟩
    ·rw [if_neg h3]
     have hm4:m<=400:=by omega
     have emt:((m:Nat):Int).toNat=m:=by omega
     rw[emt]
     have hcf':∀p j,p∈ls->j<=20->Ev X zc8 [.int .i64 k,.str p,.int .i64 (j:Nat)] (.tuple [lst (AV.int .i64) .ro (cf k p j).1,.bool (cf k p j).2]):=fun p j hp hj=>hcf k p j hk hp rfl hj
     refine zbj hs.hm (ι:=Nat) (fun j=>j<=nch m/\(∀i,i<j->pBad cf k ls m i=false)/\j+1<=ls.length) (fun j=>[(9,.int .i64 ((m-20*j:Nat):Int)),(3,.int .i64 ((j+1:Nat):Int)),(5,lst AV.str .ro ls),(6,.clo zdP [] []),(2,.ptr 0 0)]) (fun j=>.box [.int .i64 k,.int .i64 r,.int .i64 l0,.int .i64 l1,lst (AV.int .i64) (.tok (K.length+1) 1) (accP cf k ls m j)]::(K++[.tok (accP cf k ls m j).length])) (fun j=>nch m-j) 0 ⟨⟨Nat.zero_le _,zkG,hp⟩,_,_,zly 0 4 1 rfl rfl,?_⟩ fun j hj=>?_
     ·exact ⟨⟨rfl,rfl,rfl,rfl,rfl,trivial⟩,rfl⟩
     obtain ⟨j1,j2,j3⟩:=hj
     have hal:=ztU (many:=m) (fun p n=>hcl k p n) j j2
     by_cases hj':j<nch m
     ·have hlt:=zl6.1 hj'
      have h4:(0:Int)<((m-20*j:Nat):Int):=by omega
      have hw:IntKind.i64.wrap (((j+1:Nat):Int)+1)=(j:Int)+2:=by rw[wi64 (by omega)];omega
      have bad:pBad cf k ls m j=true->zjW cf ls ⟨k,r,l0,l1,c⟩ m=(zA,(j:Int)+2,6):=fun h=>by
       unfold zjW
       rw[Lat.zjy hj' h fun i hi=>j2 i hi]
      simp only[zgm,go_sem,Nat.reduceEqDiff,Nat.reduceAdd,Nat.reduceLT,h4]
      by_cases h5:j+1=ls.length
      ·have h6:((j+1:Nat):Int)=((ls.length:Nat):Int):=by omega
       simp only[go_sem,h6]
       have hw1:IntKind.i64.wrap (((ls.length:Nat):Int)+1)=(j:Int)+2:=by rw[wi64 (by omega)];omega
       rw[hw1,bad (by unfold pBad;rw[decide_eq_true (by omega)];rfl)]
       refine zab (zgj hX hs _) ?_
       simp only[grV,zA,zbg,go_sem,Nat.reduceEqDiff,Nat.reduceAdd,Nat.reduceLT]
       exact ⟨⟨_,rfl⟩,rfl⟩
      ·have h6:¬((j+1:Nat):Int)=((ls.length:Nat):Int):=by omega
       simp only[go_sem,h6]
       have hm:(if (20:Int)<((m-20*j:Nat):Int) then 20 else ((m-20*j:Nat):Int))=((zfz m j:Nat):Int):=by unfold zfz;split<;>omega
       have hmj:ls.getD (j+1) []∈ls:=by rw[List.getD_eq_getElem?_getD,List.getElem?_eq_getElem (by omega)];exact List.getElem_mem _
       have ed1:ls.getD (j+1) default=ls.getD (j+1) []:=rfl
       rw[hm,ed1]
       have hcj:=hcf' _ (zfz m j) hmj (by unfold zfz;omega)
       have epc:cf k (ls.getD (j+1) []) (zfz m j)=pcl cf k ls m j:=rfl
       have hcl2:=hcl k (ls.getD (j+1) []) (zfz m j)
       rw[epc]at hcj hcl2
       have eac:=zkX cf k ls m j
       have ebd:pBad cf k ls m j=!(pcl cf k ls m j).2:=by unfold pBad;rw[decide_eq_false (by omega),Bool.false_or]
       refine ⟨by omega,za1 hcj ?_⟩
       generalize pcl cf k ls m j=pp at hcl2 eac ebd
       obtain ⟨pl,pb⟩:=pp
       dsimp only at hcl2 eac ebd⊢
       cases pb with
       | false =>
        simp only[go_sem,Nat.reduceEqDiff,Nat.reduceAdd,Nat.reduceLT]
        rw[hw,bad (by rw[ebd];rfl)]
        refine zab (zgj hX hs _) ?_
        simp only[grV,zA,zbg,go_sem,Nat.reduceEqDiff,Nat.reduceAdd,Nat.reduceLT]
        exact ⟨⟨_,rfl⟩,rfl⟩
       | true =>
        have hpl:=hcl2 rfl
        have hln:zfz m j=min (m-20*j) 20:=rfl
        have hw3:IntKind.i64.wrap (((m-20*j:Nat):Int)-(pl.length:Nat))=((m-20*(j+1):Nat):Int):=by rw[wi64 (by omega)];omega
        simp only[go_sem,Nat.reduceEqDiff,Nat.reduceAdd,Nat.reduceLT,gx0,gs0,hw3]
        refine ⟨⟨by omega,by omega⟩,j+1,by omega,⟨hj',fun i hi=>?_,by omega⟩,⟨rfl,?_⟩,?_⟩
        ·rcases Nat.lt_or_eq_of_le (Nat.le_of_lt_succ hi) with h7|h7
         ·exact j2 i h7
         ·rw[h7,ebd];rfl
        ·rw[hw];congr 1
        ·rw[eac,List.length_append]
     ·have h4:¬(0:Int)<((m-20*j:Nat):Int):=by
       have h8:¬j*20<m:=fun h=>hj' (zl6.2 h)
       omega
      have ej:j=nch m:=by omega
      have hn:Lat.ff (nch m) (pBad cf k ls m)=none:=Lat.zg9 fun i hi=>j2 i (by omega)
      simp only[zgm,go_sem,Nat.reduceEqDiff,Nat.reduceAdd,h4]
      unfold zjW
      rw[hn]
      dsimp only
      have hw:IntKind.i64.wrap (((j+1:Nat):Int)+1)=(j:Int)+2:=by rw[wi64 (by omega)];omega
      refine ⟨fun h5=>?_,fun h5=>?_⟩
      ·rw[if_pos (by omega),hw]
       refine zab (zgj hX hs _) ?_
       simp only[grV,zA,zbg,go_sem,Nat.reduceEqDiff,Nat.reduceAdd,Nat.reduceLT]
       rw[ej]
       exact ⟨⟨_,rfl⟩,rfl⟩
      ·rw [if_neg (by omega)]
       have hck:=zds hX hs ⟨k,r,l0,l1,accP cf k ls m j⟩ (by dsimp only;omega)
       refine zab hck ?_
       rw[<-ej]
       unfold ztC
       by_cases h7:Lat.arrE ⟨k,r,l0,l1,accP cf k ls m j⟩=0
       ·rw[if_neg (by omega)]
        simp only[go_sem,Nat.reduceEqDiff,Nat.reduceAdd,h7]
        exact ⟨⟨_,rfl⟩,rfl⟩
       ·rw[if_pos h7]
        simp only[go_sem,Nat.reduceEqDiff,Nat.reduceAdd,h7]
        exact ⟨⟨_,rfl⟩,rfl⟩
 ·rw[if_pos he]
  simp only[go_sem,Nat.reduceEqDiff,Nat.reduceAdd,reduceCtorEq,Nat.reduceLT,he]
  exact ⟨⟨_,rfl⟩,rfl⟩
end
end Go.Avm
namespace Go.Avm
open Go Go.Fm
set_option maxRecDepth 10000
def cfI:CF:=fun _=>zkk
def matA:Lat.Arr:=⟨1,2,2,2,[1,-20,300,4]⟩
def marT:Go.Tb.Tab:=⟨[[109,97,114,107],[103,114,97,100,101]],[⟨1,1,2,0,[3,12]⟩,⟨2,1,2,0,[97,98]⟩]⟩
theorem sh_A:zrB nums matA=([105,110,116,32,50,32,50,32,50,10,49,32,45,50,48,32,51,48,48,32,52,10],0):=by kernel_rfl
theorem sh_P:picR matA=([32,32,49,32,45,50,48,10,51,48,48,32,32,32,52,10],0):=by kernel_rfl
theorem sh_T:zqn marT=([109,97,114,107,32,32,103,114,97,100,101,10,45,45,45,45,32,32,45,45,45,45,45,10,32,32,32,51,32,32,97,32,32,32,32,10,32,32,49,50,32,32,98,32,32,32,32,10],0):=by kernel_rfl
theorem sh_R:zfT cfI [105,110,116,32,49,32,51,10,49,32,50,10]=(zA,2,6):=by kernel_rfl
theorem sh_G:zAS [49,32,50,10,51,10]=(zA,2,11):=by kernel_rfl
theorem sh_K:(zbF ((Wo.zaF [105,110,116,32,49,32,51,10,49,32,50,10]).1.getD 0 [])).1.k=1:=by kernel_rfl
theorem matI:∀v∈matA.c,-9223372036854775808<=v/\v<=9223372036854775807:=by decide
theorem marI:∀a∈marT.c,∀v∈a.c,-9223372036854775808<=v/\v<=9223372036854775807:=by decide
section
variable {X:Cx}(hX:X.P=Go.Proofs.Tryz.prog)(hs:Std X)(hP:X.G (sRen.g 17)=some tabQ)
include hX hs hP
theorem zqG (l:List Int)(hv:∀v∈l,-9223372036854775808<=v/\v<=9223372036854775807)(hl:l.length<1000000):Ev X zcn [.int .i64 1,lst (AV.int .i64) .ro l] (.str (nums l)):=by
 refine zac hs (zic hX) 0 ?_
 simp only[zgI,go_sem,Nat.reduceEqDiff,Nat.reduceAdd,reduceCtorEq]
 refine zab (ziH hX hs hP l hv hl) ?_
 simp only[go_sem,Nat.reduceEqDiff,reduceCtorEq]
variable {te:Nat}(hR:X.G (sRen.g 16)=some [.ifc te .undef])
include hR
theorem zqI (s:List UInt8)(m:Nat)(hl:s.length<900000):Ev X zc8 [.int .i64 1,.str s,.int .i64 (m:Nat)] (.tuple [lst (AV.int .i64) .ro (zkk s m).1,.bool (zkk s m).2]):=by
 refine zaE (zak hs (zhN hX) ?_)
 simp only[zeL,go_sem,Nat.reduceEqDiff,Nat.reduceAdd,reduceCtorEq]
 refine zab (zlk hX hs s 32 (by omega)) ?_
 have hcn:=Wo.zbW 32 s
 have hcl:=List.count_le_length (a:=(32:UInt8)) (l:=s)
 have hml:∀p∈Wo.splC 32 s,p.length<1000000:=fun p hp=>by have:=Wo.zcb hp;omega
 have hwi:∀v∈(zaJ 9223372036854775807 (Wo.splC 32 s)).1,-9223372036854775808<=v/\v<=9223372036854775807:=zA9 _
 have hwl:(zaJ 9223372036854775807 (Wo.splC 32 s)).1.length<=(Wo.splC 32 s).length:=zxa _ _
 unfold zkk
 have hwh:=zs8 hX hs hR (Wo.splC 32 s) 9223372036854775807 (.inr rfl) (by omega) hml
 generalize zaJ 9223372036854775807 (Wo.splC 32 s)=L at hwh hwi hwl
 obtain ⟨l,b⟩:=L
 dsimp only at hwh hwi hwl⊢
 simp only[go_sem,Nat.reduceEqDiff,reduceCtorEq]
 refine zab hwh ?_
 simp only[go_sem,Nat.reduceEqDiff,Nat.reduceAdd,reduceCtorEq,Nat.reduceLT]
 refine ⟨fun h=>?_,fun h=>?_⟩
 ·refine zab (zqG hX hs hP l hwi (by omega)) ?_
  simp only[go_sem,Nat.reduceEqDiff,reduceCtorEq]
  rw[decide_eq_true (show l.length=m by omega),Bool.true_and]
  exact ⟨⟨_,rfl⟩,rfl⟩
 ·rw[decide_eq_false (show ¬l.length=m by omega),Bool.false_and]
  exact ⟨⟨_,rfl⟩,rfl⟩
theorem zqY:Ev X ze3 [] (arrV matA):=by
 refine zaE (zak hs (zmG hX) ?_)
 simp only[zlI,go_sem,Nat.reduceEqDiff,Nat.reduceAdd,reduceCtorEq,Nat.reduceLT,Nat.reduceLeDiff]
 exact ⟨⟨_,rfl⟩,rfl⟩
theorem zyg:Ev X zjh [] (tabV marT):=by
 refine zaE (zak hs (zog hX) ?_)
 simp only[znZ,go_sem,Nat.reduceEqDiff,Nat.reduceAdd,reduceCtorEq,Nat.reduceLT,Nat.reduceLeDiff]
 exact ⟨⟨_,rfl⟩,rfl⟩
theorem ztb:Ev X zgx [] (.bool true):=by
 refine zac hs (zoB hX) 2 ?_
 have hA:=zyX hX hs hP nums matA (fun j=>zqG hX hs hP _ (fun v hv=>matI v (List.mem_of_mem_drop (List.mem_of_mem_take hv))) (by rw[List.length_take,List.length_drop];exact Nat.lt_of_le_of_lt (Nat.min_le_left _ _) (by decide)))
  (fun j=>by
   have h1:=zo6 (l:=(matA.c.drop (j*20)).take 20) fun v hv=>matI v (List.mem_of_mem_drop (List.mem_of_mem_take hv))
   have h2:((matA.c.drop (j*20)).take 20).length<=20:=by rw[List.length_take];exact Nat.min_le_left _ _
   omega) (by decide)
 have hPi:=zvl hX hs hP matA matI (by decide)
 have hT:=zyP hX hs hP marT marI (by decide)
 have hPa:=ztA hX hs hR cfI [105,110,116,32,49,32,51,10,49,32,50,10] (by decide) (fun k p m hk hp hk2 hm=>by
  rw[sh_K]at hk2
  subst hk2
  exact zqI hX hs hP hR p m (by have:=zdb hp;simp only[List.length_cons,List.length_nil]at this;omega)) (fun k p m h=>by
   unfold cfI zkk at h⊢
   simp only[Bool.and_eq_true,decide_eq_true_eq]at h
   exact h.1)
 have hG:=zAA hX hs hR [49,32,50,10,51,10] (by decide)
 rw[sh_A]at hA
 rw[sh_P]at hPi
 rw[sh_T]at hT
 rw[sh_R,grV]at hPa
 rw[sh_G,grV]at hG
 simp only[zn3,go_sem]
 refine zab (zqY hX hs hP hR) ?_
 simp only[go_sem,reduceCtorEq]
 refine zab hA ?_
 simp only[go_sem,Nat.reduceEqDiff,Nat.reduceAdd,reduceCtorEq,Nat.reduceLT]
 refine zab (zqY hX hs hP hR) ?_
 simp only[go_sem,Nat.reduceEqDiff,reduceCtorEq]
 refine zab hPi ?_
 simp only[go_sem,Nat.reduceEqDiff,Nat.reduceAdd,reduceCtorEq,Nat.reduceLT]
 refine zab (zyg hX hs hP hR) ?_
 simp only[go_sem,Nat.reduceEqDiff,reduceCtorEq]
 refine zab hT ?_
 simp only[go_sem,Nat.reduceEqDiff,Nat.reduceAdd,reduceCtorEq,Nat.reduceLT]
 refine zab hPa ?_
 simp only[zA,zbg,go_sem,Nat.reduceEqDiff,Nat.reduceAdd,reduceCtorEq,Nat.reduceLT]
 refine zab hG ?_
 simp only[zA,zbg,go_sem,Nat.reduceEqDiff,Nat.reduceAdd,reduceCtorEq,Nat.reduceLT]
end
end Go.Avm
