/- The text of an array. -/
import Derived.Test.YtcldomkahgaplaaGreatDoorAF2
import Derived.Test.YtcldomkahgaplaaGreatDoorA8
import Derived.Test.YtcldomkahgaplaaGreatDoorM2
set_option linter.all false
namespace Go.Avm
open Go Go.Fm
set_option maxRecDepth 10000
theorem lit3 (a b c:Int):AV.sl Perm.ex [.int .i64 a,.int .i64 b,.int .i64 c]=lst (AV.int .i64) .ex [a,b,c]:=id rfl
theorem zCQ:IntKind.i64.wrap 1=1:=by decide
theorem zHF:IntKind.i64.wrap 2=2:=by decide
theorem zHc:IntKind.i64.wrap 3=3:=by decide
section
variable {X:Cx}(hX:X.P=Go.Proofs.Tryz.prog)(hs:Std X)
include hX hs
theorem zBP (l:List Int)(H:Heap):EvM X zbn [lst (AV.int .i64) .ro l,.int .i64 20] H fun r H'=>r=.clo zaA [] [.ptr H.length 0,.ptr (H.length+1) 0]/\H'=H++[.box [lst (AV.int .i64) .ro l],.box [.int .i64 20]]:=by
 refine zaz hs (zea hX) ?_
 simp only[zcj,go_sem,Nat.reduceEqDiff,Nat.reduceAdd,Int.reduceLT,reduceCtorEq,Nat.reduceLT,List.append_assoc,p1g,p1l]
theorem zzA (l:List Int)(H:Heap):EvM X zhq [lst (AV.int .i64) .ro l] H fun r H'=>r=.clo zaA [] [.ptr H.length 0,.ptr (H.length+1) 0]/\H'=H++[.box [lst (AV.int .i64) .ro l],.box [.int .i64 20]]:=by
 refine zaz hs (zmV hX) ?_
 simp only[zkQ,go_sem,Nat.reduceEqDiff,reduceCtorEq]
 refine zae (zBP hX hs l H) fun r H' ⟨e1,e2⟩=>?_
 subst e1 e2
 simp only[go_sem,Nat.reduceEqDiff,reduceCtorEq]
theorem zAP {Q:Exit->Fr->Heap->Prop}{F:FL}(pc:List Int->List UInt8)(k r l0 l1:Int)(y:AV)(c:List Int)(s:List UInt8)(hpc:∀j,Ev X zcn [.int .i64 k,lst (AV.int .i64) .ro ((c.drop (j*20)).take 20)] (.str (pc ((c.drop (j*20)).take 20))))(hpl:∀j,(pc ((c.drop (j*20)).take 20)).length<=2000)(hc:c.length<=400)(hs0:s.length<=1000)
  (hF:FL.has F.get [(37,.clo zaA [] [.ptr 2 0,.ptr 3 0]),(1,.ptr 0 0),(5,.ptr 1 0)])
  (hQ:Q .normal F.get [.box [.int .i64 k,.int .i64 r,.int .i64 l0,.int .i64 l1,y],.bld 61 5 (s++pcsA pc c (nch c.length)),.box [lst (AV.int .i64) .ro c],.box [.int .i64 20],.dead]) :
  wpc X 46 (.rangeF (.t 37) [38] ze5 ze7) Q F.get [.box [.int .i64 k,.int .i64 r,.int .i64 l0,.int .i64 l1,y],.bld 61 5 s,.box [lst (AV.int .i64) .ro c],.box [.int .i64 20]]:=by
 obtain ⟨f1,f2,f3,_⟩:=hF
 refine zmx hs f1 (zdl hX) fun L frc hf hL hps=>?_
 simp only[zb1,go_sem,Nat.reduceAdd]
 refine zaj hs.hm (ι:=Nat) (fun j=>j<=nch c.length) (fun j=>[(4,.int .i64 ((j*20:Nat):Int)),(0,.yv 4),(1,.ptr 2 0),(2,.ptr 3 0)]) (fun j=>[.box [.int .i64 k,.int .i64 r,.int .i64 l0,.int .i64 l1,y],.bld 61 5 (s++pcsA pc c j),.box [lst (AV.int .i64) .ro c],.box [.int .i64 20],.lp L frc]) (fun j=>nch c.length-j) 0 ?_ fun j hj=>?_
 ·exact ⟨Nat.zero_le _,⟨rfl,rfl,rfl,rfl,trivial⟩,by simp [pcsA]⟩
 by_cases hj':j<nch c.length
 ·have h0:=zl6.1 hj'
  have h1:((j*20:Nat):Int)<c.length:=by omega
  have hw:IntKind.i64.wrap (((j*20:Nat):Int)+20)=(((j+1)*20:Nat):Int):=by rw[wi64 (by omega)];omega
  have hm:(if (((c.drop (j*20)).length:Nat):Int)<20 then (((c.drop (j*20)).length:Nat):Int) else 20)=((min 20 (c.length-j*20):Nat):Int):=by
   rw[List.length_drop];split<;>omega
  have hm2:IntKind.i64.wrap (((j*20:Nat):Int)+((min 20 (c.length-j*20):Nat):Int))=((j*20+min 20 (c.length-j*20):Nat):Int):=by rw[wi64 (by omega)];omega
  have heq:((c.map (AV.int .i64)).take (j*20+min 20 (c.length-j*20))).drop (j*20)=((c.drop (j*20)).take 20).map (AV.int .i64):=by
   rw[List.drop_take,Nat.add_sub_cancel_left,<-List.map_drop,<-List.map_take]
   congr 1
   rw[show c.length-j*20=(c.drop (j*20)).length by rw[List.length_drop]]
   exact (List.take_eq_take_min).symm
  have hz:szE 1 (c.map (AV.int .i64))=true:=by
   unfold szE
   rw[List.all_eq_true]
   intro x hx
   obtain ⟨v,_,rfl⟩:=List.mem_map.1 hx
   rfl
  have hlm:(c.map (AV.int .i64)).length=c.length:=List.length_map _
  have hlf:AV.sl .ex (((c.drop (j*20)).take 20).map (AV.int .i64))=lst (AV.int .i64) .ex ((c.drop (j*20)).take 20):=rfl
  have hq:∀p,lst (AV.int .i64) p c=.sl p (c.map (AV.int .i64)):=fun _=>rfl
  simp only[zaS,go_sem,Nat.reduceEqDiff,reduceCtorEq,Nat.reduceLT,h1,hm,hm2]
  refine ⟨by omega,?_⟩
  simp only[hq,heq,hz,hlm,go_sem,Nat.reduceEqDiff,reduceCtorEq]
  refine ⟨by omega,?_⟩
  refine zpQ hs.hm hL hps rfl rfl fun l=>?_
  rw[hf]
  simp only[ze5,ze7,go_sem,Nat.reduceEqDiff,Nat.reduceAdd,Nat.reduceLT,f2]
  refine zab (zDt (hpc j)) ?_
  have hpj:=hpl j
  have hpp:=zyH hpl j
  have hjn:j<=21:=by have:=zl6.1 hj';omega
  have eP:=zrz pc c j
  simp only[go_sem,Nat.reduceEqDiff,Nat.reduceLeDiff,f3]
  refine ⟨by omega,zae (zka (X:=X.in l) hX (i:=1) _ rfl (by simp only[List.length_append,List.length_singleton];omega)) fun r1 H1 ⟨e1,e2⟩=>?_⟩
  subst e1 e2
  simp only[go_sem,Nat.reduceEqDiff,reduceCtorEq,Nat.reduceLT,hw]
  exact ⟨j+1,by omega,hj',rfl,by rw[eP,List.append_assoc]⟩
 ·have h1:¬((j*20:Nat):Int)<c.length:=fun hc=>hj' (zl6.2 (by omega))
  have ej:j=nch c.length:=by omega
  subst ej
  simp only[zaS,go_sem,Nat.reduceEqDiff,reduceCtorEq,Nat.reduceLT,h1]
  refine lq_n rfl ?_
  rw[hf]
  simp only[go_sem]
  exact hQ
variable (hP:X.G (sRen.g 17)=some tabQ)
include hP
theorem zyX (pc:List Int->List UInt8)(a:Lat.Arr)(hpc:∀j,Ev X zcn [.int .i64 a.k,lst (AV.int .i64) .ro ((a.c.drop (j*20)).take 20)] (.str (pc ((a.c.drop (j*20)).take 20))))(hpl:∀j,(pc ((a.c.drop (j*20)).take 20)).length<=2000)(hl:a.c.length<1000000) :
  Ev X ziQ [arrV a] (.tuple [.str (zrB pc a).1,.int .i64 (zrB pc a).2]):=by
 refine zaE (zak hs (zpe hX) ?_)
 by_cases h:Lat.arrE a=0
 ·have e0:zrB pc a=(arrT pc a,0):=if_neg (by omega)
  rw[e0]
  have hck:=zds hX hs a hl
  obtain ⟨gr,g0,g1,gc,gk⟩:=arrG h
  obtain ⟨T,hT⟩:∃T,arrT pc a=T:=⟨_,rfl⟩
  have hT2:headA a++pcsA pc a.c (nch a.c.length)=T:=hT
  rw[hT]
  clear hT e0
  unfold headA at hT2
  obtain ⟨k,r,l0,l1,c⟩:=a
  dsimp only at *
  have hin:∀v∈[r,l0,l1].take (r.toNat+1),-9223372036854775808<=v/\v<=9223372036854775807:=fun v hv=>by
   have:=List.mem_of_mem_take hv
   simp only[List.mem_cons,List.not_mem_nil,or_false]at this
   omega
  have htl:([r,l0,l1].take (r.toNat+1)).length<=3:=by rw[List.length_take];simp only[List.length_cons,List.length_nil];omega
  have hn:=ziH hX hs hP ([r,l0,l1].take (r.toNat+1)) hin (by omega)
  have hnl:=zo6 hin
  have ec:nch c.length<=21:=by unfold nch;omega
  generalize nums ([r,l0,l1].take (r.toNat+1))=w at hn hnl hT2
  rcases gk with rfl|rfl<;>rcases gr with rfl|rfl|rfl
  all_goals
   first|rw[if_neg (by decide)]at hT2|rw[if_pos rfl]at hT2
   simp only[zjj,arrV,go_sem,Nat.reduceEqDiff,Nat.reduceAdd,reduceCtorEq]
   refine zab hck ?_
   simp only[h,go_sem,Nat.reduceEqDiff,Nat.reduceAdd,Int.reduceEq,reduceCtorEq,Nat.reduceLT]
   refine zae (zka hX (i:=1) _ rfl (by simp only[List.length_cons,List.length_nil];omega)) fun r1 H1 ⟨e1,e2⟩=>?_
   subst e1 e2
   simp only[go_sem,Nat.reduceEqDiff,Nat.reduceAdd,Int.reduceAdd,Nat.reduceMul,Int.reduceToNat,Int.reduceLE,Int.reduceLT,reduceCtorEq,Nat.reduceLT]
   simp only[go_sem,Nat.reduceEqDiff,Nat.reduceAdd,Int.reduceToNat,Int.reduceLE,reduceCtorEq,lit3,zCQ,zHF,zHc]
   refine zab hn ?_
   simp only[go_sem,Nat.reduceEqDiff,reduceCtorEq,Nat.reduceLeDiff]
   refine ⟨by omega,zae (zka hX (i:=1) _ rfl (by simp only[List.length_append,List.length_cons,List.length_nil];omega)) fun r1 H1 ⟨e1,e2⟩=>?_⟩
   subst e1 e2
   simp only[go_sem,Nat.reduceEqDiff,Nat.reduceAdd,reduceCtorEq,Nat.reduceLT]
   refine zae (zzA hX hs c _) fun r2 H2 ⟨e1,e2⟩=>?_
   subst e1 e2
   simp only[go_sem,Nat.reduceAdd]
   refine zAP hX hs pc _ _ _ _ _ c _ hpc hpl gc (by simp only[List.length_append,List.length_cons,List.length_nil];omega) ⟨rfl,rfl,rfl,trivial⟩ ?_
   simp only[go_sem,Nat.reduceEqDiff,reduceCtorEq]
   refine zae (ziN hX (i:=1) rfl (by simp)) fun r H' ⟨e1,e2⟩=>?_
   subst e1 e2
   simp only[go_sem,Nat.reduceEqDiff,reduceCtorEq]
   refine ⟨⟨_,rfl⟩,?_⟩
   rw[<-hT2]
   simp [dry,dryL]
 ·have e0:zrB pc a=([],Lat.arrE a):=if_pos h
  rw[e0]
  simp only[zjj,arrV,go_sem,Nat.reduceEqDiff,Nat.reduceAdd,reduceCtorEq]
  refine zab (zds hX hs a hl) ?_
  simp only[h,go_sem,Nat.reduceEqDiff,reduceCtorEq]
  exact ⟨⟨_,rfl⟩,rfl⟩
end
end Go.Avm
namespace Go.Avm
open Go Go.Fm
set_option maxRecDepth 10000
def arrX (a:Lat.Arr):AV:=.agg [.int .i64 a.k,.int .i64 a.r,.int .i64 a.l0,.int .i64 a.l1,.sl .ex []]
section
variable {X:Cx}(hX:X.P=Go.Proofs.Tryz.prog)(hs:Std X){te:Nat}(hR:X.G (sRen.g 16)=some [.ifc te .undef])
include hX hs hR
theorem zs8 (fs:List (List UInt8))(high:Int)(hh:high=1000000000∨high=9223372036854775807)(hfl:fs.length<2000000)(hfm:∀p∈fs,p.length<1000000) :
  Ev X zgH [lst AV.str .ro fs,.int .i64 high] (.tuple [lst (AV.int .i64) .ro (zaJ high fs).1,.bool (zaJ high fs).2]):=by
 refine zaE (zak hs (zpT hX) ?_)
 simp only[znw,go_sem,Nat.reduceEqDiff,Nat.reduceAdd,reduceCtorEq]
 refine zbj hs.hm (ι:=Nat) (fun i=>i<=fs.length/\(fs.take i).all (wOk high)=true) (fun i=>[(13,.int .i64 i),(12,.int .i64 fs.length),(11,lst AV.str .ro fs),(1,.int .i64 high),(6,lst (AV.int .i64) (.tok 0 1) (wN high (fs.take i)))]) (fun i=>[.tok i]) (fun i=>fs.length-i) 0 ⟨⟨Nat.zero_le _,rfl⟩,_,_,zcf 6 1 rfl,?_⟩ fun i hi=>?_
 ·exact ⟨⟨rfl,rfl,rfl,rfl,rfl,trivial⟩,rfl⟩
 obtain ⟨i1,i2⟩:=hi
 by_cases hi':i<fs.length
 ·have h1:(i:Int)<fs.length:=by omega
  have hw:IntKind.i64.wrap ((i:Int)+1)=((i+1:Nat):Int):=by rw[wi64 (by omega)];omega
  have hw2:IntKind.i64.wrap (-1-high)=-1-high:=by rw[wi64 (by omega)]
  have hlt:(wN high (fs.take i)).length=i:=by rw[wN,List.length_map,List.length_take];omega
  have e2:=zpm (high:=high) hi'
  have e3:=zhK (p:=wOk high) hi'
  have hmem:fs.getD i []∈fs:=by rw[List.getD_eq_getElem?_getD,List.getElem?_eq_getElem hi'];exact List.getElem_mem _
  have hfl2:=hfm _ hmem
  simp only[zgh,go_sem,Nat.reduceEqDiff,h1,hw2]
  have ed:fs.getD i default=fs.getD i []:=rfl
  rw[ed]
  refine ⟨by omega,zab (zzZ hX hs hR (fs.getD i []) _ _ hfl2) ?_⟩
  have ei:intV (fs.getD i []) (-1-high) high=.tuple [.int .i64 (wI high (fs.getD i [])).1,.int .i64 (wI high (fs.getD i [])).2]:=rfl
  rw[ei]
  have ew:wOk high (fs.getD i [])=(decide ((wI high (fs.getD i [])).2=0)&&!(decide (high<9223372036854775807)&&decide ((wI high (fs.getD i [])).1<0))):=rfl
  generalize hG:wI high (fs.getD i [])=G at *
  obtain ⟨v,e⟩:=G
  dsimp only at *
  simp only[go_sem,Nat.reduceEqDiff,Nat.reduceAdd,Nat.reduceLT,Nat.reduceLeDiff,app1,hlt,<-e2,hw]
  have bad:wOk high (fs.getD i [])=false->zaJ high fs=([],false):=fun h=>by
   unfold zaJ
   rw[if_neg]
   intro hc
   rw[List.all_eq_true]at hc
   rw[hc _ hmem]at h
   cases h
  refine ⟨fun h=>?_,fun h=>⟨fun h3=>⟨fun h4=>?_,fun h4=>?_⟩,fun h3=>?_⟩⟩
  ·rw[bad (by rw[ew,decide_eq_false h];rfl)]
   exact ⟨⟨_,rfl⟩,rfl⟩
  ·rw[bad (by rw[ew,decide_eq_true h3,decide_eq_true h4];simp)]
   exact ⟨⟨_,rfl⟩,rfl⟩
  ·exact ⟨⟨by omega,by omega⟩,i+1,by omega,⟨hi',by rw[e3,i2,ew,decide_eq_true h,decide_eq_false h4];simp⟩,⟨rfl,rfl⟩,rfl⟩
  ·exact ⟨⟨by omega,by omega⟩,i+1,by omega,⟨hi',by rw[e3,i2,ew,decide_eq_true h,decide_eq_false h3];simp⟩,⟨rfl,rfl⟩,rfl⟩
 ·have h1:¬(i:Int)<fs.length:=by omega
  have ei:i=fs.length:=by omega
  subst ei
  rw[List.take_length]at i2⊢
  simp only[zgh,go_sem,Nat.reduceEqDiff,h1]
  have:zaJ high fs=(wN high fs,true):=if_pos i2
  rw[this]
  exact ⟨⟨_,rfl⟩,rfl⟩
theorem zue {Q:Exit->Fr->Heap->Prop}{F:FL}(H:Heap)(t:List Int)(k r:Int)(y:AV)(ht:t.length<=2)(hin:∀v∈t,0<=v/\v<=1000000000)
  (hF:FL.has F.get [(57,.int .i64 0),(56,.int .i64 t.length),(55,lst (AV.int .i64) .ro t),(2,.ptr H.length 0),(3,.int .i64 1)])
  (hQ:∀F':FL,FL.has F'.get [(2,.ptr H.length 0),(3,.int .i64 (t.foldl (· * ·) 1))]->Q (.exit 1) F'.get (H++[.box [.int .i64 k,.int .i64 r,.int .i64 (t.getD 0 0),.int .i64 (t.getD 1 0),y]])) :
  wpc X 72 (.loop zd3) Q F.get (H++[.box [.int .i64 k,.int .i64 r,.int .i64 0,.int .i64 0,y]]):=by
 refine zaj hs.hm (ι:=Nat) (fun i=>i<=t.length) (fun i=>[(57,.int .i64 i),(56,.int .i64 t.length),(55,lst (AV.int .i64) .ro t),(2,.ptr H.length 0),(3,.int .i64 ((t.take i).foldl (· * ·) 1))]) (fun i=>H++[.box [.int .i64 k,.int .i64 r,.int .i64 (if 0<i then t.getD 0 0 else 0),.int .i64 (if 1<i then t.getD 1 0 else 0),y]]) (fun i=>t.length-i) 0 ⟨Nat.zero_le _,hF,rfl⟩ fun i hi=>?_
 by_cases hi':i<t.length
 ·have h1:(i:Int)<t.length:=by omega
  have hw:IntKind.i64.wrap ((i:Int)+1)=((i+1:Nat):Int):=by rw[wi64 (by omega)];omega
  have hv:=hin (t.getD i 0) (by rw[List.getD_eq_getElem?_getD,List.getElem?_eq_getElem hi'];exact List.getElem_mem _)
  have ef:(t.take (i+1)).foldl (· * ·) 1=(t.take i).foldl (· * ·) 1*t.getD i 0:=by
   rw[List.take_succ_eq_append_getElem hi',List.foldl_append,List.getD_eq_getElem?_getD,List.getElem?_eq_getElem hi']
   rfl
  simp only[zd3,go_sem,Nat.reduceEqDiff,Nat.reduceAdd,Nat.reduceLeDiff,h1,def0,p0g,p0s]
  rcases (show i=0∨i=1 by omega) with rfl|rfl
  ·have hw2:IntKind.i64.wrap (1*t.getD 0 0)=1*t.getD 0 0:=by rw[wi64 (by omega)]
   simp only[go_sem,Nat.reduceAdd,Int.reduceAdd,Nat.reduceMul,Int.reduceLE,Int.reduceLT,Nat.reduceLT,Nat.reduceLeDiff,List.take_zero,List.foldl_nil,hw2]
   exact ⟨1,by omega,hi',⟨by rw[zCQ];rfl,by rw[show 1=0+1 from rfl,ef];rfl⟩,rfl⟩
  ·have hv0:=hin (t.getD 0 0) (by rw[List.getD_eq_getElem?_getD,List.getElem?_eq_getElem (by omega)];exact List.getElem_mem _)
   have e1:(t.take 1).foldl (· * ·) 1=t.getD 0 0:=by
    obtain ⟨a,u,rfl⟩:∃a u,t=a::u:=by
     cases t with
     | nil=>simp at hi'
     | cons a u=>exact ⟨a,u,rfl⟩
    simp
   have h3:t.getD 0 0*t.getD 1 0<=1000000000*1000000000:=Int.mul_le_mul hv0.2 hv.2 hv.1 (by decide)
   have h4:0<=t.getD 0 0*t.getD 1 0:=Int.mul_nonneg hv0.1 hv.1
   refine ⟨by omega,by omega,by omega,2,by omega,hi',⟨by rw[hw],?_⟩,rfl⟩
   rw[e1,wi64 (by omega),<-e1]
   rw[e1,ef,e1]
 ·have h1:¬(i:Int)<t.length:=by omega
  have ei:i=t.length:=by omega
  simp only[zd3,go_sem,Nat.reduceEqDiff,h1]
  have g0:(if 0<i then t.getD 0 0 else 0)=t.getD 0 0:=by
   split
   ·rfl
   ·rw[List.getD_eq_getElem?_getD,List.getElem?_eq_none (by omega)];rfl
  have g1:(if 1<i then t.getD 1 0 else 0)=t.getD 1 0:=by
   split
   ·rfl
   ·rw[List.getD_eq_getElem?_getD,List.getElem?_eq_none (by omega)];rfl
  rw[g0,g1]
  refine hQ _ ⟨rfl,?_,trivial⟩
  rw[ei,List.take_length]
  rfl
theorem zBM (s:List UInt8)(hl:s.length<1000000)(H:Heap):EvM X zjf [.str s] H fun r' H'=>(∃K,H'=H++K)/\r'=.tuple [arrX (zbF s).1,.int .i64 (zbF s).2.1,.bool (zbF s).2.2]:=by
 refine zaz hs (zpy hX) ?_
 simp only[zno,go_sem,Nat.reduceEqDiff,reduceCtorEq]
 refine zab (zlk hX hs s 32 (by omega)) ?_
 have hcn:=Wo.zbW 32 s
 have hcl:=List.count_le_length (a:=(32:UInt8)) (l:=s)
 have hml:∀p∈Wo.splC 32 s,p.length<1000000:=fun p hp=>by have:=Wo.zcb hp;omega
 unfold zbF
 generalize Wo.splC 32 s=f at hcn hml
 obtain ⟨w,fs,rfl⟩:∃w fs,f=w::fs:=by
  cases f with
  | nil=>simp at hcn
  | cons w fs=>exact ⟨w,fs,rfl⟩
 have e1:(w::fs).getD 0 (default:List UInt8)=w:=rfl
 simp only[List.length_cons]at hcn
 have hwh:=zs8 hX hs hR fs 1000000000 (.inl rfl) (by omega) fun p hp=>hml p (List.mem_cons_of_mem _ hp)
 have hin:=ztG (fs:=fs)
 have eb:zgX (w::fs)=if zcM w=0 then (zA,0,false) else if (zaJ 1000000000 fs).2 then zeg (zcM w) (zaJ 1000000000 fs).1 else (zA,0,false):=rfl
 rw[eb]
 generalize zaJ 1000000000 fs=L at hwh hin
 obtain ⟨l,b⟩:=L
 dsimp only at hwh hin⊢
 have key:∀(k:Int) (hk:k=1∨k=2) (Q:Exit->Fr->Heap->Prop),True:=fun _ _ _=>trivial
 simp only[go_sem,Nat.reduceEqDiff,Nat.reduceAdd,Int.reduceToNat,Int.reduceLE,reduceCtorEq,Nat.reduceLeDiff,e1,List.length_cons,p0g,p0s]
 refine ⟨by omega,fun h1=>⟨by omega,zab hwh ?_⟩,fun h1=>⟨fun h2=>⟨by omega,zab hwh ?_⟩,fun h2=>?_⟩⟩
 ·subst h1
  rw[show zcM [105,110,116]=1 from rfl,if_neg (by decide)]
  cases b with
  | false =>
   simp only[go_sem,Nat.reduceEqDiff,Nat.reduceAdd,reduceCtorEq,Nat.reduceLT,p0g,p0s]
   exact ⟨⟨_,rfl⟩,rfl⟩
  | true =>
   have hin:=hin rfl
   simp only[go_sem,Nat.reduceEqDiff,Nat.reduceAdd,Int.reduceToNat,Int.reduceLE,reduceCtorEq,Nat.reduceLT,Nat.reduceLeDiff,p0g,p0s]
   cases l with
   | nil =>
    refine ⟨fun _=>⟨⟨_,rfl⟩,rfl⟩,fun h=>absurd rfl h⟩
   | cons r t =>
    have hr:=hin r List.mem_cons_self
    have eg:(r::t).getD 0 (default:Int)=r:=rfl
    have hw3:IntKind.i64.wrap (r+1)=r+1:=by rw[wi64 (by omega)]
    simp only[eg,hw3,List.length_cons]
    refine ⟨fun h=>absurd h (by omega),fun _=>⟨by omega,fun h3=>?_,fun h3=>⟨by omega,fun h4=>?_,fun h4=>⟨by omega,by omega,?_⟩⟩⟩⟩
    ·rw[zeU (by omega)]
     exact ⟨⟨_,rfl⟩,rfl⟩
    ·rw[zeU (by omega)]
     exact ⟨⟨_,rfl⟩,rfl⟩
    ·have er:r=(t.length:Int):=by omega
     subst er
     rw[zpz (by omega)]
     refine zue hX hs hR H t _ _ _ (by omega) (fun v hv=>hin v (List.mem_cons_of_mem _ hv)) ⟨rfl,rfl,rfl,rfl,rfl,trivial⟩ fun F' hF'=>?_
     obtain ⟨f1,f2,_⟩:=hF'
     simp only[go_sem,Nat.reduceEqDiff,Nat.reduceAdd,f1,f2,p0g,p0s]
     exact ⟨⟨_,rfl⟩,rfl⟩
 ·subst h2
  rw[show zcM [99,104,97,114]=2 from rfl,if_neg (by decide)]
  cases b with
  | false =>
   simp only[go_sem,Nat.reduceEqDiff,Nat.reduceAdd,reduceCtorEq,Nat.reduceLT,p0g,p0s]
   exact ⟨⟨_,rfl⟩,rfl⟩
  | true =>
   have hin:=hin rfl
   simp only[go_sem,Nat.reduceEqDiff,Nat.reduceAdd,Int.reduceToNat,Int.reduceLE,reduceCtorEq,Nat.reduceLT,Nat.reduceLeDiff,p0g,p0s]
   cases l with
   | nil =>
    refine ⟨fun _=>⟨⟨_,rfl⟩,rfl⟩,fun h=>absurd rfl h⟩
   | cons r t =>
    have hr:=hin r List.mem_cons_self
    have eg:(r::t).getD 0 (default:Int)=r:=rfl
    have hw3:IntKind.i64.wrap (r+1)=r+1:=by rw[wi64 (by omega)]
    simp only[eg,hw3,List.length_cons]
    refine ⟨fun h=>absurd h (by omega),fun _=>⟨by omega,fun h3=>?_,fun h3=>⟨by omega,fun h4=>?_,fun h4=>⟨by omega,by omega,?_⟩⟩⟩⟩
    ·rw[zeU (by omega)]
     exact ⟨⟨_,rfl⟩,rfl⟩
    ·rw[zeU (by omega)]
     exact ⟨⟨_,rfl⟩,rfl⟩
    ·have er:r=(t.length:Int):=by omega
     subst er
     rw[zpz (by omega)]
     refine zue hX hs hR H t _ _ _ (by omega) (fun v hv=>hin v (List.mem_cons_of_mem _ hv)) ⟨rfl,rfl,rfl,rfl,rfl,trivial⟩ fun F' hF'=>?_
     obtain ⟨f1,f2,_⟩:=hF'
     simp only[go_sem,Nat.reduceEqDiff,Nat.reduceAdd,f1,f2,p0g,p0s]
     exact ⟨⟨_,rfl⟩,rfl⟩
 ·rw[show zcM w=0 by unfold zcM;rw[if_neg h1,if_neg h2],if_pos rfl]
  exact ⟨⟨_,rfl⟩,rfl⟩
end
end Go.Avm
