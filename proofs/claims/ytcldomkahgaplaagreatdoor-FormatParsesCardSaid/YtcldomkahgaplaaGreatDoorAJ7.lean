/- The reference's first lines, walked. -/
import Derived.Test.YtcldomkahgaplaaGreatDoorAJ6
set_option linter.all false
namespace Go.Avm
open Go Go.Fm Go.Rn Go.Lx
set_option maxRecDepth 10000
section
variable {X:Cx}(hX:X.P=Go.Proofs.Tryz.prog)(hs:Std X)
include hX hs
theorem ztQ {Q:Exit->Fr->Heap->Prop}{F:FL}(w a:List UInt8)(ns:List (List UInt8))(k r:Int)(hn:ns.length<=2)(hl:∀p∈ns,p.length<1000000)(er:r=ns.length)
  (hF:FL.has F.get [(10,.int .i64 0),(5,lst AV.str .ro (w::a::ns)),(6,.ptr 2 0),(9,.int .i64 1),(2,.ptr 1 0)])
  (hbad:ns.all (wOk 1000000000)=false->∀(F':FL) (b:List AV),FL.has F'.get [(2,.ptr 1 0),(3,.int .i64 0),(4,.bool false)]->Q .ret F'.get [.box [.int .i64 0,.int .i64 0,.int .i64 0,.int .i64 0,.sl .ex []],.box [.int .i64 0,.int .i64 0,.int .i64 0,.int .i64 0,.sl .ex []],.box b])
  (hQ:ns.all (wOk 1000000000)=true->∀F':FL,FL.has F'.get [(2,.ptr 1 0),(6,.ptr 2 0),(9,.int .i64 ((wN 1000000000 ns).foldl (· * ·) 1))]->Q (.exit 0) F'.get [.box [.int .i64 0,.int .i64 0,.int .i64 0,.int .i64 0,.sl .ex []],.box [.int .i64 0,.int .i64 0,.int .i64 0,.int .i64 0,.sl .ex []],.box [.int .i64 k,.int .i64 r,.int .i64 ((wN 1000000000 ns).getD 0 0),.int .i64 ((wN 1000000000 ns).getD 1 0),.sl .ex []]]) :
  wpc X 88 (.loop zdR) Q F.get [.box [.int .i64 0,.int .i64 0,.int .i64 0,.int .i64 0,.sl .ex []],.box [.int .i64 0,.int .i64 0,.int .i64 0,.int .i64 0,.sl .ex []],.box [.int .i64 k,.int .i64 r,.int .i64 0,.int .i64 0,.sl .ex []]]:=by
 have htl:(wN 1000000000 ns).length=ns.length:=List.length_map _
 refine zaj hs.hm (ι:=Nat) (fun i=>i<=ns.length/\(ns.take i).all (wOk 1000000000)=true) (fun i=>[(10,.int .i64 i),(5,lst AV.str .ro (w::a::ns)),(6,.ptr 2 0),(9,.int .i64 ((wN 1000000000 (ns.take i)).foldl (· * ·) 1)),(2,.ptr 1 0)]) (fun i=>[.box [.int .i64 0,.int .i64 0,.int .i64 0,.int .i64 0,.sl .ex []],.box [.int .i64 0,.int .i64 0,.int .i64 0,.int .i64 0,.sl .ex []],.box [.int .i64 k,.int .i64 r,.int .i64 (if 0<i then (wN 1000000000 ns).getD 0 0 else 0),.int .i64 (if 1<i then (wN 1000000000 ns).getD 1 0 else 0),.sl .ex []]]) (fun i=>ns.length-i) 0 ⟨⟨Nat.zero_le _,rfl⟩,hF,rfl⟩ fun i hi=>?_
 obtain ⟨i1,i2⟩:=hi
 by_cases hi':i<ns.length
 ·have h1:(i:Int)<r:=by omega
  have hw:IntKind.i64.wrap ((i:Int)+1)=((i+1:Nat):Int):=by rw[wi64 (by omega)];omega
  have hw2:IntKind.i64.wrap (2+(i:Int))=((i+2:Nat):Int):=by rw[wi64 (by omega)];omega
  have hmem:ns.getD i []∈ns:=by rw[List.getD_eq_getElem?_getD,List.getElem?_eq_getElem hi'];exact List.getElem_mem _
  have hg:ns.getD i default=ns.getD i []:=rfl
  have hI:=zsc hX hs (ns.getD i []) 0 1000000000 (hl _ hmem)
  have hat:=zhK (p:=wOk 1000000000) hi'
  have hwt:=zpm (high:=1000000000) hi'
  rw[i2,Bool.true_and]at hat
  have hok:=zvN (ns.getD i [])
  have eN:∀j,j<ns.length->(wN 1000000000 ns).getD j 0=(wI 1000000000 (ns.getD j [])).1:=fun j hj=>by
   unfold wN
   rw[List.getD_eq_getElem?_getD,List.getElem?_map,List.getElem?_eq_getElem hj,List.getD_eq_getElem?_getD,List.getElem?_eq_getElem hj]
   rfl
  have eNi:=eN i hi'
  unfold intV at hI
  simp only[zdR,go_sem,Nat.reduceEqDiff,Nat.reduceAdd,Nat.reduceLT,h1,hw2]
  rw[hg]
  refine ⟨by omega,zab hI ?_⟩
  by_cases he:(Wo.intS (ns.getD i []) 0 1000000000).2=0
  ·obtain ⟨k1,k2,k3,k4⟩:=hok.1 he
   rw[k1]at hat
   rw[he,<-k2]
   rw[k2]at eNi hwt
   rw[<-k2]at eNi hwt
   generalize (wI 1000000000 (ns.getD i [])).1=v at *
   simp only[go_sem,Nat.reduceEqDiff,Nat.reduceAdd,Nat.reduceLT,Nat.reduceLeDiff,hw]
   have ef:(wN 1000000000 (ns.take (i+1))).foldl (· * ·) 1=(wN 1000000000 (ns.take i)).foldl (· * ·) 1*v:=by
    rw[hwt,List.foldl_append]
    rfl
   rcases (show i=0∨i=1 by omega) with rfl|rfl
   ·refine ⟨by omega,by omega,1,by omega,⟨hi',hat⟩,⟨rfl,?_⟩,by rw[<-eNi];rfl⟩
    rw[ef]
    show AV.int .i64 (IntKind.i64.wrap (1*v))=AV.int .i64 (1*v)
    rw[wi64 (by omega)]
   ·have hi0:0<ns.length:=by omega
    have hw0:=zpm (high:=1000000000) hi0
    have ha0:=zhK (p:=wOk 1000000000) hi0
    rw[i2]at ha0
    have ha0:wOk 1000000000 (ns.getD 0 [])=true:=by
     simpa using ha0.symm
    have h00:=zvN (ns.getD 0 [])
    have hz:(Wo.intS (ns.getD 0 []) 0 1000000000).2=0:=Decidable.byContradiction fun hc=>by
     rw[h00.2 hc]at ha0
     cases ha0
    obtain ⟨_,_,q3,q4⟩:=h00.1 hz
    generalize (wI 1000000000 (ns.getD 0 [])).1=v0 at *
    have e1:(wN 1000000000 (ns.take 1)).foldl (· * ·) 1=v0:=by
     rw[hw0]
     show 1*v0=v0
     omega
    have h3:v0*v<=1000000000*1000000000:=Int.mul_le_mul q4 k4 k3 (by decide)
    have h4:0<=v0*v:=Int.mul_nonneg q3 k3
    refine ⟨by omega,by omega,2,by omega,⟨hi',hat⟩,⟨rfl,?_⟩,by rw[<-eNi];rfl⟩
    rw[ef,e1,wi64 (by omega)]
  ·have hb:=hok.2 he
   have hbf:ns.all (wOk 1000000000)=false:=by
    cases ha:ns.all (wOk 1000000000) with
    | false=>rfl
    | true =>
     have:=List.all_eq_true.1 ha _ hmem
     rw[hb]at this
     cases this
   simp only[go_sem,Nat.reduceEqDiff,Nat.reduceAdd,Nat.reduceLT,he]
   exact hbad hbf _ _ ⟨rfl,rfl,rfl,trivial⟩
 ·have h1:¬(i:Int)<r:=by omega
  have ei:i=ns.length:=by omega
  subst ei
  rw[List.take_length]at i2
  simp only[zdR,go_sem,Nat.reduceEqDiff,Nat.reduceAdd,Nat.reduceLT,h1]
  have g0:(if 0<ns.length then (wN 1000000000 ns).getD 0 0 else 0)=(wN 1000000000 ns).getD 0 0:=by
   split
   ·rfl
   ·rw[List.getD_eq_getElem?_getD,List.getElem?_eq_none (by omega)];rfl
  have g1:(if 1<ns.length then (wN 1000000000 ns).getD 1 0 else 0)=(wN 1000000000 ns).getD 1 0:=by
   split
   ·rfl
   ·rw[List.getD_eq_getElem?_getD,List.getElem?_eq_none (by omega)];rfl
  rw[g0,g1,List.take_length]
  exact hQ i2 _ ⟨rfl,rfl,rfl,trivial⟩
end
end Go.Avm
namespace Go.Avm
open Go Go.Fm Go.Rn Go.Lx
set_option maxRecDepth 10000
theorem znS {w:List UInt8}{fs:List (List UInt8)}(h:zcM w=0∨fs=[]∨3<fs.length):zgX (w::fs)=(zA,0,false):=by
 have e:zgX (w::fs)=if zcM w=0 then (zA,0,false) else if (zaJ 1000000000 fs).2 then zeg (zcM w) (zaJ 1000000000 fs).1 else (zA,0,false):=rfl
 rw[e]
 split
 ·rfl
 ·rename_i h0
  rcases h with h|h|h
  ·exact absurd h h0
  ·subst h;rfl
  ·split
   ·rename_i h2
    unfold zaJ at h2⊢
    split at h2
    ·rename_i ha
     rw[if_pos ha]
     have hl:(wN 1000000000 fs).length=fs.length:=List.length_map _
     show zeg (zcM w) (wN 1000000000 fs)=_
     match hm:wN 1000000000 fs,hl with
     | r::t,hl =>
      rw[List.length_cons]at hl
      exact zeU fun hc=>by omega
     | [],hl=>rfl
    ·cases h2
   ·rfl
section
variable {X:Cx}(hX:X.P=Go.Proofs.Tryz.prog)(hs:Std X)
include hX hs
set_option maxHeartbeats 1000000 in
theorem zu4 (s:List UInt8)(hl:s.length<1000000):EvM X zjn [.str s] [.box [.int .i64 0,.int .i64 0,.int .i64 0,.int .i64 0,.sl .ex []]] fun r' H'=>(∃K,H'=[.box [.int .i64 0,.int .i64 0,.int .i64 0,.int .i64 0,.sl .ex []]]++K)/\r'=.tuple [arrX (zbF s).1,.int .i64 (zbF s).2.1,.bool (zbF s).2.2]:=by
 refine zaz hs (zpl hX) ?_
 simp only[znF,go_sem,Nat.reduceEqDiff,reduceCtorEq]
 refine zab (znM hX hs s hl) ?_
 have hcn:=Wo.zbW 32 s
 have hcl:=List.count_le_length (a:=(32:UInt8)) (l:=s)
 have hml:∀p∈Wo.splC 32 s,p.length<1000000:=fun p hp=>by have:=Wo.zcb hp;omega
 unfold zbF
 generalize Wo.splC 32 s=f at hcn hml
 obtain ⟨w,fs,rfl⟩:∃w fs,f=w::fs:=by
  cases f with
  | nil=>simp at hcn
  | cons w fs=>exact ⟨w,fs,rfl⟩
 have e1:(w::fs).getD 0 (default:List UInt8)=w:=rfl
 simp only[List.length_cons]at hcn
 by_cases hk:w=[99,104,97,114]∨w=[105,110,116]
 ·have hk0:zcM w≠0:=by rcases hk with rfl|rfl<;>decide
  by_cases hn:fs=[]∨3<fs.length
  ·rw [znS (.inr hn)]
   have hg:((fs.length+1:Nat):Int)<2∨4<((fs.length+1:Nat):Int):=by
    rcases hn with rfl|hn
    ·left;decide
    ·right;omega
   rcases hk with hw|hw
   ·have hw':(w=[99,104,97,114])=True:=eq_true hw
    rcases hg with hg|hg
    ·simp only[go_sem,Nat.reduceEqDiff,Nat.reduceAdd,Int.reduceToNat,Int.reduceLE,reduceCtorEq,Nat.reduceLeDiff,e1,hw',hg]
     exact ⟨by omega,by omega,⟨_,rfl⟩,rfl⟩
    ·have hg2:¬((fs.length+1:Nat):Int)<2:=by omega
     simp only[go_sem,Nat.reduceEqDiff,Nat.reduceAdd,Int.reduceToNat,Int.reduceLE,reduceCtorEq,Nat.reduceLeDiff,e1,hw',hg,hg2]
     exact ⟨by omega,by omega,⟨_,rfl⟩,rfl⟩
   ·have hw':(w=[105,110,116])=True:=eq_true hw
    have hw2:(w=[99,104,97,114])=False:=eq_false fun h=>by rw[hw]at h;revert h;decide
    rcases hg with hg|hg
    ·simp only[go_sem,Nat.reduceEqDiff,Nat.reduceAdd,Int.reduceToNat,Int.reduceLE,reduceCtorEq,Nat.reduceLeDiff,e1,hw',hw2,hg]
     exact ⟨by omega,by omega,by omega,⟨_,rfl⟩,rfl⟩
    ·have hg2:¬((fs.length+1:Nat):Int)<2:=by omega
     simp only[go_sem,Nat.reduceEqDiff,Nat.reduceAdd,Int.reduceToNat,Int.reduceLE,reduceCtorEq,Nat.reduceLeDiff,e1,hw',hw2,hg,hg2]
     exact ⟨by omega,by omega,by omega,⟨_,rfl⟩,rfl⟩
  ·obtain ⟨a,ns,rfl⟩:∃a ns,fs=a::ns:=by
    cases fs with
    | nil=>exact absurd (.inl rfl) hn
    | cons a ns=>exact ⟨a,ns,rfl⟩
   have hns:ns.length<=2:=by
    rcases Nat.lt_or_ge 3 (a::ns).length with h|h
    ·exact absurd (.inr h) hn
    ·simpa using h
   have hg1:¬((ns.length+1+1:Nat):Int)<2:=by omega
   have hg2:¬4<((ns.length+1+1:Nat):Int):=by omega
   have hI:=zsc hX hs a 0 2 (hml a (by simp))
   have hbad:=zxt (w:=w) (a:=a) (ns:=ns)
   have hgood:=zzd (w:=w) (a:=a) (ns:=ns) hk0
   have e2:(a::ns).getD 0 (default:List UInt8)=a:=rfl
   have hir:=(zoh a).1
   have hnl:∀p∈ns,p.length<1000000:=fun p hp=>hml p (by simp [hp])
   have hwn:(wN 1000000000 ns).length=ns.length:=List.length_map _
   unfold intV at hI
   generalize Wo.intS a 0 2=R at hI hbad hgood hir
   obtain ⟨r,e⟩:=R
   dsimp only at hI hbad hgood hir
   rcases hk with hw|hw
   ·have hw':(w=[99,104,97,114])=True:=eq_true hw
    have hkw:zcM w=2:=by rw[hw];rfl
    simp only[go_sem,Nat.reduceEqDiff,Nat.reduceAdd,Int.reduceToNat,Int.reduceLE,reduceCtorEq,Nat.reduceLeDiff,e1,e2,List.length_cons,hw',hg1,hg2]
    refine ⟨by omega,by omega,by omega,zab hI ?_⟩
    simp only[go_sem,Nat.reduceEqDiff,Nat.reduceAdd,reduceCtorEq,Nat.reduceLT,Nat.reduceLeDiff]
    refine ⟨fun he=>?_,fun he=>?_⟩
    ·rw[hbad fun h=>he h.1]
     exact ⟨⟨_,rfl⟩,rfl⟩
    ·obtain ⟨_,_,r1,r2⟩:=hir he
     have hw2:IntKind.i64.wrap (2+r)=2+r:=by rw[wi64 (by omega)]
     rw[hw2]
     refine ⟨fun h3=>?_,fun h3=>?_⟩
     ·rw[hbad fun h=>h3 (by omega)]
      exact ⟨⟨_,rfl⟩,rfl⟩
     ·have er:((ns.length:Nat):Int)=r:=by omega
      rw[hgood he er,hkw]
      refine ztQ hX hs w a ns 2 r hns hnl er.symm ⟨rfl,rfl,rfl,rfl,rfl,trivial⟩ (fun hb F' b hF'=>?_) (fun hb F' hF'=>?_)
      ·obtain ⟨f1,f2,f3,_⟩:=hF'
       rw[hb,if_neg (by decide)]
       simp only[go_sem,Nat.reduceAdd,f1,f2,f3]
       exact ⟨⟨_,rfl⟩,rfl⟩
      ·obtain ⟨f1,f2,f3,_⟩:=hF'
       rw[if_pos hb,er]
       simp only[go_sem,Nat.reduceEqDiff,Nat.reduceAdd,f1,f2,f3]
       exact ⟨⟨_,rfl⟩,rfl⟩
   ·have hw':(w=[105,110,116])=True:=eq_true hw
    have hw2':(w=[99,104,97,114])=False:=eq_false fun h=>by rw[hw]at h;revert h;decide
    have hkw:zcM w=1:=by rw[hw];rfl
    simp only[go_sem,Nat.reduceEqDiff,Nat.reduceAdd,Int.reduceToNat,Int.reduceLE,reduceCtorEq,Nat.reduceLeDiff,e1,e2,List.length_cons,hw',hw2',hg1,hg2]
    refine ⟨by omega,by omega,by omega,by omega,zab hI ?_⟩
    simp only[go_sem,Nat.reduceEqDiff,Nat.reduceAdd,reduceCtorEq,Nat.reduceLT,Nat.reduceLeDiff]
    refine ⟨fun he=>?_,fun he=>?_⟩
    ·rw[hbad fun h=>he h.1]
     exact ⟨⟨_,rfl⟩,rfl⟩
    ·obtain ⟨_,_,r1,r2⟩:=hir he
     have hw2:IntKind.i64.wrap (2+r)=2+r:=by rw[wi64 (by omega)]
     rw[hw2]
     refine ⟨fun h3=>?_,fun h3=>?_⟩
     ·rw[hbad fun h=>h3 (by omega)]
      exact ⟨⟨_,rfl⟩,rfl⟩
     ·have er:((ns.length:Nat):Int)=r:=by omega
      rw[hgood he er,hkw]
      refine ztQ hX hs w a ns 1 r hns hnl er.symm ⟨rfl,rfl,rfl,rfl,rfl,trivial⟩ (fun hb F' b hF'=>?_) (fun hb F' hF'=>?_)
      ·obtain ⟨f1,f2,f3,_⟩:=hF'
       rw[hb,if_neg (by decide)]
       simp only[go_sem,Nat.reduceAdd,f1,f2,f3]
       exact ⟨⟨_,rfl⟩,rfl⟩
      ·obtain ⟨f1,f2,f3,_⟩:=hF'
       rw[if_pos hb,er]
       simp only[go_sem,Nat.reduceEqDiff,Nat.reduceAdd,f1,f2,f3]
       exact ⟨⟨_,rfl⟩,rfl⟩
 ·have h1:¬w=[99,104,97,114]:=fun h=>hk (.inl h)
  have h2:¬w=[105,110,116]:=fun h=>hk (.inr h)
  have hk0:zcM w=0:=by unfold zcM;rw[if_neg h2,if_neg h1]
  rw[znS (.inl hk0)]
  simp only[go_sem,Nat.reduceEqDiff,Nat.reduceAdd,Int.reduceToNat,Int.reduceLE,reduceCtorEq,Nat.reduceLeDiff,e1,h1,h2]
  exact ⟨by omega,by omega,by omega,⟨_,rfl⟩,rfl⟩
end
end Go.Avm
