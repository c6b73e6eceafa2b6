/- Lines of cells. -/
import Derived.Test.YtcldomkahgaplaaGreatDoorAF4
import Derived.Test.YtcldomkahgaplaaGreatDoorAR4
import Derived.Test.YtcldomkahgaplaaGreatDoorAZ
import Derived.Test.YtcldomkahgaplaaGreatDoorML2
set_option linter.all false
namespace Go.Avm
open Go Go.Fm Go.Rn Go.Lx
set_option maxRecDepth 10000
def pcK (k:Int)(l:List Int):List UInt8:=if k=1 then nums l else qt (byB l)
def rnsL (s:List UInt8):List Int:=if ckE s=0 then zbd s else []
def lnC (s:List UInt8):List Int:=if (zeh s).2.2=0/\(zeh s).1.length=1 then rnsL ((zeh s).1.getD 0 default).1.s else []
def cellC (s:List UInt8)(m:Nat):List Int×Bool:=(lnC s,decide ((lnC s).length=m)&&decide (qt (byB (lnC s))=s))
def cfK:CF:=fun k s m=>if k=1 then zkk s m else cellC s m
structure CEnv (X:Cx):Prop where
 fst:X.G 0=some tab0
 acc:X.G 1=some tab1
 non:X.G 2=some [.int .i64 0,.int .i64 0]
 pow:X.G (sRen.g 17)=some tabQ
 syn:∃te,X.G 5=some [.ifc te .undef]
 rng:∃te,X.G (sRen.g 16)=some [.ifc te .undef]
 db:X.G 8=some tabB
def R64 (l:List Int):Prop:=∀v∈l,-9223372036854775808<=v/\v<=9223372036854775807
theorem zpu (l:List Int):(zbE l).length<=4*l.length:=by
 induction l with
 | nil=>simp [zbE]
 | cons a r ih =>
  have h:(enc a).length<=4:=by
   by_cases hv:valid a=true
   ·exact (zaQ hv).2
   ·simp [enc,hv]
  rw[show zbE (a::r)=enc a++zbE r from rfl,List.length_append,List.length_cons]
  omega
theorem zkW (l:List Int):(byB l).length<=4*l.length:=by
 have:=zpu l
 unfold byB
 split
 ·exact this
 ·simp
theorem zqU (l:List Int):okT (byB l)=true:=by
 unfold byB
 split
 ·rename_i h
  have hv:=zjz l h.1
  exact decide_eq_true (zxP l hv)
 ·rfl
theorem zsE (l:List Int)(h:∀r∈l,valid r=true)(hl:l.length<=20):byB l=zbE l:=by
 have hb:badI l=-1:=zib l fun j hj=>h _ (by rw[List.getD_eq_getElem?_getD,List.getElem?_eq_getElem hj];exact List.getElem_mem _)
 have:=zpu l
 exact (zEB (by omega) (by omega)).1
theorem zuD (s:List UInt8):∀r∈rnsL s,valid r=true:=fun r hr=>by
 unfold rnsL at hr
 split at hr
 ·exact zdk _ _ hr
 ·cases hr
theorem zhQ (s:List UInt8):∀r∈lnC s,valid r=true:=fun r hr=>by
 unfold lnC at hr
 split at hr
 ·exact zuD _ _ hr
 ·cases hr
theorem zFa {l:List Int}(h:∀r∈l,valid r=true):R64 l:=fun v hv=>by have:=zao (h v hv);omega
theorem zxJ (k:Int)(p:List UInt8)(m:Nat)(h:(cfK k p m).2=true):(cfK k p m).1.length=m:=by
 unfold cfK at h⊢
 split at h
 ·rename_i hk
  rw[if_pos hk]
  unfold zkk at h⊢
  simp only[Bool.and_eq_true,decide_eq_true_eq]at h
  exact h.1
 ·rename_i hk
  rw[if_neg hk]
  unfold cellC at h⊢
  simp only[Bool.and_eq_true,decide_eq_true_eq]at h
  exact h.1
theorem zkC (x:PT):(ptV x).cells=[.int .i64 x.1.kind,.int .i64 (x.2.1:Nat),.int .i64 (x.2.2:Nat),.int .i64 x.1.n,.str x.1.s]:=rfl
section
variable {X:Cx}(hX:X.P=Go.Proofs.Tryz.prog)(hs:Std X)(he:CEnv X)
include hX hs he
theorem zvt (k:Int)(l:List Int)(hv:R64 l)(hl:l.length<=20):Ev X zcn [.int .i64 k,lst (AV.int .i64) .ro l] (.str (pcK k l)):=by
 refine zaE (zak hs (zic hX) ?_)
 unfold pcK
 by_cases hk:k=1
 ·subst hk
  simp only[zgI,go_sem,Nat.reduceEqDiff,Nat.reduceAdd,reduceCtorEq]
  refine zab (ziH hX hs he.pow l hv (by omega)) ?_
  simp only[go_sem,Nat.reduceEqDiff,reduceCtorEq]
  exact ⟨⟨_,rfl⟩,rfl⟩
 ·rw[if_neg hk]
  have h2:=zkW l
  have hq:=zy0 hX hs he.db he.fst he.acc (byB l) (by omega)
  rw[if_neg (by omega),zqU,if_neg (by decide)]at hq
  simp only[zgI,go_sem,Nat.reduceEqDiff,Nat.reduceAdd,reduceCtorEq,hk]
  refine zab (zyk hX hs l (fun r hr=>by have:=hv r hr;omega) (by omega)) ?_
  simp only[go_sem,Nat.reduceEqDiff,Nat.reduceAdd,reduceCtorEq,Nat.reduceLT]
  refine zab hq ?_
  simp only[go_sem,Nat.reduceEqDiff,Nat.reduceAdd,reduceCtorEq,Nat.reduceLT]
  exact ⟨⟨_,rfl⟩,rfl⟩
theorem zwz (k:Int)(s:List UInt8)(m:Nat)(hl:s.length<900000)(hm:m<=20):Ev X zc8 [.int .i64 k,.str s,.int .i64 (m:Nat)] (.tuple [lst (AV.int .i64) .ro (cfK k s m).1,.bool (cfK k s m).2]):=by
 obtain ⟨te,hR⟩:=he.rng
 obtain ⟨te',hS⟩:=he.syn
 unfold cfK
 by_cases hk:k=1
 ·subst hk
  exact zqI hX hs he.pow hR s m hl
 ·rw [if_neg hk]
  refine zaE (zak hs (zhN hX) ?_)
  have hL:=zBm hX hs he.non he.db he.pow hR hS s (by omega)
  have hval:=zhQ s
  have hG0:X.G 0=some zi0:=zE4▸he.fst
  have hG1:X.G 1=some zkn:=zDs▸he.acc
  have hru:=zxZ hX hs hG0 hG1 ((zeh s).1.getD 0 default).1.s
  have hpc:=zvt hX hs he k (lnC s) (zFa hval)
  have epc:pcK k (lnC s)=qt (byB (lnC s)):=if_neg hk
  rw[epc]at hpc
  unfold cellC
  have eln:lnC s=if (zeh s).2.2=0/\(zeh s).1.length=1 then rnsL ((zeh s).1.getD 0 default).1.s else []:=rfl
  have hle:=zzx s
  generalize lnC s=l at *
  generalize zeh s=L at *
  obtain ⟨ts,f,e⟩:=L
  dsimp only at *
  unfold zAv at hL
  by_cases c:e=0/\ts.length=1
  ·obtain ⟨c1,c2⟩:=c
   rw[if_pos ⟨c1,c2⟩]at eln
   unfold rnsL at eln
   rw[<-eln]at hru
   have c3:((ts.length:Nat):Int)=1:=by omega
   simp only[zeL,go_sem,Nat.reduceEqDiff,Nat.reduceAdd,reduceCtorEq,hk]
   refine zab hL ?_
   simp only[go_sem,Nat.reduceEqDiff,Nat.reduceAdd,Int.reduceToNat,Int.reduceLE,Int.reduceLT,reduceCtorEq,Nat.reduceLT,c1,c3]
   rw[zkC]
   have htl:(ts.getD 0 default).1.s.length<=4*s.length:=hle _ (by rw[List.getD_eq_getElem?_getD,List.getElem?_eq_getElem (by omega)];exact List.getElem_mem _)
   simp only[go_sem,Nat.reduceEqDiff,reduceCtorEq]
   refine ⟨by omega,zab hru ?_⟩
   simp only[go_sem,Nat.reduceEqDiff,Nat.reduceAdd,reduceCtorEq,Nat.reduceLT]
   refine ⟨fun h=>?_,fun h=>?_⟩
   ·refine zab (hpc (by omega)) ?_
    simp only[go_sem,Nat.reduceEqDiff,reduceCtorEq]
    rw[decide_eq_true (show l.length=m by omega),Bool.true_and]
    exact ⟨⟨_,rfl⟩,rfl⟩
   ·rw[decide_eq_false (show ¬l.length=m by omega),Bool.false_and]
    exact ⟨⟨_,rfl⟩,rfl⟩
  ·rw [if_neg c]at eln
   subst eln
   have hpc0:=hpc (Nat.zero_le _)
   have e0:lst (AV.int .i64) .ro ([]:List Int)=.sl .ro []:=rfl
   rw[e0]at hpc0
   by_cases c1:e=0
   ·have c3:¬((ts.length:Nat):Int)=1:=fun h=>c ⟨c1,by omega⟩
    simp only[zeL,go_sem,Nat.reduceEqDiff,Nat.reduceAdd,reduceCtorEq,hk]
    refine zab hL ?_
    simp only[go_sem,Nat.reduceEqDiff,Nat.reduceAdd,reduceCtorEq,Nat.reduceLT,c1,c3]
    refine ⟨fun h=>?_,fun h=>?_⟩
    ·refine zab hpc0 ?_
     simp only[go_sem,Nat.reduceEqDiff,reduceCtorEq]
     rw[decide_eq_true (show 0=m by omega),Bool.true_and]
     exact ⟨⟨_,rfl⟩,rfl⟩
    ·rw[decide_eq_false (show ¬0=m by omega),Bool.false_and]
     exact ⟨⟨_,rfl⟩,rfl⟩
   ·simp only[zeL,go_sem,Nat.reduceEqDiff,Nat.reduceAdd,reduceCtorEq,hk]
    refine zab hL ?_
    simp only[go_sem,Nat.reduceEqDiff,Nat.reduceAdd,reduceCtorEq,Nat.reduceLT,c1]
    refine ⟨fun h=>?_,fun h=>?_⟩
    ·refine zab hpc0 ?_
     simp only[go_sem,Nat.reduceEqDiff,reduceCtorEq]
     rw[decide_eq_true (show 0=m by omega),Bool.true_and]
     exact ⟨⟨_,rfl⟩,rfl⟩
    ·rw[decide_eq_false (show ¬0=m by omega),Bool.false_and]
     exact ⟨⟨_,rfl⟩,rfl⟩
end
end Go.Avm
namespace Go.Avm
open Go Go.Fm Go.Rn Go.Lx
set_option maxRecDepth 10000
section
variable {X:Cx}(hX:X.P=Go.Proofs.Tryz.prog)(hs:Std X)(he:CEnv X)
include hX hs he
theorem zvU (s:List UInt8)(hl:s.length<900000):Ev X zez [.str s] (grV (zfT cfK s)):=by
 obtain ⟨te,hR⟩:=he.rng
 exact ztA hX hs hR cfK s (by omega) (fun k p m _ hp _ hm=>zwz hX hs he k p m (by have:=zdb hp;omega) hm) zxJ
end
end Go.Avm
