/- Bytes as masks. -/
import Derived.Test.YtcldomkahgaplaaGreatDoorA8
import Derived.Test.YtcldomkahgaplaaGreatDoorM1
import Derived.SliceStrings
import Derived.Lib.SmallJoins
import Derived.ChangeMaps5
import Derived.OpenShut
import Derived.SizedLaws
import Derived.Handed
set_option linter.all false
namespace Go.Avm
open Go
theorem nxt1 {n i:Nat}{P:Nat->Prop}(hi:i<n)(h:∀j,j<i->P j)(hp:P i)(hn:n<9223372036854775807) :
  ∃j,n-j<n-i/\(j<=n/\∀k,k<j->P k)/\AV.int .i64 (IntKind.i64.wrap ((i:Int)+1))=AV.int .i64 (j:Int):=
 ⟨i+1,by omega,⟨by omega,fun k hk=>by
  by_cases e:k=i
  ·rw[e];exact hp
  ·exact h k (by omega)⟩,by rw[wi64 (by omega)];rfl⟩
theorem zkG {P:Nat->Prop}(j:Nat)(h:j<0):P j:=absurd h (Nat.not_lt_zero j)
def tb (n:Nat)(f:Nat->AV):List AV:=(List.range n).map f
theorem zfr (n:Nat)(f:Nat->AV):(tb n f).length=n:=by simp [tb]
theorem tb_get? {n i:Nat}(f:Nat->AV)(h:i<n):(tb n f)[i]?=some (f i):=by simp [tb,List.getElem?_range h]
theorem zBu {n i:Nat}(f:Nat->AV)(d:AV)(h:i<n):(tb n f).getD i d=f i:=by
 rw[List.getD_eq_getElem?_getD,tb_get? f h];rfl
theorem zpd {n:Nat}{f f':Nat->AV}(h:∀i,i<n->f i=f' i):tb n f=tb n f':=
 List.map_congr_left fun i hi=>h i (List.mem_range.1 hi)
theorem zwq {n i:Nat}(f:Nat->AV)(v:AV):(tb n f).set i v=tb n (fun j=>if j=i then v else f j):=by
 apply List.ext_getElem?
 intro k
 rw[List.getElem?_set]
 by_cases hk:k<n
 ·rw[tb_get? _ hk,zfr]
  by_cases hki:i=k
  ·subst hki;simp [hk,tb_get? _ hk]
  ·rw[if_neg hki,tb_get? _ hk,if_neg (fun e=>hki e.symm)]
 ·have h1:(tb n f)[k]?=none:=by rw[List.getElem?_eq_none];rw[zfr];omega
  have h2:(tb n (fun j=>if j=i then v else f j))[k]?=none:=by rw[List.getElem?_eq_none];rw[zfr];omega
  rw[h1,h2,zfr]
  split<;>simp;omega
theorem ztp (n:Nat)(v:AV):List.replicate n v=tb n (fun _=>v):=by
 apply List.ext_getElem
 ·simp [tb]
 ·intro i h1 h2;simp [tb]
theorem rc_1 (n:Nat)(v:AV):zh1 n [v]=tb n (fun _=>v):=ztp n v
abbrev n8 (m:Nat):AV:=.int .u8 (m:Int)
theorem zEM (sz id0 off m cp s:Nat)(k:IntKind)(n:Int):idxX sz (.rsl id0 off m cp s) (.int k n)=some (decide (0<=n)&&decide (n<m)&&decide (s=sz),.ptr id0 (off+n.toNat*sz),none):=id rfl
theorem zFX (n:Nat)(k:IntKind)(g:Nat->Int):(tb n fun c=>.int k (g c)).all zah=true:=by simp [tb,zah]
theorem zEq (H:Heap)(m n:Nat)(k:IntKind)(g:Nat->Int):(tb n fun c=>.int k (g c)).map (fin H m)=tb n fun c=>.int k (g c):=by
 simp only[tb,List.map_map]
 refine List.map_congr_left fun c _=>?_
 simp only[Function.comp,fi_i]
theorem zBl (n:Nat)(f:Nat->AV):(tb n f).take n=tb n f:=by
 rw[List.take_of_length_le (by rw[zfr];exact Nat.le_refl _)]
theorem zAZ (n:Nat)(g:Nat->Bool):(tb n fun c=>.bool (g c)).all zah=true:=by simp [tb,zah]
theorem zAr (H:Heap)(m n:Nat)(g:Nat->Bool):(tb n fun c=>.bool (g c)).map (fin H m)=tb n fun c=>.bool (g c):=by
 simp only[tb,List.map_map]
 refine List.map_congr_left fun c _=>?_
 simp only[Function.comp,fi_b]
theorem zoE:∀l:List AV,dryL l=l.map dry
 | []=>rfl
 | x::l=>by simp only[dryL,List.map_cons,zoE l]
theorem zr9 (n:Nat)(g:Nat->Bool):dryL (tb n fun c=>.bool (g c))=tb n fun c=>.bool (g c):=by
 rw[zoE]
 simp only[tb,List.map_map]
 exact List.map_congr_left fun c _=>rfl
theorem zGr (n:Nat)(k:IntKind)(g:Nat->Int):dryL (tb n fun c=>.int k (g c))=tb n fun c=>.int k (g c):=by
 rw[zoE]
 simp only[tb,List.map_map]
 exact List.map_congr_left fun c _=>rfl
theorem ze4:∀(vs cs:List AV) (pre:List AV),cs.length=vs.length->setCells (pre++cs) pre.length vs=pre++vs
 | [],cs,pre,h=>by
  have:cs=[]:=List.length_eq_zero_iff.1 h
  subst this;rfl
 | v::vs,[],pre,h=>by simp at h
 | v::vs,c::cs,pre,h=>by
  simp only[setCells,List.set_append_right _ _ (Nat.le_refl _),Nat.sub_self,List.set_cons_zero]
  have:=ze4 vs cs (pre++[v]) (by simpa using h)
  simpa using this
theorem zCv (n:Nat)(f g:Nat->AV):setCells (tb n f) 0 (tb n g)=tb n g:=by
 have:=ze4 (tb n g) (tb n f) [] (by rw[zfr,zfr])
 simpa using this
theorem zGV {H:Heap}{n i:Nat}(f:Nat->AV)(h:i<n):ldX H (.vp ((tb n f).drop i))=some (true,f i,none):=by
 have h1:i<(tb n f).length:=by rw[zfr];exact h
 rw[List.drop_eq_getElem_cons h1]
 have h2:=tb_get? f h
 rw[List.getElem?_eq_getElem h1]at h2
 simp only[Option.some.injEq]at h2
 rw[h2]
 rfl
theorem zEe {n:Nat}{cs:List AV}(f:Nat->AV)(h:cs.length=n):setCells cs 0 (tb n f)=tb n f:=by
 have:=ze4 (tb n f) cs [] (by rw[zfr,h])
 simpa using this
attribute [go_sem] zEM zAZ zEe zAr zr9 zGr zCv zFX zEq zBl zfr Nat.le_refl rc_1
end Go.Avm
namespace Go.Avm
open Go Go.ChangeShapes Go.WideShapes Go.ChangeAt Go.WideElems Go.RowKit Go.Lib Go.Joins Go.ChangeMaps Go.Deep
section
variable {H:Type}{enc:TypeId×Value->H}{P:Program}{W:World}
theorem zlQ {g:Gh}{w:World}:∀ss:List ByteArray,RelL (ss.map fun s=>AV.str s.data.toList) g w (ss.map Value.string)
 | []=>by simp [RelL]
 | z::t=>by
  simp only[List.map_cons,RelL]
  exact ⟨_,_,rfl,by simp only[Rel];exact ⟨z,rfl,rfl⟩,zlQ t⟩
theorem zwO {t:TypeId}{v:Value}{d:DataW H}{p:List MemPlace}(ht:P.underlying t=some .string){b0:Nat}(hv:Value.okWide P W .any b0 t v)(h:DataW.Trod enc P W 0 (fun _=>true) true t v d p) :
  ∃s:List UInt8,Rel (.str s) (gAll W) W v:=by
 obtain ⟨s,rfl,_,_,_⟩:=open_string ht hv h
 exact ⟨s.data.toList,by simp only[Rel];exact ⟨s,rfl,rfl⟩⟩
end
end Go.Avm
namespace Go.Avm
open Go Go.ChangeShapes Go.WideShapes Go.ChangeAt Go.WideElems Go.RowKit Go.Lib Go.Joins Go.ChangeMaps Go.Deep
inductive Lf where
 | int (k:IntKind)
 | str
 | bool
 | sl (ag:Bool) (ks:List Lf)
mutual
def LfR:Lf->AV->Prop
 | .int k,v=>∃z,v=.int k z/\(Lit.int k z).wf=true
 | .str,v=>∃s:List UInt8,v=.str s/\s.length<=maxLen
 | .bool,v=>∃b,v=.bool b
 | .sl ag ks,v=>∃es:List AV,v=.sl .ro es/\es.length<=maxLen/\∀e∈es,∃avs,LfL ks avs/\((ag=true/\e=.agg avs)∨(ag=false/\avs=[e]))
def LfL:List Lf->List AV->Prop
 | [],vs=>vs=[]
 | k::ks,vs=>∃v rest,vs=v::rest/\LfR k v/\LfL ks rest
end
def isAgg (P:Program)(t:TypeId):Bool:=match P.underlying t with
 | some (.struct _)|some (.array _ _)=>true
 | _=>false
def zsl (P:Program)(r:TypeId->Option (List Lf)):List (TypeId×Nat)->Nat->Option (List Lf)
 | [],_=>some []
 | (t,o)::fs,off=>match r t with
  | some ks=>if o=off/\ks.length=P.cellsOf t then match zsl P r fs (off+ks.length) with
    | some rest=>some (ks++rest)
    | none=>none
   else none
  | none=>none
def leaves (P:Program):Nat->TypeId->Option (List Lf)
 | 0,_=>none
 | n+1,t=>match P.underlying t with
  | some .bool=>some [.bool]
  | some (.int k)=>some [.int k]
  | some .string=>some [.str]
  | some (.slice e)=>match leaves P n e with
   | some ks=>if ks.length=P.cellsOf e/\0<ks.length/\(isAgg P e||ks.length==1)=true then some [.sl (isAgg P e) ks] else none
   | none=>none
  | some (.struct fs)=>match zsl P (leaves P n) (fs.toList.map fun f=>(f.type,f.offset)) 0 with
   | some ks=>if ks.length=P.cellsOf t then some ks else none
   | none=>none
  | some (.array m e)=>match zsl P (leaves P n) ((List.range m).map fun i=>(e,i*P.cellsOf e)) 0 with
   | some ks=>if ks.length=P.cellsOf t then some ks else none
   | none=>none
  | _=>none
theorem LfL.len:∀{ks:List Lf} {vs:List AV},LfL ks vs->vs.length=ks.length
 | [],_,h=>by simp only[LfL]at h;simp [h]
 | k::ks,_,h=>by
  simp only[LfL]at h
  obtain ⟨v,rest,rfl,_,h2⟩:=h
  simp [h2.len]
theorem LfL.append:∀{ks ls:List Lf} {vs ws:List AV},LfL ks vs->LfL ls ws->LfL (ks++ls) (vs++ws)
 | [],_,_,_,h,h'=>by simp only[LfL]at h;simpa [h] using h'
 | k::ks,_,_,_,h,h'=>by
  simp only[LfL]at h
  obtain ⟨v,rest,rfl,h1,h2⟩:=h
  simp only[List.cons_append,LfL]
  exact ⟨_,_,rfl,h1,h2.append h'⟩
theorem ztR:∀{as:List AV} {g:Gh} {w:World} {vs:List Value},RelL as g w vs->vs.length=as.length
 | [],_,_,_,h=>by simp only[RelL]at h;simp [h]
 | a::as,_,_,_,h=>by
  simp only[RelL]at h
  obtain ⟨v,rest,rfl,_,h2⟩:=h
  simp [ztR h2]
section
variable {H:Type}{enc:TypeId×Value->H}{P:Program}{W:World}
end
end Go.Avm
namespace Go.Avm
open Go
end Go.Avm
namespace Go.Avm
open Go Go.ChangeShapes Go.WideShapes Go.ChangeAt Go.WideElems Go.RowKit Go.Lib Go.Joins Go.ChangeMaps Go.Deep
section
variable {H:Type}{enc:TypeId×Value->H}{P:Program}{W:World}
end
end Go.Avm
namespace Go.Avm
open Go Go.ChangeShapes Go.WideShapes Go.ChangeAt Go.WideElems Go.RowKit Go.Lib Go.Joins Go.ChangeMaps Go.Deep
def zws (n:Int):Prop:=-9223372036854775808<=n/\n<=9223372036854775807
structure OkA (N:Nat) (a:Lat.Arr):Prop where
 k:zws a.k
 r:zws a.r
 l0:zws a.l0
 l1:zws a.l1
 c:∀x∈a.c,zws x
 len:a.c.length<=N
section
variable {H:Type}{enc:TypeId×Value->H}{P:Program}{W:World}
end
end Go.Avm
