/- The shelf's contracts as contracts of ours, over any program. -/
import Derived.Test.YtcldomkahgaplaaGreatDoorA8
import Derived.Shelf.Strconv.Itoa4
import Derived.Shelf.Strings.OnBuilder
import Derived.Lib.AppendIntMem
import Derived.Shelf.Small.Strs
import Derived.Shelf.Strings.Repeat
import Derived.Shelf.Strconv.Atoi
import Derived.Lib.AtoiErrMem
import Derived.Test.YtcldomkahgaplaaGreatDoorAB
import Derived.Lib.LaidU8
set_option linter.all false
namespace Go.Avm
open Go Go.Proofs Go.Shelf Go.RowKit
theorem zFF {G:za0}{P:Program}{g:Gh}{w:World}(hwf:Wf G g w){x:Nat}{k:IntKind}{zs:List Int}{name:String}(hG:G x=some (zs.map (AV.int k)))(hg:P.globalNamed name=some x):Lib.TabIs P w name k zs:=by
 obtain ⟨vs,e,fz,h1,h2⟩:=hwf.ex _ _ hG
 have hl:=hwf.laid _ _ hG
 simp only[Rel]at hl
 obtain ⟨b,o,us,e1,e2,e3⟩:=hl
 simp only[Value.pointer.injEq,Option.some.injEq,Addr.mk.injEq,and_true]at e1
 obtain ⟨rfl,rfl⟩:=e1
 unfold Lib.TabIs World.var?
 rw[hg]
 simp only[Option.bind_some,h1,Option.some.injEq]
 have hul:=e2.length
 rw[List.length_map]at h2 hul
 refine Array.ext (by simp [h2]) fun i hi1 hi2=>?_
 have hi:i<zs.length:=by omega
 obtain ⟨u,hu,hr⟩:=e2.get' i (x:=.int k zs[i]) (by simp [hi])
 simp only[Rel]at hr
 have hc:=(e3 i u hu).2
 simp only[World.cell?,h1,Nat.zero_add]at hc
 simp only[Option.isSome_none,Bool.false_eq_true,if_false]at hc
 rw[Array.getElem?_eq_getElem hi1]at hc
 injection hc with hc
 rw[hc,hr]
 simp
section
variable {X:Cx}{ρ:Ren}
theorem zmA (L:LaysM.n173 X.P ρ){x:Nat}(hg:X.P.globalNamed "internal/strconv.uint64pow10" = some x)(hG:X.G x=some (Lib.pow10Tab.map (AV.int .u64)))(n:Int)(h:-9223372036854775808<=n/\n<=9223372036854775807) :
  Ev X (ρ.f 173) [.int .i64 n,.int .i64 10] (.str (Lib.itoa n)):=by
 refine zd6 ⟨_,L.f173,by change "strconv.FormatInt" ≠ "runtime.NumGoroutine";decide,rfl⟩ fun g w vs hwf hvs=>?_
 simp only[RelL,Rel]at hvs
 obtain ⟨v1,r1,rfl,rfl,v2,r2,rfl,rfl,rfl⟩:=hvs
 refine (Any.strconv_FormatInt_10 L n h.1 h.2 w (zFF hwf hG hg)).mono ?_
 rintro e w' ⟨rfl,k,os,rfl⟩
 exact ⟨_,rfl,fun g=>by simp [Rel],Lib.below_grow _ _ (Nat.le_refl _) _ _⟩
theorem zs4 {g:Gh}{w:World}:∀(l:List (List UInt8)) {vs:List Value},RelL (l.map AV.str) g w vs->∃xs:List ByteArray,vs=xs.map Value.string/\xs.map (·.data.toList)=l
 | [],vs,h=>by
  simp only[List.map_nil,RelL]at h
  subst h
  exact ⟨[],rfl,rfl⟩
 | x::l,vs,h=>by
  simp only[List.map_cons,RelL,Rel]at h
  obtain ⟨v,r,rfl,⟨s,rfl,h1⟩,h2⟩:=h
  obtain ⟨xs,rfl,h3⟩:=zs4 l h2
  exact ⟨s::xs,rfl,by rw[List.map_cons,h1,h3]⟩
theorem zwb (L:Lays.n156 X.P ρ)(E:Builder.Extra X.P ρ)(l:List (List UInt8))(sep:List UInt8)(hl:l.length<=140737488355328)(hlen:(Lib.join l sep).length<=140737488355328) :
  Ev X (ρ.f 156) [lst AV.str .ro l,.str sep] (.str (Lib.join l sep)):=by
 refine zd6 ⟨_,L.f156,by change "strings.Join" ≠ "runtime.NumGoroutine";decide,rfl⟩ fun g w vs hwf hvs=>?_
 simp only[RelL,Rel,lst]at hvs
 obtain ⟨v1,r1,rfl,⟨a,cap,us,sz,rfl,hcap,hus,hlie,_⟩,v2,r2,rfl,⟨s2,rfl,h2⟩,rfl⟩:=hvs
 obtain ⟨xs,rfl,rfl⟩:=zs4 l hus
 subst h2
 rw[List.length_map,List.length_map]at hcap
 rw[List.length_map]at hl
 have e1:((xs.map (·.data.toList)).map AV.str).length=xs.length:=by simp
 rw[e1]
 rcases hlie with h0|⟨b,o,rfl,hc⟩
 ·have:xs=[]:=by simpa using h0
  subst this
  refine (Any.strings_Join_none L E a cap s2 w).mono ?_
  rintro e w' ⟨rfl,rfl⟩
  exact ⟨_,rfl,fun g=>by simp [Rel,Lib.join_nil],Below.refl _ _⟩
 ·by_cases h0:xs=[]
  ·subst h0
   refine (Any.strings_Join_none L E _ cap s2 w).mono ?_
   rintro e w' ⟨rfl,rfl⟩
   exact ⟨_,rfl,fun g=>by simp [Rel,Lib.join_nil],Below.refl _ _⟩
  have hcell:∀(j:Nat) x,xs[j]?=some x->g.S b (o+j)/\w.cell? ⟨b,o+j,none⟩=some (.string x):=fun j x hj=>by
   obtain ⟨h3,h4⟩:=hc j (.string x) (by simp [hj])
   have hs1:sz=1:=by rw[<-h3];rfl
   subst hs1
   have:=h4 0 (.string x) rfl
   simpa using this
  have hb:b<w.heap.size:=by
   obtain ⟨x,r,rfl⟩:=List.exists_cons_of_ne_nil h0
   exact hwf.lt_S (hcell 0 x rfl).1
  refine (Any.strings_Join L E b o cap xs s2 w (fun j x hj=>(hcell j x hj).2) hb hl hcap hlen).mono ?_
  rintro e w' ⟨rfl,hw⟩
  exact ⟨_,rfl,fun g=>by simp [Rel],hw⟩
theorem zsS (L:Lays.n105 X.P ρ)(E:Builder.Extra X.P ρ)(s:List UInt8)(c:Nat)(hc:c<=9223372036854775807)(hl:s.length*c<=140737488355328):Ev X (ρ.f 105) [.str s,.int .i64 c] (.str (Lib.repeatL s c)):=by
 refine zd6 ⟨_,L.f105,by change "strings.Repeat" ≠ "runtime.NumGoroutine";decide,rfl⟩ fun g w vs hwf hvs=>?_
 simp only[RelL,Rel]at hvs
 obtain ⟨v1,r1,rfl,⟨s1,rfl,rfl⟩,v2,r2,rfl,rfl,rfl⟩:=hvs
 refine (Any.strings_Repeat L E s1 c w hc (by simpa using hl)).mono ?_
 rintro e w' ⟨rfl,hw⟩
 exact ⟨_,rfl,fun g=>by simp [Rel],hw⟩
end
end Go.Avm
namespace Go.Avm
open Go Go.ChangeShapes Go.WideShapes Go.ChangeAt Go.WideElems Go.RowKit Go.Lib
def zeV (W:World)(x:Nat)(us:List AV):Prop:=Rel (.vp us) (gAll W) W (.pointer (some ⟨x,0,none⟩))/\∃(vs:Array Value) (e:TypeId) (fz:Nat×Nat),W.heap[x]?=some (Obj.cells vs e fz)/\vs.size=us.length
theorem zox {P:Program}{W:World}{n:String}{g:Nat}{cs:Array Value}{us:List AV}(hg:P.globalNamed n=some g)(hvar:W.var? P n=some cs)(hrel:RelL us (gAll W) W cs.toList):zeV W g us:=by
 have hl:=ztR hrel
 rw[Array.length_toList]at hl
 refine ⟨?_,?_⟩
 ·simp only[Rel]
  refine ⟨g,0,cs.toList,rfl,hrel,fun i v hv=>?_⟩
  have hc:W.cell? ⟨g,i,none⟩=some v:=by
   rw[World.var?_cell hg hvar i]
   simpa using hv
  rw[Nat.zero_add]
  exact ⟨zw1 hc,hc⟩
 ·unfold World.var? at hvar
  rw[hg,Option.bind_some]at hvar
  split at hvar
  ·rename_i vs e fz hv
   cases hvar
   exact ⟨_,e,fz,hv,hl⟩
  ·cases hvar
theorem zpC {P:Program}{W:World}{n:String}{g t e m:Nat}{k:IntKind}{zs:List Int}(h:VarReads P W n (tabData k zs))(hg:P.globalNamed n=some g)(hy:(P.globals[g]?).map (·.type)=some t)(ht:P.underlying t=some (.array m e))(he:P.underlying e=some (.int k))(hce:P.cellsOf e=1)(hct:P.cellsOf t=m):zeV W g (zs.map (AV.int k)):=by
 obtain ⟨g',t',cs,fuel,p,hg',hty,hvar,hd⟩:=h
 obtain rfl:=Option.some.inj (hg.symm.trans hg')
 obtain rfl:=Option.some.inj (hy.symm.trans hty)
 have hcs:=cells_of_tab ht he hce hct hd
 exact zox hg hvar (by rw[hcs];exact zhR k zs)
theorem zvA {P:Program}{W:World}{n:String}{g t e m:Nat}{k:IntKind}{fs:Array Field}{rows:List (List Int)}(h:VarReads P W n (.agg (rows.map fun zs=>.agg (zs.map fun z=>.lit (.int k z)))))(hg:P.globalNamed n=some g)(hy:(P.globals[g]?).map (·.type)=some t)(ht:P.underlying t=some (.array m e))(he:P.underlying e=some (.struct fs))
  (hf:∀(i:Nat) (f:Field),fs[i]?=some f->P.underlying f.type=some (.int k)/\f.offset=i/\P.cellsOf f.type=1) (hce:P.cellsOf e=fs.size) (hct:P.cellsOf t=m*fs.size) (hm:rows.length=m):zeV W g (rows.flatten.map (AV.int k)):=by
 obtain ⟨g',t',cs,fuel,p,hg',hty,hvar,hd⟩:=h
 obtain rfl:=Option.some.inj (hg.symm.trans hg')
 obtain rfl:=Option.some.inj (hy.symm.trans hty)
 have hlen:cs.toList.length=m*fs.size:=by
  cases fuel with
  | zero=>simp [DataW.trod]at hd
  | succ fuel =>
   simp only[DataW.trod,ht]at hd
   split at hd
   ·rename_i hl
    rw[hl,hct]
   ·cases hd
 have hrow:∀(i:Nat) zs,rows[i]?=some zs->(cs.toList.drop (i*fs.size)).take fs.size=zs.map fun z=>Value.int k z:=fun i zs hi=>by
  have hlt:i<m:=by rw[<-hm];exact (List.getElem?_eq_some_iff.1 hi).1
  obtain ⟨fuel',d,q',hdi,he'⟩:=array_elem ht hd i hlt
  simp only[List.getElem?_map,hi,Option.map_some,Option.some.injEq]at hdi
  subst hdi
  rw[hce]at he'
  exact ints_of_struct he hf hce he'
 have key:∀(rs:List (List Int)) (c:List Value),c.length=rs.length*fs.size->(∀(i:Nat) zs,rs[i]?=some zs->(c.drop (i*fs.size)).take fs.size=zs.map fun z=>Value.int k z)->c=rs.flatten.map fun z=>Value.int k z:=by
  intro rs
  induction rs with
  | nil=>intro c hc _;simpa using hc
  | cons r rs ih =>
   intro c hc hr
   have h0:=hr 0 r rfl
   rw[Nat.zero_mul,List.drop_zero]at h0
   have h1:=ih (c.drop fs.size) (by rw[List.length_drop,hc,List.length_cons,Nat.succ_mul];omega) fun i zs hi=>by
    rw[List.drop_drop,show fs.size+i*fs.size=(i+1)*fs.size by rw[Nat.succ_mul];omega]
    exact hr (i+1) zs hi
   rw[List.flatten_cons,List.map_append,<-h1,<-h0,List.take_append_drop]
 have hcs:=key rows cs.toList (by rw[hlen,hm]) hrow
 exact zox hg hvar (by rw[hcs];exact zhR k _)
theorem zne {P:Program}{W:World}{n nm:String}{g t:Nat}{ms}{d:DataW Unit}(h:VarReads P W n (.iface nm d))(hg:P.globalNamed n=some g)(hy:(P.globals[g]?).map (·.type)=some t)(ht:P.underlying t=some (.interface ms)):∃te,zeV W g [.ifc te .undef]:=by
 obtain ⟨g',t',cs,fuel,p,hg',hty,hvar,hd⟩:=h
 obtain rfl:=Option.some.inj (hg.symm.trans hg')
 obtain rfl:=Option.some.inj (hy.symm.trans hty)
 have:∃u v,cs.toList=[.iface u v]:=by
  generalize cs.toList=l at hd
  cases fuel with
  | zero=>simp [DataW.trod]at hd
  | succ fuel =>
   unfold DataW.trod at hd
   rw[ht]at hd
   split at hd<;>first
    | exact ⟨_,_,rfl⟩
    | (exfalso;rename_i h1;cases h1;done)
    | (exfalso;rename_i h1 _;cases h1;done)
    | (exfalso;rename_i h1 _ _;cases h1;done)
    | (exfalso;cases hd;done)
    | (exfalso;simp_all;done)
 obtain ⟨u,v,hc⟩:=this
 exact ⟨u,zox hg hvar (by rw[hc];simp only[RelL,Rel];exact ⟨_,_,rfl,⟨_,rfl,trivial⟩,rfl⟩)⟩
theorem zuR {T:List (Nat×List AV)}{x:Nat}{cs:List AV}(h:T.lookup x=some cs):(x,cs)∈T:=by
 induction T with
 | nil=>cases h
 | cons p T ih =>
  obtain ⟨y,us⟩:=p
  simp only[List.lookup]at h
  split at h
  ·rename_i e
   cases h
   rw[beq_iff_eq]at e
   subst e
   exact List.mem_cons_self
  ·exact List.mem_cons_of_mem _ (ih h)
theorem zH2 (P:Program)(hm:P.follows .mixedOrders=true){W:World}(T:List (Nat×List AV))(h:∀p∈T,zeV W p.1 p.2):∃X:Cx,X.P=P/\Std X/\X.G=(fun x=>T.lookup x)/\∀x cs,X.G x=some cs->zeV W x cs:=
 ⟨{ P:=P,G:=fun x=>T.lookup x },rfl,⟨hm,rfl⟩,rfl,fun x cs hx=>h (x,cs) (zuR hx)⟩
end Go.Avm
