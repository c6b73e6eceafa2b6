/- Code as it has been read (ACode), functions, calls by contract. -/
import Derived.Test.YtcldomkahgaplaaGreatDoorA5
set_option linter.all false
namespace Go.Avm
open Go
def Cx.at (X:Cx)(n:Nat):Cx:={ X with n0:=n }
theorem zCz (X:Cx)(n:Nat)(o:zal)(fr:Fr)(H:Heap)(K:Fr->Heap->Prop):vcOp (X.at n) o fr H K=vcOp X o fr H K:=rfl
theorem ztL (X:Cx)(n:Nat)(K:Fr->Heap->Prop):∀(l:List zal) (fr:Fr) (H:Heap),zh0 (X.at n) K l fr H=zh0 X K l fr H
 | [],_,_=>rfl
 | o::l,fr,H=>by
  have:zh0 (X.at n) K l=zh0 X K l:=funext fun fr=>funext fun H=>ztL X n K l fr H
  simp only[zh0,zCz,this]
theorem zzr (X:Cx)(n:Nat)(o:zal)(fr:Fr)(H:Heap)(K:Fr->AV->Heap->Prop):zrM (X.at n) o fr H K=zrM X o fr H K:=rfl
theorem zdd (X:Cx)(n:Nat)(K:Fr->Heap->Prop):∀(l:List zal) (H:Heap) (fr:Fr),zbx (X.at n) K H l fr=zbx X K H l fr
 | [],_,_=>rfl
 | o::l,H,fr=>by
  have:(fun H=>zbx (X.at n) K H l)=fun H=>zbx X K H l:=funext fun H=>funext fun fr=>zdd X n K l H fr
  have h2:∀H fr,zbx (X.at n) K H l fr=zbx X K H l fr:=fun H fr=>zdd X n K l H fr
  simp only[zbx,zzr,h2]
def XA (X:Cx)(N:Nat)(ac:ACode)(fr:Fr)(H:Heap)(Q:Exit->Fr->Heap->Prop):Prop:=
 ∀c hint,compile X.P N hint c=some ac->∀n,Ex (X.at n) N c fr H Q
section
variable {X:Cx}{N:Nat}{Q:Exit->Fr->Heap->Prop}{fr:Fr}{H:Heap}
def WkA (X:Cx)(N:Nat)(fr:Fr)(H:Heap)(fr':Fr)(H':Heap):Prop:=∀n,Wk (X.at n) N fr H fr' H'
theorem WkA.refl:WkA X N fr H fr H:=fun _=>Wk.refl
theorem WkA.trans {fr' fr'':Fr}{H' H'':Heap}(h:WkA X N fr H fr' H')(h':WkA X N fr' H' fr'' H''):WkA X N fr H fr'' H'':=fun n=>(h n).trans (h' n)
theorem zA1 (h:Q .normal fr H):XA X N .skip fr H Q:=fun c hint hc=>by
 cases c<;>simp only[compile]at hc<;>first|(cases hc;exact fun n=>zAL h)|(exfalso;(repeat' split at hc)<;>simp at hc)
theorem zCd {id:Nat}(h:Q (.exit id) fr H):XA X N (.exit id) fr H Q:=fun c hint hc=>by
 cases c<;>simp only[compile]at hc<;>first|(cases hc;exact fun n=>zCl h)|(exfalso;(repeat' split at hc)<;>simp at hc)
theorem zE5 (h:Q .ret fr H):XA X N .ret fr H Q:=fun c hint hc=>by
 cases c<;>simp only[compile]at hc<;>first|(cases hc;exact fun n=>zE8 h)|(exfalso;(repeat' split at hc)<;>simp at hc)
theorem zCC {l:Nat}(h:Q (.goto l) fr H):XA X N (.goto l) fr H Q:=fun c hint hc=>by
 cases c<;>simp only[compile]at hc<;>first|(cases hc;exact fun n=>zBH h)|(exfalso;(repeat' split at hc)<;>simp at hc)
theorem zxY {l:Nat}(h:Q .normal fr H):XA X N (.label l) fr H Q:=fun c hint hc=>by
 cases c<;>simp only[compile]at hc<;>first|(cases hc;exact fun n=>zyE h)|(exfalso;(repeat' split at hc)<;>simp at hc)
theorem zeu {ac:ACode}{Q':Exit->Fr->Heap->Prop}(h:XA X N ac fr H Q)(hq:∀e fr H,Q e fr H->Q' e fr H):XA X N ac fr H Q':=
 fun c hint hc n=>(h c hint hc n).mono hq
theorem zA0 {ac:ACode}{fr':Fr}{H':Heap}(hw:WkA X N fr H fr' H')(h:XA X N ac fr' H' Q):XA X N ac fr H Q:=
 fun c hint hc n=>(h c hint hc n).wk (hw n)
theorem zwr {x y:ACode}(h:∀K:Fr->Heap->Prop,(∀fr H,XA X N y fr H Q->K fr H)->XA X N x fr H (zga K Q)):XA X N (.seq x y) fr H Q:=fun c hint hc n=>by
 cases c<;>simp only[compile]at hc<;>try (exfalso;(repeat' split at hc)<;>simp at hc;done)
 rename_i a b
 split at hc
 ·rename_i x' y' hx hy
  cases hc
  exact zyq fun K hK=>h K (fun fr H hxa=>hK fr H (hxa b hint hy n)) a hint hx n
 ·cases hc
theorem zxX {id:Nat}{x:ACode}(h:XA X N x fr H (ABlk id Q)):XA X N (.block id x) fr H Q:=fun c hint hc n=>by
 cases c<;>simp only[compile]at hc<;>try (exfalso;(repeat' split at hc)<;>simp at hc;done)
 simp only[Option.map_eq_some_iff]at hc
 obtain ⟨x',hx,he⟩:=hc
 cases he
 exact zym (h _ hint hx n)
theorem zys {x:ACode}(h:XA X N x fr H (ASc Q)):XA X N (.scope x) fr H Q:=fun c hint hc n=>by
 cases c<;>simp only[compile]at hc<;>try (exfalso;(repeat' split at hc)<;>simp at hc;done)
 split at hc
 ·rename_i x' hx
  split at hc
  ·cases hc
  ·cases hc
   exact zyR (h _ hint hx n)
 ·cases hc
def zbl:ACode->Nat->Option ACode
 | .seq a b,l=>match zbl a l with
  | some r=>some (.seq r b)
  | none=>zbl b l
 | .label l',l=>if l' == l then some .skip else none
 | _,_=>none
theorem zmc {hint:Nat->Bool}:∀(c:Code) {x:ACode} (l:Nat),compile X.P N hint c=some x->(zbl x l=none->findLabel c l=none)/\∀r,zbl x l=some r->∃rest,findLabel c l=some rest/\compile X.P N hint rest=some r:=by
 intro c
 induction c with
 | seq a b iha ihb =>
  intro x l hc
  simp only[compile]at hc
  split at hc
  ·rename_i a' b' ha hb
   cases hc
   obtain ⟨a1,a2⟩:=iha l ha
   obtain ⟨b1,b2⟩:=ihb l hb
   simp only[zbl,findLabel]
   cases e:zbl a' l with
   | none =>
    rw[a1 e]
    exact ⟨b1,b2⟩
   | some r =>
    obtain ⟨rest,e1,e2⟩:=a2 r e
    rw[e1]
    refine ⟨(fun h=>nomatch h),fun r' hr'=>?_⟩
    cases hr'
    exact ⟨_,rfl,by simp only[compile,e2,hb]⟩
  ·cases hc
 | label l' =>
  intro x l hc
  simp only[compile]at hc
  cases hc
  simp only[zbl,findLabel]
  split
  ·refine ⟨(fun h=>nomatch h),fun r hr=>?_⟩
   cases hr
   exact ⟨_,rfl,rfl⟩
  ·exact ⟨fun _=>rfl,fun r hr=>nomatch hr⟩
 | _ =>
  intro x l hc
  have h1:zbl x l=none:=by
   simp only[compile]at hc
   first
    | (cases hc;rfl)
    | ((repeat' split at hc)<;>first|(cases hc;rfl)|cases hc)
    | (simp only[Option.map_eq_some_iff]at hc;obtain ⟨y,_,rfl⟩:=hc;rfl)
  rw[h1]
  exact ⟨fun _=>by simp only[findLabel],fun r hr=>nomatch hr⟩
theorem zwD {x:ACode}{ι:Type}(lb μ:ι->Nat)(inv:ι->Fr->Heap->Prop)
  (first:XA X N x fr H (AJmp (fun l fr H=>∃j,lb j=l/\∃fr' H',WkA X N fr H fr' H'/\inv j fr' H') Q))
  (pass:∀i fr H,inv i fr H->∃rest,zbl x (lb i)=some rest/\XA X N rest fr H (AJmp (fun l fr H=>∃j,μ j<μ i/\lb j=l/\∃fr' H',WkA X N fr H fr' H'/\inv j fr' H') Q)):XA X N (.scopeJ x) fr H Q:=fun c hint hc n=>by
 cases c<;>simp only[compile]at hc<;>try (exfalso;(repeat' split at hc)<;>simp at hc;done)
 split at hc
 ·rename_i c' _ x' hx
  split at hc
  ·cases hc
   refine zwQ lb μ inv ((first _ hint hx n).mono fun e fr' H' hq=>?_) fun i fr H hi=>?_
   ·cases e with
    | goto l =>
     obtain ⟨j,hj,fr2,H2,hw2,hi2⟩:=hq
     exact ⟨j,hj,fr2,H2,hw2 n,hi2⟩
    | _=>exact hq
   ·obtain ⟨r,hr,hxa⟩:=pass i fr H hi
    obtain ⟨rest,e1,e2⟩:=(zmc (X:=X) c' (lb i) hx).2 r hr
    refine ⟨rest,e1,(hxa _ hint e2 n).mono fun e fr' H' hq=>?_⟩
    cases e with
    | goto l =>
     obtain ⟨j,hlt,hj,fr2,H2,hw2,hi2⟩:=hq
     exact ⟨j,hlt,hj,fr2,H2,hw2 n,hi2⟩
    | _=>exact hq
  ·cases hc
 ·cases hc
theorem zCB {cx':AX}{x y:ACode}{b:Bool}(hb:cx'.eval X.G fr=.bool b)(ht:b=true->XA X N x fr H Q)(hf:b=false->XA X N y fr H Q):XA X N (.cond cx' x y) fr H Q:=fun c hint hc n=>by
 cases c<;>simp only[compile]at hc<;>try (exfalso;(repeat' split at hc)<;>simp at hc;done)
 split at hc
 ·rename_i c' x' y' h1 h2 h3
  cases hc
  refine zA2 (b:=b) (fun g w a hs=>?_) (fun h=>ht h _ hint h2 n) (fun h=>hf h _ hint h3 n)
  have:=zad hs h1
  rw[show (X.at n).G=X.G from rfl,hb,zgq]at this
  exact this
 ·cases hc
theorem zAi {x:ACode}{ι:Type}(inv:ι->Fr->Heap->Prop)(μ:ι->Nat)(i:ι)(h₀:∃fr' H',WkA X N fr H fr' H'/\inv i fr' H')
  (round:∀i fr H,inv i fr H->XA X N x fr H (zga (fun fr H=>∃j,μ j<μ i/\∃fr' H',WkA X N fr H fr' H'/\inv j fr' H') Q)):XA X N (.loop x) fr H Q:=fun c hint hc n=>by
 cases c<;>simp only[compile]at hc<;>try (exfalso;(repeat' split at hc)<;>simp at hc;done)
 simp only[Option.map_eq_some_iff]at hc
 obtain ⟨x',hx,he⟩:=hc
 cases he
 obtain ⟨fr0,H0,hw0,hi0⟩:=h₀
 refine zAm inv μ i ⟨fr0,H0,hw0 n,hi0⟩ fun i fr H hi=>(round i fr H hi _ hint hx n).mono fun e fr' H' hq=>?_
 cases e with
 | normal =>
  obtain ⟨j,hj,fr2,H2,hw2,hi2⟩:=hq
  exact ⟨j,hj,fr2,H2,hw2 n,hi2⟩
 | _=>exact hq
theorem zwZ {ops:List zal}(h:zh0 X (Q .normal) ops fr H):XA X N (.region false ops) fr H Q:=fun c hint hc n=>by
 cases c<;>simp only[compile]at hc<;>try (exfalso;(repeat' split at hc)<;>simp at hc;done)
 rename_i id ops' draw
 split at hc
 ·rename_i al hal
  split at hc
  ·rename_i hn
   simp only[Option.some.injEq,ACode.region.injEq]at hc
   obtain ⟨rfl,_⟩:=hc
   simp at hn
  split at hc
  ·rename_i hn
   simp only[Option.some.injEq,ACode.region.injEq]at hc
   obtain ⟨rfl,_⟩:=hc
   simp at hn
  split at hc
  ·simp only[Option.some.injEq,ACode.region.injEq]at hc
   obtain ⟨rfl,rfl⟩:=hc
   exact zxj hal (by rw[ztL];exact h)
  ·rename_i hn
   split at hc
   ·simp only[Option.some.injEq,ACode.region.injEq]at hc
    obtain ⟨rfl,_⟩:=hc
    simp at hn
   ·split at hc
    ·simp only[Option.some.injEq,ACode.region.injEq]at hc
     obtain ⟨rfl,_⟩:=hc
     simp at hn
    cases hc
 ·cases hc
theorem zmN {ops:List zal}(hm:X.P.follows .mixedOrders=true)(h:zbx X (Q .normal) H ops fr):XA X N (.region true ops) fr H Q:=fun c hint hc n=>by
 cases c<;>simp only[compile]at hc<;>try (exfalso;(repeat' split at hc)<;>simp at hc;done)
 rename_i id ops' draw
 split at hc
 ·rename_i al hal
  split at hc
  ·rename_i hl
   simp only[Option.some.injEq,ACode.region.injEq]at hc
   obtain ⟨rfl,rfl⟩:=hc
   simp only[Bool.and_eq_true]at hl
   exact zol (X:=X.at n) hm hal hl.2 (by rw[zdd];exact h)
  split at hc
  ·rename_i hl
   simp only[Option.some.injEq,ACode.region.injEq]at hc
   obtain ⟨rfl,rfl⟩:=hc
   simp only[Bool.and_eq_true]at hl
   exact zq9 (X:=X.at n) hm hal hl.2 (by rw[zdd];exact h)
  split at hc
  ·rename_i hl
   simp only[Option.some.injEq,ACode.region.injEq]at hc
   obtain ⟨rfl,rfl⟩:=hc
   exact zmP (X:=X.at n) hm hal (by simpa using hl) (by rw[zdd];exact h)
  ·split at hc
   ·rename_i hl
    simp only[Option.some.injEq,ACode.region.injEq]at hc
    obtain ⟨rfl,rfl⟩:=hc
    exact zmI (X:=X.at n) hm hal hl (by rw[zdd];exact h)
   ·split at hc
    ·rename_i hl
     simp only[Option.some.injEq,ACode.region.injEq]at hc
     obtain ⟨rfl,rfl⟩:=hc
     exact zmZ (X:=X.at n) hm hal hl (by rw[zdd];exact h)
    cases hc
 ·cases hc
end
inductive ARes where
 | tmp (t:Nat)
 | cell (n:Option Nat) (a:Nat)
 deriving Repr,Inhabited
def zbB (P:Program):List ResultVar->Option (List ARes)
 | []=>some []
 | .tmp t::r=>match zbB P r with
  | some as=>some (.tmp t::as)
  | none=>none
 | .cell a ty::r=>match ldN P ty,zbB P r with
  | some n,some as=>some (.cell n a::as)
  | _,_=>none
def ARes.val (fr:Fr)(H:Heap):ARes->Option AV
 | .tmp t=>some (fr t)
 | .cell n a=>match fr a with
  | .ptr id off=>match H[id]? with
   | some (.box cs)=>match n with
    | none=>if off<cs.length then some (cs.getD off .undef) else none
    | some k=>if off+k<=cs.length then some (.agg ((cs.drop off).take k)) else none
   | _=>none
  | _=>none
def za6 (fr:Fr)(H:Heap):List ARes->Option (List AV)
 | []=>some []
 | r::rs=>match r.val fr H,za6 fr H rs with
  | some v,some vs=>some (v::vs)
  | _,_=>none
def zkO:List AV->AV
 | [v]=>v
 | vs=>.tuple vs
structure AFun where
 n:Nat
 code:ACode
 res:List ARes
 deriving Repr,Inhabited
def zaa (P:Program)(f:FuncId)(hint:Nat->Bool):Option AFun:=
 match P.funcs[f]? with
 | some fn=>match fn.body with
  | some c=>match compile P fn.ntmps hint c,zbB P fn.results.toList with
   | some ac,some rs=>if fn.name != "runtime.NumGoroutine" then some ⟨fn.ntmps,ac,rs⟩ else none
   | _,_=>none
  | none=>none
 | none=>none
section
variable {X:Cx}
theorem zhg {N:Nat}{g:Gh}{w:World}{fr:Fr}{H:Heap}{a:Act}(hs:StR X N g w fr H a):∀{rv:List ResultVar} {rs:List ARes} {vs:List AV},zbB X.P rv=some rs->za6 fr H rs=some vs ->
  ∃us:List Value,(rv.mapM fun (r:ResultVar)=>(match r with|.tmp t=>pure (a.tmps.getD t Go.undef)|.cell x t=>do loadVar t (<-asAddr (a.tmps.getD x Go.undef)):Sem Value)).run X.P w=.ok us w/\RelL vs g w us
 | [],rs,vs,h1,h2=>by
  simp [zbB]at h1;subst h1
  simp [za6]at h2;subst h2
  exact ⟨[],rfl,by simp [RelL]⟩
 | .tmp t::rv,rs,vs,h1,h2=>by
  simp only[zbB]at h1
  split at h1
  ·rename_i as h3
   cases h1
   simp only[za6,ARes.val]at h2
   split at h2
   ·rename_i v vs' h4 h5
    cases h2;cases h4
    obtain ⟨us,h6,h7⟩:=zhg hs h3 h5
    refine ⟨a.tmps.getD t Go.undef::us,?_,?_⟩
    ·simp only[List.mapM_cons,Sem.run_bind,Sem.run_pure,Result.andThen_ok,h6]
    ·simp only[RelL];exact ⟨_,_,rfl,hs.fr t,h7⟩
   ·cases h2
  ·cases h1
 | .cell x ty::rv,rs,vs,h1,h2=>by
  simp only[zbB]at h1
  split at h1
  ·rename_i n as hn h3
   cases h1
   simp only[za6]at h2
   split at h2
   ·rename_i v vs' h4 h5
    cases h2
    obtain ⟨us,h6,h7⟩:=zhg hs h3 h5
    have hv:∃u,(do loadVar ty (<-asAddr (a.tmps.getD x Go.undef)):Sem Value).run X.P w=.ok u w/\Rel v g w u:=by
     unfold ARes.val at h4
     simp only at h4
     split at h4
     ·rename_i id off hx
      have hr:=hs.fr x
      rw[hx]at hr
      simp only[Rel]at hr
      obtain ⟨b,hp,hb⟩:=hr
      split at h4
      ·rename_i cs hH
       obtain ⟨arr,e,fz,hheap,hvs⟩:=hs.hr.box hH hb
       cases n with
       | none =>
        simp only at h4
        split at h4
        ·rename_i hlt
         cases h4
         obtain ⟨d,hd,hda⟩:=zpb hn
         obtain ⟨u,hu,hru⟩:=hvs.get' off (x:=cs.getD off .undef) (by simp [hlt])
         refine ⟨u,?_,hru⟩
         rw[hp]
         simp only[asAddr,Sem.run_bind,Sem.run_pure,Result.andThen_ok]
         exact zdn hd hda (cell_of_heap hheap (by simpa using hu))
        ·cases h4
       | some k =>
        simp only at h4
        split at h4
        ·rename_i hlt
         cases h4
         obtain ⟨d,i,hd,hda,hi,hk⟩:=zpG hn
         refine ⟨.agg ((arr.toList.drop off).take k).toArray,?_,by simp only[Rel];exact ⟨_,rfl,(hvs.drop off).take k⟩⟩
         rw[hp]
         simp only[asAddr,Sem.run_bind,Sem.run_pure,Result.andThen_ok]
         refine zdG hd hda hi (by have:=hvs.length;simp at this;simp [hk];omega) fun j v hj=>?_
         rw[List.getElem?_take]at hj
         split at hj
         ·rw[List.getElem?_drop]at hj;exact cell_of_heap hheap (by simpa using hj)
         ·cases hj
        ·cases h4
      ·cases h4
     ·cases h4
    obtain ⟨u,h8,h9⟩:=hv
    refine ⟨u::us,?_,?_⟩
    ·simp only[List.mapM_cons,Sem.run_bind (x:=(do loadVar ty (<-asAddr (a.tmps.getD x Go.undef)):Sem Value)),h8,Result.andThen_ok,Sem.run_bind,h6,Sem.run_pure]
    ·simp only[RelL];exact ⟨_,_,rfl,h9,h7⟩
   ·cases h2
  ·cases h1
theorem zlu {N:Nat}{g:Gh}{w:World}{fr:Fr}{H:Heap}{a:Act}(hs:StR X N g w fr H a){fn:Func}{rs:List ARes}{vs:List AV}(h1:zbB X.P fn.results.toList=some rs)(h2:za6 fr H rs=some vs) :
  ∃u,(results fn a.tmps).run X.P w=.ok u w/\Rel (zkO vs) g w u:=by
 obtain ⟨us,h3,h4⟩:=zhg hs h1 h2
 have h5:(fn.results.mapM fun (r:ResultVar)=>(match r with|.tmp t=>pure (a.tmps.getD t Go.undef)|.cell x t=>do loadVar t (<-asAddr (a.tmps.getD x Go.undef)):Sem Value)).run X.P w=.ok us.toArray w:=by
  rw[Array.mapM_eq_mapM_toList]
  simp only[Sem.run_map,h3,Result.andThen_ok]
 have hlen:=h4.length
 unfold results
 simp only[Sem.run_bind]
 erw [h5]
 simp only[Result.andThen_ok,Sem.run_pure]
 by_cases h:us.length=1
 ·obtain ⟨u,rfl⟩:=List.length_eq_one_iff.1 h
  obtain ⟨v,rfl⟩:=List.length_eq_one_iff.1 (hlen▸h)
  simp only[RelL]at h4
  obtain ⟨u',r',h6,h7,h8⟩:=h4
  cases h6
  exact ⟨u,rfl,h7⟩
 ·refine ⟨.tuple us.toArray,?_,?_⟩
  ·rw[dif_neg (by simpa using h)]
  ·have:zkO vs=.tuple vs:=by
    match vs,hlen with
    | [],_=>rfl
    | [v],hl=>exact absurd hl h
    | _::_::_,_=>rfl
   rw[this]
   simp only[Rel]
   exact ⟨us,rfl,h4⟩
theorem zyV {g:Gh}{w:World}{H:Heap}{D:Nat}(hwf:Wf X.G g w)(hhr:HR g w H)(hD:w.heap[D]?=some (.deferred (some [])))(hno:∀o,¬g.owns D o) :
  Mono g w g (w.putObj D (.deferred none))/\Wf X.G g (w.putObj D (.deferred none))/\HR g (w.putObj D (.deferred none)) H:=by
 have hne:∀b,b≠D->(w.putObj D (.deferred none)).heap[b]?=w.heap[b]?:=fun b h=>World.putObj_heap_other h
 have hS:∀b o,g.S b o->b≠D:=fun b o h e=>by
  subst e
  obtain ⟨⟨vs,e',fz,h1,_⟩,_⟩:=hwf.S b o h
  rw[hD]at h1;cases h1
 have hcell:∀b o,b≠D->(w.putObj D (.deferred none)).cell? ⟨b,o,none⟩=w.cell? ⟨b,o,none⟩:=fun b o h=>by simp only[World.cell?,hne b h]
 have hm:Mono g w g (w.putObj D (.deferred none)):=⟨fun b o h=>⟨h,hcell b o (hS b o h)⟩,fun _ _ h=>h,fun i n h=>⟨n,h,.inl ⟨rfl,rfl⟩⟩⟩
 have hbx:∀i b,g.bx i=some b->b≠D:=fun i b h e=>hno 0 (.inl ⟨i,e▸h⟩)
 refine ⟨hm,⟨fun b o h=>?_,hwf.inj,hwf.tinj,hwf.apart,fun i b h=>?_,fun i b lo hi h=>?_,fun x cs hx=>Rel.mono _ hm (hwf.laid x cs hx),zcy hwf.ex fun b vs e fz h=>⟨vs,fz,(hne b (fun e'=>by subst e';rw[hD]at h;cases h)).trans h,rfl⟩⟩,
  ⟨fun i x hx=>(hhr.blk i x hx).mono hm (fun b hb=>hne b (hbx i b hb)) (fun _ h=>h) (fun b lo hi h=>⟨h,hne b fun e=>hno lo (.inr ⟨i,lo,hi,e▸h,Nat.le_refl _⟩)⟩),hhr.far⟩⟩
 ·obtain ⟨⟨vs,e,fz,h1,h2⟩,h3⟩:=hwf.S b o h
  exact ⟨⟨vs,e,fz,(hne b (hS b o h)).trans h1,h2⟩,h3⟩
 ·obtain ⟨h1,h2⟩:=hwf.bx i b h
  exact ⟨by rw[World.putObj_size];exact h1,fun vs e lo hi h3=>h2 vs e lo hi ((hne b (hbx i b h)).symm.trans h3)⟩
 ·have hb:b≠D:=fun e=>hno lo (.inr ⟨i,lo,hi,e▸h,Nat.le_refl _⟩)
  obtain ⟨vs,e,fl,fh,h1,h2,h3⟩:=hwf.tk i b lo hi h
  exact ⟨vs,e,fl,fh,(hne b hb).trans h1,h2,h3⟩
theorem zyI {g g':Gh}{w w':World}{D:Nat}(h:Ext g w g' w')(hD:w.heap.size<=D)(o:Obj):Ext g w g' (w'.putObj D o):=by
 have hne:∀b,b<w.heap.size->(w'.putObj D o).heap[b]?=w'.heap[b]?:=fun b h=>World.putObj_heap_other (by omega)
 refine ⟨by rw[World.putObj_size];exact h.size,h.S,h.S',fun b o' hb ho=>?_,fun b hb ho=>(hne b hb).trans (h.obj b hb ho),fun b vs e fz hv=>?_,h.own,h.io⟩
 ·rw[<-h.cell b o' hb ho];simp only[World.cell?,hne b hb]
 ·rw[hne b (Array.getElem?_eq_some_iff.1 hv).1]
  exact h.shape b vs e fz hv
theorem zp4 {n N:Nat}{fn:Func}{rs:List ARes}{vs:List AV}{g0 g:Gh}{w0:World}{H:Heap}{fr:Fr}{Q:AV->Heap->Prop}{rd:Option Nat}{a:Act}{w:World}(hs:StR (X.at w0.heap.size) N g w fr H a)
  (h1:zbB X.P fn.results.toList=some rs) (h2:za6 fr H rs=some vs) (he:ExtM g0 w0 g w) (hq:Q (zkO vs) H) :
  LeavesInM (Fd rd) n X.P fn a.tmps (fun e w'=>∃v r g' H',e=.returned v/\Rel r g' w' v/\Wf X.G g' w'/\HR g' w' H'/\ExtM g0 w0 g' w'/\Q r H') a.defers .returning w:=by
 obtain ⟨Ds,hd,hnd,hD⟩:=hs.defers
 rw[hd]
 clear hd
 have key:∀(Ds:List Nat) (w:World),Ds.Nodup->(∀D∈Ds,w0.heap.size<=D/\w.heap[D]?=some (.deferred (some []))/\∀o,¬g.owns D o)->Wf X.G g w->HR g w H->(∀t,Rel (fr t) g w (a.tmps.getD t Go.undef))->ExtM g0 w0 g w ->
   LeavesInM (Fd rd) n X.P fn a.tmps (fun e w'=>∃v r g' H',e=.returned v/\Rel r g' w' v/\Wf X.G g' w'/\HR g' w' H'/\ExtM g0 w0 g' w'/\Q r H') (Ds.map mkD) .returning w:=by
  intro Ds
  induction Ds with
  | nil =>
   intro w _ _ hwf hhr hfr he
   have hs':StR X N g w fr H { tmps:=a.tmps,defers:=[] }->∃u,(results fn a.tmps).run X.P w=.ok u w/\Rel (zkO vs) g w u:=fun hs'=>zlu hs' h1 h2
   obtain ⟨u,hu,hru⟩:=zlu (X:={ X with n0:=0 }) (a:={ tmps:=a.tmps,defers:=[] }) ⟨hwf,hhr,hfr,hs.size,DOk.nil,Nat.zero_le _⟩ h1 h2
   exact ⟨u,hu,u,_,g,H,rfl,hru,hwf,hhr,he,hq⟩
  | cons D Ds ih =>
   intro w hnd hD hwf hhr hfr he
   obtain ⟨hD1,hD2,hD3⟩:=hD D (by simp)
   obtain ⟨hm,hwf',hhr'⟩:=zyV hwf hhr hD2 hD3
   refine ⟨by simp,.inl ⟨D,_,rfl,run_takeDeferred hD2,ih _ (List.nodup_cons.1 hnd).2 (fun D' hD'=>?_) hwf' hhr' (fun t=>Rel.mono _ hm (hfr t)) ⟨zyI he.ext hD1 _,he.mono.trans hm⟩⟩⟩
   obtain ⟨e1,e2,e3⟩:=hD D' (by simp [hD'])
   refine ⟨e1,?_,e3⟩
   rw[World.putObj_heap_other (fun (e:D'=D)=>(List.nodup_cons.1 hnd).1 (by rw[<-e];exact hD'))]
   exact e2
 exact key Ds w hnd hD hs.wf hs.hr hs.fr he
def EvM (X:Cx)(f:FuncId)(args:List AV)(Hin:Heap)(Q:AV->Heap->Prop):Prop:=
 zb7 X f/\∀g w vs,Wf X.G g w->HR g w Hin->RelL args g w vs->Calls X.P f vs.toArray w fun e w' =>
  ∃v r g' H',e=.returned v/\Rel r g' w' v/\Wf X.G g' w'/\HR g' w' H'/\ExtM g w g' w'/\Q r H'
theorem EvM.evF {f:FuncId}{args:List AV}{Hin:Heap}{Q:AV->Heap->Prop}(h:EvM X f args Hin Q):EvF X f args Hin Q:=
 ⟨h.1,fun g w vs h1 h2 h3=>(h.2 g w vs h1 h2 h3).mono fun _ _ ⟨v,r,g',H',k1,k2,k3,k4,k5,k6⟩=>⟨v,r,g',H',k1,k2,k3,k4,k5.ext,k6⟩⟩
theorem zwt (hrd:X.rd=none){f:FuncId}{hint:Nat->Bool}{af:AFun}(hc:zaa X.P f hint=some af){args:List AV}{Hin:Heap}{Q:AV->Heap->Prop}
  (h:XA X af.n af.code (frOf args) Hin fun e fr H=>(e=.normal∨e=.ret)/\∃vs fr' H',WkA X af.n fr H fr' H'/\za6 fr' H' af.res=some vs/\Q (zkO vs) H'):EvM X f args Hin Q:=by
 unfold zaa at hc
 split at hc
 ·rename_i fn hfn
  split at hc
  ·rename_i c hb
   split at hc
   ·rename_i ac rs h1 h2
    split at hc
    ·rename_i hname
     cases hc
     refine ⟨⟨fn,hfn,by simpa using hname,by rw[hb];rfl⟩,fun g w vs hwf hhr hvs=>?_⟩
     refine zyL (rd:=X.rd) (n:=0) (callsIn_of_wp_marks hfn hb trivial ?_ hrd)
     have hs:StR (X.at w.heap.size) fn.ntmps g w (frOf args) Hin { tmps:=vs.toArray++Array.replicate (fn.ntmps-vs.toArray.size) Go.undef,defers:=[] }:=by
      refine ⟨hwf,hhr,fun t=>?_,by simp;omega,DOk.nil,Nat.le_refl _⟩
      simp only[frOf]
      cases hx:args[t]? with
      | none=>simp [List.getD,hx,Rel]
      | some x =>
       obtain ⟨v,hv,hr⟩:=hvs.get' t hx
       have hlt:t<vs.length:=by
        rcases Nat.lt_or_ge t vs.length with h'|h'
        ·exact h'
        ·simp [List.getElem?_eq_none h']at hv
       have:(vs.toArray++Array.replicate (fn.ntmps-vs.toArray.size) Go.undef).getD t Go.undef=v:=by
        simp only[Array.getD_eq_getD_getElem?]
        rw[Array.getElem?_append_left (by simpa using hlt)]
        simp [hv]
       rw[this]
       simpa [List.getD,hx] using hr
     refine Code.wpIn_mono (fun e a' w' ⟨g',fr',H',k1,k2,k3,vs',fr'',H'',k4,k5,k6⟩=>?_) (h c hint h1 w.heap.size g w _ hs)
     obtain ⟨g'',k7,k8⟩:=k4 w.heap.size g' w' a' k1
     have hpost:LeavesInM (Fd X.rd) 0 X.P fn a'.tmps (fun e w'=>∃v r g' H',e=.returned v/\Rel r g' w' v/\Wf X.G g' w'/\HR g' w' H'/\ExtM g w g' w'/\Q r H') a'.defers .returning w':=
      zp4 k7 h2 k5 (k2.trans k8) k6
     rcases k3 with rfl|rfl
     ·exact hpost
     ·exact hpost
    ·cases hc
   ·cases hc
  ·cases hc
 ·cases hc
end
end Go.Avm
namespace Go.Avm
open Go
section
variable {X:Cx}
theorem EvF.body {f:FuncId}{args:List AV}{Hin:Heap}{Q:AV->Heap->Prop}(h:EvF X f args Hin Q):zb7 X f:=h.1
theorem zqd {g:Gh}{w:World}(h1:∀i,g.bx i=none)(h2:∀i,g.tl i=none)(h3:∀i,g.tk i=none):HR g w []:=
 ⟨fun i x hx=>by simp at hx,fun i _=>⟨h1 i,h2 i,h3 i⟩⟩
theorem zr8 {g:Gh}{w:World}(h:Wf X.G g w):Wf X.G g.flat w where
 S b o hs:=⟨(h.S b o hs).1,fun ho=>by rcases ho with ⟨i,hi⟩|⟨i,lo,hi,hi',_⟩<;>simp [Gh.flat]at *⟩
 inj i j b hi:=nomatch hi
 tinj i j b lo hi lo' hi' h:=nomatch h
 apart i j b lo hi h:=nomatch h
 bx i b h:=nomatch h
 tk i b lo hi h:=nomatch h
 laid x cs hx:=by
  have:=h.laid x cs hx
  simp only[Rel]at this⊢
  exact this
 ex:=h.ex
theorem zvM {g:Gh}{b o:Nat}:¬g.flat.owns b o:=fun ho=>by
 rcases ho with ⟨i,hi⟩|⟨i,lo,hi,hi',_⟩<;>simp [Gh.flat]at *
theorem zqj {g g1 g':Gh}{w w':World}{H:Heap}(hwf:Wf X.G g w)(hhr:HR g w H)(hb1:∀i,g1.bx i=none)(hb2:∀i,g1.tk i=none)(hwf':Wf X.G g' w')(he:Ext g1 w g' w')
  (S':Nat->Nat->Prop) (hS':∀b o,S' b o->(g.S b o∨(w.heap.size<=b/\g'.S b o))) (hSS:∀b o,g.S b o->S' b o) :
  Good X g w H { g with S:=S' } w' H:=by
 have hno:∀b o,¬g1.owns b o:=fun b o ho=>by
  rcases ho with ⟨i,hi⟩|⟨i,lo,hi,hi',_⟩
  ·rw[hb1]at hi;cases hi
  ·rw[hb2]at hi';cases hi'
 have hobj:∀b,b<w.heap.size->w'.heap[b]?=w.heap[b]?:=fun b hb=>he.obj b hb fun o=>hno b o
 have hcell:∀b o,b<w.heap.size->w'.cell? ⟨b,o,none⟩=w.cell? ⟨b,o,none⟩:=fun b o hb=>by simp only[World.cell?,hobj b hb]
 have hm:Mono g w { g with S:=S' } w':=⟨fun b o h=>⟨hSS b o h,hcell b o (hwf.lt_S h)⟩,fun _ _ h=>h,fun i n h=>⟨n,h,.inl ⟨rfl,rfl⟩⟩⟩
 refine ⟨⟨fun b o h=>?_,hwf.inj,hwf.tinj,hwf.apart,fun i b h=>?_,fun i b lo hi h=>?_,fun x cs hx=>Rel.mono _ hm (hwf.laid x cs hx),zcy hwf.ex fun b vs e fz h=>⟨vs,fz,(hobj b (Array.getElem?_eq_some_iff.1 h).1).trans h,rfl⟩⟩,
  ⟨fun i x hx=>?_,hhr.far⟩,hm,⟨he.size,hSS,fun b o h=>?_,fun b o hb _=>hcell b o hb,fun b hb _=>hobj b hb,fun b vs e fz h=>?_,fun b o h=>.inr h,he.io⟩⟩
 ·rcases hS' b o h with h1|⟨h1,h2⟩
  ·obtain ⟨⟨vs,e,fz,h3,h4⟩,h5⟩:=hwf.S b o h1
   exact ⟨⟨vs,e,fz,(hobj b (hwf.lt_S h1)).trans h3,h4⟩,h5⟩
  ·exact ⟨(hwf'.S b o h2).1,fun ho=>by have:b<w.heap.size:=hwf.lt_owns (o:=o) ho;omega⟩
 ·obtain ⟨h3,h4⟩:=hwf.bx i b h
  exact ⟨Nat.lt_of_lt_of_le h3 he.size,fun vs e lo hi h5=>h4 vs e lo hi ((hobj b h3).symm.trans h5)⟩
 ·obtain ⟨vs,e,fl,fh,h3,h4,h5⟩:=hwf.tk i b lo hi h
  exact ⟨vs,e,fl,fh,(hobj b (hwf.lt_tk h)).trans h3,h4,h5⟩
 ·exact (hhr.blk i x hx).mono hm (fun b hb=>hobj b (hwf.lt_bx hb)) (fun _ h=>h) (fun b lo hi h=>⟨h,hobj b (hwf.lt_tk h)⟩)
 ·rcases hS' b o h with h1|⟨h1,_⟩
  ·exact .inl h1
  ·exact .inr (.inl h1)
 ·exact ⟨vs,fz,(hobj b (Array.getElem?_eq_some_iff.1 h).1).trans h,rfl,.inl rfl⟩
theorem zhD {f:FuncId}{args:List AV}{H:Heap}{r:AV}(h:Ev X f (dryL args) r):zuL X f args H r:=
 ⟨h.1,fun g w vs hwf hhr hvs=>(h.2 g.flat w vs (zr8 hwf) (zqd (fun _=>rfl) (fun _=>rfl) (fun _=>rfl)) (zdQ args hvs)).mono fun e w' ⟨v,r',g',H',h1,h2,h3,h4,h5,h6,h7⟩=>by
  subst h6;subst h7
  have hfar:=h4.far
  refine ⟨v,{ g with S:=g'.S },h1,?_,zqj hwf hhr (g1:=g.flat) (fun _=>rfl) (fun _=>rfl) h3 h5 g'.S (fun b o hs=>?_) (fun b o hs=>h5.S b o hs)⟩
  ·refine Rel.mono _ (g:=g') ⟨fun b o hs=>⟨hs,rfl⟩,fun i b hb=>?_,fun i n hn=>?_⟩ h2
   ·rw[(hfar i (Nat.zero_le _)).1]at hb;cases hb
   ·rw[(hfar i (Nat.zero_le _)).2.1]at hn;cases hn
  ·rcases h5.S' b o hs with h8|h8|h8
   ·exact .inl h8
   ·exact .inr ⟨h8,hs⟩
   ·exact absurd h8 zvM⟩
mutual
def zgJ:AV->Bool
 | .sl .ro es|.sl .ex es=>es.isEmpty
 | .sl (.tok _ _) _|.rsl _ _ _ _ _|.vp _|.ptr _ _|.grd _ _|.yv _|.mp _=>false
 | .agg cs|.tuple cs=>znW cs
 | .clo _ fs cs=>znW fs&&znW cs
 | .ifc _ v=>zgJ v
 | _=>true
def znW:List AV->Bool
 | []=>true
 | x::xs=>zgJ x&&znW xs
end
mutual
theorem zkP:∀(x:AV) {g g':Gh} {w w':World} {v:Value},zgJ x=true->Rel x g w v->Rel x g' w' v
 | .undef,_,_,_,_,_,_,_=>by simp [Rel]
 | .bool _,_,_,_,_,_,_,h=>by simpa [Rel] using h
 | .int _ _,_,_,_,_,_,_,h=>by simpa [Rel] using h
 | .str _,_,_,_,_,_,_,h=>by simpa [Rel] using h
 | .sl p es,g,g',w,w',v,hf,h=>by
  have hes:es=[]/\(p=.ro∨p=.ex):=by cases p<;>simp [zgJ]at hf<;>simp [hf]
  obtain ⟨rfl,hp⟩:=hes
  simp only[Rel]at h⊢
  obtain ⟨a,cap,vs,sz,h1,h2,h3,h4,h5⟩:=h
  refine ⟨a,cap,[],sz,h1,h2,by simp [RelL],.inl rfl,?_⟩
  rcases hp with rfl|rfl
  ·trivial
  ·exact h5
 | .rsl _ _ _ _ _,_,_,_,_,_,hf,_=>by simp [zgJ]at hf
 | .nilP,_,_,_,_,_,_,h=>by simpa [Rel] using h
 | .vp _,_,_,_,_,_,hf,_=>by simp [zgJ]at hf
 | .ptr _ _,_,_,_,_,_,hf,_=>by simp [zgJ]at hf
 | .agg cs,g,g',w,w',v,hf,h=>by
  simp only[Rel]at h⊢
  obtain ⟨vs,h1,h2⟩:=h
  exact ⟨vs,h1,zeJ cs (by simpa [zgJ] using hf) h2⟩
 | .tuple cs,g,g',w,w',v,hf,h=>by
  simp only[Rel]at h⊢
  obtain ⟨vs,h1,h2⟩:=h
  exact ⟨vs,h1,zeJ cs (by simpa [zgJ] using hf) h2⟩
 | .clo f fs cs,g,g',w,w',v,hf,h=>by
  simp only[zgJ,Bool.and_eq_true]at hf
  simp only[Rel]at h⊢
  obtain ⟨us,vs,h1,h2,h3⟩:=h
  exact ⟨us,vs,h1,zeJ fs hf.1 h2,zeJ cs hf.2 h3⟩
 | .nilF,_,_,_,_,_,_,h=>by simpa [Rel] using h
 | .ifc t x,g,g',w,w',v,hf,h=>by
  simp only[Rel]at h⊢
  obtain ⟨u,h1,h2⟩:=h
  exact ⟨u,h1,zkP x (by simpa [zgJ] using hf) h2⟩
 | .nilI,_,_,_,_,_,_,h=>by simpa [Rel] using h
 | .grd _ _,_,_,_,_,_,hf,_=>by simp [zgJ]at hf
 | .yv _,_,_,_,_,_,hf,_=>by simp [zgJ]at hf
 | .mp _,_,_,_,_,_,hf,_=>by simp [zgJ]at hf
theorem zeJ:∀(xs:List AV) {g g':Gh} {w w':World} {vs:List Value},znW xs=true->RelL xs g w vs->RelL xs g' w' vs
 | [],_,_,_,_,_,_,h=>by simpa [RelL] using h
 | x::xs,g,g',w,w',vs,hf,h=>by
  simp only[znW,Bool.and_eq_true]at hf
  simp only[RelL]at h⊢
  obtain ⟨v,rest,h1,h2,h3⟩:=h
  exact ⟨v,rest,h1,zkP x hf.1 h2,zeJ xs hf.2 h3⟩
end
mutual
def lend (H:Heap):AV->AV
 | .sl _ es=>.sl .ro es
 | .rsl id off n _ sz=>match H[id]? with
  | some (.box cs)=>bif sz==1&&decide (off+n<=cs.length)&&(cs.all zah||((cs.drop off).take n).all zah) then .sl .ro (dryL ((cs.drop off).take n)) else .undef
  | _=>.undef
 | .ptr id off=>match H[id]? with
  | some (.box cs)=>.vp (dryL (cs.drop off))
  | _=>.undef
 | .agg cs=>.agg (zki H cs)
 | .tuple cs=>.tuple (zki H cs)
 | .clo f fs cs=>.clo f (zki H fs) (zki H cs)
 | .ifc t v=>.ifc t (lend H v)
 | .grd _ _=>.undef
 | .yv _=>.undef
 | .mp _=>.undef
 | v=>v
def zki (H:Heap):List AV->List AV
 | []=>[]
 | x::xs=>lend H x::zki H xs
end
def allS (w:World):Gh:={ S:=fun b o=>∃(vs:Array Value) (e:TypeId) (fz:Nat×Nat),w.heap[b]?=some (Obj.cells vs e fz)/\o<vs.size,bx:=fun _=>none,tl:=fun _=>none,tk:=fun _=>none }
theorem zfE {g:Gh}{w:World}(h:Wf X.G g w):Mono g.flat w (allS w) w:=⟨fun b o hs=>⟨(h.S b o hs).1,rfl⟩,(fun _ _ e=>nomatch e),(fun _ _ e=>nomatch e)⟩
theorem zA3 {g:Gh}{w:World}(h:Wf X.G g w):Wf X.G (allS w) w where
 S b o hs:=⟨hs,fun ho=>by rcases ho with ⟨i,hi⟩|⟨i,lo,hi,hi',_⟩<;>simp [allS]at *⟩
 inj i j b hi:=nomatch hi
 tinj i j b lo hi lo' hi' h:=nomatch h
 apart i j b lo hi h:=nomatch h
 bx i b h:=nomatch h
 tk i b lo hi h:=nomatch h
 laid x cs hx:=Rel.mono _ (zfE h) ((zr8 h).laid x cs hx)
 ex:=h.ex
mutual
theorem ztO {g:Gh}{w:World}{H:Heap}(hwf:Wf X.G g w)(hhr:HR g w H):∀(x:AV) {v:Value},Rel x g w v->Rel (lend H x) (allS w) w v
 | .undef,_,_=>by simp [lend,Rel]
 | .bool _,_,h=>by simpa [lend,Rel] using h
 | .int _ _,_,h=>by simpa [lend,Rel] using h
 | .str _,_,h=>by simpa [lend,Rel] using h
 | .sl p es,v,h=>by
  have h2:=zgf _ h
  simp only[lend,dry]at h2⊢
  exact Rel.mono _ (zfE hwf) h2
 | .rsl id off n cap sz,v,h=>by
  simp only[lend]
  split
  ·rename_i cs hH
   by_cases hc:(sz==1&&decide (off+n<=cs.length)&&(cs.all zah||((cs.drop off).take n).all zah))=true
   ·rw [hc,cond_true]
    simp only[Bool.and_eq_true,beq_iff_eq,decide_eq_true_eq]at hc
    obtain ⟨⟨h1,h2⟩,h3⟩:=hc
    have h3:∀(i:Nat) (c:AV),i<n->cs[off+i]?=some c->zah c=true:=fun i c hi hcc=>by
     rw[Bool.or_eq_true]at h3
     rcases h3 with h|h
     ·exact List.all_eq_true.1 h c (List.mem_of_getElem? hcc)
     ·refine List.all_eq_true.1 h c (List.mem_of_getElem? (i:=i) ?_)
      rw[List.getElem?_take,if_pos hi,List.getElem?_drop]
      exact hcc
    simp only[Rel]at h
    obtain ⟨a,b,rfl,hb,hncap,hcap⟩:=h
    obtain ⟨arr,e,fz,hheap,hvs⟩:=hhr.box hH hb
    have hdl:∀(l:List AV),(dryL l).length=l.length:=fun l=>by
     induction l with
     | nil=>rfl
     | cons x l ih=>simp [dryL,ih]
    have hlen:(dryL ((cs.drop off).take n)).length=n:=by rw[hdl];simp;omega
    have hal:arr.size=cs.length:=by simpa using hvs.length
    have hrel:=RelL.mono _ (zfE hwf) (zdQ _ ((hvs.drop off).take n))
    simp only[Rel]
    refine ⟨a,cap,(arr.toList.drop off).take n,1,by rw[hlen],by rw[hlen];exact hncap,hrel,?_,trivial⟩
    rcases hcap with rfl|rfl
    ·have hn0:n=0:=by omega
     subst hn0
     exact .inl (by simp)
    ·refine .inr ⟨b,off,rfl,fun i x hx=>?_⟩
     have hx0:=hx
     rw[List.getElem?_take]at hx
     split at hx
     ·rename_i hin
      rw[List.getElem?_drop]at hx
      obtain ⟨c,hcc,hr⟩:=hvs.get (off+i) hx
      have hsc:=zbX hr (h3 i c hin hcc)
      refine ⟨by rw[hsc.1];rfl,fun j z hz=>?_⟩
      rw[hsc.1]at hz
      have hj:j=0:=by
       rcases Nat.eq_zero_or_pos j with h|h
       ·exact h
       ·rw[Array.getElem?_eq_none (by simp;omega)]at hz;cases hz
      subst hj
      simp at hz
      subst hz
      rw[Nat.mul_one,Nat.add_zero]
      exact ⟨⟨arr,e,fz,hheap,by omega⟩,cell_of_heap hheap (by simpa using hx)⟩
     ·cases hx
   ·rw[show (sz==1&&decide (off+n<=cs.length)&&(cs.all zah||((cs.drop off).take n).all zah))=false by simpa using hc,cond_false]
    simp [Rel]
  ·simp [Rel]
 | .nilP,_,h=>by simpa [lend,Rel] using h
 | .vp cs,v,h=>by
  have h2:=zgf _ h
  simp only[lend,dry]at h2⊢
  exact Rel.mono _ (zfE hwf) h2
 | .ptr id off,v,h=>by
  simp only[lend]
  split
  ·rename_i cs hH
   simp only[Rel]at h
   obtain ⟨b,rfl,hb⟩:=h
   obtain ⟨arr,e,fz,hheap,hvs⟩:=hhr.box hH hb
   simp only[Rel]
   refine ⟨b,off,arr.toList.drop off,rfl,RelL.mono _ (zfE hwf) (zdQ _ (hvs.drop off)),fun i x hx=>?_⟩
   rw[List.getElem?_drop]at hx
   have hlt:off+i<arr.size:=by
    rcases Nat.lt_or_ge (off+i) arr.size with h'|h'
    ·exact h'
    ·rw[List.getElem?_eq_none (by simpa using h')]at hx;cases hx
   exact ⟨⟨arr,e,fz,hheap,hlt⟩,cell_of_heap hheap (by simpa using hx)⟩
  ·simp [Rel]
 | .agg cs,v,h=>by
  simp only[lend,Rel]at h⊢
  obtain ⟨vs,h1,h2⟩:=h
  exact ⟨vs,h1,zeK hwf hhr cs h2⟩
 | .tuple cs,v,h=>by
  simp only[lend,Rel]at h⊢
  obtain ⟨vs,h1,h2⟩:=h
  exact ⟨vs,h1,zeK hwf hhr cs h2⟩
 | .clo f fs cs,v,h=>by
  simp only[lend,Rel]at h⊢
  obtain ⟨us,vs,h1,h2,h3⟩:=h
  exact ⟨us,vs,h1,zeK hwf hhr fs h2,zeK hwf hhr cs h3⟩
 | .nilF,_,h=>by simpa [lend,Rel] using h
 | .ifc t x,v,h=>by
  simp only[lend,Rel]at h⊢
  obtain ⟨u,h1,h2⟩:=h
  exact ⟨u,h1,ztO hwf hhr x h2⟩
 | .nilI,_,h=>by simpa [lend,Rel] using h
 | .grd _ _,_,_=>by simp [lend,Rel]
 | .yv _,_,_=>by simp [lend,Rel]
 | .mp _,_,_=>by simp [lend,Rel]
theorem zeK {g:Gh}{w:World}{H:Heap}(hwf:Wf X.G g w)(hhr:HR g w H):∀(xs:List AV) {vs:List Value},RelL xs g w vs->RelL (zki H xs) (allS w) w vs
 | [],_,h=>by simpa [zki,RelL] using h
 | x::xs,vs,h=>by
  simp only[zki,RelL]at h⊢
  obtain ⟨v,rest,h1,h2,h3⟩:=h
  exact ⟨v,rest,h1,ztO hwf hhr x h2,zeK hwf hhr xs h3⟩
end
theorem zvk {f:FuncId}{args:List AV}{H:Heap}{r:AV}(h:Ev X f (zki H args) r)(hr:zgJ r=true):zuL X f args H r:=
 ⟨h.1,fun g w vs hwf hhr hvs=>(h.2 (allS w) w vs (zA3 hwf) (zqd (fun _=>rfl) (fun _=>rfl) (fun _=>rfl)) (zeK hwf hhr args hvs)).mono fun e w' ⟨v,r',g',H',h1,h2,h3,h4,h5,h6,h7⟩=>by
  subst h6;subst h7
  exact ⟨v,{ g with S:=g.S },h1,zkP _ hr h2,zqj hwf hhr (g1:=allS w) (fun _=>rfl) (fun _=>rfl) h3 h5 g.S (fun b o hs=>.inl hs) (fun b o hs=>hs)⟩⟩
end
abbrev FL:=List (Nat×AV)
def FL.get:FL->Fr
 | [],_=>.undef
 | (i,v)::r,t=>if i=t then v else FL.get r t
def FL.set (F:FL)(d:Nat)(v:AV):FL:=(d,v)::F
def FL.keep (F:FL)(ks:List Nat):FL:=ks.map fun k=>(k,F.get k)
theorem FL.get_set (F:FL)(d:Nat)(v:AV):(F.get).updo (some d) v=(FL.set F d v).get:=by
 funext t
 simp only[Fr.updo,Fr.upd,FL.set,FL.get]
 by_cases h:t=d
 ·subst h;simp
 ·rw[if_neg h,if_neg (fun e=>h e.symm)]
section
variable {X:Cx}{N:Nat}
theorem zG1 {fr fr':Fr}{H:Heap}(h:∀t,fr' t=fr t∨fr' t=.undef):Wk X N fr H fr' H:=fun g w a hs =>
 ⟨g,hs.weak fun t v hr=>by
  rcases h t with e|e
  ·rw[e];exact hr
  ·rw[e];simp [Rel],ExtM.refl g w⟩
def FL.le (F:FL):FL->Prop
 | []=>True
 | (i,v)::r=>F.get i=v/\FL.le F r
theorem zoY (args:List AV):frOf args=FL.get (args.zipIdx.map fun p=>(p.2,p.1)):=by
 have key:∀(l:List AV) (k t:Nat),FL.get ((l.zipIdx k).map fun p=>(p.2,p.1)) t=if k<=t then l.getD (t-k) .undef else .undef:=by
  intro l
  induction l with
  | nil=>intro k t;simp [FL.get]
  | cons x l ih =>
   intro k t
   simp only[List.zipIdx_cons,List.map_cons,FL.get,ih]
   by_cases h:k=t
   ·subst h;simp
   ·rw [if_neg h]
    by_cases h2:k<=t
    ·rw[if_pos (by omega),if_pos h2]
     rw[show t-k=(t-(k+1))+1 by omega]
     simp
    ·rw[if_neg (by omega),if_neg h2]
 funext t
 have:=key args 0 t
 simp only[Nat.zero_le,if_true,Nat.sub_zero]at this
 exact this.symm
end
end Go.Avm
namespace Go.Avm
open Go
def wpc (X:Cx)(N:Nat):ACode->(Exit->Fr->Heap->Prop)->Fr->Heap->Prop
 | .skip,Q,fr,H=>Q .normal fr H
 | .region false ops,Q,fr,H=>zh0 X (Q .normal) ops fr H
 | .region true ops,Q,fr,H=>zbx X (Q .normal) H ops fr
 | .seq a b,Q,fr,H=>wpc X N a (zga (wpc X N b Q) Q) fr H
 | .cond c a b,Q,fr,H=>match c.eval X.G fr with
  | .bool t=>(t=true->wpc X N a Q fr H)/\(t=false->wpc X N b Q fr H)
  | _=>False
 | .block id c,Q,fr,H=>wpc X N c (ABlk id Q) fr H
 | .loop c,Q,fr,H=>XA X N (.loop c) fr H Q
 | .rangeF x ps a b,Q,fr,H=>XA X N (.rangeF x ps a b) fr H Q
 | .scope c,Q,fr,H=>wpc X N c (ASc Q) fr H
 | .scopeJ c,Q,fr,H=>XA X N (.scopeJ c) fr H Q
 | .label _,Q,fr,H=>Q .normal fr H
 | .goto l,Q,fr,H=>Q (.goto l) fr H
 | .bad,_,_,_=>False
 | .exit id,Q,fr,H=>Q (.exit id) fr H
 | .ret,Q,fr,H=>Q .ret fr H
section
variable {X:Cx}{N:Nat}
theorem zaL (hm:X.P.follows .mixedOrders=true):∀(c:ACode) {Q:Exit->Fr->Heap->Prop} {fr:Fr} {H:Heap},wpc X N c Q fr H->XA X N c fr H Q
 | .skip,_,_,_,h=>zA1 h
 | .region false ops,_,_,_,h=>zwZ h
 | .region true ops,_,_,_,h=>zmN hm h
 | .seq a b,Q,fr,H,h=>zwr fun K hK=>zeu (zaL hm a h) fun e fr' H' hq=>by
   cases e<;>first|exact hK _ _ (zaL hm b hq)|exact hq
 | .cond c a b,Q,fr,H,h=>by
  simp only[wpc]at h
  split at h
  ·rename_i t ht
   exact zCB ht (fun e=>zaL hm a (h.1 e)) (fun e=>zaL hm b (h.2 e))
  ·exact h.elim
 | .block id c,Q,fr,H,h=>zxX (zaL hm c h)
 | .loop c,_,_,_,h=>h
 | .rangeF _ _ _ _,_,_,_,h=>h
 | .scope c,Q,fr,H,h=>zys (zaL hm c h)
 | .scopeJ _,_,_,_,h=>h
 | .label _,_,_,_,h=>zxY h
 | .goto _,_,_,_,h=>zCC h
 | .bad,_,_,_,h=>False.elim h
 | .exit id,_,_,_,h=>zCd h
 | .ret,_,_,_,h=>zE5 h
end
mutual
def finB (d:List AV->List AV)(H:Heap):AV->AV
 | .sl p es=>.sl (match p with|.ex=>.ex|_=>.ro) es
 | .rsl id off n _ sz=>match H[id]? with
  | some (.box cs)=>bif sz==1&&decide (off+n<=cs.length)&&(cs.all zah||((cs.drop off).take n).all zah) then .sl .ro (d ((cs.drop off).take n)) else .undef
  | _=>.undef
 | .ptr id off=>match H[id]? with
  | some (.box cs)=>.vp (d (cs.drop off))
  | _=>.undef
 | .agg cs=>.agg (zfy d H cs)
 | .tuple cs=>.tuple (zfy d H cs)
 | .clo f fs cs=>.clo f (zfy d H fs) (zfy d H cs)
 | .ifc t v=>.ifc t (finB d H v)
 | .grd _ _=>.undef
 | .yv _=>.undef
 | .mp _=>.undef
 | v=>v
def zfy (d:List AV->List AV)(H:Heap):List AV->List AV
 | []=>[]
 | x::xs=>finB d H x::zfy d H xs
end
theorem zjT {d:List AV->List AV}{H:Heap}:∀(l:List AV),(zfy d H l).length=l.length
 | []=>by simp [zfy]
 | x::l=>by simp [zfy,zjT l]
def finN (H:Heap):Nat->List AV->List AV
 | 0=>fun l=>l.map fun _=>.undef
 | k+1=>zfy (finN H k) H
theorem zmz {H:Heap}:∀(k:Nat) (l:List AV),(finN H k l).length=l.length
 | 0,l=>by simp [finN]
 | k+1,l=>by simp [finN,zjT]
def fin (H:Heap)(k:Nat):AV->AV:=finB (finN H k) H
def finG (g:Gh)(w:World):Gh:={ S:=fun b o=>g.S b o∨((∃i,g.bx i=some b)/\∃(vs:Array Value) (e:TypeId) (fz:Nat×Nat),w.heap[b]?=some (Obj.cells vs e fz)/\o<vs.size),bx:=fun _=>none,tl:=fun _=>none,tk:=fun _=>none }
section
variable {X:Cx}
theorem zkF {g:Gh}{w:World}:Mono g.flat w (finG g w) w:=⟨fun b o hs=>⟨.inl hs,rfl⟩,(fun _ _ e=>nomatch e),(fun _ _ e=>nomatch e)⟩
theorem zqp {g:Gh}{w:World}:(finG g w).flat=finG g w:=rfl
theorem zrf {g:Gh}{w:World}{b o:Nat}:¬(finG g w).owns b o:=fun ho=>by
 rcases ho with ⟨i,hi⟩|⟨i,lo,hi,hi',_⟩<;>simp [finG]at *
theorem zsn {g:Gh}{w:World}(h:Wf X.G g w):Wf X.G (finG g w) w where
 S b o hs:=⟨by rcases hs with hs|hs<;>first|exact (h.S b o hs).1|exact hs.2,zrf⟩
 inj i j b hi:=nomatch hi
 tinj i j b lo hi lo' hi' h:=nomatch h
 apart i j b lo hi h:=nomatch h
 bx i b h:=nomatch h
 tk i b lo hi h:=nomatch h
 laid x cs hx:=Rel.mono _ zkF ((zr8 h).laid x cs hx)
 ex:=h.ex
theorem zou {g:Gh}{w:World}:Ext g w (finG g w) w where
 io:=⟨rfl,rfl⟩
 size:=Nat.le_refl _
 S b o h:=.inl h
 S' b o h:=by
  rcases h with h|⟨⟨i,hi⟩,_⟩
  ·exact .inl h
  ·exact .inr (.inr (.inl ⟨i,hi⟩))
 cell _ _ _ _:=rfl
 obj _ _ _:=rfl
 shape b vs e fz h:=⟨vs,fz,h,rfl,.inl rfl⟩
 own b o h:=absurd h zrf
mutual
theorem zpF {d:List AV->List AV}{g:Gh}{w:World}{H:Heap}(hhr:HR g w H)(hdl:∀l,(d l).length=l.length)(hd:∀l vs,RelL l g w vs->RelL (d l) (finG g w) w vs):∀(x:AV) {v:Value},Rel x g w v->Rel (finB d H x) (finG g w) w v
 | .undef,_,_=>by simp [finB,Rel]
 | .bool _,_,h=>by simpa [finB,Rel] using h
 | .int _ _,_,h=>by simpa [finB,Rel] using h
 | .str _,_,h=>by simpa [finB,Rel] using h
 | .sl p es,v,h=>by
  simp only[finB,Rel]at h⊢
  obtain ⟨a,cap,vs,sz,h1,h2,h3,h4,h5⟩:=h
  refine ⟨a,cap,vs,sz,h1,h2,RelL.mono es zkF h3,?_,?_⟩
  ·rcases h4 with h4|⟨b,o,ha,hc⟩
   ·exact .inl h4
   ·exact .inr ⟨b,o,ha,fun i x hx=>⟨(hc i x hx).1,fun j c hj=>⟨.inl ((hc i x hx).2 j c hj).1,((hc i x hx).2 j c hj).2⟩⟩⟩
  ·cases p with
   | ex=>exact h5
   | _=>trivial
 | .rsl id off n cap sz,v,h=>by
  simp only[finB]
  split
  ·rename_i cs hH
   by_cases hc:(sz==1&&decide (off+n<=cs.length)&&(cs.all zah||((cs.drop off).take n).all zah))=true
   ·rw [hc,cond_true]
    simp only[Bool.and_eq_true,beq_iff_eq,decide_eq_true_eq]at hc
    obtain ⟨⟨h1,h2⟩,h3⟩:=hc
    have h3:∀(i:Nat) (c:AV),i<n->cs[off+i]?=some c->zah c=true:=fun i c hi hcc=>by
     rw[Bool.or_eq_true]at h3
     rcases h3 with h|h
     ·exact List.all_eq_true.1 h c (List.mem_of_getElem? hcc)
     ·refine List.all_eq_true.1 h c (List.mem_of_getElem? (i:=i) ?_)
      rw[List.getElem?_take,if_pos hi,List.getElem?_drop]
      exact hcc
    simp only[Rel]at h
    obtain ⟨a,b,rfl,hb,hncap,hcap⟩:=h
    obtain ⟨arr,e,fz,hheap,hvs⟩:=hhr.box hH hb
    have hlen:(d ((cs.drop off).take n)).length=n:=by rw[hdl];simp;omega
    have hal:arr.size=cs.length:=by simpa using hvs.length
    have hrel:=hd _ _ ((hvs.drop off).take n)
    simp only[Rel]
    refine ⟨a,cap,(arr.toList.drop off).take n,1,by rw[hlen],by rw[hlen];exact hncap,hrel,?_,trivial⟩
    rcases hcap with rfl|rfl
    ·have hn0:n=0:=by omega
     subst hn0
     exact .inl (by simp)
    ·refine .inr ⟨b,off,rfl,fun i x hx=>?_⟩
     rw[List.getElem?_take]at hx
     split at hx
     ·rename_i hin
      rw[List.getElem?_drop]at hx
      obtain ⟨c,hcc,hr⟩:=hvs.get (off+i) hx
      have hsc:=zbX hr (h3 i c hin hcc)
      refine ⟨by rw[hsc.1];rfl,fun j z hz=>?_⟩
      rw[hsc.1]at hz
      have hj:j=0:=by
       rcases Nat.eq_zero_or_pos j with h|h
       ·exact h
       ·rw[Array.getElem?_eq_none (by simp;omega)]at hz;cases hz
      subst hj
      simp at hz
      subst hz
      rw[Nat.mul_one,Nat.add_zero]
      exact ⟨.inr ⟨⟨id,hb⟩,arr,e,fz,hheap,by omega⟩,cell_of_heap hheap (by simpa using hx)⟩
     ·cases hx
   ·rw[show (sz==1&&decide (off+n<=cs.length)&&(cs.all zah||((cs.drop off).take n).all zah))=false by simpa using hc,cond_false]
    simp [Rel]
  ·simp [Rel]
 | .nilP,_,h=>by simpa [finB,Rel] using h
 | .vp cs,v,h=>by
  simp only[finB,Rel]at h⊢
  obtain ⟨b,o,vs,h1,h2,h3⟩:=h
  exact ⟨b,o,vs,h1,RelL.mono cs zkF h2,fun i x hx=>⟨.inl (h3 i x hx).1,(h3 i x hx).2⟩⟩
 | .ptr id off,v,h=>by
  simp only[finB]
  split
  ·rename_i cs hH
   simp only[Rel]at h
   obtain ⟨b,rfl,hb⟩:=h
   obtain ⟨arr,e,fz,hheap,hvs⟩:=hhr.box hH hb
   simp only[Rel]
   refine ⟨b,off,arr.toList.drop off,rfl,hd _ _ (hvs.drop off),fun i x hx=>?_⟩
   rw[List.getElem?_drop]at hx
   have hlt:off+i<arr.size:=by
    rcases Nat.lt_or_ge (off+i) arr.size with h'|h'
    ·exact h'
    ·rw[List.getElem?_eq_none (by simpa using h')]at hx;cases hx
   exact ⟨.inr ⟨⟨id,hb⟩,arr,e,fz,hheap,hlt⟩,cell_of_heap hheap (by simpa using hx)⟩
  ·simp [Rel]
 | .agg cs,v,h=>by
  simp only[finB,Rel]at h⊢
  obtain ⟨vs,h1,h2⟩:=h
  exact ⟨vs,h1,zeI hhr hdl hd cs h2⟩
 | .tuple cs,v,h=>by
  simp only[finB,Rel]at h⊢
  obtain ⟨vs,h1,h2⟩:=h
  exact ⟨vs,h1,zeI hhr hdl hd cs h2⟩
 | .clo f fs cs,v,h=>by
  simp only[finB,Rel]at h⊢
  obtain ⟨us,vs,h1,h2,h3⟩:=h
  exact ⟨us,vs,h1,zeI hhr hdl hd fs h2,zeI hhr hdl hd cs h3⟩
 | .nilF,_,h=>by simpa [finB,Rel] using h
 | .ifc t x,v,h=>by
  simp only[finB,Rel]at h⊢
  obtain ⟨u,h1,h2⟩:=h
  exact ⟨u,h1,zpF hhr hdl hd x h2⟩
 | .nilI,_,h=>by simpa [finB,Rel] using h
 | .grd _ _,_,_=>by simp [finB,Rel]
 | .yv _,_,_=>by simp [finB,Rel]
 | .mp _,_,_=>by simp [finB,Rel]
theorem zeI {d:List AV->List AV}{g:Gh}{w:World}{H:Heap}(hhr:HR g w H)(hdl:∀l,(d l).length=l.length)(hd:∀l vs,RelL l g w vs->RelL (d l) (finG g w) w vs):∀(xs:List AV) {vs:List Value},RelL xs g w vs->RelL (zfy d H xs) (finG g w) w vs
 | [],_,h=>by simpa [zfy,RelL] using h
 | x::xs,vs,h=>by
  simp only[zfy,RelL]at h⊢
  obtain ⟨v,rest,h1,h2,h3⟩:=h
  exact ⟨v,rest,h1,zpF hhr hdl hd x h2,zeI hhr hdl hd xs h3⟩
end
theorem zs2 {g:Gh}{w:World}{H:Heap}(hhr:HR g w H):∀(k:Nat) (l:List AV) (vs:List Value),RelL l g w vs->RelL (finN H k l) (finG g w) w vs
 | 0,l,vs,h=>by
  refine RelL.of_get (by simp [finN,h.length]) fun i x v hx _=>?_
  simp only[finN,List.getElem?_map,Option.map_eq_some_iff]at hx
  obtain ⟨y,_,rfl⟩:=hx
  simp [Rel]
 | k+1,l,vs,h=>zeI hhr (zmz k) (zs2 hhr k) l h
theorem zr2 {g:Gh}{w:World}{H:Heap}(hhr:HR g w H)(k:Nat)(x:AV){v:Value}(h:Rel x g w v):Rel (fin H k x) (finG g w) w v:=
 zpF hhr (zmz k) (zs2 hhr k) x h
theorem zqs {f:FuncId}{args:List AV}{r:AV}(k:Nat)(h:EvF X f args [] fun r' H'=>fin H' k r'=r):Ev X f args r:=
 ⟨h.1,fun g w vs h1 h2 h3=>(h.2 g w vs h1 h2 h3).mono fun e w' ⟨v,r',g',H',k1,k2,k3,k4,k5,k6⟩=>by
  subst k6
  exact ⟨v,_,finG g' w',[],k1,zr2 k4 k r' k2,zsn k3,zqd (fun _=>rfl) (fun _=>rfl) (fun _=>rfl),k5.trans zou,rfl,rfl⟩⟩
def zgM (res:List ARes)(Q:AV->Heap->Prop):Exit->Fr->Heap->Prop
 | .normal,fr,H|.ret,fr,H=>match za6 fr H res with|some vs=>Q (zkO vs) H|none=>False
 | _,_,_=>False
inductive Kt where
 | seq (c:ACode)
 | blk (id:Nat)
 | sc
def kq (X:Cx)(N:Nat)(Q:Exit->Fr->Heap->Prop):List Kt->Exit->Fr->Heap->Prop
 | []=>Q
 | .seq c::ks=>zga (wpc X N c (kq X N Q ks)) (kq X N Q ks)
 | .blk i::ks=>ABlk i (kq X N Q ks)
 | .sc::ks=>ASc (kq X N Q ks)
structure Std (X:Cx):Prop where
 hm:X.P.follows .mixedOrders=true
 hrd:X.rd=none
theorem zaz (hs:Std X){f:FuncId}{hint:Nat->Bool}{af:AFun}(hc:zaa X.P f hint=some af){args:List AV}{Hin:Heap}{Q:AV->Heap->Prop}
  (h:wpc X af.n af.code (kq X af.n (zgM af.res Q) []) (FL.get (args.zipIdx.map fun p=>(p.2,p.1))) Hin):EvM X f args Hin Q:=by
 refine zwt hs.hrd hc ?_
 rw[zoY]
 refine zeu (zaL hs.hm _ h) fun e fr H hq=>?_
 unfold kq zgM at hq
 split at hq
 ·split at hq
  ·rename_i vs hv;exact ⟨.inl rfl,vs,fr,H,WkA.refl,hv,hq⟩
  ·exact hq.elim
 ·split at hq
  ·rename_i vs hv;exact ⟨.inr rfl,vs,fr,H,WkA.refl,hv,hq⟩
  ·exact hq.elim
 ·exact hq.elim
theorem zac (hs:Std X){f:FuncId}{hint:Nat->Bool}{af:AFun}(hc:zaa X.P f hint=some af){args:List AV}{r:AV}(k:Nat)
  (h:wpc X af.n af.code (kq X af.n (zgM af.res fun r' H'=>fin H' k r'=r) []) (FL.get (args.zipIdx.map fun p=>(p.2,p.1))) []):Ev X f args r:=
 zqs k (zaz hs hc h).evF
end
end Go.Avm
