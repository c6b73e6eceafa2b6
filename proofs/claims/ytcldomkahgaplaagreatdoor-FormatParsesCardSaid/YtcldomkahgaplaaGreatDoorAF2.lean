/- Columns of a table. -/
import Derived.Test.YtcldomkahgaplaaGreatDoorAF1
import Derived.Test.YtcldomkahgaplaaGreatDoorM2
set_option linter.all false
namespace Go.Avm
open Go Go.Fm
set_option maxRecDepth 10000
section
variable {X:Cx}(hX:X.P=Go.Proofs.Tryz.prog)(hs:Std X)(hP:X.G (sRen.g 17)=some tabQ)
include hX hs hP
theorem zzo (t:Go.Tb.Tab)(hv:∀a∈t.c,∀v∈a.c,-9223372036854775808<=v/\v<=9223372036854775807)(hl:∀a∈t.c,a.c.length<1000000) :
  Ev X zjl [tabV t] (.tuple [lst colV .ro (zeW t).1,.int .i64 (zeW t).2]):=by
 refine zaE (zak hs (zo0 hX) ?_)
 simp only[zoc,tabV,go_sem,Nat.reduceEqDiff,Nat.reduceAdd,reduceCtorEq]
 refine zab (zyQ hX hs t hl) ?_
 by_cases h:(Go.Tb.chk t).2=0
 ·have hg:=Go.Tb.ztq.1 h
  have e0:zeW t=(ze2 t t.c.length,0):=by unfold zeW;rw[if_neg (by omega)]
  rw[e0]
  simp only[go_sem,Nat.reduceEqDiff,Nat.reduceAdd,reduceCtorEq,Nat.reduceLT,h]
  refine zbj hs.hm (ι:=Nat×Heap) (fun x=>x.1<=t.c.length) (fun x=>[(20,.int .i64 x.1),(19,.int .i64 t.c.length),(18,lst arrV .ro t.c),(1,.ptr 0 0),(6,lst colV (.tok 1 3) (ze2 t x.1))]) (fun x=>.box [lst AV.str .ro t.n,lst arrV .ro t.c]::.tok x.1::x.2) (fun x=>t.c.length-x.1) (0,[]) ⟨Nat.zero_le _,_,_,zcf 6 3 rfl,?_⟩ fun x hx=>?_
  ·exact ⟨⟨rfl,rfl,rfl,rfl,rfl,trivial⟩,rfl⟩
  obtain ⟨k,G⟩:=x
  dsimp only at hx⊢
  have h16:=hg.len
  have heq:=hg.eq
  by_cases hk:k<t.c.length
  ·have h1:(k:Int)<t.c.length:=by omega
   have h2:(k:Int)<t.n.length:=by omega
   have hw:IntKind.i64.wrap ((k:Int)+1)=((k+1:Nat):Int):=by rw[wi64 (by omega)];omega
   have hcm:=zwh hk
   have hnm:(t.n.getD k default).length<=1000:=by
    rw[zGF t k (by omega)]
    have:=Go.Tb.zwv (Go.Tb.zt4 (hg.col k (by omega))).1
    omega
   have e:=zrU t k
   have hdl:=zeY t k
   simp only[zf1,go_sem,Nat.reduceEqDiff,Nat.reduceAdd,Nat.reduceLT,h1,h2]
   rw[zGl t k hk]
   simp only[zbg,go_sem,Nat.reduceAdd,Nat.reduceLT]
   refine ⟨by omega,by omega,za1 (ziz hX hs hP _ _ _ (hv _ hcm) (hl _ hcm) hnm) ?_⟩
   simp only[go_sem,Nat.reduceMod,Nat.reduceBNe,Nat.reduceEqDiff,Nat.reduceLT,Nat.reduceLeDiff,zw2,zvR,app1,hdl,<-e]
   exact ⟨⟨rfl,rfl⟩,⟨by omega,by omega⟩,(k+1,_),by dsimp only;omega,hk,⟨by rw[hw],rfl⟩,rfl⟩
  ·have h1:¬(k:Int)<t.c.length:=by omega
   simp only[zf1,go_sem,Nat.reduceEqDiff,h1]
   have ek:k=t.c.length:=by omega
   subst ek
   exact ⟨⟨_,rfl⟩,rfl⟩
 ·have e0:zeW t=([],(Go.Tb.chk t).2):=if_pos h
  rw[e0]
  simp only[go_sem,Nat.reduceEqDiff,Nat.reduceAdd,reduceCtorEq,Nat.reduceLT,h]
  exact ⟨⟨_,rfl⟩,rfl⟩
end
end Go.Avm
namespace Go.Avm
open Go Go.Fm
set_option maxRecDepth 10000
section
variable {X:Cx}(hX:X.P=Go.Proofs.Tryz.prog)(hs:Std X)(hP:X.G (sRen.g 17)=some tabQ)
include hX hs
theorem zxo (cs:List Col)(f:Nat)(caps:List AV)(g:Nat->List UInt8)(H:Heap)(i j:Nat)(s:List UInt8)(hi:H[i]?=some (.box [lst colV .ro cs]))(hj:H[j]?=some (.bld 61 5 s))
  (hf:∀n,n<cs.length->∀K:Heap,EvK X f (.int .i64 n::colV (zfN cs n)::caps) (H++K) (.str (g n))) (hg:∀n,n<cs.length->(g n).length<=1000) (hsl:s.length<=1000000000) (hm:cs.length<=400) :
  EvM X zdM [.clo f [] caps,.ptr i 0,.ptr j 0] H fun _ H'=>∃K,H'=H.set j (.bld 61 5 (s++zlF g cs.length))++K:=by
 refine zaz hs (zle hX) ?_
 simp only[zjO,go_sem,Nat.reduceEqDiff,Nat.reduceAdd,reduceCtorEq,Nat.reduceLT,hi]
 refine zbj hs.hm (ι:=Nat×Heap) (fun x=>x.1<=cs.length) (fun x=>[(9,.int .i64 x.1),(8,.int .i64 cs.length),(7,lst colV .ro cs),(0,.clo f [] caps),(2,.ptr j 0),(4,lst AV.str (.tok H.length 1) ((List.range x.1).map g))]) (fun x=>H++.tok x.1::x.2) (fun x=>cs.length-x.1) (0,[]) ⟨Nat.zero_le _,_,_,zcf 4 1 rfl,?_⟩ fun x hx=>?_
 ·exact ⟨⟨rfl,rfl,rfl,rfl,rfl,rfl,trivial⟩,rfl⟩
 obtain ⟨n,G⟩:=x
 dsimp only at hx⊢
 by_cases hn:n<cs.length
 ·have h1:(n:Int)<cs.length:=by omega
  have hw:IntKind.i64.wrap ((n:Int)+1)=((n+1:Nat):Int):=by rw[wi64 (by omega)];omega
  have e:(List.range n).map g++[g n]=(List.range (n+1)).map g:=by rw[List.range_succ,List.map_append];rfl
  have hlr:((List.range n).map g).length=n:=by rw[List.length_map,List.length_range]
  have hfn:=hf n hn
  unfold zfN at hfn
  simp only[zep,go_sem,Nat.reduceEqDiff,Nat.reduceAdd,reduceCtorEq,h1]
  generalize cs.getD n default=x at hfn
  simp only[zeS,go_sem,Nat.reduceAdd,List.append_assoc,z1l]
  refine ⟨by omega,zae (hfn _) fun r H' ⟨e1,e2⟩=>?_⟩
  subst e1 e2
  simp only[go_sem,Nat.reduceEqDiff,reduceCtorEq,Nat.reduceLT,Nat.reduceLeDiff,p0g,p0s,app1,hlr,e]
  exact ⟨⟨by omega,by omega⟩,(n+1,_),by dsimp only;omega,hn,⟨by rw[hw],by rw[List.range_succ]⟩,rfl⟩
 ·have h1:¬(n:Int)<cs.length:=by omega
  simp only[zep,go_sem,Nat.reduceEqDiff,reduceCtorEq,h1]
  have en:n=cs.length:=by omega
  subst en
  have hll:=zfY hg
  have hjl:(Lib.join ((List.range cs.length).map g) [32,32]).length+1=(zlF g cs.length).length:=by rw[zlF,List.length_append];rfl
  refine zab (zkz hX ((List.range cs.length).map g) [32,32] (by rw[List.length_map,List.length_range];omega) (by omega)) ?_
  simp only[go_sem,Nat.reduceEqDiff,reduceCtorEq,Nat.reduceLeDiff]
  refine ⟨by omega,zae (zka hX (i:=j) _ (zsb hj _) (by simp only[List.length_append,List.length_singleton];omega)) fun r1 H1 ⟨e1,e2⟩=>?_⟩
  subst e1 e2
  simp only[go_sem]
  rw[List.set_append_left _ _ (List.getElem?_eq_some_iff.1 hj).1]
  exact ⟨_,rfl⟩
theorem k_t2 (ns:List (List UInt8))(y:AV)(b:Nat)(H:Heap)(n:Nat)(c:Col)(hb:H[b]?=some (.box [lst AV.str .ro ns,y]))(hw:c.w<=1000)(hn:n<ns.length)(hn2:(ns.getD n []).length<=1000) :
  EvK X zdY [.int .i64 n,colV c,.ptr b 0] H (.str (padB c.r c.w (ns.getD n []))):=by
 refine zak hs (zlE hX) ?_
 have hbK:=zsb hb
 simp only[zjF,zeS,go_sem,Nat.reduceEqDiff,Nat.reduceAdd,reduceCtorEq,Nat.reduceLT,p0g,hbK]
 refine ⟨rfl,by omega,za1 (zpA hX hs c.r (ns.getD n default) c.w hw (by show (ns.getD n []).length<=_;omega)) ?_⟩
 simp only[go_sem,Nat.reduceEqDiff,reduceCtorEq]
 exact ⟨⟨_,rfl⟩,rfl⟩
theorem k_t4 (b:Nat)(H:Heap)(n row:Nat)(c:Col)(hb:H[b]?=some (.box [.int .i64 row]))(hw:c.w<=1000)(hn:row<c.c.length)(hn2:(c.c.getD row []).length<=1000) :
  EvK X zdO [.int .i64 n,colV c,.ptr b 0] H (.str (padB c.r c.w (c.c.getD row []))):=by
 refine zak hs (zkU hX) ?_
 have hbK:=zsb hb
 simp only[zjU,zeS,go_sem,Nat.reduceEqDiff,Nat.reduceAdd,reduceCtorEq,Nat.reduceLT,p0g,hbK]
 refine ⟨rfl,by omega,za1 (zpA hX hs c.r (c.c.getD row default) c.w hw (by show (c.c.getD row []).length<=_;omega)) ?_⟩
 simp only[go_sem,Nat.reduceEqDiff,reduceCtorEq]
 exact ⟨⟨_,rfl⟩,rfl⟩
theorem zG9 (n:Nat)(c:Col)(hw:c.w<=1000):Ev X zdW [.int .i64 n,colV c] (.str (List.replicate c.w 45)):=by
 refine zac hs (zlo hX) 1 ?_
 simp only[zjP,zeS,go_sem,Nat.reduceEqDiff,Nat.reduceAdd,reduceCtorEq,Nat.reduceLT]
 refine ⟨rfl,zab (zqQ hX [45] c.w (by omega) (by simp only[List.length_singleton];omega)) ?_⟩
 simp only[go_sem,Nat.reduceEqDiff,reduceCtorEq,znR]
include hP
theorem zyP (t:Go.Tb.Tab)(hv:∀a∈t.c,∀v∈a.c,-9223372036854775808<=v/\v<=9223372036854775807)(hl:∀a∈t.c,a.c.length<1000000) :
  Ev X zis [tabV t] (.tuple [.str (zqn t).1,.int .i64 (zqn t).2]):=by
 refine zaE (zak hs (zoV hX) ?_)
 have hd:=zzo hX hs hP t hv hl
 simp only[znr,tabV,go_sem,Nat.reduceEqDiff,Nat.reduceAdd,reduceCtorEq]
 refine zab hd ?_
 by_cases h:(Go.Tb.chk t).2=0
 ·have hg:=Go.Tb.ztq.1 h
  have e0:zeW t=(ze2 t t.c.length,0):=by unfold zeW;rw[if_neg (by omega)]
  have hok:=zDB hg hv
  unfold zqn
  rw[e0]
  dsimp only
  generalize ze2 t t.c.length=cs at hok
  generalize (Go.Tb.many t).toNat=m at hok
  have hc:=hok.c
  have hcn:=hok.n
  simp only[go_sem,Nat.reduceEqDiff,Nat.reduceAdd,Int.reduceNe,reduceCtorEq,Nat.reduceLT]
  by_cases hcs:cs=[]
  ·subst hcs
   simp only[go_sem,List.length_nil]
   exact ⟨⟨_,rfl⟩,rfl⟩
  ·have hpos:=List.length_pos_iff.2 hcs
   have h0:¬((cs.length:Nat):Int)=0:=by omega
   rw[if_neg (by simp [hcs])]
   simp only[go_sem,h0]
   refine zae (zxo hX hs cs zdY [.ptr 0 0] (zwi t.n cs) _ 1 2 [] rfl rfl (fun n hn K=>k_t2 hX hs t.n _ 0 _ n (zfN cs n) rfl (hok.col n hn).w (by omega) (by have:=hok.nm n hn;omega)) hok.head (by decide) (by omega)) fun r1 H1 ⟨K1,e1⟩=>?_
   subst e1
   simp only[go_sem,Nat.reduceEqDiff,reduceCtorEq]
   have hl1:=zfY hok.head
   refine zae (zxo hX hs cs zdW [] (zzC cs) _ 1 2 (zlF (zwi t.n cs) cs.length) rfl rfl (fun n hn K=>zxh (zG9 hX hs n (zfN cs n) (hok.col n hn).w)) hok.dash (by omega) (by omega)) fun r2 H2 ⟨K2,e2⟩=>?_
   subst e2
   simp only[go_sem,Nat.reduceEqDiff,Int.reduceToNat,Int.reduceLE,reduceCtorEq,Nat.reduceLT]
   have hc0:=(hok.col 0 hpos).len
   have ec0:cs.getD 0 default=zfN cs 0:=rfl
   rw[ec0]
   simp only[zeS,go_sem,Nat.reduceEqDiff,reduceCtorEq]
   rw[hc0]
   have hm4:=hok.mm
   refine ⟨by omega,?_⟩
   refine zbj hs.hm (ι:=Nat×Heap) (fun x=>x.1<=m) (fun x=>[(33,.int .i64 x.1),(32,.int .i64 (m:Nat)),(6,.ptr 2 0),(7,.clo zdM [] [.ptr 1 0,.ptr 2 0])]) (fun x=>.box [lst AV.str .ro t.n,lst arrV .ro t.c]::.box [lst colV .ro cs]::.bld 61 5 (zkN t.n cs x.1)::x.2) (fun x=>m-x.1) (0,K1++K2) ⟨Nat.zero_le _,_,_,WkA.refl,?_⟩ fun x hx=>?_
   ·exact ⟨⟨rfl,rfl,rfl,rfl,trivial⟩,by simp [zkN,zzu]⟩
   obtain ⟨row,G⟩:=x
   dsimp only at hx⊢
   by_cases hr:row<m
   ·have h1:(row:Int)<m:=by omega
    have hw:IntKind.i64.wrap ((row:Int)+1)=((row+1:Nat):Int):=by rw[wi64 (by omega)];omega
    have htl:=hok.len row
    simp only[zfK,go_sem,Nat.reduceEqDiff,h1,gx0,gs0]
    refine zae (zxo hX hs cs zdO [.ptr (G.length+1+1+1) 0] (zyz cs row) _ 1 2 (zkN t.n cs row) rfl rfl (fun n hn K=>k_t4 hX hs _ _ n row (zfN cs n) (by simp only[List.cons_append,List.getElem?_cons_succ,List.append_assoc];exact gx0 _ _ _) (hok.col n hn).w (by rw[(hok.col n hn).len];exact hr) ?_) (hok.cell row) (by omega) (by omega)) fun r3 H3 ⟨K3,e3⟩=>?_
    ·have:=(hok.col n hn).all ((zfN cs n).c.getD row []) (by
      rw[List.getD_eq_getElem?_getD,List.getElem?_eq_getElem (by rw[(hok.col n hn).len];exact hr)]
      exact List.getElem_mem _)
     omega
    ·subst e3
     simp only[go_sem,Nat.reduceEqDiff]
     exact ⟨(row+1,G++[.box [.int .i64 row]]++K3),by dsimp only;omega,hr,by rw[hw],by rw[znp]⟩
   ·have h1:¬(row:Int)<m:=by omega
    simp only[zfK,go_sem,Nat.reduceEqDiff,h1]
    have em:row=m:=by omega
    subst em
    refine zae (ziN hX (i:=2) (l:=zkN t.n cs row) rfl ?_) fun r H' ⟨e1,e2⟩=>?_
    ·intro e
     have:=congrArg List.length e
     simp [zkN,zzu,zlF]at this
    ·subst e1 e2
     simp only[go_sem,Nat.reduceEqDiff]
     exact ⟨⟨_,rfl⟩,rfl⟩
 ·have e0:zeW t=([],(Go.Tb.chk t).2):=if_pos h
  unfold zqn
  rw[e0]
  dsimp only
  rw[if_pos (.inl h)]
  simp only[go_sem,Nat.reduceEqDiff,Nat.reduceAdd,reduceCtorEq,Nat.reduceLT,h]
  exact ⟨⟨_,rfl⟩,rfl⟩
end
end Go.Avm
namespace Go.Avm
open Go Go.Fm
set_option maxRecDepth 10000
section
variable {X:Cx}(hX:X.P=Go.Proofs.Tryz.prog)(hs:Std X){te:Nat}(hR:X.G (sRen.g 16)=some [.ifc te .undef])
include hX hs hR
theorem zyh (s:List UInt8)(hl:s.length<1000000):Ev X zoW [.str s] (.tuple [lst (AV.int .i64) .ro (rowR s).1,.int .i64 (rowR s).2]):=by
 refine zaE (zak hs (zst hX) ?_)
 simp only[zt3,go_sem,Nat.reduceEqDiff,reduceCtorEq]
 have hff:=zok hX s hl
 rw[zw8]at hff
 refine zab hff ?_
 unfold rowR
 have hfl:=zo2 s
 have hfm:∀p∈fldB s,p.length<=s.length:=fun p h=>zxc h
 generalize fldB s=fs at hfl hfm
 simp only[go_sem,Nat.reduceEqDiff,reduceCtorEq]
 refine zbj hs.hm (ι:=Nat) (fun i=>i<=fs.length/\(fs.take i).any (fun f=>decide ((gI f).2=6))=false) (fun i=>[(11,.int .i64 i),(10,.int .i64 fs.length),(9,lst AV.str .ro fs),(3,.int .i64 (gE (fs.take i))),(2,lst (AV.int .i64) (.tok 0 1) (gN (fs.take i)))]) (fun i=>[.tok i]) (fun i=>fs.length-i) 0 ⟨⟨Nat.zero_le _,rfl⟩,_,_,zcf 2 1 rfl,?_⟩ fun i hi=>?_
 ·exact ⟨⟨rfl,rfl,rfl,rfl,rfl,trivial⟩,rfl⟩
 obtain ⟨i1,i2⟩:=hi
 by_cases hi':i<fs.length
 ·have h1:(i:Int)<fs.length:=by omega
  have hw:IntKind.i64.wrap ((i:Int)+1)=((i+1:Nat):Int):=by rw[wi64 (by omega)];omega
  have hlt:(gN (fs.take i)).length=i:=by rw[gN,List.length_map,List.length_take];omega
  have e1:=zCL hi'
  have e2:=zAC hi'
  have e3:=Go.Fm.zkx (p:=fun f=>decide ((gI f).2=6)) hi'
  have hfl2:(fs.getD i []).length<1000000:=by
   have:=hfm (fs.getD i []) (by rw[List.getD_eq_getElem?_getD,List.getElem?_eq_getElem hi'];exact List.getElem_mem _)
   omega
  have ec:=gI_e (fs.getD i [])
  simp only[zjk,go_sem,Nat.reduceEqDiff,h1]
  have ed:fs.getD i default=fs.getD i []:=rfl
  rw[ed]
  refine ⟨by omega,zab (zzZ hX hs hR (fs.getD i []) _ _ hfl2) ?_⟩
  have ei:intV (fs.getD i []) (-9223372036854775808) 9223372036854775807=.tuple [.int .i64 (gI (fs.getD i [])).1,.int .i64 (gI (fs.getD i [])).2]:=rfl
  rw[ei]
  generalize hG:gI (fs.getD i [])=G at *
  obtain ⟨v,e⟩:=G
  dsimp only at *
  rcases ec with rfl|rfl|rfl
  ·simp only[go_sem,Nat.reduceEqDiff,Nat.reduceAdd,Int.reduceEq,Nat.reduceLT,Nat.reduceLeDiff,app1,hlt,<-e2,hw]
   exact ⟨⟨by omega,by omega⟩,i+1,by omega,⟨hi',by rw[e3,i2];rfl⟩,⟨rfl,by rw[e1];rfl,rfl⟩,rfl⟩
  ·simp only[go_sem,Nat.reduceEqDiff,Nat.reduceAdd,Nat.reduceLT]
   have:rowL fs=([],6):=by
    unfold rowL
    rw[if_pos]
    rw[List.any_eq_true]
    exact ⟨fs.getD i [],by rw[List.getD_eq_getElem?_getD,List.getElem?_eq_getElem hi'];exact List.getElem_mem _,by rw[hG];rfl⟩
   rw[this]
   exact ⟨⟨_,rfl⟩,rfl⟩
  ·simp only[go_sem,Nat.reduceEqDiff,Nat.reduceAdd,Int.reduceEq,Nat.reduceLT,Nat.reduceLeDiff,app1,hlt,<-e2,hw]
   exact ⟨⟨by omega,by omega⟩,i+1,by omega,⟨hi',by rw[e3,i2];rfl⟩,⟨rfl,by rw[e1];rfl,rfl⟩,rfl⟩
 ·have h1:¬(i:Int)<fs.length:=by omega
  have ei:i=fs.length:=by omega
  subst ei
  rw[List.take_length]at i2⊢
  simp only[zjk,go_sem,Nat.reduceEqDiff,h1]
  have hlt:(gN fs).length=fs.length:=List.length_map _
  by_cases h0:fs=[]
  ·subst h0
   simp only[go_sem,hlt,List.length_nil]
   exact ⟨⟨_,rfl⟩,rfl⟩
  ·have hp:=List.length_pos_iff.2 h0
   have h2:¬((fs.length:Nat):Int)=0:=by omega
   have:rowL fs=(gN fs,gE fs):=by
    unfold rowL
    rw[i2,if_neg (by decide),if_neg h0]
   rw[this]
   simp only[go_sem,hlt,h2]
   exact ⟨⟨_,rfl⟩,rfl⟩
end
end Go.Avm
namespace Go.Avm
open Go Go.Fm
set_option maxRecDepth 10000
def grV (p:Lat.Arr×Int×Int):AV:=.tuple [arrV p.1,.int .i64 p.2.1,.int .i64 p.2.2]
section
variable {X:Cx}(hX:X.P=Go.Proofs.Tryz.prog)(hs:Std X){te:Nat}(hR:X.G (sRen.g 16)=some [.ifc te .undef])
include hX hs hR
theorem zAA (s:List UInt8)(hl:s.length<1000000):Ev X zmm [.str s] (grV (zAS s)):=by
 refine zaE (zak hs (zqE hX) ?_)
 simp only[zqo,go_sem,Nat.reduceEqDiff,reduceCtorEq]
 refine zab (ztw hX hs s (by omega)) ?_
 unfold zAS
 have hll:=zkJ s
 have hlm:∀p∈(Wo.zaF s).1,p.length<=s.length:=fun p h=>zdb h
 unfold zhS
 generalize Wo.zaF s=L at hll hlm
 obtain ⟨ls,e⟩:=L
 dsimp only at hll hlm⊢
 by_cases he:e=0
 ·subst he
  rw[if_neg (by decide)]
  simp only[go_sem,Nat.reduceEqDiff,Nat.reduceAdd,reduceCtorEq,Nat.reduceLT,Nat.reduceLeDiff]
  by_cases h0:ls=[]
  ·subst h0
   simp only[go_sem,List.length_nil]
   exact ⟨⟨_,rfl⟩,rfl⟩
  ·have hp:=List.length_pos_iff.2 h0
   have h2:¬((ls.length:Nat):Int)=0:=by omega
   rw[if_neg h0]
   simp only[go_sem,h2]
   refine zbj hs.hm (ι:=Nat×Heap) (fun x=>x.1<=ls.length/\∀j,j<x.1->zde ls j=0) (fun x=>[(28,.int .i64 x.1),(27,.int .i64 ls.length),(26,lst AV.str .ro ls),(2,.ptr 0 0)]) (fun x=>.box [.int .i64 1,.int .i64 2,.int .i64 x.1,.int .i64 (if x.1=0 then 0 else ((Fm.rowAt ls 0).1.length:Nat)),lst (AV.int .i64) (.tok 1 1) (zdL ls x.1)]::.tok (zdL ls x.1).length::x.2) (fun x=>ls.length-x.1) (0,[]) ⟨⟨Nat.zero_le _,zkG⟩,_,_,zly 0 4 1 rfl rfl,?_⟩ fun x hx=>?_
   ·exact ⟨⟨rfl,rfl,rfl,rfl,trivial⟩,rfl⟩
   obtain ⟨i,G⟩:=x
   obtain ⟨i1,i2⟩:=hx
   dsimp only at i1 i2⊢
   by_cases hi:i<ls.length
   ·have h1:(i:Int)<ls.length:=by omega
    have hw:IntKind.i64.wrap ((i:Int)+1)=((i+1:Nat):Int):=by rw[wi64 (by omega)];omega
    have hmem:ls.getD i []∈ls:=by rw[List.getD_eq_getElem?_getD,List.getElem?_eq_getElem hi];exact List.getElem_mem _
    have hlen:(ls.getD i []).length<1000000:=by have:=hlm _ hmem;omega
    have hrl:=zt0 (ls.getD i [])
    have hcl:=zu8 hlm i
    have hcb:i*(s.length+1)<=5000*1000000:=Nat.mul_le_mul (by omega) (by omega)
    simp only[zhj,go_sem,Nat.reduceEqDiff,h1]
    have ed:ls.getD i default=ls.getD i []:=rfl
    rw[ed]
    refine ⟨by omega,zab (zyh hX hs hR (ls.getD i []) hlen) ?_⟩
    have er:rowR (ls.getD i [])=Fm.rowAt ls i:=rfl
    rw[er]at hrl⊢
    simp only[go_sem,Nat.reduceEqDiff,Nat.reduceAdd,Nat.reduceMul,Int.reduceToNat,Int.reduceLE,Int.reduceLT,Nat.reduceLT,Nat.reduceLeDiff]
    have bad:zde ls i≠0->zy5 ls=(zA,(i:Int)+1,zde ls i):=fun h=>by
     unfold zy5
     rw[Lat.zjy hi (decide_eq_true h) fun j hj=>by rw[i2 j hj];rfl]
    have go:(Fm.rowAt ls i).2=0->(0<i->(Fm.rowAt ls i).1.length=(Fm.rowAt ls 0).1.length)->zde ls i=0:=fun h h'=>by
     unfold zde
     rw[if_neg (by omega),if_neg (fun hc=>hc.2 (h' hc.1))]
    have hbd:(zdL ls i).length+(Fm.rowAt ls i).1.length<=5001000001:=by omega
    have nxt:zde ls i=0->∃j:Nat×Heap,ls.length-j.1<ls.length-i/\(j.1<=ls.length/\∀k,k<j.1->zde ls k=0)/\AV.int .i64 (IntKind.i64.wrap ((i:Int)+1))=AV.int .i64 j.1/\Blk.box [.int .i64 1,.int .i64 2,.int .i64 (IntKind.i64.wrap ((i:Int)+1)),.int .i64 ((Fm.rowAt ls i).1.length:Nat),lst (AV.int .i64) (.tok 1 1) (zdL ls i++(Fm.rowAt ls i).1)]::Blk.tok ((zdL ls i).length+(Fm.rowAt ls i).1.length)::G=Blk.box [.int .i64 1,.int .i64 2,.int .i64 j.1,.int .i64 (if j.1=0 then 0 else ((Fm.rowAt ls 0).1.length:Nat)),lst (AV.int .i64) (.tok 1 1) (zdL ls j.1)]::Blk.tok (zdL ls j.1).length::j.2:=fun h=>by
     refine ⟨(i+1,G),by dsimp only;omega,⟨hi,fun k hk=>?_⟩,by rw[hw],?_⟩
     ·dsimp only at hk
      rcases Nat.lt_or_eq_of_le (Nat.le_of_lt_succ hk) with h'|h'
      ·exact i2 k h'
      ·rw[h'];exact h
     ·dsimp only
      have el:(Fm.rowAt ls i).1.length=(Fm.rowAt ls 0).1.length:=by
       rcases Nat.eq_zero_or_pos i with h0|h0
       ·rw[h0]
       ·exact (zx5 h).2 h0
      rw[hw,if_neg (by omega),zkY,List.length_append,el]
    refine ⟨fun h=>?_,fun h=>⟨fun h3=>⟨fun h4=>?_,fun h4=>?_⟩,fun h3=>?_⟩⟩
    ·have eb:zde ls i=(Fm.rowAt ls i).2:=if_pos h
     rw[bad (by rw[eb];exact h),hw,eb]
     exact ⟨⟨_,rfl⟩,rfl⟩
    ·rw[if_neg (by omega)]at h4
     have eb:zde ls i=11:=by unfold zde;rw[if_neg (by omega),if_pos ⟨by omega,by omega⟩]
     rw[bad (by rw[eb];decide),hw,eb]
     exact ⟨⟨_,rfl⟩,rfl⟩
    ·rw[if_neg (by omega)]at h4
     exact ⟨⟨by omega,by omega⟩,nxt (go h fun _=>by omega)⟩
    ·exact ⟨⟨by omega,by omega⟩,nxt (go h fun h0=>by omega)⟩
   ·have h1:¬(i:Int)<ls.length:=by omega
    have ei:i=ls.length:=by omega
    subst ei
    have hn:Lat.ff ls.length (fun i=>decide (zde ls i≠0))=none:=Lat.zg9 fun j hj=>by rw[i2 j hj];rfl
    simp only[zhj,go_sem,Nat.reduceEqDiff,Nat.reduceAdd,Nat.reduceLT,h1]
    unfold zy5
    rw[hn]
    dsimp only
    refine ⟨fun hc=>?_,fun hc=>?_⟩
    ·rw[if_pos (by omega)]
     exact ⟨⟨_,rfl⟩,rfl⟩
    ·rw[if_neg (by omega),if_neg (by omega)]
     exact ⟨⟨_,rfl⟩,rfl⟩
 ·rw[if_pos he]
  simp only[go_sem,Nat.reduceEqDiff,Nat.reduceAdd,reduceCtorEq,Nat.reduceLT,he]
  exact ⟨⟨_,rfl⟩,rfl⟩
end
end Go.Avm
