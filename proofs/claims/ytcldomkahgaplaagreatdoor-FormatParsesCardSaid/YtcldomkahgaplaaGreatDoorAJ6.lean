/- The reference's lines of cells. -/
import Derived.Test.YtcldomkahgaplaaGreatDoorAJ5
import Derived.Test.YtcldomkahgaplaaGreatDoorAJ
import Derived.Test.YtcldomkahgaplaaGreatDoorAJ3
import Derived.Test.YtcldomkahgaplaaGreatDoorAF4
set_option linter.all false
namespace Go.Avm
open Go Go.Fm Go.Rn Go.Lx
set_option maxRecDepth 10000
theorem zwE {l:List Int}(h:∀r∈l,valid r=true)(hl:l.length<=20):∃b,zg0 (qt (byB l))=.ok [(⟨3,0,byB l⟩,0,b)]:=by
 have hok:=zqU l
 have hle:=zkW l
 have hql:=zzP (byB l)
 have ht:=zrR hok []
 rw[List.append_nil]at ht
 obtain ⟨w,hw⟩:∃w,qt (byB l)=34::w:=⟨_,rfl⟩
 refine ⟨0+(qt (byB l)).length,?_⟩
 unfold zg0
 rw[if_neg (by omega)]
 have ht2:tokR (qt (byB l))=.ok ⟨3,0,byB l⟩ (qt (byB l)).length:=by
  unfold tokR
  rw[hw,List.getD_cons_zero,if_neg (by decide),<-hw]
  exact ht
 rw[hw]at ht2⊢
 rw[lexR,if_neg (by decide),ht2]
 dsimp only
 rw[List.drop_length]
 rfl
theorem zyr {l:List Int}(h:∀r∈l,valid r=true)(hl:l.length<=20):ckE (byB l)=0/\zbd (byB l)=l:=by
 have hb:=zsE l h hl
 have hok:=zqU l
 have hle:=zkW l
 have hst:stop (byB l)=(byB l).length:=of_decide_eq_true hok
 refine ⟨?_,by rw[hb];exact znE l h⟩
 unfold ckE zwk
 rw[if_neg (by omega),if_neg (by omega)]
theorem ztu {s:List UInt8}{m:Nat}(h:(cellC s m).2=true):(lnC s).length=m/\s=qt (byB (lnC s)):=by
 unfold cellC at h
 simp only[Bool.and_eq_true,decide_eq_true_eq]at h
 exact ⟨h.1,h.2.symm⟩
theorem zzT (f:List UInt8):wI 9223372036854775807 f=gI f:=rfl
theorem zsd (f:List UInt8):wOk 9223372036854775807 f=decide ((gI f).2=0):=by
 unfold wOk
 rw[zzT,show decide ((9223372036854775807:Int)<9223372036854775807)=false from rfl,Bool.false_and,Bool.not_false,Bool.and_true]
theorem zC7 {s:List UInt8}(h:(Wo.splC 32 s).all (wOk 9223372036854775807)=true):nums (wN 9223372036854775807 (Wo.splC 32 s))=s:=by
 unfold nums wN
 rw[List.map_map]
 have:(Wo.splC 32 s).map (Lib.itoa∘fun f=>(wI 9223372036854775807 f).1)=Wo.splC 32 s:=by
  conv=>rhs;rw[<-List.map_id (Wo.splC 32 s)]
  refine List.map_congr_left fun f hf=>?_
  have h1:=List.all_eq_true.1 h f hf
  rw[zsd,decide_eq_true_eq]at h1
  have h2:Wo.intS f (-9223372036854775808) 9223372036854775807=((gI f).1,0):=by rw[<-h1];rfl
  exact Wo.zx3 h2
 rw[this,Wo.zwf]
theorem zoN:∀(f p:Nat) (u:List UInt8) {d:Nat} {e:Int},lexR f p u=.bad d e->e≠0
 | 0,_,_,_,_,h=>by cases h
 | _+1,_,[],_,_,h=>by cases h
 | f + 1,p,c::v,d,e,h=>by
  rw[lexR]at h
  split at h
  ·exact zoN f _ _ h
  ·split at h
   ·rename_i t k ht
    cases hr:lexR f (p+k) ((c::v).drop k) with
    | ok l=>rw[hr]at h;cases h
    | bad d' e' =>
     rw[hr]at h
     cases h
     exact zoN f _ _ hr
   ·rename_i ht
    cases h
    exact zs9 (by simp) ht
theorem zAM {u:List UInt8}{t:Tok}{n:Nat}(h:tokR u=.ok t n):t.s.length<=4*u.length:=by
 unfold tokR at h
 split at h
 ·unfold numR at h
  repeat' split at h
  all_goals first|cases h;simp|cases h
 ·exact zwy h
theorem zsA:∀(f p:Nat) (u:List UInt8) {l:List PT},lexR f p u=.ok l->∀x∈l,x.1.s.length<=4*u.length
 | 0,_,_,_,h=>by cases h;simp
 | _+1,_,[],_,h=>by cases h;simp
 | f + 1,p,c::v,l,h=>by
  rw[lexR]at h
  split at h
  ·intro x hx
   have:=zsA f _ _ h x hx
   rw[List.length_cons]
   omega
  ·split at h
   ·rename_i t k ht
    cases hr:lexR f (p+k) ((c::v).drop k) with
    | ok l' =>
     rw[hr]at h
     cases h
     intro x hx
     rcases List.mem_cons.1 hx with rfl|hx
     ·exact zAM ht
     ·have:=zsA f _ _ hr x hx
      rw[List.length_drop]at this
      omega
    | bad d' e'=>rw[hr]at h;cases h
   ·cases h
theorem zxz {s:List UInt8}{l:List PT}(h:zg0 s=.ok l):∀x∈l,x.1.s.length<=4*s.length:=by
 unfold zg0 at h
 split at h
 ·cases h
 ·exact zsA _ _ _ h
theorem zut {s:List UInt8}{d:Nat}{e:Int}(h:zg0 s=.bad d e):e≠0:=by
 unfold zg0 at h
 split at h
 ·cases h;decide
 ·exact zoN _ _ _ h
section
variable {X:Cx}(hX:X.P=Go.Proofs.Tryz.prog)(hs:Std X)
include hX hs
theorem zqw (s:List UInt8)(m:Nat)(hl:s.length<900000)(hm:0<m):∃l,Ev X zda [.int .i64 1,.str s,.int .i64 (m:Nat)] (.tuple [lst (AV.int .i64) .ro l,.bool (zkk s m).2])/\((zkk s m).2=true->l=(zkk s m).1):=by
 refine ⟨(zkk s m).1,?_,fun _=>rfl⟩
 refine zaE (zak hs (zb9 hX) ?_)
 simp only[zdc,go_sem,Nat.reduceEqDiff,Nat.reduceAdd,Int.reduceEq,reduceCtorEq]
 refine zab (znM hX hs s (by omega)) ?_
 have hcn:=Wo.zbW 32 s
 have hcl:=List.count_le_length (a:=(32:UInt8)) (l:=s)
 have hfm:∀p∈Wo.splC 32 s,p.length<=s.length:=fun p hp=>Wo.zcb hp
 have hnw:=zC7 (s:=s)
 unfold zkk
 generalize Wo.splC 32 s=fs at hcn hfm hnw
 simp only[go_sem,Nat.reduceEqDiff,reduceCtorEq]
 refine zbj hs.hm (ι:=Nat) (fun i=>i<=fs.length/\(fs.take i).all (wOk 9223372036854775807)=true) (fun i=>[(14,.int .i64 i),(12,lst AV.str .ro fs),(2,.int .i64 (m:Nat)),(13,lst (AV.int .i64) (.tok 0 1) (wN 9223372036854775807 (fs.take i)))]) (fun i=>[.tok (fs.take i).length]) (fun i=>fs.length-i) 0 ⟨⟨Nat.zero_le _,rfl⟩,_,_,zcf 13 1 rfl,?_⟩ fun i hi=>?_
 ·exact ⟨⟨rfl,rfl,rfl,rfl,trivial⟩,rfl⟩
 obtain ⟨i1,i2⟩:=hi
 have hti:(fs.take i).length=i:=by rw[List.length_take];omega
 have hwl:(wN 9223372036854775807 (fs.take i)).length=i:=by unfold wN;rw[List.length_map];exact hti
 by_cases hi':i<fs.length
 ·have h1:(i:Int)<fs.length:=by omega
  have hw:IntKind.i64.wrap ((i:Int)+1)=((i+1:Nat):Int):=by rw[wi64 (by omega)];omega
  have hmem:fs.getD i []∈fs:=by rw[List.getD_eq_getElem?_getD,List.getElem?_eq_getElem hi'];exact List.getElem_mem _
  have hfl2:(fs.getD i []).length<1000000:=by have:=hfm _ hmem;omega
  have ed:fs.getD i default=fs.getD i []:=rfl
  have ei:intV (fs.getD i []) (-9223372036854775808) 9223372036854775807=.tuple [.int .i64 (gI (fs.getD i [])).1,.int .i64 (gI (fs.getD i [])).2]:=rfl
  have hint:=zsc hX hs (fs.getD i []) (-9223372036854775808) 9223372036854775807 hfl2
  rw[ei]at hint
  have hat:=zhK (p:=wOk 9223372036854775807) hi'
  have hwt:=zpm (high:=9223372036854775807) hi'
  rw[i2,Bool.true_and,zsd]at hat
  rw[zzT]at hwt
  simp only[zf2,go_sem,Nat.reduceEqDiff,h1]
  rw[ed]
  refine ⟨by omega,zab hint ?_⟩
  have hbad:¬(gI (fs.getD i [])).2=0->fs.all (wOk 9223372036854775807)=false:=fun h=>by
   cases ha:fs.all (wOk 9223372036854775807) with
   | false=>rfl
   | true =>
    have:=List.all_eq_true.1 ha _ hmem
    rw[zsd,decide_eq_true_eq]at this
    exact absurd this h
  generalize gI (fs.getD i [])=G at *
  obtain ⟨v,e⟩:=G
  dsimp only at *
  by_cases he:e=0
  ·rw[decide_eq_true he]at hat
   simp only[go_sem,Nat.reduceEqDiff,Nat.reduceAdd,Nat.reduceLT,Nat.reduceLeDiff,he,app1,hw]
   have hwl2:(wN 9223372036854775807 (fs.take i)).length+1=(fs.take (i+1)).length:=by rw[hwl,List.length_take];omega
   exact ⟨⟨⟨by omega,by omega⟩,by omega⟩,i+1,by omega,⟨hi',hat⟩,⟨rfl,by rw[hwt]⟩,by rw[hwl2]⟩
  ·have hb:=hbad he
   unfold zaJ
   rw[if_neg (by rw[hb];decide)]
   simp only[go_sem,Nat.reduceEqDiff,Nat.reduceAdd,Nat.reduceLT,he]
   rw[decide_eq_false (show ¬0=m by omega),Bool.false_and]
   exact ⟨⟨_,rfl⟩,rfl⟩
 ·have h1:¬(i:Int)<fs.length:=by omega
  have ei:i=fs.length:=by omega
  subst ei
  rw[List.take_length]at i2 hwl⊢
  have hnw:=hnw i2
  unfold zaJ
  rw[if_pos i2]
  dsimp only
  rw[hnw,decide_eq_true rfl,Bool.and_true]
  simp only[zf2,go_sem,Nat.reduceEqDiff,h1]
  rw[decide_eq_decide.2 (show (((wN 9223372036854775807 fs).length:Nat):Int)=m↔(wN 9223372036854775807 fs).length=m by omega)]
  exact ⟨⟨_,rfl⟩,rfl⟩
theorem zqm (s:List UInt8)(m:Nat)(hl:s.length<900000)(hm:m<=20):∃l,Ev X zda [.int .i64 2,.str s,.int .i64 (m:Nat)] (.tuple [lst (AV.int .i64) .ro l,.bool (cellC s m).2])/\((cellC s m).2=true->l=(cellC s m).1):=by
 have hL:=zuO hX hs s (by omega)
 have hno:(∀b t,zg0 s≠.ok [(⟨3,0,t⟩,0,b)])->(cellC s m).2=false:=fun h=>by
  cases hc:(cellC s m).2 with
  | false=>rfl
  | true =>
   obtain ⟨h1,h2⟩:=ztu hc
   obtain ⟨b,h3⟩:=zwE (zhQ s) (by omega)
   rw[<-h2]at h3
   exact absurd h3 (h b _)
 cases hR:zg0 s with
 | bad d e =>
  have hn:=hno fun b t h=>by rw[hR]at h;cases h
  rw[hR]at hL
  have he:e≠0:=zut hR
  refine ⟨[],?_,fun h=>by rw[hn]at h;cases h⟩
  refine zaE (zak hs (zb9 hX) ?_)
  simp only[zdc,go_sem,Nat.reduceEqDiff,Nat.reduceAdd,reduceCtorEq]
  refine zab hL ?_
  simp only[zqS,go_sem,Nat.reduceEqDiff,Nat.reduceAdd,reduceCtorEq,Nat.reduceLT,he]
  rw[hn]
  exact ⟨⟨_,rfl⟩,rfl⟩
 | ok ts =>
  rw[hR]at hL
  by_cases c1:ts.length=1
  ·have c1':((ts.length:Nat):Int)=1:=by omega
   obtain ⟨x,rfl⟩:∃x,ts=[x]:=List.length_eq_one_iff.1 c1
   have hgx:([x]:List PT).getD 0 default=x:=rfl
   by_cases c3:x.1.kind=3
   ·have hxl:x.1.s.length<9223372036854775800:=by
     have:=zxz hR x (by simp)
     omega
    have hru:=zsu hX hs x.1.s hxl
    have hov:∀r∈(if ckE x.1.s=0 then zbd x.1.s else []),valid r=true:=fun r hr=>by
     split at hr
     ·exact zdk _ _ hr
     ·cases hr
    obtain ⟨o,ho⟩:∃o,o=if ckE x.1.s=0 then zbd x.1.s else []:=⟨_,rfl⟩
    rw[<-ho]at hru hov
    have hcc:(cellC s m).2=(decide (ckE x.1.s=0)&&decide (o.length=m)&&decide (s=qt (byB o))):=by
     cases hc:(cellC s m).2 with
     | true =>
      obtain ⟨h1,h2⟩:=ztu hc
      obtain ⟨b,h3⟩:=zwE (zhQ s) (by omega)
      rw[<-h2,hR]at h3
      injection h3 with h3
      injection h3 with h3 _
      obtain ⟨k1,k2⟩:=zyr (zhQ s) (by omega)
      rw[h3]at ho⊢
      dsimp only at ho⊢
      rw[if_pos k1,k2]at ho
      rw[k1,ho,decide_eq_true h1,decide_eq_true h2]
      rfl
     | false =>
      cases hb:decide (ckE x.1.s=0)&&decide (o.length=m)&&decide (s=qt (byB o)) with
      | false=>rfl
      | true =>
       simp only[Bool.and_eq_true,decide_eq_true_eq]at hb
       obtain ⟨⟨_,b2⟩,b3⟩:=hb
       have:=ztz hov (by omega)
       rw[<-b3,b2]at this
       rw[this]at hc
       cases hc
    have hpc:o.length<=20->Ev X zgr [.int .i64 2,lst (AV.int .i64) .ro o] (.str (qt (byB o))):=fun h=>zsP hX hs 2 o (zFa hov) h fun _=>hov
    refine ⟨o,?_,fun h=>?_⟩
    ·refine zaE (zak hs (zb9 hX) ?_)
     simp only[zdc,go_sem,Nat.reduceEqDiff,Nat.reduceAdd,reduceCtorEq]
     refine zab hL ?_
     simp only[zqS,go_sem,Nat.reduceEqDiff,Nat.reduceAdd,Int.reduceToNat,Int.reduceLE,Int.reduceLT,reduceCtorEq,Nat.reduceLT]
     rw[zkC]
     simp only[go_sem,Nat.reduceEqDiff,Int.reduceToNat,Int.reduceLE,Int.reduceLT,reduceCtorEq,c3]
     rw[zkC]
     simp only[go_sem,Nat.reduceEqDiff,reduceCtorEq]
     refine ⟨by omega,zab hru ?_⟩
     simp only[go_sem,Nat.reduceEqDiff,Nat.reduceAdd,reduceCtorEq,Nat.reduceLT]
     rw[hcc]
     refine ⟨fun d1=>⟨fun d2=>?_,fun d2=>?_⟩,fun d1=>?_⟩
     ·refine zab (hpc (by omega)) ?_
      simp only[go_sem,Nat.reduceEqDiff,reduceCtorEq]
      rw[decide_eq_true d1,decide_eq_true (show o.length=m by omega)]
      exact ⟨⟨_,rfl⟩,rfl⟩
     ·rw[decide_eq_false (show ¬o.length=m by omega),Bool.and_false,Bool.false_and]
      exact ⟨⟨_,rfl⟩,rfl⟩
     ·rw[decide_eq_false d1,Bool.false_and,Bool.false_and]
      exact ⟨⟨_,rfl⟩,rfl⟩
    ·rw[h]at hcc
     have hcc:=hcc.symm
     simp only[Bool.and_eq_true,decide_eq_true_eq]at hcc
     obtain ⟨⟨_,b2⟩,b3⟩:=hcc
     have:=ztz hov (by omega)
     rw[<-b3,b2]at this
     rw[this]
   ·have hn:=hno fun b t h=>by
     rw[hR]at h
     injection h with h
     injection h with h _
     rw[h]at c3
     exact c3 rfl
    refine ⟨[],?_,fun h=>by rw[hn]at h;cases h⟩
    refine zaE (zak hs (zb9 hX) ?_)
    simp only[zdc,go_sem,Nat.reduceEqDiff,Nat.reduceAdd,reduceCtorEq]
    refine zab hL ?_
    simp only[zqS,go_sem,Nat.reduceEqDiff,Nat.reduceAdd,Int.reduceToNat,Int.reduceLE,Int.reduceLT,reduceCtorEq,Nat.reduceLT]
    rw[zkC]
    simp only[go_sem,Nat.reduceEqDiff,reduceCtorEq,c3]
    rw[hn]
    exact ⟨⟨_,rfl⟩,rfl⟩
  ·have c1':¬((ts.length:Nat):Int)=1:=by omega
   have hn:=hno fun b t h=>by
    rw[hR]at h
    injection h with h
    rw[h]at c1
    exact c1 rfl
   refine ⟨[],?_,fun h=>by rw[hn]at h;cases h⟩
   refine zaE (zak hs (zb9 hX) ?_)
   simp only[zdc,go_sem,Nat.reduceEqDiff,Nat.reduceAdd,reduceCtorEq]
   refine zab hL ?_
   simp only[zqS,go_sem,Nat.reduceEqDiff,Nat.reduceAdd,reduceCtorEq,Nat.reduceLT,c1']
   rw[hn]
   exact ⟨⟨_,rfl⟩,rfl⟩
end
end Go.Avm
namespace Go.Avm
open Go Go.Fm Go.Rn Go.Lx
set_option maxRecDepth 10000
theorem zvN (f:List UInt8):((Wo.intS f 0 1000000000).2=0->wOk 1000000000 f=true/\(wI 1000000000 f).1=(Wo.intS f 0 1000000000).1/\0<=(wI 1000000000 f).1/\(wI 1000000000 f).1<=1000000000)/\((Wo.intS f 0 1000000000).2≠0->wOk 1000000000 f=false):=by
 unfold wOk wI Wo.intS
 by_cases h:Wo.decS f=false
 ·rw[if_pos h,if_pos h]
  exact ⟨fun e=>absurd e (by decide),fun _=>rfl⟩
 ·rw [if_neg h,if_neg h]
  by_cases h1:Wo.valS f < -9223372036854775808∨9223372036854775807<Wo.valS f∨Wo.valS f<0∨1000000000<Wo.valS f
  ·rw [if_pos h1]
   refine ⟨fun e=>absurd e (by decide),fun _=>?_⟩
   split
   ·rfl
   ·dsimp only
    rw[decide_eq_true (show Wo.valS f<0 by omega)]
    rfl
  ·rw[if_neg h1,if_neg (by omega)]
   refine ⟨fun _=>⟨?_,rfl,by dsimp only;omega,by dsimp only;omega⟩,fun e=>absurd rfl e⟩
   dsimp only
   rw[decide_eq_false (show ¬Wo.valS f<0 by omega)]
   rfl
theorem zoh (f:List UInt8):((Wo.intS f 0 2).2=0->wOk 1000000000 f=true/\(wI 1000000000 f).1=(Wo.intS f 0 2).1/\0<=(Wo.intS f 0 2).1/\(Wo.intS f 0 2).1<=2)/\((Wo.intS f 0 2).2≠0->wOk 1000000000 f=true->2<(wI 1000000000 f).1):=by
 unfold wOk wI Wo.intS
 by_cases h:Wo.decS f=false
 ·rw[if_pos h,if_pos h]
  exact ⟨fun e=>absurd e (by decide),fun _ e=>absurd e (by decide)⟩
 ·rw [if_neg h,if_neg h]
  by_cases h1:Wo.valS f < -9223372036854775808∨9223372036854775807<Wo.valS f∨Wo.valS f<0∨2<Wo.valS f
  ·rw [if_pos h1]
   refine ⟨fun e=>absurd e (by decide),fun _=>?_⟩
   split
   ·exact fun e=>absurd e (by decide)
   ·dsimp only
    intro e
    simp only[Bool.and_eq_true,decide_eq_true_eq,Bool.not_eq_true',Bool.and_eq_false_iff,decide_eq_false_iff_not]at e
    omega
  ·rw[if_neg h1,if_neg (by omega)]
   refine ⟨fun _=>⟨?_,rfl,by dsimp only;omega,by dsimp only;omega⟩,fun e=>absurd rfl e⟩
   dsimp only
   rw[decide_eq_false (show ¬Wo.valS f<0 by omega)]
   rfl
theorem zxt {w a:List UInt8}{ns:List (List UInt8)}(h:¬((Wo.intS a 0 2).2=0/\(ns.length:Int)=(Wo.intS a 0 2).1)):zgX (w::a::ns)=(zA,0,false):=by
 have e:zgX (w::a::ns)=if zcM w=0 then (zA,0,false) else if (zaJ 1000000000 (a::ns)).2 then zeg (zcM w) (zaJ 1000000000 (a::ns)).1 else (zA,0,false):=rfl
 rw[e]
 split
 ·rfl
 ·split
  ·rename_i h2
   unfold zaJ at h2⊢
   split at h2
   ·rename_i ha
    rw[if_pos ha]
    have ha1:wOk 1000000000 a=true:=List.all_eq_true.1 ha a (by simp)
    show zeg (zcM w) ((wI 1000000000 a).1::wN 1000000000 ns)=_
    refine zeU fun hc=>?_
    have hl:(wN 1000000000 ns).length=ns.length:=List.length_map _
    rw[hl]at hc
    have hr:=zoh a
    by_cases h3:(Wo.intS a 0 2).2=0
    ·exact h ⟨h3,by rw[<-(hr.1 h3).2.1,hc.1]⟩
    ·have:=hr.2 h3 ha1
     omega
   ·cases h2
  ·rfl
theorem zzd {w a:List UInt8}{ns:List (List UInt8)}(hw:zcM w≠0)(h1:(Wo.intS a 0 2).2=0)(h2:(ns.length:Int)=(Wo.intS a 0 2).1):zgX (w::a::ns)=if ns.all (wOk 1000000000) then (⟨zcM w,ns.length,(wN 1000000000 ns).getD 0 0,(wN 1000000000 ns).getD 1 0,[]⟩,(wN 1000000000 ns).foldl (· * ·) 1,true) else (zA,0,false):=by
 have e:zgX (w::a::ns)=if zcM w=0 then (zA,0,false) else if (zaJ 1000000000 (a::ns)).2 then zeg (zcM w) (zaJ 1000000000 (a::ns)).1 else (zA,0,false):=rfl
 obtain ⟨k1,k2,k3,k4⟩:=(zoh a).1 h1
 have hl:(wN 1000000000 ns).length=ns.length:=List.length_map _
 rw[e,if_neg hw]
 unfold zaJ
 rw[List.all_cons,k1,Bool.true_and]
 by_cases ha:ns.all (wOk 1000000000)=true
 ·rw[if_pos ha,if_pos ha,if_pos rfl]
  show zeg (zcM w) ((wI 1000000000 a).1::wN 1000000000 ns)=_
  rw[k2,<-h2,<-hl]
  exact zpz (by omega)
 ·rw[if_neg ha,if_neg ha]
  rfl
end Go.Avm
