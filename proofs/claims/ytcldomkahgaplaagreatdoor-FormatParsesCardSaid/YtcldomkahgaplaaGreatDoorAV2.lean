/- Numerals and quoted forms. -/
import Derived.Test.YtcldomkahgaplaaGreatDoorAV1
import Derived.Test.YtcldomkahgaplaaGreatDoorM1
set_option linter.all false
namespace Go.Avm
open Go
theorem dig1 {a:Nat}(h:a<10):([.int .u8 (IntKind.u8.wrap (48+(a:Int)))]:List AV)=[u8 (UInt8.ofNat (48+a))]:=by
 rw[wu8 (by omega)]
 simp only[u8,UInt8.toNat_ofNat']
 congr 2
 omega
set_option maxRecDepth 10000
section
variable {X:Cx}(hX:X.P=Go.Proofs.Tryz.prog)(hs:Std X)
include hX hs
theorem zuv (n:Int)(h:-9223372036854775808<=n/\n<=9223372036854775807):Ev X zbS [.int .i64 n] (.str (Lib.itoa n)):=by
 generalize hk:n.natAbs*2+(if n<0 then 1 else 0)=k
 induction k using Nat.strongRecOn generalizing n with
 | _ k ih =>
  subst hk
  refine zac hs (zmF hX) 0 ?_
  by_cases hb:9<n∨n < -9
  ·have hq:(n.tdiv 10).natAbs=n.natAbs / 10/\(n<0∨¬n.tdiv 10<0):=by
    rcases Int.lt_or_le n 0 with h0|h0
    ·obtain ⟨m,rfl⟩:∃m:Nat,n=-(m:Int):=⟨n.natAbs,by omega⟩
     rw[Int.neg_tdiv,Int.tdiv_eq_ediv_of_nonneg (by omega)];omega
    ·rw[Int.tdiv_eq_ediv_of_nonneg (by omega)];omega
   have hm:n.tmod 10=if n<0 then -((n.natAbs % 10:Nat):Int) else ((n.natAbs % 10:Nat):Int):=by
    rcases Int.lt_or_le n 0 with h0|h0
    ·obtain ⟨m,rfl⟩:∃m:Nat,n=-(m:Int):=⟨n.natAbs,by omega⟩
     rw[if_pos h0,Int.neg_tmod,Int.tmod_eq_emod_of_nonneg (by omega)];omega
    ·rw[if_neg (by omega),Int.tmod_eq_emod_of_nonneg (by omega)];omega
   have hr:Ev X zbS [.int .i64 (n.tdiv 10)] (.str (Lib.itoa (n.tdiv 10))):=ih _ (by
    have h1:=hq.1
    split<;>split<;>omega) _ (by omega) rfl
   have ew:IntKind.i64.wrap (n.tdiv 10)=n.tdiv 10:=wi64 (by omega)
   have hst:=Wo.zxi hb
   have hd:=dig1 (a:=n.natAbs % 10) (Nat.mod_lt _ (by decide))
   have hlen:=Wo.ztD (n:=n.tdiv 10) (by omega)
   have hq1:=hq.1
   have hfin:∀t:Int,t=((n.natAbs % 10:Nat):Int)->b2sX (.sl .ex [.int .u8 (IntKind.u8.wrap (IntKind.i64.wrap (48+t)))])=some (true,.str [UInt8.ofNat (48+n.natAbs % 10)],none):=fun t ht=>by
    subst ht
    have hlt:n.natAbs % 10<10:=Nat.mod_lt _ (by decide)
    rw[wi64 (by omega),hd]
    exact bs_1 .ex _
   have c9:decide (9<n)=decide (¬n < -9):=by
    congr 1
    rw[eq_iff_iff]
    omega
   have w0:IntKind.i64.wrap (0-n.tmod 10)=-n.tmod 10:=by
    rw[wi64 (by split at hm<;>omega)];omega
   by_cases c1:9<n
   ·rw[if_neg (by omega)]at hm
    simp only[zdp,go_sem,Nat.reduceEqDiff,Int.reduceNe,reduceCtorEq,c1,ew,w0]
    refine ⟨fun e=>by omega,fun e=>za1 hr ?_⟩
    simp only[go_sem,Nat.reduceEqDiff,reduceCtorEq,Nat.reduceLT,Nat.reduceLeDiff,hfin _ hm]
    exact ⟨by omega,by rw[hst]⟩
   ·have c2:n < -9:=by omega
    rw[if_pos (by omega)]at hm
    simp only[zdp,go_sem,Nat.reduceEqDiff,Int.reduceNe,reduceCtorEq,c1,c2,ew,w0]
    refine ⟨fun e=>za1 hr ?_,fun e=>za1 hr ?_⟩
    ·simp only[go_sem,Nat.reduceEqDiff,reduceCtorEq,Nat.reduceLT,Nat.reduceLeDiff,hfin (-n.tmod 10) (by omega)]
     exact ⟨by omega,by rw[hst]⟩
    ·simp only[go_sem,Nat.reduceEqDiff,reduceCtorEq,Nat.reduceLT,Nat.reduceLeDiff,hfin (n.tmod 10) (by omega)]
     exact ⟨by omega,by rw[hst]⟩
  ·by_cases h0:n<0
   ·have hr:Ev X zbS [.int .i64 (-n)] (.str (Lib.itoa (-n))):=ih _ (by
     rw[if_pos h0,if_neg (by omega)];omega) _ (by omega) rfl
    have hlen:=Wo.ztD (n:=-n) (by omega)
    have w0:IntKind.i64.wrap (0-n)=-n:=by rw[wi64 (by omega)];omega
    simp only[zdp,go_sem,Nat.reduceEqDiff,reduceCtorEq,show ¬9<n by omega,show ¬n < -9 by omega,h0,w0]
    refine zab hr ?_
    simp only[go_sem,Nat.reduceEqDiff,reduceCtorEq]
    exact ⟨by omega,by rw[Wo.itoa_neg h0]⟩
   ·have hd:=dig1 (a:=n.natAbs) (by omega)
    have e0:((n.natAbs:Nat):Int)=n:=by omega
    rw[e0]at hd
    simp only[zdp,go_sem,Nat.reduceEqDiff,reduceCtorEq,Nat.reduceLT,show ¬9<n by omega,show ¬n < -9 by omega,h0]
    rw[wi64 (n:=48+n) (by omega),hd]
    have:=bs_1 .ex (UInt8.ofNat (48+n.natAbs))
    simp only[u8]at this⊢
    simp only[this,go_sem,Nat.reduceEqDiff,reduceCtorEq]
    rw[Wo.zy6 (by omega) (by omega)]
end
end Go.Avm
namespace Go.Avm
open Go
set_option maxRecDepth 10000
section
variable {X:Cx}(hX:X.P=Go.Proofs.Tryz.prog)(hs:Std X)
include hX hs
end
end Go.Avm
namespace Go.Avm
open Go
theorem zE0 {α:Type}(f:α->AV)(d:α)(l:List α):tb l.length (fun k=>f (l.getD k d))=l.map f:=by
 refine List.ext_getElem (by rw[zfr,List.length_map]) fun k h1 h2=>?_
 have hk:k<l.length:=by rw[zfr]at h1;exact h1
 have:=zBu (n:=l.length) (fun k=>f (l.getD k d)) .undef hk
 rw[List.getD_eq_getElem?_getD,List.getElem?_eq_getElem h1]at this
 simp only[Option.getD_some]at this
 rw[this]
 simp [List.getD_eq_getElem?_getD,hk]
theorem ss_r {k:IntKind}(id off n cap:Nat)(b:Int):slsX 1 (.rsl id off n cap 1) none (some (.int k b))=some (decide (0<=b)&&decide (b<=cap),.rsl id off b.toNat cap 1,none):=by
 simp [slsX]
def zhS (s:List UInt8):AV:=.tuple [lst AV.str .ro (Wo.zaF s).1,.int .i64 (Wo.zaF s).2]
theorem zrO {s:List UInt8}{l:List (List UInt8)}{e:Int}(h:Wo.zaF s=(l,e)):AV.tuple [lst AV.str .ro l,.int .i64 e]=zhS s:=by rw[zhS,h]
theorem zbT {s:List UInt8}{e:Int}(h:Wo.zaF s=([],e)):AV.tuple [.sl .ro [],.int .i64 e]=zhS s:=by rw[zhS,h];rfl
set_option maxRecDepth 10000
section
variable {X:Cx}(hX:X.P=Go.Proofs.Tryz.prog)(hs:Std X)
include hX hs
theorem zwl (s:List UInt8)(c:UInt8):Ev X ziO [.str s,.str [c]] (.int .i64 (if Lat.idx c s<s.length then (Lat.idx c s:Int) else -1)):=by
 refine zac hs (zoj hX) 1 ?_
 simp only[znt,go_sem,Nat.reduceEqDiff,Nat.reduceAdd,reduceCtorEq]
 refine zab (zrp hX s c) ?_
 rw[ixB]
 simp only[go_sem,Nat.reduceEqDiff,reduceCtorEq]
theorem zrC (s:List UInt8)(c:UInt8)(hl:s.length<4000000):Ev X zet [.str s,.str [c]] (.bool (decide (0<s.length)&&(s.drop (s.length-1) == [c]))):=by
 have hc:Ev X zej [.str s,.str [c]] (.bool (decide (0<s.length)&&(s.drop (s.length-1) == [c]))):=by
  refine zac hs (zjq hX) 1 ?_
  simp only[zg4,go_sem,Nat.reduceEqDiff,Nat.reduceAdd,reduceCtorEq]
  refine ⟨fun h=>?_,fun h=>?_⟩
  ·rw[wi64 (by omega)]
   refine ⟨by omega,?_⟩
   rw[List.take_length,show ((s.length:Int)-1).toNat=s.length-1 by omega]
   simp only[show 0<s.length by omega,decide_true,Bool.true_and]
   congr 1
   rw[Bool.eq_iff_iff,decide_eq_true_eq,beq_iff_eq]
  ·simp only[show ¬0<s.length by omega,decide_false,Bool.false_and]
 refine zac hs (zin hX) 1 ?_
 simp only[zg1,go_sem,Nat.reduceEqDiff,Nat.reduceAdd,reduceCtorEq]
 refine zab hc ?_
 simp only[go_sem,Nat.reduceEqDiff,reduceCtorEq]
theorem zlk (s:List UInt8)(c:UInt8)(hl:s.length<4000000):Ev X zeD [.str s,.str [c]] (lst AV.str .ro (Wo.splC c s)):=by
 have hc:Ev X zfn [.str s,.str [c],.int .i64 0,.int .i64 (-1)] (lst AV.str .ro (Wo.splC c s)):=by
  have hcl:s.count c<=s.length:=List.count_le_length
  refine zac hs (zkt hX) 1 ?_
  simp only[zh4,go_sem,Nat.reduceEqDiff,Nat.reduceAdd,Int.reduceLT,reduceCtorEq]
  refine zab (zvY hX s c) ?_
  have e1:IntKind.i64.wrap ((s.count c:Int)+1)=((s.count c+1:Nat):Int):=by rw[wi64 (by omega)];rfl
  have e2:IntKind.i64.wrap ((s.length:Int)+1)=((s.length+1:Nat):Int):=by rw[wi64 (by omega)];rfl
  have e3:IntKind.i64.wrap (((s.count c+1:Nat):Int)-1)=(s.count c:Int):=by rw[wi64 (by omega)];omega
  have e4:¬((s.length+1:Nat):Int)<((s.count c+1:Nat):Int):=by omega
  simp only[go_sem,Nat.reduceEqDiff,reduceCtorEq,e1,e2,if_neg e4,e3]
  refine ⟨by omega,?_⟩
  have hLl:=Wo.zbW c s
  generalize hL:Wo.splC c s=L at *
  refine zaj hs.hm (ι:=Nat×List UInt8) (fun x=>x.1+x.2.count c=s.count c/\L.drop x.1=Wo.splC c x.2/\x.2.length<=s.length) (fun x=>[(10,.int .i64 x.1),(9,.rsl 0 0 (s.count c+1) (s.count c+1) 1),(3,.int .i64 (s.count c:Nat)),(2,.int .i64 0),(1,.str [c]),(0,.str x.2)]) (fun x=>[.box (tb (s.count c+1) fun k=>.str (if k<x.1 then L.getD k [] else []))]) (fun x=>s.count c-x.1) (0,s) ?_ fun x hx=>?_
  ·simp only[go_sem,Nat.reduceEqDiff,reduceCtorEq]
   exact ⟨hL.symm,rfl⟩
  obtain ⟨i,r⟩:=x
  obtain ⟨x1,x2,x3⟩:=hx
  simp only at x1 x2 x3
  by_cases hi:i<s.count c
  ·have hix:Lat.idx c r<r.length:=Wo.zzi (by omega)
   have hsp:=Wo.zof hix
   have hcn:=Wo.zyv hix
   have hLi:i<L.length:=by omega
   have hd:L.getD i []=r.take (Lat.idx c r)/\L.drop (i+1)=Wo.splC c (r.drop (Lat.idx c r+1)):=by
    rw[List.drop_eq_getElem_cons hLi,hsp]at x2
    injection x2 with y1 y2
    exact ⟨by rw[List.getD_eq_getElem?_getD,List.getElem?_eq_getElem hLi];exact y1,y2⟩
   simp only[zdF,go_sem,Nat.reduceEqDiff,reduceCtorEq,Nat.reduceLeDiff]
   refine ⟨fun ci=>?_,fun ci=>by omega⟩
   refine zab (zwl hX hs r c) ?_
   simp only[hix,go_sem,Nat.reduceBEq,Nat.reduceEqDiff,Int.reduceToNat,Int.reduceLE,reduceCtorEq,Nat.reduceLeDiff]
   refine ⟨fun hneg=>by omega,fun hneg=>?_⟩
   rw[wi64 (by omega),wi64 (by omega)]
   refine ⟨by omega,by omega,by omega,by omega,(i+1,r.drop (Lat.idx c r+1)),by simp only;omega,⟨by simp only;omega,hd.2,by simp only[List.length_drop];omega⟩,⟨by simp only;rw[wi64 (by omega)];rfl,?_⟩,?_⟩
   ·rw[List.take_length,show ((Lat.idx c r:Int)+1).toNat=Lat.idx c r+1 by omega]
   ·rw [Nat.mul_one,zwq]
    congr 2
    refine zpd fun k hk=>?_
    by_cases e:k=i
    ·subst e
     rw[if_pos rfl,if_pos (by omega),hd.1,show ((Lat.idx c r:Int)+0).toNat=Lat.idx c r by omega]
    ·rw[if_neg e]
     by_cases e2:k<i
     ·rw[if_pos e2,if_pos (by omega)]
     ·rw[if_neg e2,if_neg (by omega)]
  ·have hi:i=s.count c:=by omega
   subst hi
   have hn:¬((s.count c:Nat):Int)<(s.count c:Nat):=by omega
   have hr0:r.count c=0:=by omega
   have hd:L.getD (s.count c) []=r:=by
    rw[Wo.zzF hr0,List.drop_eq_getElem_cons (by omega)]at x2
    injection x2 with y1 y2
    rw[List.getD_eq_getElem?_getD,List.getElem?_eq_getElem (by omega)]
    exact y1
   have hb:(tb (s.count c+1) fun k=>AV.str (if k<s.count c then L.getD k [] else [])).set (s.count c) (.str r)=L.map AV.str:=by
    rw[zwq,<-zE0 AV.str [] L,hLl]
    refine zpd fun k hk=>?_
    by_cases e:k=s.count c
    ·rw[if_pos e,e,hd]
    ·rw[if_neg e,if_pos (by omega)]
   simp only[zdF,go_sem,Nat.reduceEqDiff,reduceCtorEq,hn,Nat.mul_one,hb,ss_r,e1,zz0]
   have hsc:(L.map AV.str).all zah=true:=by
    rw[List.all_eq_true]
    intro x hx
    obtain ⟨y,_,rfl⟩:=List.mem_map.1 hx
    rfl
   refine ⟨by omega,by omega,?_⟩
   rw[hsc,List.length_map,hLl,decide_eq_true (Nat.le_refl _)]
   simp only[Bool.true_and,Bool.true_or,cond_true]
   rw[List.take_of_length_le (by rw[List.length_map];omega),List.map_map]
   rfl
 refine zac hs (zoQ hX) 1 ?_
 simp only[zn1,go_sem,Nat.reduceEqDiff,Nat.reduceAdd,reduceCtorEq]
 refine zab hc ?_
 simp only[go_sem,Nat.reduceEqDiff,reduceCtorEq]
theorem ztw (s:List UInt8)(hl:s.length<4000000):Ev X zgt [.str s] (zhS s):=by
 refine zn6 hs (zpv hX) 1 ?_
 simp only[znu,go_sem,Nat.reduceEqDiff,reduceCtorEq]
 refine ⟨fun h=>zbT (by rw[Wo.zaF,if_pos (by omega)]),fun h1=>⟨fun h=>zbT (by rw[Wo.zaF,if_neg (by omega),if_pos h]),fun h0=>?_⟩⟩
 have hp:0<s.length:=List.length_pos_iff.2 h0
 refine zab (zrC hX hs s 10 hl) ?_
 have hsn:=Wo.zxw hp
 have hd:s.drop (s.length-1)=[s.getD (s.length-1) 0]:=by
  rw[List.drop_eq_getElem_cons (by omega),List.drop_of_length_le (by omega),List.getD_eq_getElem?_getD,List.getElem?_eq_getElem (by omega)]
  rfl
 have hsf:(decide (0<s.length)&&(s.drop (s.length-1) == [10]))=decide (s.getD (s.length-1) 0=10):=by
  rw[hd,decide_eq_true hp,Bool.true_and,Bool.eq_iff_iff,beq_iff_eq,decide_eq_true_eq]
  simp
 rw[hsf]
 by_cases hc:s.getD (s.length-1) 0=10
 ·have hL:Wo.zaF s=if 5000<(Wo.splC 10 (s.take (s.length-1))).length then ([],3) else (Wo.splC 10 (s.take (s.length-1)),0):=by
   rw[Wo.zaF,if_neg (by omega),if_neg h0,if_neg (fun h=>h hc)]
  simp only[hc,go_sem,Nat.reduceEqDiff,Int.reduceToNat,Int.reduceLE,reduceCtorEq]
  rw[wi64 (by omega),show ((s.length:Int)-1).toNat=s.length-1 by omega]
  refine ⟨by omega,zab (zlk hX hs _ 10 (by rw[List.length_take];omega)) ?_⟩
  simp only[go_sem,Nat.reduceEqDiff,reduceCtorEq]
  exact ⟨fun h=>zbT (by rw[hL,if_pos (by omega)]),fun h=>zrO (by rw[hL,if_neg (by omega)])⟩
 ·simp only[hc,go_sem,Nat.reduceEqDiff,reduceCtorEq]
  exact zbT (by rw[Wo.zaF,if_neg (by omega),if_neg h0,if_pos hc])
theorem zv6 (s:List UInt8)(hl:s.length<4000000):Ev X zjw [.str s] (zhS s):=by
 refine zn6 hs (zov hX) 1 ?_
 simp only[znj,go_sem,Nat.reduceEqDiff,reduceCtorEq]
 refine ⟨fun h=>zbT (by rw[Wo.zaF,if_pos (by omega)]),fun h1=>⟨fun h=>zbT (by rw[Wo.zaF,if_neg (by omega),if_pos h]),fun h0=>?_⟩⟩
 have hp:0<s.length:=List.length_pos_iff.2 h0
 rw[wi64 (by omega),show ((s.length:Int)-1).toNat=s.length-1 by omega]
 refine ⟨by omega,fun hc=>zbT (by rw[Wo.zaF,if_neg (by omega),if_neg h0,if_pos (fun h=>hc ((zd5 (b:=10) rfl).2 h))]),fun hc=>?_⟩
 have hc:=(zd5 (b:=10) rfl).1 hc
 have hL:Wo.zaF s=if 5000<(Wo.splC 10 (s.take (s.length-1))).length then ([],3) else (Wo.splC 10 (s.take (s.length-1)),0):=by
  rw[Wo.zaF,if_neg (by omega),if_neg h0,if_neg (fun h=>h hc)]
 refine zbj hs.hm (ι:=List (List UInt8)×Nat×Nat) (fun x=>Wo.Pc 10 s x.1 x.2.1 x.2.2) (fun x=>[(6,.int .i64 x.2.2),(5,.int .i64 x.2.1),(4,lst AV.str (.tok 0 1) x.1),(0,.str s)]) (fun x=>[.tok x.1.length]) (fun x=>s.length-x.2.2) ([],0,0) ⟨Wo.pc_0 10 s,_,_,zcf 4 1 rfl,⟨by simp only[go_sem,Nat.reduceEqDiff,reduceCtorEq];rfl,rfl⟩⟩ fun x hx=>?_
 obtain ⟨o,f,i⟩:=x
 simp only at hx
 have ho:=hx.2.2.1
 have hf:=hx.1
 have hi:=hx.2.1
 by_cases hlt:i<s.length
 ·have hlt':(i:Int)<s.length:=by omega
  simp only[zfS,go_sem,Nat.reduceEqDiff,reduceCtorEq,Nat.reduceLT,Nat.reduceLeDiff,hlt']
  refine ⟨by omega,fun e=>?_,fun e=>?_⟩
  ·have hn:=Wo.zDG hx hlt ((zd5 (b:=10) rfl).1 e)
   refine ⟨by omega,by omega,(_,i+1,i+1),by simp only;omega,hn,⟨?_,?_,?_⟩,?_⟩
   ·rw[wi64 (by omega)];rfl
   ·rw[wi64 (by omega)];rfl
   ·simp only[Int.toNat_natCast]
   ·simp only[List.length_append,List.length_singleton]
  ·have hn:=Wo.zHD hx hlt (fun h=>e ((zd5 (b:=10) rfl).2 h))
   exact ⟨(_,_,i+1),by simp only;omega,hn,⟨by rw[wi64 (by omega)];rfl,rfl,rfl⟩,rfl⟩
 ·have hlt':¬(i:Int)<s.length:=by omega
  obtain rfl:i=s.length:=by omega
  have he:=Wo.zvG hp hc hx
  simp only[zfS,go_sem,Nat.reduceEqDiff,reduceCtorEq,hlt']
  exact ⟨fun h=>zbT (by rw[hL,if_pos (by rw[<-he];omega)]),fun h=>zrO (by rw[hL,if_neg (by rw[<-he];omega),<-he])⟩
end
end Go.Avm
