/- Runes: what is one, its bytes. -/
import Derived.Test.YtcldomkahgaplaaGreatDoorAV2
import Derived.Test.YtcldomkahgaplaaGreatDoorML
import Derived.Lib.IndexAny
set_option linter.all false
namespace Go.Avm
open Go Go.Rn
set_option maxRecDepth 4000
section
variable {X:Cx}(hX:X.P=Go.Proofs.Tryz.prog)(hs:Std X)
include hX hs
theorem zoq (n:Int):Ev X zbb [.int .i32 n] (.bool (valid n)):=by
 refine zac hs (zft hX) 0 ?_
 simp only[zfl,go_sem,Nat.reduceEqDiff,reduceCtorEq,valid,AV.bool.injEq]
 grind
theorem zGp (n:Int)(hn:-9223372036854775808<=n/\n<9223372036854775808):Ev X zoR [.int .i64 n] (.bool (valid n)):=by
 refine zac hs (zuI hX) 0 ?_
 simp only[zxH,go_sem,Nat.reduceEqDiff,reduceCtorEq]
 have h32:-2147483648<=IntKind.i32.wrap n/\IntKind.i32.wrap n<2147483648:=by rw[zDW];split<;>omega
 have e:IntKind.i64.wrap (IntKind.i32.wrap n)=IntKind.i32.wrap n:=wi64 (by omega)
 refine ⟨fun h=>zab (zoq hX hs _) ?_,fun h=>?_⟩
 ·rw[e]at h
  simp only[go_sem,Nat.reduceEqDiff,reduceCtorEq,<-h]
 ·simp only[AV.bool.injEq,valid]
  rw[e]at h
  by_cases hr:0<=n/\n<2147483648
  ·exact absurd (wi32 (by omega)).symm h
  ·grind
theorem zpM (n:Int):Ev X zlL [.int .i64 n] (.bool (valid n)):=by
 refine zac hs (zvb hX) 0 ?_
 simp only[zv9,go_sem,Nat.reduceEqDiff,reduceCtorEq,valid,AV.bool.injEq]
 grind
theorem zf5 (n:Int):Ev X zdf [.int .i64 n] (.tuple [lst u8 .ex (enc n),.int .i64 (fault (valid n))]):=by
 refine zac hs (zmS hX) 0 ?_
 simp only[zlg,go_sem,Nat.reduceEqDiff,reduceCtorEq]
 refine zab (zpM hX hs n) ?_
 simp only[go_sem,Nat.reduceEqDiff,Nat.reduceAdd,Int.reduceNe,reduceCtorEq,Nat.reduceLT]
 refine ⟨fun hv=>?_,fun hv=>?_⟩
 ·simp only[enc,fault,hv];rfl
 ·have hv':0<=n/\n<=1114111:=by simp [valid]at hv;omega
  have hb:∀l:List Int,(∀x∈l,0<=x/\x<256)->lst u8 .ex (l.map zaB)=.sl .ex (l.map (AV.int .u8)):=fun l hl=>by
   simp only[lst,List.map_map,AV.sl.injEq,true_and]
   exact List.map_congr_left fun x hx=>zb4 (hl x hx)
  simp (disch:=omega) only[Int.tdiv_eq_ediv_of_nonneg,Int.tmod_eq_emod_of_nonneg,wi64,wu8,enc,hv,if_true,fault,encI]
  refine ⟨fun h=>?_,fun h=>⟨fun h2=>?_,fun h2=>⟨fun h3=>?_,fun h3=>?_⟩⟩⟩
  ·rw[if_pos h,hb _ (by simp;omega)];simp (disch:=omega) only[wu8,List.map_cons,List.map_nil]
  ·rw[if_neg h,if_pos h2,hb _ (by simp;omega)];simp (disch:=omega) only[wu8,List.map_cons,List.map_nil]
  ·rw[if_neg h,if_neg h2,if_pos h3,hb _ (by simp;omega)];simp (disch:=omega) only[wu8,List.map_cons,List.map_nil]
  ·rw[if_neg h,if_neg h2,if_neg h3,hb _ (by simp;omega)];simp (disch:=omega) only[List.map_cons,List.map_nil]
end
section
variable {X:Cx}(hX:X.P=Go.Proofs.Tryz.prog)(hs:Std X)
include hX hs
def rlen (n:Int):Int:=if n<0 then -1 else if n<=127 then 1 else if n<=2047 then 2 else if 55296<=n/\n<=57343 then -1 else if n<=65535 then 3 else if n<=1114111 then 4 else -1
theorem zvd (n:Int):Ev X zhr [.int .i32 n] (.int .i64 (rlen n)):=by
 refine zac hs (zm3 hX) 0 ?_
 simp only[zk4,go_sem,Nat.reduceEqDiff,reduceCtorEq,AV.int.injEq,rlen]
 grind
end
section
variable {X:Cx}(hX:X.P=Go.Proofs.Tryz.prog)(hs:Std X)
include hX hs
end
end Go.Avm
namespace Go.Avm
open Go Go.Rn
set_option maxRecDepth 4000
section
variable {X:Cx}(hX:X.P=Go.Proofs.Tryz.prog)(hs:Std X)
include hX hs
end
theorem zuA {r:Int}(h:valid r=true):(Utf8.encode r).data.toList=enc r:=by
 have hr:=zao h
 have hv:=(zbk r).1 h
 have hu:Utf8.valid r=true:=by simp [Utf8.valid];omega
 rw[zfZ h]
 simp only[Utf8.encode,hu,if_true,encI]
 have hb:∀x:Int,0<=x->zaB x=UInt8.ofNat x.toNat:=fun x _=>rfl
 by_cases c1:r<128
 ·rw[if_pos (by omega),if_pos c1];rfl
 rw[if_neg (by omega),if_neg c1]
 by_cases c2:r<2048
 ·rw[if_pos (by omega),if_pos c2]
  simp only[List.map_cons,List.map_nil,zaB]
  rw[show (192+r / 64).toNat=0xC0+r.toNat / 64 by omega,show (128+r % 64).toNat=0x80+r.toNat % 64 by omega]
 rw[if_neg (by omega),if_neg c2]
 by_cases c3:r<65536
 ·rw[if_pos (by omega),if_pos c3]
  simp only[List.map_cons,List.map_nil,zaB]
  rw[show (224+r / 4096).toNat=0xE0+r.toNat / 4096 by omega,show (128+r / 64 % 64).toNat=0x80+r.toNat / 64 % 64 by omega,show (128+r % 64).toNat=0x80+r.toNat % 64 by omega]
 rw[if_neg (by omega),if_neg c3]
 simp only[List.map_cons,List.map_nil,zaB]
 rw[show (240+r / 262144).toNat=0xF0+r.toNat / 262144 by omega,show (128+r / 4096 % 64).toNat=0x80+r.toNat / 4096 % 64 by omega,show (128+r / 64 % 64).toNat=0x80+r.toNat / 64 % 64 by omega,show (128+r % 64).toNat=0x80+r.toNat % 64 by omega]
def conB (x:Int):Bool:=decide (128<=x/\x<192)
theorem zF9 {r:Int}(h:valid r=true)(i:Nat):bt (enc r) i=(encI r).getD i 0:=by
 rw[zfZ h]
 simp only[bt,List.getD,List.getElem?_map]
 cases hi:(encI r)[i]? with
 | none=>rfl
 | some x =>
  have hx:=zx4 h x (List.mem_of_getElem? hi)
  simp only[Option.map_some,Option.getD_some]
  exact zar hx
theorem zxW {r:Int}(h:valid r=true)(i:Nat)(h1:1<=i)(h2:i<(enc r).length):conB (bt (enc r) i)=true:=by
 have hr:=zao h
 rw[zF9 h]
 have:128<=(encI r).getD i 0/\(encI r).getD i 0<192:=by
  rw[zhn h]at h2
  simp only[encI]
  split
  ·rename_i c;rw[if_pos c]at h2;omega
  rename_i c1
  rw[if_neg c1]at h2
  split
  ·rename_i c;rw[if_pos c]at h2;rcases (by omega:i=1) with rfl
   simp;omega
  rename_i c2
  rw[if_neg c2]at h2
  split
  ·rename_i c;rw[if_pos c]at h2;rcases (by omega:i=1∨i=2) with rfl|rfl<;>simp<;>omega
  rename_i c3
  rw[if_neg c3]at h2
  rcases (by omega:i=1∨i=2∨i=3) with rfl|rfl|rfl<;>simp<;>omega
 simp only[conB,decide_eq_true_eq];omega
def ixR (s:List UInt8)(c:UInt8):Int:=Lib.indexByte s c
section
variable {X:Cx}(hX:X.P=Go.Proofs.Tryz.prog)(hs:Std X)
include hX hs
theorem zrs (s:List UInt8)(ha:∀b∈s,b.toNat<128)(h2:s.length<=2)(r:Int)(hv:valid r=true)(he:r≠65533):Ev X zel [.str s,.int .i32 r] (.int .i64 (if r<128 then ixR s (zaB r) else -1)):=by
 have hr:=zao hv
 refine zac hs (ziK hX) 0 ?_
 simp only[zg3,go_sem,Nat.reduceEqDiff,Nat.reduceAdd,reduceCtorEq,he]
 refine ⟨fun c1=>⟨fun c2=>?_,fun c2=>?_⟩,fun c1=>by omega⟩
 ·have e:AV.int .u8 (IntKind.u8.wrap r)=.int .u8 ((zaB r).toNat:Int):=by rw[zar (by omega),wu8 (by omega)]
  rw[e]
  refine zab (zj0 hX hs s (zaB r)) ?_
  simp only[go_sem,Nat.reduceEqDiff,reduceCtorEq,c2,if_true,ixR]
 ·refine zab (zoq hX hs r) ?_
  simp only[go_sem,Nat.reduceEqDiff,reduceCtorEq,hv,c2]
  refine ztN hs.hm (ι:=Unit) (fun _=>0) (fun _=>False) (fun _=>[]) (fun _=>[]) (fun _=>0) ?_ (fun _ h=>h.elim)
  simp only[go_sem,Nat.reduceEqDiff,reduceCtorEq,zfo]
  rw[zuA hv]
  have hlen:=zhn hv
  rw[if_neg c2]at hlen
  have hl4:=zaQ hv
  have hl2:2<=(enc r).length:=by rw[hlen];split<;>(try split)<;>omega
  rw[wi64 (by omega)]
  refine zaj hs.hm (ι:=Nat) (fun k=>k=0) (fun _=>[(0,.str s),(7,.str (enc r)),(8,.int .i64 ((enc r).length-1)),(9,.int .i64 ((enc r).length-1)),(10,.int .i64 0)]) (fun _=>[]) (fun k=>1-k) 0 ?_ fun k hk=>?_
  ·simp only[go_sem,Nat.reduceEqDiff,reduceCtorEq]
  ·subst hk
   by_cases hq:(enc r).length=2/\s.length=2
   ·have hc:=zxW hv 1 (by omega) (by omega)
    have hc:128<=(((enc r).getD 1 0).toNat:Int):=by
     have:=hc;simp only[conB,decide_eq_true_eq]at this;exact this.1
    have hs1:(s.getD 1 0).toNat<128:=ha _ (by simp [List.getD,hq.2])
    have hne:¬(((s.getD 1 0).toNat:Nat):Int)=(((enc r).getD 1 0).toNat:Nat):=by omega
    have w2:IntKind.i64.wrap 2=2:=by decide
    have i2:((2:Nat):Int)-1=1:=by decide
    have hd:(List.take 2 s).drop 2=[]:=List.drop_eq_nil_of_le (by rw[List.length_take];omega)
    simp only[zcW,go_sem,Nat.reduceEqDiff,Int.reduceLT,reduceCtorEq,hq.1,hq.2,Int.reduceLT,Int.reduceSub]
    refine ztN hs.hm (ι:=Unit) (fun _=>0) (fun _=>False) (fun _=>[]) (fun _=>[]) (fun _=>0) ?_ (fun _ h=>h.elim)
    simp only[zcU,go_sem,Nat.reduceEqDiff,Int.reduceAdd,Int.reduceToNat,Int.reduceLE,Int.reduceLT,reduceCtorEq,hq.1,hq.2,Int.reduceToNat,Int.reduceLE,Int.reduceLT,hne,w2,hd]
    refine za1 (zj0 hX hs [] _) ?_
    simp only[go_sem,Nat.reduceEqDiff,Int.reduceLT,reduceCtorEq,Lib.indexByte]
   ·have hcc:¬((enc r).length:Int)-1<s.length:=by omega
    simp only[zcW,zcU,go_sem,Nat.reduceEqDiff,reduceCtorEq,hcc]
end
def hasR (s:List UInt8)(r:Int):Bool:=s.any fun b=>decide ((b.toNat:Int)=r)
theorem zFk (s:List UInt8)(ha:∀b∈s,b.toNat<128)(r:Int)(h0:0<=r):decide (0<=(if r<128 then ixR s (zaB r) else -1))=hasR s r:=by
 by_cases h:r<128
 ·rw [if_pos h]
  have:s.contains (zaB r)=decide (0<=ixR s (zaB r)):=Lib.contains_iff_indexByte s (zaB r)
  rw[<-this,Bool.eq_iff_iff]
  simp only[hasR,List.contains_iff_mem,List.any_eq_true,decide_eq_true_eq]
  constructor
  ·intro hm
   exact ⟨_,hm,zar (by omega)⟩
  ·rintro ⟨b,hb,rfl⟩
   rw[zto];exact hb
 ·rw [if_neg h]
  have:hasR s r=false:=by
   simp only[hasR,List.any_eq_false,decide_eq_true_eq]
   intro b hb he
   have:=ha b hb;omega
  rw[this];rfl
def clsS:List (List UInt8):=[[],[32],[10],[40,91],[41,93],[34],[],[45],[],[60,61]]
def zbr (r:Int):Int:=
 if valid r then (if 48<=r/\r<=57 then 6 else if 97<=r/\r<=122 then 8 else if r=32 then 1 else if r=10 then 2 else if r=40∨r=91 then 3 else if r=41∨r=93 then 4 else if r=34 then 5 else if r=45 then 7 else if r=60∨r=61 then 9 else 10) else 0
theorem zsh (c:Nat):(∀b∈clsS.getD c [],b.toNat<128)/\(clsS.getD c []).length<=2:=by
 rcases Nat.lt_or_ge c 10 with h|h
 ·have:∀c:Fin 10,(∀b∈clsS.getD c.val [],b.toNat<128)/\(clsS.getD c.val []).length<=2:=by decide
  exact this ⟨c,h⟩
 ·have:clsS.getD c []=[]:=by simp [List.getD,List.getElem?_eq_none (l:=clsS) (i:=c) (by simpa [clsS] using h)]
  rw[this];simp
theorem zsy (r:Int)(hv:valid r=true)(h1:¬(48<=r/\r<=57))(h2:¬(97<=r/\r<=122))(c:Nat)(hc:c<10)(h:hasR (clsS.getD c []) r=true):zbr r=c:=by
 simp only[zbr,hv,if_true]
 rw[if_neg h1,if_neg h2]
 rcases (by omega:c=0∨c=1∨c=2∨c=3∨c=4∨c=5∨c=6∨c=7∨c=8∨c=9) with rfl|rfl|rfl|rfl|rfl|rfl|rfl|rfl|rfl|rfl<;>simp [hasR,clsS]at h
 ·subst h;rfl
 ·subst h;rfl
 ·rcases h with h|h<;>subst h<;>rfl
 ·rcases h with h|h<;>subst h<;>rfl
 ·subst h;rfl
 ·subst h;rfl
 ·rcases h with h|h<;>subst h<;>rfl
theorem zoC (r:Int)(hv:valid r=true)(h1:¬(48<=r/\r<=57))(h2:¬(97<=r/\r<=122))(h:∀j,j<10->hasR (clsS.getD j []) r=false):zbr r=10:=by
 have a1:=h 1 (by omega);have a2:=h 2 (by omega);have a3:=h 3 (by omega);have a4:=h 4 (by omega);have a5:=h 5 (by omega);have a7:=h 7 (by omega);have a9:=h 9 (by omega)
 simp [hasR,clsS]at a1 a2 a3 a4 a5 a7 a9
 simp only[zbr,hv,if_true]
 grind
theorem zxk (c:Nat)(h:c<10):List.getD [AV.str [],.str [32],.str [10],.str [40,91],.str [41,93],.str [34],.str [],.str [45],.str [],.str [60,61]] (c*1) .undef=.str (clsS.getD c []):=by
 rcases (by omega:c=0∨c=1∨c=2∨c=3∨c=4∨c=5∨c=6∨c=7∨c=8∨c=9) with rfl|rfl|rfl|rfl|rfl|rfl|rfl|rfl|rfl|rfl<;>rfl
section
variable {X:Cx}(hX:X.P=Go.Proofs.Tryz.prog)(hs:Std X)
include hX hs
theorem zdm (s:List UInt8)(ha:∀b∈s,b.toNat<128)(h2:s.length<=2)(r:Int)(hv:valid r=true)(he:r≠65533):Ev X zcu [.str s,.int .i32 r] (.bool (hasR s r)):=by
 refine zac hs (zgN hX) 0 ?_
 simp only[zeX,go_sem,Nat.reduceEqDiff,Nat.reduceAdd,reduceCtorEq]
 refine zab (zrs hX hs s ha h2 r hv he) ?_
 simp only[go_sem,Nat.reduceEqDiff,reduceCtorEq]
 rw[<-zFk s ha r (zao hv).1]
theorem zi1:Ev X zfF [] (.agg [.str [],.str [32],.str [10],.str [40,91],.str [41,93],.str [34],.str [],.str [45],.str [],.str [60,61]]):=by
 refine zac hs (zmr hX) 2 ?_
 simp only[zjX,go_sem,Nat.reduceAdd,reduceCtorEq,Nat.reduceLeDiff]
theorem zyW (r:Int)(hr:-9223372036854775808<=r/\r<9223372036854775808)(he:r≠65533):Ev X ziI [.int .i64 r] (.tuple [.int .i64 (zbr r),.int .i64 (fault (valid r))]):=by
 refine zac hs (zpY hX) 2 ?_
 simp only[znC,go_sem,Nat.reduceEqDiff,reduceCtorEq]
 refine zab (zGp hX hs r hr) ?_
 cases hv:valid r with
 | false =>
  simp only[go_sem,Nat.reduceEqDiff,reduceCtorEq,zbr,hv,fault]
 | true =>
  have hrr:=zao hv
  rcases (by omega:(48<=r/\r<=57)∨(97<=r/\r<=122)∨(¬48<=r/\¬97<=r)∨(48<=r/\¬r<=57/\¬97<=r)∨(48<=r/\¬r<=57/\97<=r/\¬r<=122)) with d|d|d|d|d
  ·simp only[go_sem,Nat.reduceEqDiff,reduceCtorEq,fault,d.1,d.2]
   have:zbr r=6:=by simp only[zbr,hv,if_true];rw[if_pos d]
   rw[this]
  ·simp only[go_sem,Nat.reduceEqDiff,reduceCtorEq,fault,d.1,d.2,(show (48:Int)<=r by omega),(show ¬r<=57 by omega)]
   have:zbr r=8:=by simp only[zbr,hv,if_true];rw[if_neg (by omega),if_pos d]
   rw[this]
  ·simp only[go_sem,Nat.reduceEqDiff,reduceCtorEq,fault,d.1,d.2]
   refine zab (zi1 hX hs) ?_
   simp only[go_sem]
   refine zaj hs.hm (ι:=Nat) (fun c=>c<=10/\∀j,j<c->hasR (clsS.getD j []) r=false) (fun c=>[(0,.int .i64 r),(24,.agg [.str [],.str [32],.str [10],.str [40,91],.str [41,93],.str [34],.str [],.str [45],.str [],.str [60,61]]),(25,.int .i64 c)]) (fun _=>[]) (fun c=>10-c) 0 ?_ fun c hc=>?_
   ·simp only[go_sem,Nat.reduceEqDiff,reduceCtorEq,Nat.reduceLeDiff]
    exact fun j hj=>by omega
   ·obtain ⟨c1,c2⟩:=hc
    simp only[zdS,go_sem,Nat.reduceEqDiff,Nat.reduceAdd,reduceCtorEq]
    refine ⟨fun h=>⟨⟨by omega,by omega⟩,?_⟩,fun h=>?_⟩
    ·have hcc:c<10:=by omega
     have hok:=zsh c
     simp only[zxk c hcc,go_sem]
     rw[wi32 (by omega)]
     refine zab (zdm hX hs _ hok.1 hok.2 r hv he) ?_
     cases hh:hasR (clsS.getD c []) r with
     | true =>
      simp only[go_sem,Nat.reduceEqDiff,reduceCtorEq]
      rw[zsy r hv (by omega) (by omega) c hcc hh]
     | false =>
      simp only[go_sem,Nat.reduceEqDiff,reduceCtorEq]
      refine ⟨c+1,by omega,⟨by omega,fun j hj=>?_⟩,by rw[wi64 (by omega)];rfl⟩
      rcases (by omega:j=c∨j<c) with rfl|h'
      ·exact hh
      ·exact c2 j h'
    ·rw[zoC r hv (by omega) (by omega) fun j hj=>c2 j (by omega)]
  ·simp only[go_sem,Nat.reduceEqDiff,reduceCtorEq,fault,d.1,d.2.1,d.2.2]
   refine zab (zi1 hX hs) ?_
   simp only[go_sem]
   refine zaj hs.hm (ι:=Nat) (fun c=>c<=10/\∀j,j<c->hasR (clsS.getD j []) r=false) (fun c=>[(0,.int .i64 r),(24,.agg [.str [],.str [32],.str [10],.str [40,91],.str [41,93],.str [34],.str [],.str [45],.str [],.str [60,61]]),(25,.int .i64 c)]) (fun _=>[]) (fun c=>10-c) 0 ?_ fun c hc=>?_
   ·simp only[go_sem,Nat.reduceEqDiff,reduceCtorEq,Nat.reduceLeDiff]
    exact fun j hj=>by omega
   ·obtain ⟨c1,c2⟩:=hc
    simp only[zdS,go_sem,Nat.reduceEqDiff,Nat.reduceAdd,reduceCtorEq]
    refine ⟨fun h=>⟨⟨by omega,by omega⟩,?_⟩,fun h=>?_⟩
    ·have hcc:c<10:=by omega
     have hok:=zsh c
     simp only[zxk c hcc,go_sem]
     rw[wi32 (by omega)]
     refine zab (zdm hX hs _ hok.1 hok.2 r hv he) ?_
     cases hh:hasR (clsS.getD c []) r with
     | true =>
      simp only[go_sem,Nat.reduceEqDiff,reduceCtorEq]
      rw[zsy r hv (by omega) (by omega) c hcc hh]
     | false =>
      simp only[go_sem,Nat.reduceEqDiff,reduceCtorEq]
      refine ⟨c+1,by omega,⟨by omega,fun j hj=>?_⟩,by rw[wi64 (by omega)];rfl⟩
      rcases (by omega:j=c∨j<c) with rfl|h'
      ·exact hh
      ·exact c2 j h'
    ·rw[zoC r hv (by omega) (by omega) fun j hj=>c2 j (by omega)]
  ·simp only[go_sem,Nat.reduceEqDiff,reduceCtorEq,fault,d.1,d.2.1,d.2.2.1,d.2.2.2]
   refine zab (zi1 hX hs) ?_
   simp only[go_sem]
   refine zaj hs.hm (ι:=Nat) (fun c=>c<=10/\∀j,j<c->hasR (clsS.getD j []) r=false) (fun c=>[(0,.int .i64 r),(24,.agg [.str [],.str [32],.str [10],.str [40,91],.str [41,93],.str [34],.str [],.str [45],.str [],.str [60,61]]),(25,.int .i64 c)]) (fun _=>[]) (fun c=>10-c) 0 ?_ fun c hc=>?_
   ·simp only[go_sem,Nat.reduceEqDiff,reduceCtorEq,Nat.reduceLeDiff]
    exact fun j hj=>by omega
   ·obtain ⟨c1,c2⟩:=hc
    simp only[zdS,go_sem,Nat.reduceEqDiff,Nat.reduceAdd,reduceCtorEq]
    refine ⟨fun h=>⟨⟨by omega,by omega⟩,?_⟩,fun h=>?_⟩
    ·have hcc:c<10:=by omega
     have hok:=zsh c
     simp only[zxk c hcc,go_sem]
     rw[wi32 (by omega)]
     refine zab (zdm hX hs _ hok.1 hok.2 r hv he) ?_
     cases hh:hasR (clsS.getD c []) r with
     | true =>
      simp only[go_sem,Nat.reduceEqDiff,reduceCtorEq]
      rw[zsy r hv (by omega) (by omega) c hcc hh]
     | false =>
      simp only[go_sem,Nat.reduceEqDiff,reduceCtorEq]
      refine ⟨c+1,by omega,⟨by omega,fun j hj=>?_⟩,by rw[wi64 (by omega)];rfl⟩
      rcases (by omega:j=c∨j<c) with rfl|h'
      ·exact hh
      ·exact c2 j h'
    ·rw[zoC r hv (by omega) (by omega) fun j hj=>c2 j (by omega)]
end
end Go.Avm
namespace Go.Avm
open Go Go.Rn
theorem zgU (l:List UInt8)(i:Nat):(((l.getD i default).toNat:Nat):Int)=bt l i:=rfl
def racc (l:List UInt8)(low:Int):Nat->Int
  | 0=>0
  | 1=>bt l 0-low
  | (i+1)=>64*racc l low i+bt l i-128
theorem zpS (l:List UInt8)(low:Int)(h:0<=bt l 0-low/\bt l 0-low<64)(i:Nat)(hi:1<=i/\i<=4)(hj:∀j,1<=j->j<i->128<=bt l j/\bt l j<192):0<=racc l low i/\racc l low i<16777216:=by
  match i,hi with
  | 1,_=>simp only[racc];omega
  | 2,_=>have:=hj 1 (by omega) (by omega);simp only[racc];omega
  | 3,_=>have:=hj 1 (by omega) (by omega);have:=hj 2 (by omega) (by omega);simp only[racc];omega
  | 4,_=>have:=hj 1 (by omega) (by omega);have:=hj 2 (by omega) (by omega);have:=hj 3 (by omega) (by omega);simp only[racc];omega
theorem zgp (l:List UInt8)(i:Nat)(h1:1<=i)(h2:i<l.length)(h:¬(128<=bt l i/\bt l i<192)):numI l=-1:=by
  simp only[numI]
  split
  · omega
  split
  · rcases (by omega:i=1) with rfl;rw[if_neg (by omega)]
  split
  · rcases (by omega:i=1∨i=2) with rfl|rfl<;>rw[if_neg (by omega)]
  split
  · rcases (by omega:i=1∨i=2∨i=3) with rfl|rfl|rfl<;>rw[if_neg (by omega)]
  · rfl
theorem zkI (l:List UInt8)(low:Int)(n:Nat)(hn:(n=2/\low=192/\bt l 0<224)∨(n=3/\low=224/\bt l 0<240)∨(n=4/\low=240/\bt l 0<248))(hl:l.length=n)(h0:low<=bt l 0)(hj:∀j,1<=j->j<n->128<=bt l j/\bt l j<192):numI l=racc l low n:=by
  simp only[numI,hl]
  rcases hn with ⟨rfl,rfl,h⟩|⟨rfl,rfl,h⟩|⟨rfl,rfl,h⟩
  · have:=hj 1 (by omega) (by omega)
    rw[if_neg (by omega),if_pos rfl,if_pos (by omega)];simp only[racc]
  · have:=hj 1 (by omega) (by omega);have:=hj 2 (by omega) (by omega)
    rw[if_neg (by omega),if_neg (by omega),if_pos rfl,if_pos (by omega)];simp only[racc]
  · have:=hj 1 (by omega) (by omega);have:=hj 2 (by omega) (by omega);have:=hj 3 (by omega) (by omega)
    rw[if_neg (by omega),if_neg (by omega),if_neg (by omega),if_pos rfl,if_pos (by omega)];simp only[racc]
set_option maxRecDepth 4000
section
variable {X:Cx}(hX:X.P=Go.Proofs.Tryz.prog)(hs:Std X)
include hX hs
theorem zwS       (l:List UInt8)(hl:1<=l.length/\l.length<=4):Ev X zhd [lst u8 .ro l] (.int .i64 (numI l)):=by
  have b0:=zbu l 0
  refine zac hs (zmX hX) 1 ?_
  simp only[zlV,go_sem,Nat.reduceEqDiff,Nat.reduceAdd,Int.reduceToNat,Int.reduceLE,reduceCtorEq,Nat.reduceLeDiff,zgU]
  rw[wi64 (by omega)]
  refine ⟨by omega,?_⟩
  refine zaj hs.hm (ι:=Nat) (fun n=>2<=n/\n<=5/\(2<n->¬(l.length=2/\192<=bt l 0/\bt l 0<224))/\(3<n->¬(l.length=3/\224<=bt l 0/\bt l 0<240))/\(4<n->¬(l.length=4/\240<=bt l 0/\bt l 0<248))) (fun n=>[(0,lst u8 .ro l),(3,.int .i64 (bt l 0)),(4,.ptr 0 0),(5,.int .i64 n)]) (fun _=>[.box [.int .i64 0,.int .i64 0,.int .i64 192,.int .i64 224,.int .i64 240]]) (fun n=>5-n) 2 ?_ fun n hn=>?_
  · simp only[go_sem,Nat.reduceEqDiff,reduceCtorEq,Nat.reduceLT,Nat.reduceLeDiff]
  · obtain ⟨n1,n2,n3,n4,n5⟩:=hn
    rcases (by omega:n=2∨n=3∨n=4∨n=5) with rfl|rfl|rfl|rfl
    · have k1:IntKind.u64.wrap 2=2:=by decide
      have k2:IntKind.i64.wrap (192+IntKind.i64.wrap (Int.fdiv 64 (2 ^ min (Int.toNat 2) 64)*2))=224:=by decide
      have k2':IntKind.i64.wrap (192+IntKind.i64.wrap (Int.fdiv 64 (2 ^ min 2 64)*2))=224:=by decide
      have k3:IntKind.i64.wrap 3=3:=by decide
      simp only[zca,go_sem,Nat.reduceEqDiff,Nat.reduceAdd,Int.reduceAdd,Nat.reduceMul,Nat.reduceSub,Int.reduceToNat,Int.reduceLE,Int.reduceLT,reduceCtorEq,Nat.reduceLT,Int.reduceToNat,Int.reduceLE,Int.reduceLT,k1,k2',k3]
      refine ⟨fun c=>⟨3,by omega,⟨by omega,by omega,by omega,by omega,by omega⟩,rfl⟩,fun c=>⟨fun c1=>⟨3,by omega,⟨by omega,by omega,by omega,by omega,by omega⟩,rfl⟩,fun c1=>⟨fun c2=>⟨3,by omega,⟨by omega,by omega,by omega,by omega,by omega⟩,rfl⟩,fun c2=>?_⟩⟩⟩
      refine zaj hs.hm (ι:=Nat) (fun i=>1<=i/\i<=2/\∀j,1<=j->j<i->128<=bt l j/\bt l j<192) (fun i=>[(0,lst u8 .ro l),(5,.int .i64 2),(7,.int .i64 (racc l 192 i)),(8,.int .i64 i)]) (fun _=>[.box [.int .i64 0,.int .i64 0,.int .i64 192,.int .i64 224,.int .i64 240]]) (fun i=>2-i) 1 ?_ fun i hi=>?_
      · simp only[go_sem,Nat.reduceEqDiff,reduceCtorEq,Nat.reduceLeDiff,racc]
        rw[wi64 (by omega)]
        refine ⟨fun j _ _=>by omega,rfl⟩
      · obtain ⟨i1,i2,i3⟩:=hi
        have hr:=zpS l 192 (by omega) i (by omega) i3
        have bi:=zbu l i
        have hs:racc l 192 (i+1)=64*racc l 192 i+bt l i-128:=by match i,i1 with|i+1,_=>rfl
        simp only[zcZ,go_sem,Nat.reduceEqDiff,reduceCtorEq,zgU]
        simp (disch:=omega) only[wi64]
        refine ⟨fun c=>⟨by omega,fun c1=>?_,fun c1=>⟨by omega,fun c2=>?_,fun c2=>⟨by omega,⟨i+1,by omega,⟨by omega,by omega,fun j j1 j2=>?_⟩,?_,by simp⟩⟩⟩⟩,fun c=>?_⟩
        · rw[zgp l i i1 (by omega) (by omega)]
        · rw[zgp l i i1 (by omega) (by omega)]
        · rcases (by omega:j=i∨j<i) with rfl|hj
          · omega
          · exact i3 j j1 hj
        · rw[hs]
        · have:i=2:=by omega
          subst this
          rw[zkI l 192 2 (by omega) (by omega) (by omega) i3]
    · have k1:IntKind.u64.wrap 3=3:=by decide
      have k2:IntKind.i64.wrap (224+IntKind.i64.wrap (Int.fdiv 64 (2 ^ min (Int.toNat 3) 64)*2))=240:=by decide
      have k2':IntKind.i64.wrap (224+IntKind.i64.wrap (Int.fdiv 64 (2 ^ min 3 64)*2))=240:=by decide
      have k3:IntKind.i64.wrap 4=4:=by decide
      simp only[zca,go_sem,Nat.reduceEqDiff,Nat.reduceAdd,Int.reduceAdd,Nat.reduceMul,Nat.reduceSub,Int.reduceToNat,Int.reduceLE,Int.reduceLT,reduceCtorEq,Nat.reduceLT,Int.reduceToNat,Int.reduceLE,Int.reduceLT,k1,k2',k3]
      refine ⟨fun c=>⟨4,by omega,⟨by omega,by omega,by omega,by omega,by omega⟩,rfl⟩,fun c=>⟨fun c1=>⟨4,by omega,⟨by omega,by omega,by omega,by omega,by omega⟩,rfl⟩,fun c1=>⟨fun c2=>⟨4,by omega,⟨by omega,by omega,by omega,by omega,by omega⟩,rfl⟩,fun c2=>?_⟩⟩⟩
      refine zaj hs.hm (ι:=Nat) (fun i=>1<=i/\i<=3/\∀j,1<=j->j<i->128<=bt l j/\bt l j<192) (fun i=>[(0,lst u8 .ro l),(5,.int .i64 3),(7,.int .i64 (racc l 224 i)),(8,.int .i64 i)]) (fun _=>[.box [.int .i64 0,.int .i64 0,.int .i64 192,.int .i64 224,.int .i64 240]]) (fun i=>3-i) 1 ?_ fun i hi=>?_
      · simp only[go_sem,Nat.reduceEqDiff,reduceCtorEq,Nat.reduceLeDiff,racc]
        rw[wi64 (by omega)]
        refine ⟨fun j _ _=>by omega,rfl⟩
      · obtain ⟨i1,i2,i3⟩:=hi
        have hr:=zpS l 224 (by omega) i (by omega) i3
        have bi:=zbu l i
        have hs:racc l 224 (i+1)=64*racc l 224 i+bt l i-128:=by match i,i1 with|i+1,_=>rfl
        simp only[zcZ,go_sem,Nat.reduceEqDiff,reduceCtorEq,zgU]
        simp (disch:=omega) only[wi64]
        refine ⟨fun c=>⟨by omega,fun c1=>?_,fun c1=>⟨by omega,fun c2=>?_,fun c2=>⟨by omega,⟨i+1,by omega,⟨by omega,by omega,fun j j1 j2=>?_⟩,?_,by simp⟩⟩⟩⟩,fun c=>?_⟩
        · rw[zgp l i i1 (by omega) (by omega)]
        · rw[zgp l i i1 (by omega) (by omega)]
        · rcases (by omega:j=i∨j<i) with rfl|hj
          · omega
          · exact i3 j j1 hj
        · rw[hs]
        · have:i=3:=by omega
          subst this
          rw[zkI l 224 3 (by omega) (by omega) (by omega) i3]
    · have k1:IntKind.u64.wrap 4=4:=by decide
      have k2:IntKind.i64.wrap (240+IntKind.i64.wrap (Int.fdiv 64 (2 ^ min (Int.toNat 4) 64)*2))=248:=by decide
      have k2':IntKind.i64.wrap (240+IntKind.i64.wrap (Int.fdiv 64 (2 ^ min 4 64)*2))=248:=by decide
      have k3:IntKind.i64.wrap 5=5:=by decide
      simp only[zca,go_sem,Nat.reduceEqDiff,Nat.reduceAdd,Int.reduceAdd,Nat.reduceMul,Nat.reduceSub,Int.reduceToNat,Int.reduceLE,Int.reduceLT,reduceCtorEq,Nat.reduceLT,Int.reduceToNat,Int.reduceLE,Int.reduceLT,k1,k2',k3]
      refine ⟨fun c=>⟨5,by omega,⟨by omega,by omega,by omega,by omega,by omega⟩,rfl⟩,fun c=>⟨fun c1=>⟨5,by omega,⟨by omega,by omega,by omega,by omega,by omega⟩,rfl⟩,fun c1=>⟨fun c2=>⟨5,by omega,⟨by omega,by omega,by omega,by omega,by omega⟩,rfl⟩,fun c2=>?_⟩⟩⟩
      refine zaj hs.hm (ι:=Nat) (fun i=>1<=i/\i<=4/\∀j,1<=j->j<i->128<=bt l j/\bt l j<192) (fun i=>[(0,lst u8 .ro l),(5,.int .i64 4),(7,.int .i64 (racc l 240 i)),(8,.int .i64 i)]) (fun _=>[.box [.int .i64 0,.int .i64 0,.int .i64 192,.int .i64 224,.int .i64 240]]) (fun i=>4-i) 1 ?_ fun i hi=>?_
      · simp only[go_sem,Nat.reduceEqDiff,reduceCtorEq,Nat.reduceLeDiff,racc]
        rw[wi64 (by omega)]
        refine ⟨fun j _ _=>by omega,rfl⟩
      · obtain ⟨i1,i2,i3⟩:=hi
        have hr:=zpS l 240 (by omega) i (by omega) i3
        have bi:=zbu l i
        have hs:racc l 240 (i+1)=64*racc l 240 i+bt l i-128:=by match i,i1 with|i+1,_=>rfl
        simp only[zcZ,go_sem,Nat.reduceEqDiff,reduceCtorEq,zgU]
        simp (disch:=omega) only[wi64]
        refine ⟨fun c=>⟨by omega,fun c1=>?_,fun c1=>⟨by omega,fun c2=>?_,fun c2=>⟨by omega,⟨i+1,by omega,⟨by omega,by omega,fun j j1 j2=>?_⟩,?_,by simp⟩⟩⟩⟩,fun c=>?_⟩
        · rw[zgp l i i1 (by omega) (by omega)]
        · rw[zgp l i i1 (by omega) (by omega)]
        · rcases (by omega:j=i∨j<i) with rfl|hj
          · omega
          · exact i3 j j1 hj
        · rw[hs]
        · have:i=4:=by omega
          subst this
          rw[zkI l 240 4 (by omega) (by omega) (by omega) i3]
    · simp only[zca,go_sem,Nat.reduceEqDiff,Int.reduceLE,reduceCtorEq,Int.reduceLE]
      simp only[AV.int.injEq,true_and,numI]
      refine ⟨fun h=>⟨fun h1=>?_,fun h1=>?_⟩,fun h=>?_⟩
      · rw[if_pos (by omega),if_pos h1]
      · rw[if_pos (by omega),if_neg h1]
      · rw[if_neg (by omega)]
        split
        · rw[if_neg (by omega)]
        split
        · rw[if_neg (by omega)]
        split
        · rw[if_neg (by omega)]
        · rfl
theorem zdv (l:List UInt8)(hl:1<=l.length/\l.length<=4):Ev X ze6 [lst u8 .ro l] (.tuple [.int .i64 (if valid (numI l) then numI l else 0),.bool (sb l)]):=by
  refine zac hs (zmJ hX) 0 ?_
  simp only[zkM,go_sem,Nat.reduceEqDiff,reduceCtorEq]
  refine zab (zwS hX hs l hl) ?_
  simp only[go_sem,Nat.reduceEqDiff,reduceCtorEq]
  refine zab (zpM hX hs (numI l)) ?_
  simp only[go_sem,Nat.reduceEqDiff,reduceCtorEq]
  cases hv:valid (numI l) with
  | false =>
    have:sb l=false:=by
      rw[<-Bool.not_eq_true,zvW,hv];simp
    simp only[go_sem,reduceCtorEq,this]
  | true =>
    simp only[go_sem,reduceCtorEq]
    refine zab (zf5 hX hs (numI l)) ?_
    simp only[go_sem,Nat.reduceEqDiff,Nat.reduceAdd,reduceCtorEq,Nat.reduceLT]
    rw[AV.tuple.injEq]
    simp only[List.cons.injEq,AV.bool.injEq,true_and,and_true]
    rw[Bool.eq_iff_iff,zvW,hv]
    simp [eq_comm]
end
end Go.Avm
namespace Go.Avm
open Go Go.Rn
set_option maxRecDepth 4000
section
variable {X:Cx}(hX:X.P=Go.Proofs.Tryz.prog)(hs:Std X)
include hX hs
theorem zqa       (l:List UInt8)(hl:1<=l.length/\l.length<=3):Ev X zhp [lst u8 .ro l] (.bool (more l)):=by
  have b0:=zbu l 0
  have hno:many (bt l 0)<=l.length->more l=false:=fun h=>by
    rw[<-Bool.not_eq_true];intro h'
    have:=zra l h';omega
  refine zac hs (zm2 hX) 2 ?_
  simp only[zma,go_sem,Nat.reduceEqDiff,Int.reduceToNat,Int.reduceLE,reduceCtorEq,zgU]
  simp (disch:=omega) only[wi64]
  by_cases c2:192<=bt l 0/\bt l 0<224
  · have hm : many (bt l 0)=2:=by simp only[many];rw[if_pos c2]
    simp only[c2,go_sem]
    refine ⟨by omega,fun c=>by rw[hno (by omega)],fun c=>?_⟩
    refine zaj hs.hm (ι:=Nat) (fun k=>k<=2/\∀i<k,sb (l++List.replicate (2-l.length) (zaB (128+63*i)))=false) (fun k=>[(0,lst u8 .ro l),(3,.int .i64 2),(5,.int .i64 (128+63*k))]) (fun k=>List.replicate k (.tok 2)) (fun k=>3-k) 0 ?_ fun k hk=>?_
    · simp only[go_sem,Nat.reduceEqDiff,reduceCtorEq,Nat.reduceLeDiff]
      simp
    · obtain ⟨h1,h2⟩:=hk
      rcases (by omega:k=0∨k=1∨k=2) with rfl|rfl|rfl
      · simp only [zaH,go_sem,Nat.reduceEqDiff,Int.reduceAdd,Int.reduceLE,reduceCtorEq,Int.reduceLE,Int.reduceMul,List.replicate_zero]
        refine ⟨⟨by omega,by omega⟩,?_⟩
        refine zaj hs.hm (ι:=Nat) (fun j=>l.length+j<=2) (fun j=>[(0,lst u8 .ro l),(3,.int .i64 2),(5,.int .i64 128),(6,lst u8 (.tok 0 1) (l++List.replicate j (zaB 128)))]) (fun j=>[.tok (l.length+j)]) (fun j=>2-(l.length+j)) 0 ?_ fun j hj=>?_
        · simp only[go_sem,Nat.reduceEqDiff,reduceCtorEq]
          exact ⟨by omega,by simp⟩
        · have e : AV.int .u8 (IntKind.u8.wrap 128)=u8 (zaB 128):=by rw[wu8 (by omega),zb4 (by omega)]
          have k3:IntKind.i64.wrap 191=191:=by decide
          simp only[zbc,go_sem,Nat.reduceEqDiff,reduceCtorEq,Nat.reduceLT,Nat.reduceLeDiff,List.length_append,List.length_replicate,e]
          refine ⟨fun c=>⟨⟨by omega,by omega⟩,j+1,by omega,by omega,?_,?_⟩,fun c=>?_⟩
          · rw[List.append_assoc,List.replicate_succ']
          · simp;omega
          · have hj2:j=2-l.length:=by omega
            subst hj2
            refine zab (zdv hX hs _ (by simp;omega)) ?_
            simp only[go_sem,Nat.reduceEqDiff,Nat.reduceAdd,Int.reduceAdd,Nat.reduceSub,reduceCtorEq,Nat.reduceLT]
            cases hb:sb (l++List.replicate (2-l.length) (zaB 128)) with
            | true =>
              simp only[go_sem,reduceCtorEq]
              rw[zc1 l hl.1 (by omega),hm,hb];simp
            | false =>
              simp only[go_sem,reduceCtorEq,k3]
              refine ⟨1,by omega,⟨by omega,fun i hi=>?_⟩,rfl,?_⟩
              · rcases (by omega:i=0∨i<0) with rfl|hi'
                · exact hb
                · exact h2 i hi'
              · simp;omega
      · simp only [zaH,go_sem,Nat.reduceEqDiff,Int.reduceAdd,Int.reduceLE,reduceCtorEq,Int.reduceLE,Int.reduceMul,List.replicate_succ,List.replicate_zero]
        refine ⟨⟨by omega,by omega⟩,?_⟩
        refine zaj hs.hm (ι:=Nat) (fun j=>l.length+j<=2) (fun j=>[(0,lst u8 .ro l),(3,.int .i64 2),(5,.int .i64 191),(6,lst u8 (.tok 1 1) (l++List.replicate j (zaB 191)))]) (fun j=>[.tok 2,.tok (l.length+j)]) (fun j=>2-(l.length+j)) 0 ?_ fun j hj=>?_
        · simp only[go_sem,Nat.reduceEqDiff,reduceCtorEq]
          exact ⟨by omega,by simp⟩
        · have e : AV.int .u8 (IntKind.u8.wrap 191)=u8 (zaB 191):=by rw[wu8 (by omega),zb4 (by omega)]
          have k3:IntKind.i64.wrap 254=254:=by decide
          simp only[zbc,go_sem,Nat.reduceEqDiff,reduceCtorEq,Nat.reduceLT,Nat.reduceLeDiff,List.length_append,List.length_replicate,e]
          refine ⟨fun c=>⟨⟨by omega,by omega⟩,j+1,by omega,by omega,?_,?_⟩,fun c=>?_⟩
          · rw[List.append_assoc,List.replicate_succ']
          · simp;omega
          · have hj2:j=2-l.length:=by omega
            subst hj2
            refine zab (zdv hX hs _ (by simp;omega)) ?_
            simp only[go_sem,Nat.reduceEqDiff,Nat.reduceAdd,Int.reduceAdd,Nat.reduceSub,reduceCtorEq,Nat.reduceLT]
            cases hb:sb (l++List.replicate (2-l.length) (zaB 191)) with
            | true =>
              simp only[go_sem,reduceCtorEq]
              rw[zc1 l hl.1 (by omega),hm,hb];simp
            | false =>
              simp only[go_sem,reduceCtorEq,k3]
              refine ⟨2,by omega,⟨by omega,fun i hi=>?_⟩,rfl,?_⟩
              · rcases (by omega:i=1∨i<1) with rfl|hi'
                · exact hb
                · exact h2 i hi'
              · simp;omega
      · simp only[zaH,go_sem,Nat.reduceEqDiff,Int.reduceAdd,Int.reduceLE,reduceCtorEq,Int.reduceLE,Int.reduceMul]
        have a0:=h2 0 (by omega);have a1:=h2 1 (by omega)
        simp at a0 a1
        rw[zc1 l hl.1 (by omega),hm,a0,a1];rfl
  by_cases c3:224<=bt l 0/\bt l 0<240
  · have hm : many (bt l 0)=3:=by simp only[many];rw[if_neg (by omega),if_pos c3]
    simp only[(show (192:Int)<=bt l 0 by omega),(show ¬bt l 0<224 by omega),c3,go_sem]
    refine ⟨by omega,fun c=>by rw[hno (by omega)],fun c=>?_⟩
    refine zaj hs.hm (ι:=Nat) (fun k=>k<=2/\∀i<k,sb (l++List.replicate (3-l.length) (zaB (128+63*i)))=false) (fun k=>[(0,lst u8 .ro l),(3,.int .i64 3),(5,.int .i64 (128+63*k))]) (fun k=>List.replicate k (.tok 3)) (fun k=>3-k) 0 ?_ fun k hk=>?_
    · simp only[go_sem,Nat.reduceEqDiff,reduceCtorEq,Nat.reduceLeDiff]
      simp
    · obtain ⟨h1,h2⟩:=hk
      rcases (by omega:k=0∨k=1∨k=2) with rfl|rfl|rfl
      · simp only [zaH,go_sem,Nat.reduceEqDiff,Int.reduceAdd,Int.reduceLE,reduceCtorEq,Int.reduceLE,Int.reduceMul,List.replicate_zero]
        refine ⟨⟨by omega,by omega⟩,?_⟩
        refine zaj hs.hm (ι:=Nat) (fun j=>l.length+j<=3) (fun j=>[(0,lst u8 .ro l),(3,.int .i64 3),(5,.int .i64 128),(6,lst u8 (.tok 0 1) (l++List.replicate j (zaB 128)))]) (fun j=>[.tok (l.length+j)]) (fun j=>3-(l.length+j)) 0 ?_ fun j hj=>?_
        · simp only[go_sem,Nat.reduceEqDiff,reduceCtorEq]
          exact ⟨by omega,by simp⟩
        · have e : AV.int .u8 (IntKind.u8.wrap 128)=u8 (zaB 128):=by rw[wu8 (by omega),zb4 (by omega)]
          have k3:IntKind.i64.wrap 191=191:=by decide
          simp only[zbc,go_sem,Nat.reduceEqDiff,reduceCtorEq,Nat.reduceLT,Nat.reduceLeDiff,List.length_append,List.length_replicate,e]
          refine ⟨fun c=>⟨⟨by omega,by omega⟩,j+1,by omega,by omega,?_,?_⟩,fun c=>?_⟩
          · rw[List.append_assoc,List.replicate_succ']
          · simp;omega
          · have hj2:j=3-l.length:=by omega
            subst hj2
            refine zab (zdv hX hs _ (by simp;omega)) ?_
            simp only[go_sem,Nat.reduceEqDiff,Nat.reduceAdd,Int.reduceAdd,Nat.reduceSub,reduceCtorEq,Nat.reduceLT]
            cases hb:sb (l++List.replicate (3-l.length) (zaB 128)) with
            | true =>
              simp only[go_sem,reduceCtorEq]
              rw[zc1 l hl.1 (by omega),hm,hb];simp
            | false =>
              simp only[go_sem,reduceCtorEq,k3]
              refine ⟨1,by omega,⟨by omega,fun i hi=>?_⟩,rfl,?_⟩
              · rcases (by omega:i=0∨i<0) with rfl|hi'
                · exact hb
                · exact h2 i hi'
              · simp;omega
      · simp only [zaH,go_sem,Nat.reduceEqDiff,Int.reduceAdd,Int.reduceLE,reduceCtorEq,Int.reduceLE,Int.reduceMul,List.replicate_succ,List.replicate_zero]
        refine ⟨⟨by omega,by omega⟩,?_⟩
        refine zaj hs.hm (ι:=Nat) (fun j=>l.length+j<=3) (fun j=>[(0,lst u8 .ro l),(3,.int .i64 3),(5,.int .i64 191),(6,lst u8 (.tok 1 1) (l++List.replicate j (zaB 191)))]) (fun j=>[.tok 3,.tok (l.length+j)]) (fun j=>3-(l.length+j)) 0 ?_ fun j hj=>?_
        · simp only[go_sem,Nat.reduceEqDiff,reduceCtorEq]
          exact ⟨by omega,by simp⟩
        · have e : AV.int .u8 (IntKind.u8.wrap 191)=u8 (zaB 191):=by rw[wu8 (by omega),zb4 (by omega)]
          have k3:IntKind.i64.wrap 254=254:=by decide
          simp only[zbc,go_sem,Nat.reduceEqDiff,reduceCtorEq,Nat.reduceLT,Nat.reduceLeDiff,List.length_append,List.length_replicate,e]
          refine ⟨fun c=>⟨⟨by omega,by omega⟩,j+1,by omega,by omega,?_,?_⟩,fun c=>?_⟩
          · rw[List.append_assoc,List.replicate_succ']
          · simp;omega
          · have hj2:j=3-l.length:=by omega
            subst hj2
            refine zab (zdv hX hs _ (by simp;omega)) ?_
            simp only[go_sem,Nat.reduceEqDiff,Nat.reduceAdd,Int.reduceAdd,Nat.reduceSub,reduceCtorEq,Nat.reduceLT]
            cases hb:sb (l++List.replicate (3-l.length) (zaB 191)) with
            | true =>
              simp only[go_sem,reduceCtorEq]
              rw[zc1 l hl.1 (by omega),hm,hb];simp
            | false =>
              simp only[go_sem,reduceCtorEq,k3]
              refine ⟨2,by omega,⟨by omega,fun i hi=>?_⟩,rfl,?_⟩
              · rcases (by omega:i=1∨i<1) with rfl|hi'
                · exact hb
                · exact h2 i hi'
              · simp;omega
      · simp only[zaH,go_sem,Nat.reduceEqDiff,Int.reduceAdd,Int.reduceLE,reduceCtorEq,Int.reduceLE,Int.reduceMul]
        have a0:=h2 0 (by omega);have a1:=h2 1 (by omega)
        simp at a0 a1
        rw[zc1 l hl.1 (by omega),hm,a0,a1];rfl
  by_cases c4:240<=bt l 0/\bt l 0<248
  · have hm : many (bt l 0)=4:=by simp only[many];rw[if_neg (by omega),if_neg (by omega),if_pos c4]
    simp only[(show (192:Int)<=bt l 0 by omega),(show ¬bt l 0<224 by omega),(show (224:Int)<=bt l 0 by omega),(show ¬bt l 0<240 by omega),c4,go_sem]
    refine ⟨by omega,fun c=>by rw[hno (by omega)],fun c=>?_⟩
    refine zaj hs.hm (ι:=Nat) (fun k=>k<=2/\∀i<k,sb (l++List.replicate (4-l.length) (zaB (128+63*i)))=false) (fun k=>[(0,lst u8 .ro l),(3,.int .i64 4),(5,.int .i64 (128+63*k))]) (fun k=>List.replicate k (.tok 4)) (fun k=>3-k) 0 ?_ fun k hk=>?_
    · simp only[go_sem,Nat.reduceEqDiff,reduceCtorEq,Nat.reduceLeDiff]
      simp
    · obtain ⟨h1,h2⟩:=hk
      rcases (by omega:k=0∨k=1∨k=2) with rfl|rfl|rfl
      · simp only [zaH,go_sem,Nat.reduceEqDiff,Int.reduceAdd,Int.reduceLE,reduceCtorEq,Int.reduceLE,Int.reduceMul,List.replicate_zero]
        refine ⟨⟨by omega,by omega⟩,?_⟩
        refine zaj hs.hm (ι:=Nat) (fun j=>l.length+j<=4) (fun j=>[(0,lst u8 .ro l),(3,.int .i64 4),(5,.int .i64 128),(6,lst u8 (.tok 0 1) (l++List.replicate j (zaB 128)))]) (fun j=>[.tok (l.length+j)]) (fun j=>4-(l.length+j)) 0 ?_ fun j hj=>?_
        · simp only[go_sem,Nat.reduceEqDiff,reduceCtorEq]
          exact ⟨by omega,by simp⟩
        · have e : AV.int .u8 (IntKind.u8.wrap 128)=u8 (zaB 128):=by rw[wu8 (by omega),zb4 (by omega)]
          have k3:IntKind.i64.wrap 191=191:=by decide
          simp only[zbc,go_sem,Nat.reduceEqDiff,reduceCtorEq,Nat.reduceLT,Nat.reduceLeDiff,List.length_append,List.length_replicate,e]
          refine ⟨fun c=>⟨⟨by omega,by omega⟩,j+1,by omega,by omega,?_,?_⟩,fun c=>?_⟩
          · rw[List.append_assoc,List.replicate_succ']
          · simp;omega
          · have hj2:j=4-l.length:=by omega
            subst hj2
            refine zab (zdv hX hs _ (by simp;omega)) ?_
            simp only[go_sem,Nat.reduceEqDiff,Nat.reduceAdd,Int.reduceAdd,Nat.reduceSub,reduceCtorEq,Nat.reduceLT]
            cases hb:sb (l++List.replicate (4-l.length) (zaB 128)) with
            | true =>
              simp only[go_sem,reduceCtorEq]
              rw[zc1 l hl.1 (by omega),hm,hb];simp
            | false =>
              simp only[go_sem,reduceCtorEq,k3]
              refine ⟨1,by omega,⟨by omega,fun i hi=>?_⟩,rfl,?_⟩
              · rcases (by omega:i=0∨i<0) with rfl|hi'
                · exact hb
                · exact h2 i hi'
              · simp;omega
      · simp only [zaH,go_sem,Nat.reduceEqDiff,Int.reduceAdd,Int.reduceLE,reduceCtorEq,Int.reduceLE,Int.reduceMul,List.replicate_succ,List.replicate_zero]
        refine ⟨⟨by omega,by omega⟩,?_⟩
        refine zaj hs.hm (ι:=Nat) (fun j=>l.length+j<=4) (fun j=>[(0,lst u8 .ro l),(3,.int .i64 4),(5,.int .i64 191),(6,lst u8 (.tok 1 1) (l++List.replicate j (zaB 191)))]) (fun j=>[.tok 4,.tok (l.length+j)]) (fun j=>4-(l.length+j)) 0 ?_ fun j hj=>?_
        · simp only[go_sem,Nat.reduceEqDiff,reduceCtorEq]
          exact ⟨by omega,by simp⟩
        · have e : AV.int .u8 (IntKind.u8.wrap 191)=u8 (zaB 191):=by rw[wu8 (by omega),zb4 (by omega)]
          have k3:IntKind.i64.wrap 254=254:=by decide
          simp only[zbc,go_sem,Nat.reduceEqDiff,reduceCtorEq,Nat.reduceLT,Nat.reduceLeDiff,List.length_append,List.length_replicate,e]
          refine ⟨fun c=>⟨⟨by omega,by omega⟩,j+1,by omega,by omega,?_,?_⟩,fun c=>?_⟩
          · rw[List.append_assoc,List.replicate_succ']
          · simp;omega
          · have hj2:j=4-l.length:=by omega
            subst hj2
            refine zab (zdv hX hs _ (by simp;omega)) ?_
            simp only[go_sem,Nat.reduceEqDiff,Nat.reduceAdd,Int.reduceAdd,Nat.reduceSub,reduceCtorEq,Nat.reduceLT]
            cases hb:sb (l++List.replicate (4-l.length) (zaB 191)) with
            | true =>
              simp only[go_sem,reduceCtorEq]
              rw[zc1 l hl.1 (by omega),hm,hb];simp
            | false =>
              simp only[go_sem,reduceCtorEq,k3]
              refine ⟨2,by omega,⟨by omega,fun i hi=>?_⟩,rfl,?_⟩
              · rcases (by omega:i=1∨i<1) with rfl|hi'
                · exact hb
                · exact h2 i hi'
              · simp;omega
      · simp only[zaH,go_sem,Nat.reduceEqDiff,Int.reduceAdd,Int.reduceLE,reduceCtorEq,Int.reduceLE,Int.reduceMul]
        have a0:=h2 0 (by omega);have a1:=h2 1 (by omega)
        simp at a0 a1
        rw[zc1 l hl.1 (by omega),hm,a0,a1];rfl
  have hm:many (bt l 0)=0:=by simp only[many];rw[if_neg c2,if_neg c3,if_neg c4]
  have hmo:more l=false:=hno (by omega)
  rw[hmo]
  by_cases d:bt l 0<192
  · simp only[(show ¬(192:Int)<=bt l 0 by omega),(show ¬(224:Int)<=bt l 0 by omega),(show ¬(240:Int)<=bt l 0 by omega),go_sem]
    omega
  · simp only[(show (192:Int)<=bt l 0 by omega),(show ¬bt l 0<224 by omega),(show (224:Int)<=bt l 0 by omega),(show ¬bt l 0<240 by omega),(show (240:Int)<=bt l 0 by omega),(show ¬bt l 0<248 by omega),go_sem]
    omega
end
end Go.Avm
namespace Go.Avm
open Go Go.Rn
def dcv (l:List UInt8):AV:=match dcO l with
  | some (r,n)=>.tuple [.int .i64 r,.int .i64 n,.int .i64 0]
  | none=>.tuple [.int .i64 0,.int .i64 0,.int .i64 (if more l then 370 else 6)]
theorem zvx {l:List UInt8}{r:Int}{n:Nat}(h:dcO l=some (r,n)):0<=r/\r<=1114111/\1<=n/\n<=4/\n<=l.length:=by
  have:=za4 h
  have h1:=zao this.1;have h2:=zaQ this.1
  omega
theorem zBC     (a : Int) : many a ≤ 4 := by simp only[many];split;· omega
                                             split;· omega
                                             split<;>omega
set_option maxRecDepth 4000
section
variable {X:Cx}(hX:X.P=Go.Proofs.Tryz.prog)(hs:Std X)
include hX hs
theorem zdX          (l:List UInt8)(i:Nat)(hi:i<l.length)(hl:l.length<9223372036854775800):Ev X zcv [lst u8 .ro l,.int .i64 i] (dcv (l.drop i)):=by
  have ht:(l.drop i).length=l.length-i:=List.length_drop
  refine zac hs (zmM hX) 0 ?_
  simp only[zlM,go_sem,Nat.reduceEqDiff,Nat.reduceAdd,reduceCtorEq]
  refine ⟨fun h=>by omega,fun _=>⟨fun h=>by omega,fun _=>?_⟩⟩
  refine zaj hs.hm (ι:=Nat) (fun n=>1<=n/\n<=5/\∀k,1<=k->k<n->k<=(l.drop i).length/\sb ((l.drop i).take k)=false) (fun n=>[(0,lst u8 .ro l),(1,.int .i64 i),(7,.int .i64 n)]) (fun _=>[]) (fun n=>5-n) 1 ?_ fun n hn=>?_
  · simp only[go_sem,Nat.reduceEqDiff,reduceCtorEq,Nat.reduceLeDiff]
    exact fun k h1 h2=>by omega
  · obtain ⟨n1,n2,n3⟩:=hn
    simp only[zia,go_sem,Nat.reduceEqDiff,reduceCtorEq]
    have hcut:∀k:Int,k=(i:Int)+n->(l.take k.toNat).drop i=(l.drop i).take n:=fun k hk=>by
      rw[List.drop_take];congr 1;omega
    simp (disch:=omega) only[wi64]
    rw[hcut _ rfl]
    have hno:((l.drop i).length<n∨n=5)->dcO (l.drop i)=none:=fun h=>by
      cases hd:dcO (l.drop i) with
      | none=>rfl
      | some x =>
        obtain ⟨r,k⟩:=x
        have:=zvx hd
        have h2:=n3 k (by omega) (by omega)
        have h3:=(zBW (t:=l.drop i) (k:=k) (by omega)).2 (by rw[hd];rfl)
        rw[h2.2]at h3;cases h3
    have hm0:¬((l.length:Int)-i<4)->more (l.drop i)=false:=fun h=>by
      rw[<-Bool.not_eq_true];intro h'
      have:=zra _ h';have:=zBC (bt (l.drop i) 0);omega
    refine ⟨fun c=>⟨fun c1=>⟨by omega,?_⟩,fun c1=>⟨fun c2=>⟨by omega,?_⟩,fun c2=>?_⟩⟩,fun c=>⟨fun c2=>⟨by omega,?_⟩,fun c2=>?_⟩⟩
    · refine zab (zdv hX hs ((l.drop i).take n) (by rw[List.length_take];omega)) ?_
      simp only[go_sem,Nat.reduceEqDiff,Nat.reduceAdd,reduceCtorEq,Nat.reduceLT]
      cases hb:sb ((l.drop i).take n) with
      | true =>
        simp only[go_sem,reduceCtorEq]
        have h1:=zAc hb
        have hlen:((l.drop i).take n).length=n:=by rw[List.length_take];omega
        rw[hlen]at h1
        have h2:=zii.2 ⟨by omega,h1⟩
        have h3:=(za4 h1).1
        simp only[dcv,h2,h3,if_true]
      | false =>
        simp only[go_sem,reduceCtorEq]
        refine ⟨n+1,by omega,⟨by omega,by omega,fun k k1 k2=>?_⟩,?_⟩
        · rcases (by omega:k=n∨k<n) with rfl|hk
          · exact ⟨by omega,hb⟩
          · exact n3 k k1 hk
        · rw[wi64 (by omega)];rfl
    · refine zab (zqa hX hs (l.drop i) (by omega)) ?_
      simp only[go_sem,Nat.reduceEqDiff,reduceCtorEq]
      have:=hno (by omega)
      cases hm:more (l.drop i)<;>simp [dcv,this,hm]
    · have:=hno (by omega)
      simp [dcv,this,hm0 c2]
    · refine zab (zqa hX hs (l.drop i) (by omega)) ?_
      simp only[go_sem,Nat.reduceEqDiff,reduceCtorEq]
      have:=hno (by omega)
      cases hm:more (l.drop i)<;>simp [dcv,this,hm]
    · have:=hno (by omega)
      simp [dcv,this,hm0 c2]
end
end Go.Avm
