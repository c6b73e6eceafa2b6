/- The reader: class, while. -/
import Derived.Test.YtcldomkahgaplaaGreatDoorAR1
import Derived.Test.YtcldomkahgaplaaGreatDoorML2
import Derived.Test.YtcldomkahgaplaaGreatDoorAK1
import Derived.Test.YtcldomkahgaplaaGreatDoorAW
import Derived.Test.YtcldomkahgaplaaGreatDoorAS
import Derived.Test.YtcldomkahgaplaaGreatDoorAV1
import Derived.Test.YtcldomkahgaplaaGreatDoorML
import Derived.Shelf.Strconv.ParseIntPublic10
import Derived.Shelf.Strconv.ToError
import Derived.Shelf.Strconv.ParseIntEmpty
import Derived.Shelf.Unicode.ValidAny
set_option linter.all false
namespace Go.Avm
open Go Go.Rn Go.Lx
def zbL (s:List UInt8)(p:Nat):Int:=if p<s.length then zbr ((s.getD p 0).toNat:Int) else 10
def rdr (s:List UInt8)(p:Int):Blk:=.box [.str s,.int .i64 p]
set_option maxRecDepth 10000
section
variable {X:Cx}(hX:X.P=Go.Proofs.Tryz.prog)(hs:Std X)
include hX hs
theorem zh6 (i:Nat)(s:List UInt8)(a:AV)(p:Nat)(H:Heap)(hH:H[i]?=some (.box [.str s,a]))(hl:s.length<=9223372036854775807)(hp:p<=9223372036854775807) :
  EvM X zcl [.ptr i 0,.int .i64 p] H fun r H'=>r=.int .i64 (zbL s p)/\H'=H:=by
 refine zaz hs (zo9 hX) ?_
 simp only[zm4,go_sem,Nat.reduceEqDiff,Nat.reduceAdd,reduceCtorEq,Nat.reduceLT,hH]
 refine ⟨fun h=>?_,fun h=>⟨by omega,?_⟩⟩
 ·simp only[zbL];rw[if_neg (by omega)]
 ·have hb:=(s.getD p 0).toNat_lt
  rw[wi64 (by omega)]
  refine zab (zyW hX hs ((s.getD p 0).toNat:Int) (by omega) (by omega)) ?_
  simp only[go_sem,Nat.reduceEqDiff,Nat.reduceAdd,reduceCtorEq,Nat.reduceLT,zbL,if_pos (show p<s.length by omega)]
theorem zoP (i:Nat)(s:List UInt8)(a:AV)(p:Nat)(H:Heap)(hH:H[i]?=some (.box [.str s,a]))(hl:s.length<1000000)(hp:p<1000000000) :
  EvM X zcl [.ptr i 0,.int .i64 p] H fun r H'=>r=.int .i64 (zbL s p)/\H'=H:=zh6 hX hs i s a p H hH (by omega) (by omega)
def clP (a b:Int)(c:UInt8):Bool:=decide (zbr (c.toNat:Int)=a)||decide (zbr (c.toNat:Int)=b)
omit hX hs in
theorem zyB {H:Heap}{i:Nat}{x y:Blk}(h:H[i]?=some x):(H.set i y)[i]?=some y:=by
 rw[List.getElem?_set_self (List.getElem?_eq_some_iff.1 h).1]
omit hX hs in
theorem zCF {H:Heap}{i:Nat}{x:Blk}(h:H[i]?=some x):H.set i x=H:=by
 obtain ⟨h1,h2⟩:=List.getElem?_eq_some_iff.1 h
 rw[<-h2,List.set_getElem_self]
theorem zxR (i:Nat)(s:List UInt8)(p:Nat)(a b:Int)(H:Heap)(hH:H[i]?=some (rdr s p))(hl:s.length<=9223372036854775807)(hp:p<=s.length)(hab:a≠10/\b≠10) :
  EvM X zeM [.ptr i 0,.int .i64 a,.int .i64 b] H fun r H'=>r=.str ((s.drop p).take (cnt (clP a b) (s.drop p)))/\H'=H.set i (rdr s ((p+cnt (clP a b) (s.drop p):Nat):Int)):=by
 have hH0:=hH
 unfold rdr at hH
 refine zaz hs (zpO hX) ?_
 simp only[zn2,go_sem,Nat.reduceEqDiff,Nat.reduceAdd,reduceCtorEq,Nat.reduceLT,hH]
 refine zae (zh6 hX hs i s _ p H hH hl (by omega)) ?_
 rintro r H' ⟨rfl,rfl⟩
 simp only[go_sem,Nat.reduceEqDiff,reduceCtorEq]
 have hle:=zdu (clP a b) (s.drop p)
 rw[List.length_drop]at hle
 generalize hk:cnt (clP a b) (s.drop p)=k at *
 refine zaj hs.hm (ι:=Nat) (fun j=>j<=k) (fun j=>[(0,.ptr i 0),(1,.int .i64 a),(2,.int .i64 b),(7,.int .i64 p),(8,.int .i64 (zbL s (p+j)))]) (fun j=>H'.set i (rdr s ((p+j:Nat):Int))) (fun j=>k-j) 0 ?_ fun j hj=>?_
 ·simp only[go_sem,Nat.reduceEqDiff,reduceCtorEq]
  simp only[Nat.add_zero,zCF hH0]
  exact ⟨Nat.zero_le _,trivial,trivial⟩
 ·have hg:∀n:Int,(H'.set i (rdr s n))[i]?=some (.box [.str s,.int .i64 n]):=fun n=>zyB hH0
  have hend:p+j=s.length->zbL s (p+j)=10:=fun h=>by simp only[zbL];rw[if_neg (by omega)]
  by_cases hlt:p+j<s.length
  case neg =>
   have e10:=hend (by omega)
   have hj2:j=k:=by omega
   subst hj2
   have n1:¬(10:Int)=a:=fun e=>hab.1 e.symm
   have n2:¬(10:Int)=b:=fun e=>hab.2 e.symm
   simp only[zfU,go_sem,Nat.reduceEqDiff,Nat.reduceAdd,reduceCtorEq,Nat.reduceLT,hg,e10,n1,n2]
   refine ⟨⟨⟨⟨by omega,by omega⟩,by omega⟩,by omega⟩,?_⟩
   rw[List.drop_take];congr 2;omega
  have hw:IntKind.i64.wrap (((p+j:Nat):Int)+1)=((p+(j+1):Nat):Int):=by rw[wi64 (by omega)];omega
  have hg2:∀x y,((H'.set i x).set i y)=H'.set i y:=fun x y=>List.set_set ..
  have hst:∀n:Int,H'.set i (.box [.str s,.int .i64 n])=H'.set i (rdr s n):=fun _=>rfl
  simp only[zfU,go_sem,Nat.reduceEqDiff,Nat.reduceAdd,reduceCtorEq,Nat.reduceLT,hg,hg2,hst,hw]
  have hsm:p+(j+1)<=9223372036854775807:=by omega
  have hgj:p+j<s.length->(s.drop p).getD j 0=s.getD (p+j) 0:=fun _=>by simp [List.getD_eq_getElem?_getD,List.getElem?_drop]
  have hcl:p+j<s.length->(zbL s (p+j)=a∨zbL s (p+j)=b↔clP a b ((s.drop p).getD j 0)=true):=fun h=>by
   rw[hgj h];simp only[zbL,if_pos h,clP,Bool.or_eq_true,decide_eq_true_eq]
  have go:zbL s (p+j)=a∨zbL s (p+j)=b->j<k:=fun h=>by
   rcases Nat.lt_or_ge j k with h1|h1
   ·exact h1
   ·exfalso
    have:j=k:=by omega
    subst this
    by_cases h2:p+j<s.length
    ·have h3:=zd2 (clP a b) (s.drop p) (by rw[hk,List.length_drop];omega)
     rw[hk,(hcl h2).1 h]at h3
     cases h3
    ·have:=hend (by omega);omega
  have no:¬(zbL s (p+j)=a∨zbL s (p+j)=b)->j=k:=fun h=>by
   rcases Nat.lt_or_ge j k with h1|h1
   ·exact absurd ((hcl (by omega)).2 (cnt_lt _ _ _ (by omega))) h
   ·omega
  have again:j<k->∃j',k-j' < k-j/\j'<=k/\(AV.int IntKind.i64 (zbL s (p+(j+1)))=AV.int IntKind.i64 (zbL s (p+j')))/\H'.set i (rdr s ((p+(j+1):Nat):Int))=H'.set i (rdr s ((p+j':Nat):Int)):=fun h=>by
   have h1:k-(j+1)<k-j:=by clear go no hcl;omega
   have h2:j+1<=k:=h
   exact ⟨j+1,h1,h2,rfl,rfl⟩
  refine ⟨fun h=>?_,fun h1=>⟨fun h=>?_,fun h2=>?_⟩⟩
  ·refine zae (zh6 hX hs i s _ (p+(j+1)) _ (hg _) hl hsm) ?_
   rintro r H2 ⟨rfl,rfl⟩
   simp only[go_sem,Nat.reduceEqDiff,reduceCtorEq]
   exact again (go (.inl h))
  ·refine zae (zh6 hX hs i s _ (p+(j+1)) _ (hg _) hl hsm) ?_
   rintro r H2 ⟨rfl,rfl⟩
   simp only[go_sem,Nat.reduceEqDiff,reduceCtorEq]
   exact again (go (.inr h))
  ·have hj2:=no (fun h=>h.elim h1 h2)
   subst hj2
   refine ⟨⟨⟨⟨by omega,by omega⟩,by omega⟩,by omega⟩,?_,rfl⟩
   rw[List.drop_take];congr 2;omega
theorem zpx (i:Nat)(s:List UInt8)(p:Nat)(a b:Int)(H:Heap)(hH:H[i]?=some (rdr s p))(hl:s.length<1000000)(hp:p<=s.length)(hab:a≠10/\b≠10) :
  EvM X zeM [.ptr i 0,.int .i64 a,.int .i64 b] H fun r H'=>r=.str ((s.drop p).take (cnt (clP a b) (s.drop p)))/\H'=H.set i (rdr s ((p+cnt (clP a b) (s.drop p):Nat):Int)):=zxR hX hs i s p a b H hH (by omega) hp hab
end
end Go.Avm
namespace Go.Avm
open Go Go.Rn Go.Lx
def RH (s:List UInt8)(p:Int)(G:Heap):Heap:=.dead::rdr s p::G
def tkV (t:Tok)(a b:Int):AV:=.agg [.int .i64 t.kind,.int .i64 a,.int .i64 b,.int .i64 t.n,.str t.s]
def outV (p:Nat):Out->AV
 | .ok t _=>.tuple [tkV t 0 0,.agg [.int .i64 0,.int .i64 0]]
 | .bad d e=>.tuple [tkV ⟨0,0,[]⟩ 0 0,.agg [.int .i64 ((p+d:Nat):Int),.int .i64 e]]
def OutQ (s:List UInt8)(p:Nat)(G:Heap)(o:Out)(r:AV)(H':Heap):Prop:=∃G' p',H'=RH s p' (G++G')/\r=outV p o/\∀t k,o=.ok t k->p'=((p+k:Nat):Int)
theorem zsU:∀n:Nat,n<256->((decide (zbr n=8)||decide (zbr n=6))=((decide (97<=n)&&decide (n<=122))||(decide (48<=n)&&decide (n<=57))))/\(decide (zbr n=6)||decide (zbr n=6))=(decide (48<=n)&&decide (n<=57))/\decide (zbr n=8)=(decide (97<=n)&&decide (n<=122)):=by decide +kernel
theorem zDm (c:UInt8):clP 8 6 c=al c:=(zsU c.toNat c.toNat_lt).1
theorem zz1 (c:UInt8):clP 6 6 c=dg c:=(zsU c.toNat c.toNat_lt).2.1
theorem zsj (c:UInt8):decide (zbr (c.toNat:Int)=8)=ltr c:=(zsU c.toNat c.toNat_lt).2.2
set_option maxRecDepth 10000
section
variable {X:Cx}(hX:X.P=Go.Proofs.Tryz.prog)(hs:Std X)(hN:X.G 2=some [.int .i64 0,.int .i64 0])
include hX hs hN
theorem zA5 (s:List UInt8)(p:Nat)(G:Heap)(hl:s.length<1000000)(hp:p<s.length) :
  EvM X zls [.ptr 1 0] (RH s p G) (OutQ s p G (zdK (s.drop p))):=by
 refine zaz hs (zre hX) ?_
 unfold RH
 simp only[zqf,go_sem,Nat.reduceEqDiff,Nat.reduceAdd,reduceCtorEq,Nat.reduceLT,rdr,List.append_assoc,gl2]
 refine zae (zpx hX hs 1 s p 8 6 _ (by rfl) hl (by omega) (by decide)) ?_
 rintro r H' ⟨rfl,rfl⟩
 rw[show clP 8 6=al from funext zDm]
 have hc:=zdu al (s.drop p)
 rw[List.length_drop]at hc
 have hlen:((s.drop p).take (cnt al (s.drop p))).length=cnt al (s.drop p):=by rw[List.length_take,List.length_drop];omega
 simp only[go_sem,Nat.reduceEqDiff,Nat.reduceAdd,reduceCtorEq,Nat.reduceLeDiff,rdr,gx0,gx1,gs0,gs1,hlen,hN]
 refine ⟨fun h=>⟨_,_,rfl,?_,fun t k e=>?_⟩,fun h=>⟨_,_,rfl,?_,fun t k e=>?_⟩⟩
 ·have hq:zdK (s.drop p)=.bad 16 3:=by unfold zdK;rw[if_pos (by omega)]
  simp only[hq,outV,tkV]
  rw[wi64 (by omega)];rfl
 ·have hq:zdK (s.drop p)=.bad 16 3:=by unfold zdK;rw[if_pos (by omega)]
  rw[hq]at e;cases e
 ·have hq:zdK (s.drop p)=.ok ⟨1,0,(s.drop p).take (cnt al (s.drop p))⟩ (cnt al (s.drop p)):=by unfold zdK;rw[if_neg (by omega)]
  simp only[hq,outV,tkV]
 ·have hq:zdK (s.drop p)=.ok ⟨1,0,(s.drop p).take (cnt al (s.drop p))⟩ (cnt al (s.drop p)):=by unfold zdK;rw[if_neg (by omega)]
  rw[hq]at e;cases e;rfl
end
end Go.Avm
namespace Go.Avm
open Go Go.Proofs Go.Shelf
theorem zzy:Lays.n168 Go.Proofs.Tryz.prog sRen:=by
 constructor<;>first|kernel_rfl|(intro w;kernel_rfl)|(constructor<;>first|kernel_rfl|(intro w;kernel_rfl)|(constructor<;>first|kernel_rfl|(intro w;kernel_rfl)))
theorem zHK:LaysC.n245 Go.Proofs.Tryz.prog sRen:=by
 constructor<;>first|kernel_rfl|(intro w;kernel_rfl)|(constructor<;>first|kernel_rfl|(intro w;kernel_rfl)|(constructor<;>first|kernel_rfl|(intro w;kernel_rfl)))
theorem zIe:Lays.n247 Go.Proofs.Tryz.prog sRen:=by
 constructor<;>first|kernel_rfl|(intro w;kernel_rfl)|(constructor<;>first|kernel_rfl|(intro w;kernel_rfl)|(constructor<;>first|kernel_rfl|(intro w;kernel_rfl)))
theorem zGG:Lays.n196 Go.Proofs.Tryz.prog sRen:=by
 constructor<;>first|kernel_rfl|(intro w;kernel_rfl)|(constructor<;>first|kernel_rfl|(intro w;kernel_rfl)|(constructor<;>first|kernel_rfl|(intro w;kernel_rfl)))
section
variable {X:Cx}(hX:X.P=Go.Proofs.Tryz.prog)(hs:Std X){H:Heap}
include hX
theorem zna {i:Nat}{l:List UInt8}(r:Int)(hv:Rn.valid r=true)(hH:H[i]?=some (.bld 61 5 l))(hlen:l.length+4<=140737488355328) :
  EvM X zbM [.ptr i 0,.int .i32 r] H fun q H'=>q=.tuple [.int .i64 ((Rn.enc r).length:Nat),.nilI]/\H'=H.set i (.bld 61 5 (l++Rn.enc r)):=by
 have hr:=Rn.zao hv
 have hvi:=(Rn.zbk r).1 hv
 have e:encR r=Rn.enc r:=by
  rw[Rn.zfZ hv]
  unfold encR Rn.encI
  by_cases c1:r<=127
  ·rw[if_pos c1,if_pos (show r<128 by omega)];rfl
  rw[if_neg c1,if_neg (show ¬r<128 by omega)]
  by_cases c2:r<=2047
  ·rw[if_pos c2,if_pos (show r<2048 by omega)];rfl
  rw[if_neg c2,if_neg (show ¬r<2048 by omega)]
  by_cases c3:r<=65535
  ·rw[if_pos c3,if_pos (show r<65536 by omega)];rfl
  rw[if_neg c3,if_neg (show ¬r<65536 by omega)];rfl
 refine zlr ⟨Go.Proofs.Tryz.f165,by rw[hX];exact Go.Proofs.Tryz.func165,by decide,by kernel_rfl⟩ (by decide) hH fun g w vs b p v hwf hhr hvs hbx hb hp hv=>?_
 simp only[RelL,Rel]at hvs
 obtain ⟨v1,r1,rfl,⟨b',rfl,h2⟩,v2,r2,rfl,rfl,rfl⟩:=hvs
 rw[hbx]at h2
 cases h2
 rw[hX]
 refine (zEw (C:=X) hX zzy zh8 r hr.1 hr.2 (by omega) hb hp hv hlen).mono ?_
 rintro e' w' ⟨rfl,h⟩
 rw[e]at h⊢
 exact ⟨_,rfl,fun g'=>by simp [Rel,RelL],h⟩
theorem zmf {i:Nat}{l:List UInt8}(hH:H[i]?=some (.bld 61 5 l)) :
  EvM X zbz [.ptr i 0] H fun r H'=>r=.str l/\H'=H.set i .dead:=by
 refine zmo ⟨Go.Proofs.Tryz.f36,by rw[hX];exact Go.Proofs.Tryz.func36,by decide,by kernel_rfl⟩ (T:=61) (e:=5) (by decide) hH fun w b p v hb hv=>?_
 rw[hX]
 by_cases h0:l=[]
 ·subst h0
  exact zqb zkA zh8 hb hv
 ·exact zsZ zkA zh8 hb hv h0
theorem zr6 {i:Nat}{l:List UInt8}(hH:H[i]?=some (.bld 61 5 l)):ziC X zbz [.ptr i 0] H (.str l) (H.set i .dead):=
 zzE (T:=61) (e:=5) (fun _ hh=>zmf hX hh) hH
omit hX in
theorem zlw {G:za0}{g:Gh}{w:World}(hwf:Wf G g w){x:Nat}{cs:List AV}(hG:G x=some cs){i:Nat}{k:IntKind}{z:Int}(hi:cs[i]?=some (.int k z)):w.cell? ⟨x,i,none⟩=some (.int k z):=by
 have hl:=hwf.laid _ _ hG
 simp only[Rel]at hl
 obtain ⟨b,o,us,e1,e2,e3⟩:=hl
 simp only[Value.pointer.injEq,Option.some.injEq,Addr.mk.injEq,and_true]at e1
 obtain ⟨rfl,rfl⟩:=e1
 obtain ⟨u,hu,hr⟩:=e2.get' i hi
 simp only[Rel]at hr
 have hc:=(e3 i u hu).2
 rw[hr,Nat.zero_add]at hc
 exact hc
def tab0:List AV:=(List.range 256).map fun i:Nat=>.int .u8 (Lib.firstT i)
def tab1:List AV:=(List.range 16).flatMap fun i:Nat=>[.int .u8 (Lib.accLo i),.int .u8 (Lib.accHi i)]
omit hX in
theorem zwF:∀i,i<16->tab1[2*i]?=some (.int .u8 (Lib.accLo i))/\tab1[2*i+1]?=some (.int .u8 (Lib.accHi i)):=by
 intro i hi
 match i,hi with
 | 0,_|1,_|2,_|3,_|4,_|5,_|6,_|7,_|8,_|9,_|10,_|11,_|12,_|13,_|14,_|15,_=>exact ⟨rfl,rfl⟩
 | n+16,h=>omega
theorem zlJ (h0:X.G 0=some tab0)(h1:X.G 1=some tab1)(s:List UInt8)(hl:s.length<=9223372036854775807):Ev X zdz [.str s] (.bool (Rn.okT s)):=by
 refine zd6 ⟨Go.Proofs.Tryz.f128,by rw[hX];exact Go.Proofs.Tryz.func128,by decide,by kernel_rfl⟩ fun g w vs hwf hvs=>?_
 simp only[RelL,Rel]at hvs
 obtain ⟨v1,r1,rfl,⟨s1,rfl,h2⟩,rfl⟩:=hvs
 rw[hX]
 refine (Any.utf8_ValidString zGG s1 w ?_ ⟨fun c hc=>?_,fun i hi=>⟨?_,?_⟩⟩).mono ?_
 ·have:s1.size=s1.data.toList.length:=by simp
  rw[h2]at this
  omega
 ·exact zlw hwf h0 (by simp [tab0,hc])
 ·exact zlw hwf h1 (zwF i hi).1
 ·exact zlw hwf h1 (zwF i hi).2
 ·rintro e w' ⟨rfl,hw⟩
  refine ⟨_,rfl,fun g=>?_,hw⟩
  simp only[Rel,h2]
  rw[Rn.zrh _ _ (Nat.le_refl _)]
theorem zmH (h0:X.G 0=some tab0)(h1:X.G 1=some tab1)(s:List UInt8)(hl:s.length<1000000):Ev X zdz [.str s] (.bool (Rn.okT s)):=zlJ hX h0 h1 s (by omega)
def prsG (s:List UInt8):AV:=match Lib.parseIntB 64 s with
 | .ok v=>.tuple [.int .i64 v,.nilI]
 | _=>.tuple [.int .i64 (Lib.intSat 64 s),.ifc (sRen.t 168) .undef]
theorem zj6 {te:Nat}(hR:X.G 6=some [.ifc te .undef])(s:List UInt8)(hd1:Wo.mg s≠[])(hd2:∀c∈Wo.mg s,Wo.digB c=true)(hl:s.length<1000000):Ev X zbe [.str s,.int .i64 10,.int .i64 64] (prsG s):=by
 refine zd6 ⟨Go.Proofs.Tryz.f116,by rw[hX];exact Go.Proofs.Tryz.func116,by decide,by kernel_rfl⟩ fun g w vs hwf hvs=>?_
 simp only[RelL,Rel]at hvs
 obtain ⟨v1,r1,rfl,⟨s1,rfl,h1⟩,v2,r2,rfl,rfl,v3,r3,rfl,rfl,rfl⟩:=hvs
 rw[hX]
 have hp:=Lx.zBw hd1 hd2
 rw[<-h1]at hp hl
 have hsz:s1.size<1000000:=by
  have:s1.size=s1.data.toList.length:=by simp
  omega
 unfold prsG
 rw[<-h1]
 by_cases hv:-9223372036854775808<=Wo.valS s1.data.toList/\Wo.valS s1.data.toList<=9223372036854775807
 ·rw [if_pos hv]at hp
  rw[hp]
  refine (Any.strconv_ParseInt_10_at64_ok zyp s1 (by omega) _ hp w).mono ?_
  rintro e w' ⟨rfl,hw⟩
  refine ⟨_,rfl,fun g=>?_,?_⟩
  ·simp only[Rel,RelL]
   exact ⟨_,rfl,_,_,rfl,rfl,_,_,rfl,rfl,rfl⟩
  ·rcases hw with rfl|⟨t,rfl⟩
   ·exact RowKit.Below.refl _ _
   ·exact Lib.bytesWorld_below _ _ _
 ·rw[if_neg hv]at hp
  rw[hp]
  have hl:=hwf.laid _ _ hR
  simp only[Rel]at hl
  obtain ⟨b,o,vs,e1,e2,e3⟩:=hl
  simp only[RelL,Rel]at e2
  obtain ⟨v,vr,rfl,⟨u,rfl,_⟩,rfl⟩:=e2
  simp only[Value.pointer.injEq,Option.some.injEq,Addr.mk.injEq,and_true]at e1
  obtain ⟨rfl,rfl⟩:=e1
  have hc:=(e3 0 _ rfl).2
  refine (Any.strconv_ParseInt_10_at64_range zyp s1 (by omega) hp _ w hc (.inr ⟨_,_,rfl⟩)).mono ?_
  rintro e w' ⟨M,rfl,_,_,hw⟩
  refine ⟨_,rfl,fun g=>?_,hw⟩
  simp only[Rel,RelL]
  exact ⟨_,rfl,_,_,rfl,rfl,_,_,rfl,⟨_,rfl,trivial⟩,rfl⟩
theorem zvi (base bits:Int):Ev X zbC [.str [],.int .i64 base,.int .i64 bits] (.tuple [.int .i64 0,.ifc (sRen.t 167) (.int .i64 2)]):=by
 refine zd6 ⟨Go.Proofs.Tryz.f156,by rw[hX];exact Go.Proofs.Tryz.func156,by decide,by kernel_rfl⟩ fun g w vs hwf hvs=>?_
 simp only[RelL,Rel]at hvs
 obtain ⟨v1,r1,rfl,⟨s1,rfl,h1⟩,v2,r2,rfl,rfl,v3,r3,rfl,rfl,rfl⟩:=hvs
 have e1:s1=⟨#[]⟩:=by
  cases s1 with
  | mk d=>congr;exact Array.toList_inj.1 h1
 subst e1
 rw[hX]
 refine (Any.internal_strconv_ParseInt_empty zIe base bits w).mono ?_
 rintro e w' ⟨rfl,rfl⟩
 refine ⟨_,rfl,fun g=>?_,RowKit.Below.refl _ _⟩
 simp only[Rel,RelL]
 exact ⟨_,rfl,_,_,rfl,rfl,_,_,rfl,⟨_,rfl,rfl⟩,rfl⟩
theorem zug {te:Nat}(hR:X.G 5=some [.ifc te .undef])(fn s:List UInt8)(base bits:Int)(hl:s.length<1000000):Ev X zjZ [.str fn,.str s,.int .i64 base,.int .i64 bits,.ifc (sRen.t 167) (.int .i64 2)] (.ifc (sRen.t 168) .undef):=by
 refine zd6 ⟨Go.Proofs.Tryz.f157,by rw[hX];exact Go.Proofs.Tryz.func157,by decide,by kernel_rfl⟩ fun g w vs hwf hvs=>?_
 simp only[RelL,Rel]at hvs
 obtain ⟨v0,r0,rfl,⟨s0,rfl,h0⟩,v1,r1,rfl,⟨s1,rfl,h1⟩,v2,r2,rfl,rfl,v3,r3,rfl,rfl,v4,r4,rfl,⟨v5,rfl,rfl⟩,rfl⟩:=hvs
 rw[hX]
 have hsz:s1.size<1000000:=by
  have:s1.size=s1.data.toList.length:=by simp
  rw[h1]at this
  omega
 have hl:=hwf.laid _ _ hR
 simp only[Rel]at hl
 obtain ⟨b,o,vs,e1,e2,e3⟩:=hl
 simp only[RelL,Rel]at e2
 obtain ⟨v,vr,rfl,⟨u,rfl,_⟩,rfl⟩:=e2
 simp only[Value.pointer.injEq,Option.some.injEq,Addr.mk.injEq,and_true]at e1
 obtain ⟨rfl,rfl⟩:=e1
 have hc:=(e3 0 _ rfl).2
 refine (Any.strconv_toError_syntax zHK s0 s1 base bits _ w (by omega) hc (.inr ⟨_,_,rfl⟩)).mono ?_
 rintro e w' ⟨M,rfl,_,_,hw⟩
 refine ⟨_,rfl,fun g=>?_,hw⟩
 simp only[Rel]
 exact ⟨_,rfl,trivial⟩
end
end Go.Avm
namespace Go.Avm
open Go Go.Rn Go.Lx
set_option maxRecDepth 10000
section
variable {X:Cx}(hX:X.P=Go.Proofs.Tryz.prog)(hs:Std X)(hN:X.G 2=some [.int .i64 0,.int .i64 0]){te:Nat}(hR:X.G 6=some [.ifc te .undef])
include hX hs hN hR
set_option maxHeartbeats 1000000 in
theorem zzV (s:List UInt8)(p:Nat)(G:Heap)(hl:s.length<1000000)(hp:p<s.length) :
  EvM X zhi [.ptr 1 0] (RH s p G) (OutQ s p G (numO (s.drop p))):=by
 refine zaz hs (zmB hX) ?_
 unfold RH
 have hu:(s.drop p).getD 0 0=s.getD p 0:=by simp [List.getD_eq_getElem?_getD,List.getElem?_drop]
 have hml:=zdu dg ((s.drop p).drop (sg (s.drop p)))
 generalize hm:cnt dg ((s.drop p).drop (sg (s.drop p)))=m at *
 rw[List.length_drop,List.length_drop]at hml
 have hq0:m=0->numO (s.drop p)=.bad 0 6:=fun h=>by unfold numO;simp only[hm,h,if_true]
 have hfm:m≠0->Wo.mg ((s.drop p).take (sg (s.drop p)+m))≠[]/\∀c∈Wo.mg ((s.drop p).take (sg (s.drop p)+m)),Wo.digB c=true:=fun h0=>by
  have e1:((s.drop p).take (sg (s.drop p)+m)).getD 0 0=(s.drop p).getD 0 0:=by
   rw[List.getD_eq_getElem?_getD,List.getElem?_take,if_pos (by omega),<-List.getD_eq_getElem?_getD]
  have e2:Wo.mg ((s.drop p).take (sg (s.drop p)+m))=((s.drop p).drop (sg (s.drop p))).take m:=by
   unfold Wo.mg
   rw[e1]
   unfold sg
   split
   ·rw[List.drop_take];congr 1;omega
   ·simp
  rw[e2]
  refine ⟨fun e=>?_,fun c hc=>zlU dg ((s.drop p).drop (sg (s.drop p))) c (by rw[hm];exact hc)⟩
  have:=congrArg List.length e
  rw[List.length_take,List.length_drop,List.length_drop,List.length_nil]at this
  omega
 by_cases h45:s.getD p 0=45
 ·have hsg:sg (s.drop p)=1:=by unfold sg;rw[hu,if_pos h45]
  have hdd:s.drop (p+1)=(s.drop p).drop 1:=by rw[List.drop_drop]
  have h45':((s.getD p 0).toNat:Int)=45:=by rw[h45];rfl
  have hw:IntKind.i64.wrap ((p:Int)+1)=((p+1:Nat):Int):=by rw[wi64 (by omega)];omega
  simp only[zhv,go_sem,Nat.reduceEqDiff,Nat.reduceAdd,reduceCtorEq,Nat.reduceLT,rdr,List.append_assoc,gl2,h45',hw]
  refine ⟨⟨by omega,by omega⟩,?_⟩
  refine zae (zpx hX hs 1 s (p+1) 6 6 _ (by rfl) hl (by omega) (by decide)) ?_
  rintro r H' ⟨rfl,rfl⟩
  rw[show clP 6 6=dg from funext zz1,hdd]
  rw[hsg]at hm hml hfm
  have hlen:(((s.drop p).drop 1).take m).length=m:=by rw[List.length_take,List.length_drop,List.length_drop];omega
  have hne:decide (((s.drop p).drop 1).take m=[])=decide (m=0):=by
   rw[decide_eq_decide,<-List.length_eq_zero_iff,hlen]
  have hcut:(s.take (p+1+m)).drop p=(s.drop p).take (1+m):=by rw[List.drop_take];congr 1;omega
  rw[hm]
  simp only[go_sem,Nat.reduceEqDiff,Nat.reduceAdd,reduceCtorEq,Nat.reduceLT,Nat.reduceLeDiff,rdr,gx0,gx1,gs0,gs1,hcut,hne]
  refine ⟨fun h0=>⟨_,_,rfl,?_,fun t k e=>?_⟩,fun h0=>⟨⟨⟨⟨?_,?_⟩,?_⟩,?_⟩,?_⟩⟩
  ·simp only[hq0 h0,outV,tkV];rfl
  ·rw[hq0 h0]at e;cases e
  all_goals try omega
  have hmg:=hfm (by omega)
  refine za1 (zj6 hX hR _ hmg.1 hmg.2 (by rw[List.length_take,List.length_drop];omega)) ?_
  unfold prsG
  cases hpr:Lib.parseIntB 64 ((s.drop p).take (1+m)) with
  | ok v =>
   simp only[go_sem,Nat.reduceEqDiff,Nat.reduceAdd,reduceCtorEq,Nat.reduceLT]
   refine zae (zoP hX hs 1 s _ (p+1+m) _ (by rfl) hl (by omega)) ?_
   rintro r H' ⟨rfl,rfl⟩
   simp only[go_sem,Nat.reduceMod,Nat.reduceEqDiff,Nat.reduceAdd,reduceCtorEq,Nat.reduceLT,Nat.reduceLeDiff,gx0,gx1,gs0,gs1,hN]
   have hcl:zbL s (p+1+m)=8↔ltr ((s.drop p).getD (1+m) 0)=true:=by
    rw[show (s.drop p).getD (1+m) 0=s.getD (p+1+m) 0 by simp [List.getD_eq_getElem?_getD,List.getElem?_drop,Nat.add_assoc]]
    rw[<-zsj,decide_eq_true_eq]
    unfold zbL
    split
    ·rfl
    ·rename_i hge
     have e0:s.getD (p+1+m) 0=0:=by simp [List.getD_eq_getElem?_getD,List.getElem?_eq_none (Nat.le_of_not_lt hge)]
     rw[e0];decide
   refine ⟨fun h1=>⟨_,_,rfl,?_,fun t k e=>?_⟩,fun h1=>⟨_,_,rfl,?_,fun t k e=>?_⟩⟩
   ·have hq:numO (s.drop p)=.bad (1+m) 6:=by
     unfold numO;simp only[hsg,hm,hpr,if_neg h0];rw[if_pos (hcl.1 h1)]
    simp only[hq,outV,tkV,Nat.add_assoc]
   ·have hq:numO (s.drop p)=.bad (1+m) 6:=by
     unfold numO;simp only[hsg,hm,hpr,if_neg h0];rw[if_pos (hcl.1 h1)]
    rw[hq]at e;cases e
   ·have hq:numO (s.drop p)=.ok ⟨2,v,[]⟩ (1+m):=by
     unfold numO;simp only[hsg,hm,hpr,if_neg h0];rw[if_neg (fun e=>h1 (hcl.2 e))]
    simp only[hq,outV,tkV]
   ·have hq:numO (s.drop p)=.ok ⟨2,v,[]⟩ (1+m):=by
     unfold numO;simp only[hsg,hm,hpr,if_neg h0];rw[if_neg (fun e=>h1 (hcl.2 e))]
    rw[hq]at e;cases e
    first|rfl|rw[Nat.add_assoc]
  | _ =>
   have hq:numO (s.drop p)=.bad 0 7:=by unfold numO;simp only[hsg,hm,hpr,if_neg h0]
   simp only[go_sem,Nat.reduceEqDiff,Nat.reduceAdd,reduceCtorEq,Nat.reduceLT,Nat.reduceLeDiff,gx0,gx1,gs0,gs1]
   refine ⟨_,_,rfl,?_,fun t k e=>?_⟩
   ·simp only[hq,outV,tkV];rfl
   ·rw[hq]at e;cases e
 ·have hsg:sg (s.drop p)=0:=by unfold sg;rw[hu,if_neg h45]
  have h45':¬((s.getD p 0).toNat:Int)=45:=fun e=>h45 (UInt8.toNat_inj.1 ((by omega:(s.getD p 0).toNat=45).trans rfl))
  simp only[zhv,go_sem,Nat.reduceEqDiff,Nat.reduceAdd,reduceCtorEq,Nat.reduceLT,rdr,List.append_assoc,gl2,h45']
  refine ⟨⟨by omega,by omega⟩,?_⟩
  refine zae (zpx hX hs 1 s (p) 6 6 _ (by rfl) hl (by omega) (by decide)) ?_
  rintro r H' ⟨rfl,rfl⟩
  rw[show clP 6 6=dg from funext zz1]
  rw[hsg,List.drop_zero]at hm
  rw[hsg,Nat.sub_zero]at hml
  rw[hsg,Nat.zero_add]at hfm
  have hlen:((s.drop p).take m).length=m:=by rw[List.length_take,List.length_drop];omega
  have hne:decide ((s.drop p).take m=[])=decide (m=0):=by
   rw[decide_eq_decide,<-List.length_eq_zero_iff,hlen]
  have hcut:(s.take (p+m)).drop p=(s.drop p).take (m):=by rw[List.drop_take];congr 1;omega
  rw[hm]
  simp only[go_sem,Nat.reduceEqDiff,Nat.reduceAdd,reduceCtorEq,Nat.reduceLT,Nat.reduceLeDiff,rdr,gx0,gx1,gs0,gs1,hcut,hne]
  refine ⟨fun h0=>⟨_,_,rfl,?_,fun t k e=>?_⟩,fun h0=>⟨⟨⟨⟨?_,?_⟩,?_⟩,?_⟩,?_⟩⟩
  ·simp only[hq0 h0,outV,tkV];rfl
  ·rw[hq0 h0]at e;cases e
  all_goals try omega
  have hmg:=hfm (by omega)
  refine za1 (zj6 hX hR _ hmg.1 hmg.2 (by rw[List.length_take,List.length_drop];omega)) ?_
  unfold prsG
  cases hpr:Lib.parseIntB 64 ((s.drop p).take (m)) with
  | ok v =>
   simp only[go_sem,Nat.reduceEqDiff,Nat.reduceAdd,reduceCtorEq,Nat.reduceLT]
   refine zae (zoP hX hs 1 s _ (p+m) _ (by rfl) hl (by omega)) ?_
   rintro r H' ⟨rfl,rfl⟩
   simp only[go_sem,Nat.reduceMod,Nat.reduceEqDiff,Nat.reduceAdd,reduceCtorEq,Nat.reduceLT,Nat.reduceLeDiff,gx0,gx1,gs0,gs1,hN]
   have hcl:zbL s (p+m)=8↔ltr ((s.drop p).getD (m) 0)=true:=by
    rw[show (s.drop p).getD (m) 0=s.getD (p+m) 0 by simp [List.getD_eq_getElem?_getD,List.getElem?_drop]]
    rw[<-zsj,decide_eq_true_eq]
    unfold zbL
    split
    ·rfl
    ·rename_i hge
     have e0:s.getD (p+m) 0=0:=by simp [List.getD_eq_getElem?_getD,List.getElem?_eq_none (Nat.le_of_not_lt hge)]
     rw[e0];decide
   refine ⟨fun h1=>⟨_,_,rfl,?_,fun t k e=>?_⟩,fun h1=>⟨_,_,rfl,?_,fun t k e=>?_⟩⟩
   ·have hq:numO (s.drop p)=.bad (m) 6:=by
     unfold numO;simp only[hsg,List.drop_zero,Nat.zero_add,hm,hpr,if_neg h0];rw[if_pos (hcl.1 h1)]
    simp only[hq,outV,tkV]
   ·have hq:numO (s.drop p)=.bad (m) 6:=by
     unfold numO;simp only[hsg,List.drop_zero,Nat.zero_add,hm,hpr,if_neg h0];rw[if_pos (hcl.1 h1)]
    rw[hq]at e;cases e
   ·have hq:numO (s.drop p)=.ok ⟨2,v,[]⟩ (m):=by
     unfold numO;simp only[hsg,List.drop_zero,Nat.zero_add,hm,hpr,if_neg h0];rw[if_neg (fun e=>h1 (hcl.2 e))]
    simp only[hq,outV,tkV]
   ·have hq:numO (s.drop p)=.ok ⟨2,v,[]⟩ (m):=by
     unfold numO;simp only[hsg,List.drop_zero,Nat.zero_add,hm,hpr,if_neg h0];rw[if_neg (fun e=>h1 (hcl.2 e))]
    rw[hq]at e;cases e
    first|rfl|rw[Nat.add_assoc]
  | _ =>
   have hq:numO (s.drop p)=.bad 0 7:=by unfold numO;simp only[hsg,List.drop_zero,Nat.zero_add,hm,hpr,if_neg h0]
   simp only[go_sem,Nat.reduceEqDiff,Nat.reduceAdd,reduceCtorEq,Nat.reduceLT,Nat.reduceLeDiff,gx0,gx1,gs0,gs1]
   refine ⟨_,_,rfl,?_,fun t k e=>?_⟩
   ·simp only[hq,outV,tkV];rfl
   ·rw[hq]at e;cases e
end
end Go.Avm
