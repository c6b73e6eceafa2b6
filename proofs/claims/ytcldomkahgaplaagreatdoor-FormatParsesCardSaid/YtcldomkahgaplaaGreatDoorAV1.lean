/- What the shelf's contracts say, at this seat's numbers. -/
import Derived.Test.YtcldomkahgaplaaGreatDoorAG4
import Derived.Test.YtcldomkahgaplaaGreatDoorAB
import Derived.Test.YtcldomkahgaplaaGreatDoorA8
import Derived.Test.YtcldomkahgaplaaGreatDoorM1
import Derived.Shelf.Strings.Search1
import Derived.Shelf.Strings.Search2
import Derived.Shelf.Strings.Search3
import Derived.Shelf.Strings.Count
import Derived.Shelf.Strconv.ParseIntPublic10
import Derived.Test.YtcldomkahgaplaaGreatDoorAW
import Derived.Test.YtcldomkahgaplaaGreatDoorAS
set_option linter.all false
namespace Go.Avm
open Go Go.Proofs Go.Shelf
def sRen:Ren where
 f:=fun x=>match x with|99=>83|105=>44|129=>200|138=>152|143=>153|156=>33|165=>72|166=>35|167=>164|168=>165|169=>36|170=>84|171=>223|173=>91|174=>116|195=>182|196=>128|205=>222|206=>120|212=>82|217=>213|218=>184|219=>185|224=>215|225=>214|229=>78|240=>75|241=>110|242=>127|243=>233|245=>157|246=>124|247=>156|259=>163|263=>118|264=>119|266=>230|267=>216|276=>112|277=>150|278=>162|279=>195|280=>196|281=>197|282=>198|283=>158|284=>159|285=>160|286=>161|287=>194|314=>231|316=>221|317=>199|318=>201|319=>202|320=>203|321=>219|322=>220|337=>224|338=>225|n=>n
 t:=fun x=>match x with|0=>0|2=>2|3=>3|4=>4|5=>5|9=>9|12=>12|20=>20|21=>21|31=>26|37=>59|40=>106|46=>109|51=>143|53=>146|70=>58|72=>61|75=>63|76=>64|80=>66|85=>140|109=>110|119=>184|127=>102|138=>186|139=>187|143=>240|145=>242|146=>144|148=>147|152=>137|154=>139|164=>134|167=>210|168=>213|171=>178|173=>181|175=>211|210=>232|212=>217|213=>218|232=>243|233=>244|n=>n
 g:=fun x=>match x with|1=>3|3=>0|4=>1|15=>5|16=>6|17=>4|18=>7|19=>8|n=>n
theorem zHi:Lays.n217 Go.Proofs.Tryz.prog sRen:=by
 constructor<;>first|kernel_rfl|(intro w;kernel_rfl)|(constructor<;>first|kernel_rfl|(intro w;kernel_rfl)|(constructor<;>first|kernel_rfl|(intro w;kernel_rfl)))
theorem zHw:Lays.n219 Go.Proofs.Tryz.prog sRen:=by
 constructor<;>first|kernel_rfl|(intro w;kernel_rfl)|(constructor<;>first|kernel_rfl|(intro w;kernel_rfl)|(constructor<;>first|kernel_rfl|(intro w;kernel_rfl)))
theorem zH7:Lays.n138 Go.Proofs.Tryz.prog sRen:=by
 constructor<;>first|kernel_rfl|(intro w;kernel_rfl)|(constructor<;>first|kernel_rfl|(intro w;kernel_rfl)|(constructor<;>first|kernel_rfl|(intro w;kernel_rfl)))
theorem zyp:LaysC.n174 Go.Proofs.Tryz.prog sRen:=by
 constructor<;>first|kernel_rfl|(intro w;kernel_rfl)|(constructor<;>first|kernel_rfl|(intro w;kernel_rfl)|(constructor<;>first|kernel_rfl|(intro w;kernel_rfl)))
theorem zwG {s:ByteArray}{c:UInt8}(h:s.data.toList=[c]):s=⟨#[c]⟩:=by
 cases s with
 | mk d =>
  congr
  exact Array.toList_inj.1 h
theorem tu8 (c:UInt8):((c.toNat:Int)).toNat.toUInt8=c:=by simp
section
variable {X:Cx}(hX:X.P=Go.Proofs.Tryz.prog)
include hX
theorem zvY (s:List UInt8)(c:UInt8):Ev X zod [.str s,.str [c]] (.int .i64 (s.count c:Nat)):=by
 refine ⟨⟨Go.Proofs.Tryz.f152,by rw[hX];exact Go.Proofs.Tryz.func152,by decide,by kernel_rfl⟩,fun g w vs hwf hhr hvs=>?_⟩
 simp only[RelL,Rel]at hvs
 obtain ⟨v1,r1,rfl,⟨s1,rfl,h1⟩,v2,r2,rfl,⟨s2,rfl,h2⟩,rfl⟩:=hvs
 have e2:=zwG h2
 subst e2
 rw[hX]
 refine (Any.strings_Count_one zH7 s1 c w).mono ?_
 rintro e w' ⟨rfl,rfl⟩
 exact ⟨_,_,g,[],rfl,by simp only[Rel,Lib.countByte,h1],hwf,hhr,Ext.refl _ _,rfl,rfl⟩
theorem zrp (s:List UInt8)(c:UInt8):Ev X ziW [.str s,.str [c]] (.int .i64 (Lib.indexByte s c)):=by
 refine ⟨⟨Go.Proofs.Tryz.f185,by rw[hX];exact Go.Proofs.Tryz.func185,by decide,by kernel_rfl⟩,fun g w vs hwf hhr hvs=>?_⟩
 simp only[RelL,Rel]at hvs
 obtain ⟨v1,r1,rfl,⟨s1,rfl,h1⟩,v2,r2,rfl,⟨s2,rfl,h2⟩,rfl⟩:=hvs
 have e2:=zwG h2
 subst e2
 rw[hX]
 refine (Any.stringslite_Index_one zHw s1 c w).mono ?_
 rintro e w' ⟨rfl,rfl⟩
 exact ⟨_,_,g,[],rfl,by simp only[Rel,h1],hwf,hhr,Ext.refl _ _,rfl,rfl⟩
theorem zoF (s:List UInt8)(c:UInt8):Ev X zgW [.str s,u8 c] (.int .i64 (Lib.indexByte s c)):=by
 refine ⟨⟨Go.Proofs.Tryz.f213,by rw[hX];exact Go.Proofs.Tryz.func213,by decide,by kernel_rfl⟩,fun g w vs hwf hhr hvs=>?_⟩
 simp only[u8,RelL,Rel]at hvs
 obtain ⟨v1,r1,rfl,⟨s1,rfl,h1⟩,v2,r2,rfl,rfl,rfl⟩:=hvs
 rw[hX]
 refine (Any.stringslite_IndexByte zHi s1 (c.toNat:Int) w).mono ?_
 rintro e w' ⟨rfl,rfl⟩
 exact ⟨_,_,g,[],rfl,by simp only[Rel,h1,tu8],hwf,hhr,Ext.refl _ _,rfl,rfl⟩
theorem zj0 (hs:Std X)(s:List UInt8)(c:UInt8):Ev X zcz [.str s,u8 c] (.int .i64 (Lib.indexByte s c)):=by
 refine zac hs (zjg hX) 0 ?_
 simp only[zgS,go_sem,Nat.reduceEqDiff,Nat.reduceAdd,reduceCtorEq]
 refine zab (zoF hX s c) ?_
 simp only[go_sem,Nat.reduceEqDiff,reduceCtorEq]
def prsI (s:List UInt8):AV:=if -9223372036854775808<=Wo.valS s/\Wo.valS s<=9223372036854775807 then .tuple [.int .i64 (Wo.valS s),.nilI] else .tuple [.int .i64 (Lib.intSat 64 s),.ifc (sRen.t 168) .undef]
theorem zsx {te:Nat}(hR:X.G (sRen.g 16)=some [.ifc te .undef])(s:List UInt8)(hd:Wo.decS s=true)(hl:s.length<1000000):Ev X zbe [.str s,.int .i64 10,.int .i64 64] (prsI s):=by
 refine zd6 ⟨Go.Proofs.Tryz.f116,by rw[hX];exact Go.Proofs.Tryz.func116,by decide,by kernel_rfl⟩ fun g w vs hwf hvs=>?_
 simp only[RelL,Rel]at hvs
 obtain ⟨v1,r1,rfl,⟨s1,rfl,h1⟩,v2,r2,rfl,rfl,v3,r3,rfl,rfl,rfl⟩:=hvs
 rw[hX]
 have hp:=Wo.zz3 hd
 rw[<-h1]at hp hl
 have hsz:s1.size<1000000:=by
  have:s1.size=s1.data.toList.length:=by simp
  omega
 unfold prsI
 rw[<-h1]
 by_cases hv:-9223372036854775808<=Wo.valS s1.data.toList/\Wo.valS s1.data.toList<=9223372036854775807
 ·rw [if_pos hv]at hp⊢
  refine (Any.strconv_ParseInt_10_at64_ok zyp s1 (by omega) _ hp w).mono ?_
  rintro e w' ⟨rfl,hw⟩
  refine ⟨_,rfl,fun g=>?_,?_⟩
  ·simp only[Rel,RelL]
   exact ⟨_,rfl,_,_,rfl,rfl,_,_,rfl,rfl,rfl⟩
  ·rcases hw with rfl|⟨t,rfl⟩
   ·exact RowKit.Below.refl _ _
   ·exact Lib.bytesWorld_below _ _ _
 ·rw[if_neg hv]at hp⊢
  have hl:=hwf.laid _ _ hR
  simp only[Rel]at hl
  obtain ⟨b,o,vs,e1,e2,e3⟩:=hl
  simp only[RelL,Rel]at e2
  obtain ⟨v,vr,rfl,⟨u,rfl,_⟩,rfl⟩:=e2
  simp only[Value.pointer.injEq,Option.some.injEq,Addr.mk.injEq,and_true]at e1
  obtain ⟨rfl,rfl⟩:=e1
  have hc:=(e3 0 _ rfl).2
  refine (Any.strconv_ParseInt_10_at64_range zyp s1 (by omega) hp _ w hc (.inr ⟨_,_,rfl⟩)).mono ?_
  rintro e w' ⟨M,rfl,_,_,hw⟩
  refine ⟨_,rfl,fun g=>?_,hw⟩
  simp only[Rel,RelL]
  exact ⟨_,rfl,_,_,rfl,rfl,_,_,rfl,⟨_,rfl,trivial⟩,rfl⟩
end
end Go.Avm
namespace Go.Avm
open Go Go.Proofs Go.Shelf
theorem zyi:Lays.n166 Go.Proofs.Tryz.prog sRen:=by
 constructor<;>first|kernel_rfl|(intro w;kernel_rfl)
theorem zyF:Lays.n167 Go.Proofs.Tryz.prog sRen:=by
 constructor<;>first|kernel_rfl|(intro w;kernel_rfl)
theorem zkA:Lays.n169 Go.Proofs.Tryz.prog sRen:=by
 constructor<;>first|kernel_rfl|(intro w;kernel_rfl)
theorem zh8:Builder.Extra Go.Proofs.Tryz.prog sRen where
 sizeBuilder:=by kernel_rfl
 liesBuilder:=by kernel_rfl
 t5:=by kernel_rfl
 a5:=by intro w;kernel_rfl
 z5:=by intro w;kernel_rfl
 v5:=by intro w;kernel_rfl
 infoByte:=by kernel_rfl
 cellsByte:=by kernel_rfl
 sizeByte:=by kernel_rfl
 neB5:=by decide
section
variable {X:Cx}(hX:X.P=Go.Proofs.Tryz.prog)(hs:Std X){H:Heap}
include hX
theorem zka {i:Nat}{l:List UInt8}(s:List UInt8)(hH:H[i]?=some (.bld 61 5 l))(hlen:l.length+s.length<=140737488355328) :
  EvM X zax [.ptr i 0,.str s] H fun r H'=>r=.tuple [.int .i64 s.length,.nilI]/\H'=H.set i (.bld 61 5 (l++s)):=by
 refine zlr ⟨Go.Proofs.Tryz.f35,by rw[hX];exact Go.Proofs.Tryz.func35,by decide,by kernel_rfl⟩ (by decide) hH fun g w vs b p v hwf hhr hvs hbx hb hp hv=>?_
 simp only[RelL,Rel]at hvs
 obtain ⟨v1,r1,rfl,⟨b',rfl,h2⟩,v2,r2,rfl,⟨sb,rfl,h3⟩,rfl⟩:=hvs
 rw[hbx]at h2
 cases h2
 subst h3
 rw[hX]
 refine (zpj (C:=X) hX zyi zh8 sb hb hp hv (by simpa using hlen)).mono ?_
 rintro e w' ⟨rfl,h⟩
 exact ⟨_,rfl,fun g'=>by simp [Rel,RelL],h⟩
theorem ztl {i:Nat}{l:List UInt8}(c:UInt8)(hH:H[i]?=some (.bld 61 5 l))(hlen:l.length+1<=140737488355328) :
  EvM X zcx [.ptr i 0,u8 c] H fun r H'=>r=.nilI/\H'=H.set i (.bld 61 5 (l++[c])):=by
 refine zlr ⟨Go.Proofs.Tryz.f164,by rw[hX];exact Go.Proofs.Tryz.func164,by decide,by kernel_rfl⟩ (by decide) hH fun g w vs b p v hwf hhr hvs hbx hb hp hv=>?_
 simp only[RelL,Rel,u8]at hvs
 obtain ⟨v1,r1,rfl,⟨b',rfl,h2⟩,v2,r2,rfl,rfl,rfl⟩:=hvs
 rw[hbx]at h2
 cases h2
 rw[hX]
 refine (zss (C:=X) hX zyF zh8 c hb hp hv hlen).mono ?_
 rintro e w' ⟨rfl,h⟩
 exact ⟨_,rfl,fun g'=>by simp [Rel],h⟩
theorem ziN {i:Nat}{l:List UInt8}(hH:H[i]?=some (.bld 61 5 l))(h0:l≠[]) :
  EvM X zbz [.ptr i 0] H fun r H'=>r=.str l/\H'=H.set i .dead:=by
 refine zmo ⟨Go.Proofs.Tryz.f36,by rw[hX];exact Go.Proofs.Tryz.func36,by decide,by kernel_rfl⟩ (T:=61) (e:=5) (by decide) hH fun w b p v hb hv=>?_
 rw[hX]
 exact zsZ zkA zh8 hb hv h0
theorem zr0 {i:Nat}(hH:H[i]?=some (.bld 61 5 [])) :
  EvM X zbz [.ptr i 0] H fun r H'=>r=.str []/\H'=H.set i .dead:=by
 refine zmo ⟨Go.Proofs.Tryz.f36,by rw[hX];exact Go.Proofs.Tryz.func36,by decide,by kernel_rfl⟩ (T:=61) (e:=5) (by decide) hH fun w b p v hb hv=>?_
 rw[hX]
 exact zqb zkA zh8 hb hv
end
end Go.Avm
namespace Go.Avm
open Go Go.Proofs Go.Shelf
def tabQ:List AV:=Lib.pow10Tab.map (AV.int .u64)
theorem zIm:LaysM.n173 Go.Proofs.Tryz.prog sRen:=by
 constructor<;>first|kernel_rfl|(intro w;kernel_rfl)|(constructor<;>first|kernel_rfl|(intro w;kernel_rfl)|(constructor<;>first|kernel_rfl|(intro w;kernel_rfl)))
theorem zHL:Lays.n156 Go.Proofs.Tryz.prog sRen:=by
 constructor<;>first|kernel_rfl|(intro w;kernel_rfl)|(constructor<;>first|kernel_rfl|(intro w;kernel_rfl)|(constructor<;>first|kernel_rfl|(intro w;kernel_rfl)))
theorem zIc:Lays.n105 Go.Proofs.Tryz.prog sRen:=by
 constructor<;>first|kernel_rfl|(intro w;kernel_rfl)|(constructor<;>first|kernel_rfl|(intro w;kernel_rfl)|(constructor<;>first|kernel_rfl|(intro w;kernel_rfl)))
section
variable {X:Cx}(hX:X.P=Go.Proofs.Tryz.prog)
include hX
theorem zf4 (hP:X.G (sRen.g 17)=some tabQ)(n:Int)(h:-9223372036854775808<=n/\n<=9223372036854775807):Ev X zaN [.int .i64 n,.int .i64 10] (.str (Lib.itoa n)):=
 zmA (X:=X) (ρ:=sRen) (by rw[hX];exact zIm) (by rw[hX];kernel_rfl) hP n h
theorem zkz (l:List (List UInt8))(sep:List UInt8)(hl:l.length<=140737488355328)(hlen:(Lib.join l sep).length<=140737488355328):Ev X zf3 [lst AV.str .ro l,.str sep] (.str (Lib.join l sep)):=
 zwb (X:=X) (ρ:=sRen) (by rw[hX];exact zHL) (by rw[hX];exact zh8) l sep hl hlen
theorem zqQ (s:List UInt8)(c:Nat)(hc:c<=9223372036854775807)(hl:s.length*c<=140737488355328):Ev X zg7 [.str s,.int .i64 c] (.str (Lib.repeatL s c)):=
 zsS (X:=X) (ρ:=sRen) (by rw[hX];exact zIc) (by rw[hX];exact zh8) s c hc hl
end
end Go.Avm
namespace Go.Avm
open Go
theorem zGk {a b:UInt8}:((a.toNat:Int)=(b.toNat:Int))↔a=b:=⟨fun h=>UInt8.toNat_inj.1 (by omega),fun h=>by rw[h]⟩
theorem zd5 {a b:UInt8}{n:Int}(h:n=(b.toNat:Int)):((a.toNat:Int)=n)↔a=b:=by rw[h];exact zGk
def tabE:List AV:=[.int .u8 34,.int .u8 34,.int .u8 92,.int .u8 92,.int .u8 10,.int .u8 110,.int .u8 13,.int .u8 114,.int .u8 9,.int .u8 116]
def eL (i:Nat):UInt8:=[34,92,110,114,116].getD i 0
def hexs:List UInt8:=[48,49,50,51,52,53,54,55,56,57,97,98,99,100,101,102]
theorem bs_1 (p:Perm)(a:UInt8):b2sX (.sl p [.int .u8 (a.toNat:Int)])=some (true,.str [a],none):=bs_l p [a]
def gEsc:Nat:=0
set_option maxRecDepth 10000
section
variable {X:Cx}(hX:X.P=Go.Proofs.Tryz.prog)(hs:Std X)
include hX hs
end
end Go.Avm
namespace Go.Avm
open Go
set_option maxRecDepth 10000
section
variable {X:Cx}(hX:X.P=Go.Proofs.Tryz.prog)(hs:Std X)(hE:X.G gEsc=some tabE)
include hX hs hE
end
end Go.Avm
namespace Go.Avm
open Go
theorem zn6 {X:Cx}(hs:Std X){f:FuncId}{hint:Nat->Bool}{af:AFun}(hc:zaa X.P f hint=some af){args:List AV}{r:AV}(k:Nat)
  (h:wpc X af.n af.code (kq X af.n (zgM af.res fun r' H'=>dry (fin H' k r')=r) []) (FL.get (args.zipIdx.map fun p=>(p.2,p.1))) []):Ev X f args r:=by
 have h0:=(zaz hs hc h).evF
 exact ⟨h0.1,fun g w vs h1 h2 h3=>(h0.2 g w vs h1 h2 h3).mono fun e w' ⟨v,r',g',H',k1,k2,k3,k4,k5,k6⟩=>by
  subst k6
  exact ⟨v,_,finG g' w',[],k1,zqp▸zgf _ (zr2 k4 k r' k2),zsn k3,zqd (fun _=>rfl) (fun _=>rfl) (fun _=>rfl),k5.trans zou,rfl,rfl⟩⟩
theorem ixB (s:List UInt8)(c:UInt8):Lib.indexByte s c=if Lat.idx c s<s.length then (Lat.idx c s:Int) else -1:=by
 induction s with
 | nil=>rfl
 | cons b r ih =>
  have hle:=Lat.zzO c r
  simp only[Lib.indexByte,Lat.idx,ih,beq_iff_eq,List.length_cons]
  by_cases h:b=c
  ·simp only[if_pos h];simp
  ·simp only[if_neg h]
   by_cases h2:Lat.idx c r<r.length
   ·rw[if_pos h2,if_neg (by omega),if_pos (by omega)];rfl
   ·rw[if_neg h2,if_pos rfl,if_neg (by omega)]
theorem zkx {s:List UInt8}{i:Nat}(hi:i<s.length)(k:Nat):Lat.inB (s.take (i+1)) k=(Lat.inB (s.take i) k||((s.getD i 0).toNat==k)):=by
 rw[List.take_succ_eq_append_getElem hi]
 simp only[Lat.inB,List.any_append,List.any_cons,List.any_nil,Bool.or_false]
 rw[List.getD_eq_getElem?_getD,List.getElem?_eq_getElem hi];rfl
def zAw:List UInt8:=[48,49,50,51,52,53,54,55,56,57]
theorem zzl:∀n:Nat,n<256->Lat.inB zAw n=(decide (48<=n)&&decide (n<=57)):=by decide +kernel
theorem zy4 (c:UInt8):Lat.digB c=Wo.digB c:=rfl
theorem zBZ {s:List UInt8}(h:Wo.mg s=[]):Wo.decS s=false:=by rw[Wo.decS,h];rfl
set_option maxRecDepth 10000
section
variable {X:Cx}(hX:X.P=Go.Proofs.Tryz.prog)(hs:Std X)
include hX hs
theorem zx1 (c:UInt8):Ev X zi5 [u8 c] (.bool (Lat.digB c)):=by
 refine zac hs (zow hX) 0 ?_
 simp only[znq,go_sem,Nat.reduceEqDiff,reduceCtorEq,Lat.digB]
 refine ⟨fun h=>?_,fun h=>?_⟩
 ·simp [show 48<=c.toNat by omega];omega
 ·simp [show ¬48<=c.toNat by omega]
theorem zmd (f:Nat->Bool)(c:UInt8):Ev X zaR [.vp (tb 256 fun k=>.bool (f k)),u8 c] (.bool (f c.toNat)):=by
 have hc:=c.toNat_lt
 refine zac hs (zec hX) 0 ?_
 simp only[zcg,go_sem,Nat.reduceEqDiff,Nat.reduceAdd,reduceCtorEq,Nat.mul_one,zGV _ hc]
 omega
theorem zvn (cs:List UInt8)(h:∀c∈cs,c.toNat<128)(hl:cs.length<1000000):Ev X zcm [.str cs] (.tuple [.agg (tb 256 fun k=>.bool (Lat.inB cs k)),.bool true]):=by
 refine zac hs (zgK hX) 0 ?_
 simp only[zeA,ztp,go_sem]
 refine zaj hs.hm (ι:=Nat) (fun i=>i<=cs.length) (fun i=>[(4,.int .i64 i),(2,.ptr 0 0),(0,.str cs)]) (fun i=>[.box (tb 256 fun k=>.bool (Lat.inB (cs.take i) k))]) (fun i=>cs.length-i) 0 ?_ fun i hi=>?_
 ·simp only[go_sem,Nat.reduceEqDiff,reduceCtorEq]
  exact ⟨Nat.zero_le _,rfl⟩
 ·simp only[zdI,go_sem,Nat.reduceEqDiff,reduceCtorEq,Nat.reduceLeDiff,Nat.mul_one]
  refine ⟨fun c=>⟨⟨by omega,c⟩,fun e=>?_,fun e=>⟨by omega,by omega,i+1,by omega,by omega,by rw[wi64 (by omega)];rfl,?_⟩⟩,fun c=>?_⟩
  ·have hi':i<cs.length:=by omega
   have:=h (cs[i]) (List.getElem_mem _)
   have e2:cs.getD i 0=cs[i]:=by rw[List.getD_eq_getElem?_getD,List.getElem?_eq_getElem hi'];rfl
   rw[e2]at e
   omega
  ·rw [zwq]
   rw[zpd fun k hk=>?_]
   rw[zkx (by omega) k]
   by_cases ek:k=(cs.getD i 0).toNat
   ·subst ek;simp
   ·have:((cs.getD i 0).toNat==k)=false:=by rw[beq_eq_false_iff_ne];exact fun e=>ek e.symm
    rw[if_neg ek,this,Bool.or_false]
  ·rw[List.take_of_length_le (by omega)]
theorem zx6 (cs s:List UInt8):Ev X zb5 [.str s,.vp (tb 256 fun k=>.bool (Lat.inB cs k))] (.str (Lat.zmi cs s)):=by
 refine zac hs (zgd hX) 0 ?_
 simp only[zdV,go_sem,Nat.reduceAdd]
 refine zaj hs.hm (ι:=List UInt8) (fun t=>Lat.zmi cs s=Lat.zmi cs t) (fun t=>[(0,.str t),(1,.vp (tb 256 fun k=>.bool (Lat.inB cs k)))]) (fun _=>[]) (fun t=>t.length) s ?_ fun t ht=>?_
 ·simp only[go_sem,Nat.reduceEqDiff,reduceCtorEq]
 ·simp only[zcY,go_sem,Nat.reduceEqDiff,Int.reduceToNat,Int.reduceLE,reduceCtorEq]
  refine ⟨fun c=>⟨c,zab (zmd hX hs (Lat.inB cs) (t.getD 0 0)) ?_⟩,fun c=>?_⟩
  ·cases hc:Lat.inB cs (t.getD 0 0).toNat with
   | true =>
    simp only[go_sem,Nat.reduceEqDiff,Int.reduceToNat,Int.reduceLE,reduceCtorEq]
    refine ⟨by omega,t.drop 1,by rw[List.length_drop];omega,?_,?_⟩
    ·rw[ht,Lat.zAK (by omega) hc]
    ·rw[List.take_length]
   | false =>
    simp only[go_sem,Nat.reduceBEq,Nat.reduceEqDiff,reduceCtorEq]
    rw[ht,Lat.zBV (by omega) hc]
  ·have:t=[]:=List.length_eq_zero_iff.1 (by omega)
   rw[ht,this];rfl
theorem zzg (cs s:List UInt8)(hl:s.length<9223372036854775807):Ev X zbP [.str s,.vp (tb 256 fun k=>.bool (Lat.inB cs k))] (.str (Lat.zfw cs s)):=by
 refine zac hs (zfx hX) 0 ?_
 simp only[zdB,go_sem,Nat.reduceAdd]
 refine zaj hs.hm (ι:=List UInt8) (fun t=>t.length<=s.length/\Lat.zfw cs s=Lat.zfw cs t) (fun t=>[(0,.str t),(1,.vp (tb 256 fun k=>.bool (Lat.inB cs k)))]) (fun _=>[]) (fun t=>t.length) s ?_ fun t ht=>?_
 ·simp only[go_sem,Nat.reduceEqDiff,reduceCtorEq]
 ·obtain ⟨t1,t2⟩:=ht
  simp only[zcN,go_sem,Nat.reduceEqDiff,reduceCtorEq]
  refine ⟨fun c=>?_,fun c=>?_⟩
  ·have e1:IntKind.i64.wrap ((t.length:Int)-1)=((t.length-1:Nat):Int):=by rw[wi64 (by omega)];omega
   rw[e1]
   simp only[go_sem]
   refine ⟨by omega,zab (zmd hX hs (Lat.inB cs) (t.getD (t.length-1) 0)) ?_⟩
   cases hc:Lat.inB cs (t.getD (t.length-1) 0).toNat with
   | true =>
    simp only[go_sem,Nat.reduceEqDiff,Int.reduceToNat,Int.reduceLE,reduceCtorEq]
    rw[e1]
    refine ⟨by omega,t.take (t.length-1),by rw[List.length_take];omega,⟨by rw[List.length_take];omega,?_⟩,rfl⟩
    rw[t2,Lat.zAg (by omega) hc]
   | false =>
    simp only[go_sem,Nat.reduceBEq,Nat.reduceEqDiff,reduceCtorEq]
    rw[t2,Lat.zBS (by omega) hc]
  ·have:t=[]:=List.length_eq_zero_iff.1 (by omega)
   rw[t2,this];rfl
theorem zsr (cs s:List UInt8)(h:∀c∈cs,c.toNat<128)(hl:cs.length<1000000)(h2:2<=cs.length)(hs2:s.length<9223372036854775807):Ev X zfQ [.str s,.str cs] (.str (Lat.trimS cs s)):=by
 by_cases h0:s=[]
 ·subst h0
  refine zac hs (zj1 hX) 0 ?_
  simp only[zlN,ztp,go_sem,Nat.reduceEqDiff,Nat.reduceAdd,reduceCtorEq]
  rfl
 ·have hc0:cs≠[]:=fun e=>by rw[e]at h2;simp at h2
  have h1:¬(cs.length:Int)=1:=by omega
  refine zac hs (zj1 hX) 0 ?_
  simp only[zlN,ztp,go_sem,Nat.reduceEqDiff,Nat.reduceAdd,reduceCtorEq,h0,hc0,h1]
  refine zab (zvn hX hs cs h hl) ?_
  simp only[go_sem,Nat.reduceEqDiff,Nat.reduceAdd,reduceCtorEq,Nat.reduceLT]
  refine za5 (r:=.str (Lat.zfw cs s)) ?_ rfl ?_
  ·have:=zzg hX hs cs s hs2
   simpa only[zki,lend,List.getElem?_cons_zero,List.drop_zero,zr9] using this
  ·simp only[go_sem,Nat.reduceEqDiff,reduceCtorEq]
   refine za5 (r:=.str (Lat.zmi cs (Lat.zfw cs s))) ?_ rfl ?_
   ·have:=zx6 hX hs cs (Lat.zfw cs s)
    simpa only[zki,lend,List.getElem?_cons_zero,List.drop_zero,zr9] using this
   ·simp only[go_sem,Nat.reduceEqDiff,reduceCtorEq]
    rfl
theorem zAX (s:List UInt8):Ev X zkT [.str s] (.bool (Lat.isNm s)):=by
 have hlow:Lat.lowB (s.getD 0 0)=(decide (97<=(s.getD 0 0).toNat)&&decide ((s.getD 0 0).toNat<=122)):=rfl
 by_cases h0:s=[]
 ·subst h0
  refine zac hs (zjS hX) 0 ?_
  simp only[zlZ,go_sem,Nat.reduceEqDiff,reduceCtorEq]
  rfl
 ·have hl:0<s.length:=List.length_pos_iff.2 h0
  refine zac hs (zjS hX) 0 ?_
  simp only[zlZ,go_sem,Nat.reduceEqDiff,Int.reduceToNat,Int.reduceLE,reduceCtorEq,h0]
  refine ⟨fun h=>?_,fun h1=>⟨by omega,fun h=>?_,fun h2=>⟨by omega,fun h=>?_,fun h3=>?_⟩⟩⟩
  ·simp only[Lat.isNm,show ¬s.length<=16 by omega,decide_false,Bool.and_false,Bool.false_and]
  ·simp only[Lat.isNm,hlow,show ¬97<=(s.getD 0 0).toNat by omega,decide_false,Bool.and_false,Bool.false_and]
  ·simp only[Lat.isNm,hlow,show ¬(s.getD 0 0).toNat<=122 by omega,decide_false,Bool.and_false,Bool.false_and]
  ·refine zab (zsr hX hs Lat.zn8 s (by decide) (by decide) (by decide) (by omega)) ?_
   simp only[go_sem,Nat.reduceEqDiff,reduceCtorEq]
   rw[Lat.zvL]
   simp only[Lat.isNm,hlow,show 1<=s.length by omega,show s.length<=16 by omega,show 97<=(s.getD 0 0).toNat by omega,show (s.getD 0 0).toNat<=122 by omega,decide_true,Bool.and_self,Bool.true_and]
theorem zDd (s:List UInt8)(c:UInt8)(hl:s.length<1000000):Ev X zpW [.str s,.str [c]] (.tuple [.str (if Lat.idx c s<s.length then s.take (Lat.idx c s) else s),.str (if Lat.idx c s<s.length then s.drop (Lat.idx c s+1) else []),.bool (decide (Lat.idx c s<s.length))]):=by
 have hc:Ev X zoL [.str s,.str [c]] (.tuple [.str (if Lat.idx c s<s.length then s.take (Lat.idx c s) else s),.str (if Lat.idx c s<s.length then s.drop (Lat.idx c s+1) else []),.bool (decide (Lat.idx c s<s.length))]):=by
  refine zac hs (zrS hX) 1 ?_
  simp only[ztY,go_sem,Nat.reduceEqDiff,Nat.reduceAdd,reduceCtorEq]
  refine zab (zrp hX s c) ?_
  rw[ixB]
  by_cases h:Lat.idx c s<s.length
  ·simp only[h,go_sem,Nat.reduceEqDiff,Int.reduceToNat,Int.reduceLE,reduceCtorEq]
   refine ⟨fun h0=>⟨by omega,?_⟩,fun h0=>by omega⟩
   rw[wi64 (by omega)]
   refine ⟨by omega,?_⟩
   rw[List.take_length,show ((Lat.idx c s:Int)+1).toNat=Lat.idx c s+1 by omega]
  ·simp only[h,go_sem,Nat.reduceEqDiff,Int.reduceLE,reduceCtorEq]
 refine zac hs (zr4 hX) 1 ?_
 simp only[ztH,go_sem,Nat.reduceEqDiff,Nat.reduceAdd,reduceCtorEq]
 refine zab hc ?_
 simp only[go_sem,Nat.reduceEqDiff,Nat.reduceAdd,reduceCtorEq,Nat.reduceLT]
theorem zon (s:List UInt8)(c:UInt8):Ev X zcD [.str s,.str [c]] (.bool (decide (s.take 1=[c]))):=by
 refine zac hs (zeE hX) 0 ?_
 simp only[zex,go_sem,Nat.reduceEqDiff,Nat.reduceAdd,Int.reduceToNat,Int.reduceLE,reduceCtorEq]
 refine ⟨fun h=>by omega,fun h=>?_⟩
 ·have:s=[]:=List.length_eq_zero_iff.1 (by omega)
  subst this
  rfl
theorem zoG (s:List UInt8):Ev X zdD [.str s,.str [45]] (.str (Wo.mg s)):=by
 have h:Ev X zdH [.str s,.str [45]] (.str (Wo.mg s)):=by
  refine zac hs (zhX hX) 0 ?_
  simp only[zfC,go_sem,Nat.reduceEqDiff,Nat.reduceAdd,reduceCtorEq]
  refine zab (zon hX hs s 45) ?_
  by_cases e:s.take 1=[45]
  ·have e2:s.getD 0 0=45/\1<=s.length:=by
    cases s with
    | nil=>simp at e
    | cons a r=>simp at e;simp [e]
   simp only[e,go_sem,Nat.reduceEqDiff,Int.reduceToNat,Int.reduceLE,reduceCtorEq]
   refine ⟨by omega,?_⟩
   rw[Wo.mg,if_pos e2.1,List.take_length]
  ·have e2:¬s.getD 0 0=45:=fun h=>e (by
    cases s with
    | nil=>simp at h
    | cons a r=>simp at h;simp [h])
   simp only[e,go_sem,Nat.reduceEqDiff,reduceCtorEq]
   rw[Wo.mg,if_neg e2]
 refine zac hs (zhI hX) 0 ?_
 simp only[zf9,go_sem,Nat.reduceEqDiff,Nat.reduceAdd,reduceCtorEq]
 refine zab h ?_
 simp only[go_sem,Nat.reduceEqDiff,reduceCtorEq]
theorem zq2 (s:List UInt8)(hl:s.length<1000000):Ev X zei [.str s] (.bool (Wo.decS s)):=by
 refine zac hs (zit hX) 0 ?_
 simp only[zg5,go_sem,Nat.reduceEqDiff,reduceCtorEq]
 refine zab (zoG hX hs s) ?_
 by_cases h0:Wo.mg s=[]
 ·simp only[h0,go_sem,Nat.reduceEqDiff,reduceCtorEq]
  rw[zBZ h0]
 have hml:(Wo.mg s).length<1000000:=by
  unfold Wo.mg
  split
  ·rw[List.length_drop];omega
  ·exact hl
 have hp:0<(Wo.mg s).length:=List.length_pos_iff.2 h0
 simp only[h0,go_sem,Nat.reduceEqDiff,reduceCtorEq]
 refine zab (zsr hX hs zAw (Wo.mg s) (by decide) (by decide) (by decide) (by omega)) ?_
 have hd:=Wo.zxU zzl (Wo.mg s)
 have hem:(Wo.mg s).isEmpty=false:=by
  cases h:Wo.mg s with
  | nil=>exact absurd h h0
  | cons=>rfl
 simp only[Wo.decS,hem,<-hd]
 by_cases h1:Lat.trimS zAw (Wo.mg s)=[]
 ·simp only[h1,go_sem,Nat.reduceEqDiff,Int.reduceToNat,Int.reduceLE,reduceCtorEq]
  refine ⟨by omega,fun e=>?_,fun e=>?_⟩
  ·rw[decide_eq_false (fun h=>e ((zd5 (b:=48) rfl).2 h))]
   rfl
  ·rw[show (Wo.mg s).getD 0 0=48 from (zd5 (b:=48) rfl).1 e]
   rfl
 ·simp only[h1,go_sem,Nat.reduceEqDiff,reduceCtorEq]
end
end Go.Avm
namespace Go.Avm
open Go
set_option maxRecDepth 10000
section
variable {X:Cx}(hX:X.P=Go.Proofs.Tryz.prog)(hs:Std X)
include hX hs
theorem zsv (s:List UInt8)(hl:s.length<1000000):Ev X zfM [.str s] (.bool (Wo.decS s)):=by
 refine zyy hs (zl7 hX) 0 ?_
 simp only[zkf]
 refine zDZ hs.hm ?_
 simp only[go_sem]
 refine zxn hs.hm [(0,.str (Wo.rmg s))] (H1:=[]) ?_ ?_
 ·simp only[go_sem,Nat.reduceEqDiff,Int.reduceToNat,Int.reduceLE,reduceCtorEq,List.take_length]
  have e0:∀(h:¬(1<s.length/\s.getD 0 0=45/\¬s.getD 1 0=48)),AV.str s=AV.str (Wo.rmg s):=fun h=>by rw[Wo.rmg,if_neg h]
  refine ⟨fun h1=>⟨by omega,fun h2=>⟨h1,fun h3=>⟨by omega,?_⟩,fun h3=>e0 fun h=>h.2.2 ((zd5 (b:=48) rfl).1 h3)⟩,fun h2=>e0 fun h=>h2 ((zd5 (b:=45) rfl).2 h.2.1)⟩,fun h1=>e0 fun h=>by omega⟩
  rw[Wo.rmg,if_pos ⟨by omega,(zd5 (b:=45) rfl).1 h2,fun h=>h3 ((zd5 (b:=48) rfl).2 h)⟩]
 have hrl:(Wo.rmg s).length<=s.length:=by
  unfold Wo.rmg
  split
  ·rw[List.length_drop];omega
  ·exact Nat.le_refl _
 by_cases hc:(Wo.rmg s).length=0∨(1<(Wo.rmg s).length/\(Wo.rmg s).getD 0 0=48)
 ·have hd:Wo.decS s=false:=by rw[Wo.rdec,if_pos hc]
  refine zv4 hs.hm ?_
  simp only[go_sem,Nat.reduceEqDiff,Int.reduceToNat,Int.reduceLE,reduceCtorEq]
  rw[hd]
  refine ⟨fun _=>rfl,fun h1=>⟨fun h2=>⟨by omega,fun _=>rfl,fun h3=>?_⟩,fun h2=>?_⟩⟩
  ·rcases hc with hc|hc
   ·omega
   ·exact absurd ((zd5 (b:=48) rfl).2 hc.2) h3
  ·omega
 have hY:=Wo.zzw hc
 have hN:=@Wo.zBI s
 refine zxn hs.hm [(0,.str (Wo.rmg s))] (H1:=[]) ?_ ?_
 ·simp only[go_sem,Nat.reduceEqDiff,Int.reduceToNat,Int.reduceLE,reduceCtorEq]
  exact ⟨fun h1=>absurd (.inl (by omega)) hc,fun h1 h2=>⟨by omega,fun h3=>absurd (.inr ⟨by omega,(zd5 (b:=48) rfl).1 h3⟩) hc⟩⟩
 refine zv4 hs.hm ?_
 generalize Wo.rmg s=t at *
 simp only[go_sem]
 refine zaj hs.hm (ι:=Nat) (fun i=>i<=t.length/\∀k,k<i->Wo.digB (t.getD k 0)=true) (fun i=>[(3,.int .i64 i),(0,.str t)]) (fun _=>[]) (fun i=>t.length-i) 0 ?_ fun i hi=>?_
 ·simp only[go_sem,reduceCtorEq]
  exact ⟨Nat.zero_le _,zkG⟩
 obtain ⟨i1,i2⟩:=hi
 simp only[zgV,go_sem,Nat.reduceEqDiff,reduceCtorEq]
 refine ⟨fun c=>⟨by omega,zab (zx1 hX hs (t.getD i 0)) ?_⟩,fun c=>?_⟩
 ·rw [zy4]
  cases hp:Wo.digB (t.getD i 0) with
  | false =>
   simp only[go_sem,Nat.reduceEqDiff,reduceCtorEq]
   rw[hN (by omega) hp]
  | true =>
   simp only[go_sem,Nat.reduceEqDiff,reduceCtorEq]
   exact nxt1 (by omega) i2 hp (by omega)
 ·rw[hY fun k hk=>i2 k (by omega)]
end
end Go.Avm
namespace Go.Avm
open Go
def intV (s:List UInt8)(low high:Int):AV:=.tuple [.int .i64 (Wo.intS s low high).1,.int .i64 (Wo.intS s low high).2]
theorem zp9 {s:List UInt8}{low high:Int}(h:Wo.decS s=false):AV.tuple [.int .i64 0,.int .i64 6]=intV s low high:=by rw[intV,Wo.intS,if_pos h]
theorem zc0 {s:List UInt8}{low high:Int}(h:Wo.decS s=true)(h2:Wo.valS s < -9223372036854775808∨9223372036854775807<Wo.valS s∨Wo.valS s<low∨high<Wo.valS s):AV.tuple [.int .i64 0,.int .i64 7]=intV s low high:=by
 rw[intV,Wo.intS,if_neg (by rw[h];decide),if_pos h2]
theorem zr3 {s:List UInt8}{low high v:Int}(h:Wo.decS s=true)(h2:¬(Wo.valS s < -9223372036854775808∨9223372036854775807<Wo.valS s∨Wo.valS s<low∨high<Wo.valS s))(hv:v=Wo.valS s):AV.tuple [.int .i64 v,.int .i64 0]=intV s low high:=by
 rw[intV,Wo.intS,if_neg (by rw[h];decide),if_neg h2,hv]
set_option maxRecDepth 10000
section
variable {X:Cx}(hX:X.P=Go.Proofs.Tryz.prog)(hs:Std X)
include hX hs
theorem zzZ {te:Nat}(hR:X.G (sRen.g 16)=some [.ifc te .undef])(s:List UInt8)(low high:Int)(hl:s.length<1000000):Ev X zkv [.str s,.int .i64 low,.int .i64 high] (intV s low high):=by
 refine zac hs (zsG hX) 0 ?_
 simp only[zt2,go_sem,Nat.reduceEqDiff,Nat.reduceAdd,reduceCtorEq]
 refine zab (zq2 hX hs s hl) ?_
 cases hd:Wo.decS s with
 | false =>
  simp only[go_sem,Nat.reduceEqDiff,reduceCtorEq]
  exact zp9 hd
 | true =>
  simp only[go_sem,Nat.reduceEqDiff,reduceCtorEq]
  refine zab (zsx hX hR s hd hl) ?_
  unfold prsI
  by_cases hv:-9223372036854775808<=Wo.valS s/\Wo.valS s<=9223372036854775807
  ·rw[if_pos hv]
   simp only[go_sem,Nat.reduceEqDiff,Nat.reduceAdd,reduceCtorEq,Nat.reduceLT]
   exact ⟨fun h=>zc0 hd (by omega),fun h=>⟨fun h2=>zc0 hd (by omega),fun h2=>zr3 hd (by omega) rfl⟩⟩
  ·rw[if_neg hv]
   simp only[go_sem,Nat.reduceEqDiff,Nat.reduceAdd,reduceCtorEq,Nat.reduceLT]
   exact zc0 hd (by omega)
theorem zsc (s:List UInt8)(low high:Int)(hl:s.length<1000000):Ev X zhT [.str s,.int .i64 low,.int .i64 high] (intV s low high):=by
 refine zac hs (zsR hX) 0 ?_
 simp only[ztx,go_sem,Nat.reduceEqDiff,Nat.reduceAdd,reduceCtorEq]
 refine zab (zsv hX hs s hl) ?_
 cases hd:Wo.decS s with
 | false =>
  simp only[go_sem,Nat.reduceEqDiff,reduceCtorEq]
  exact zp9 hd
 | true =>
  have hsg:=Wo.zIi hd
  simp only[go_sem,Nat.reduceEqDiff,Int.reduceToNat,Int.reduceLE,reduceCtorEq]
  refine ⟨by omega,?_⟩
  refine zaj hs.hm (ι:=Nat) (fun i=>i<=s.length/\Wo.mgI s i<=9223372036854775808) (fun i=>[(10,.int .i64 i),(9,.int .i64 (-(Wo.mgI s i:Int))),(8,.bool (decide (Wo.sg s=1))),(2,.int .i64 high),(1,.int .i64 low),(0,.str s)]) (fun _=>[]) (fun i=>s.length-i) 0 ?_ fun i hi=>?_
  ·simp only[go_sem,Nat.reduceEqDiff,reduceCtorEq,Nat.reduceLeDiff,Wo.zFj]
   refine ⟨Nat.zero_le _,rfl,?_⟩
   congr 1
   rw[Bool.eq_iff_iff,decide_eq_true_eq,decide_eq_true_eq,show ((45:Int))=((UInt8.toNat 45:Nat):Int) from rfl,zGk]
   unfold Wo.sg
   split
   ·rename_i e;exact ⟨fun _=>rfl,fun _=>e⟩
   ·rename_i e;exact ⟨fun h=>absurd h e,fun h=>by simp at h⟩
  obtain ⟨i1,i2⟩:=hi
  by_cases hi:i<s.length
  ·have hi':(i:Int)<s.length:=by omega
   simp only[ziM,go_sem,Nat.reduceEqDiff,Int.reduceNe,reduceCtorEq,hi']
   rcases Wo.zDS hd hi with ⟨e,rfl,hg⟩|⟨hdg,hg,hne⟩
   ·have h0:=Wo.zFj s
    have h1:=Wo.zza hg
    exact ⟨by omega,fun _=>⟨1,by omega,⟨by omega,by omega⟩,rfl,by rw[h0,h1]⟩,fun h=>absurd ((zd5 (b:=45) rfl).2 e) h⟩
   ·have hr:=Wo.zrJ hdg
    have hn:=Wo.zx7 hi hg
    have hle:=@Wo.zEV s (i+1) (by omega) (by omega)
    have hv:=Wo.zxp s
    have ed:IntKind.i64.wrap (IntKind.u8.wrap (((s.getD i 0).toNat:Int)-48))=(((s.getD i 0).toNat-48:Nat):Int):=by
     rw[wu8 (by omega),wi64 (by omega)];omega
    rw[ed]
    have hd9:(s.getD i 0).toNat-48<=9:=by omega
    generalize (s.getD i 0).toNat-48=d at *
    have et:IntKind.i64.wrap ((IntKind.i64.wrap (-9223372036854775808+(d:Int))).tdiv 10)=-((9223372036854775808-(d:Int)) / 10):=by
     rw[wi64 (n:=-9223372036854775808+(d:Int)) (by omega),show (-9223372036854775808+(d:Int))=-(9223372036854775808-(d:Int)) by omega,Int.neg_tdiv,Int.tdiv_eq_ediv_of_nonneg (by omega),wi64 (by omega)]
    rw[et]
    refine ⟨by omega,fun h=>absurd ((zd5 (b:=45) rfl).1 h) hne,fun _=>⟨by omega,fun h=>?_,fun h=>?_⟩⟩
    ·refine zc0 hd ?_
     split at hv<;>omega
    ·refine ⟨i+1,by omega,⟨by omega,by omega⟩,by rw[wi64 (by omega)];rfl,?_⟩
     congr 1
     rw[wi64 (n:=10 * -(Wo.mgI s i:Int)) (by omega),wi64 (by omega)]
     omega
  ·have hi':¬(i:Int)<s.length:=by omega
   simp only[ziM,go_sem,Nat.reduceEqDiff,reduceCtorEq,hi']
   obtain rfl:i=s.length:=by omega
   have hv:=Wo.zxp s
   rw[Wo.zBa]at i2⊢
   generalize Wo.magL 0 (Wo.mg s)=m at *
   refine ⟨fun hg=>⟨fun h=>zc0 hd (by rw[if_neg hg]at hv;omega),fun h=>⟨fun _=>?_,fun h'=>absurd h' hg⟩⟩,fun hg=>⟨fun h=>absurd hg h,fun _=>?_⟩⟩
   ·rw[if_neg hg]at hv
    rw[wi64 (by omega)]
    exact ⟨fun h=>zc0 hd (by omega),fun h=>⟨fun h2=>zc0 hd (by omega),fun h2=>zr3 hd (by omega) (by omega)⟩⟩
   ·rw[if_pos hg]at hv
    exact ⟨fun h=>zc0 hd (by omega),fun h=>⟨fun h2=>zc0 hd (by omega),fun h2=>zr3 hd (by omega) (by omega)⟩⟩
end
end Go.Avm
namespace Go.Avm
open Go
def fdV (f:Wo.Fd):AV:=.agg [.str f.1,.bool f.2]
instance : Elt fdV 2:=⟨fun _=>rfl,fun _=>rfl,fun _=>rfl,fun _=>rfl⟩
set_option maxRecDepth 10000
section
variable {X:Cx}(hX:X.P=Go.Proofs.Tryz.prog)(hs:Std X)
include hX hs
end
end Go.Avm
namespace Go.Avm
open Go
end Go.Avm
