/- FormatInt at base 16. -/
import Derived.Test.YtcldomkahgaplaaGreatDoorAR2
import Derived.Test.YtcldomkahgaplaaGreatDoorML2
import Derived.Test.YtcldomkahgaplaaGreatDoorM1
set_option linter.all false
namespace Go.Avm
open Go Go.Rn Go.Lx
def db64:List Int:=[0,1,56,2,57,49,28,3,61,58,42,50,38,29,17,4,62,47,59,36,45,43,51,22,53,39,33,30,24,18,12,5,63,55,48,27,60,41,37,16,46,35,44,21,52,32,23,11,54,26,40,15,34,20,31,10,25,14,19,9,13,8,7,6]
def tabB:List AV:=db64.map (AV.int .u8)
def hexS:List UInt8:=[48,49,50,51,52,53,54,55,56,57,97,98,99,100,101,102,103,104,105,106,107,108,109,110,111,112,113,114,115,116,117,118,119,120,121,122]
theorem zAp:∀n:Nat,n<16->hexS.getD n 0=Wo.hexd n:=by decide
theorem zxu {n:Nat}(h:n<16):List.getD [48,49,50,51,52,53,54,55,56,57,97,98,99,100,101,102,103,104,105,106,107,108,109,110,111,112,113,114,115,116,117,118,119,120,121,122] n (0:UInt8)=Wo.hexd n:=zAp n h
def bufA (t:List UInt8):List AV:=List.replicate (65-t.length) (.int .u8 0)++t.map u8
theorem zs5 {t:List UInt8}(h:t.length<=65):(bufA t).length=65:=by simp [bufA];omega
theorem zzc {t:List UInt8}(h:t.length<65)(d:UInt8):(bufA t).set (65-t.length-1) (u8 d)=bufA (d::t):=by
 unfold bufA
 obtain ⟨k,hk⟩:∃k,65-t.length=k+1:=⟨64-t.length,by omega⟩
 rw[hk,List.length_cons,show 65-(t.length+1)=k by omega,show k+1-1=k by omega,List.replicate_succ',List.append_assoc]
 rw[List.set_append_right _ _ (by simp),List.length_replicate,Nat.sub_self]
 rfl
theorem zw0 (t:List UInt8)(h:t.length<=65):(bufA t).drop (65-t.length)=t.map u8:=by
 unfold bufA
 rw[List.drop_append_of_le_length (by simp),List.drop_eq_nil_of_le (by simp),List.nil_append]
theorem zHo {u:Int}(h0:0<=u)(h1:u<2 ^ 64):bits .and .u64 u 15=u % 16:=by
 have:=bits_mask .u64 64 (by decide) wraps_u64 4 (by decide) u h0 h1
 simpa using this
set_option maxRecDepth 10000
section
variable {X:Cx}(hX:X.P=Go.Proofs.Tryz.prog)(hs:Std X)
include hX hs
theorem zAD (hB:X.G 8=some tabB):Ev X zbG [.int .u64 16] (.int .i64 4):=by
 have h64:Ev X zbq [.int .u64 16] (.int .i64 4):=by
  refine zac hs (zew hX) 0 ?_
  have e1:IntKind.u64.wrap (0-16)=18446744073709551600:=by decide
  have e2:bits .and .u64 16 18446744073709551600=16:=by decide
  have e3:IntKind.u64.wrap (16*285870213051353865)=4573923408821661840:=by decide
  have e4:Int.fdiv 4573923408821661840 (2 ^ min 58 64)=15:=by decide
  have e5:IntKind.i64.wrap 4=4:=by decide
  have e6:tabB.drop 15=.int .u8 4::tabB.drop 16:=rfl
  simp only[zch,go_sem,Nat.reduceEqDiff,Nat.reduceMul,Int.reduceToNat,Int.reduceLE,Int.reduceLT,Int.reduceEq,reduceCtorEq,hB,e1,e2,e3,e4,e5,e6]
 refine zac hs (zfb hX) 0 ?_
 simp only[zcX,go_sem,Nat.reduceEqDiff,reduceCtorEq]
 refine zab h64 ?_
 simp only[go_sem,Nat.reduceEqDiff,reduceCtorEq]
theorem zA7:Ev X zct [.int .i64 16] (.bool true):=by
 refine zac hs (zgL hX) 0 ?_
 have e1:IntKind.i64.wrap (16-1)=15:=by decide
 have e2:bits .and .i64 16 15=0:=by decide
 simp only[zeB,go_sem,Nat.reduceEqDiff,reduceCtorEq,e1,e2]
theorem zoU (hB:X.G 8=some tabB)(n:Nat)(hn:n<1114112):Ev X zdj [.sl .ro [],.int .u64 n,.int .i64 16,.bool false,.bool false] (.tuple [.sl .ex [],.str (Lx.hexs n)]):=by
 refine zac hs (zik hX) 0 ?_
 simp only[zfL,go_sem,Nat.reduceEqDiff,Nat.reduceAdd,Int.reduceLT,Int.reduceEq,reduceCtorEq]
 refine zab (zA7 hX hs) ?_
 simp only[go_sem,Nat.reduceEqDiff,reduceCtorEq]
 have k1:IntKind.u64.wrap 16=16:=by decide
 have k2:IntKind.u64.wrap 4=4:=by decide
 have k3:IntKind.u64.wrap (16-1)=15:=by decide
 rw[k1]
 refine zab (zAD hX hs hB) ?_
 simp only[go_sem,Nat.reduceEqDiff,reduceCtorEq,k1,k2,k3]
 have hl6:(Lx.hexs n).length<=6:=ze8 5 n (by rw[show (16:Nat) ^ (5+1)=16777216 by rfl];omega)
 refine zaj hs.hm (ι:=Nat×List UInt8) (fun x=>Lx.hexs x.1++x.2=Lx.hexs n/\x.1<1114112) (fun x=>[(0,.sl .ro []),(1,.int .u64 x.1),(2,.int .i64 16),(3,.bool false),(4,.bool false),(10,.sl .ex []),(11,.str []),(12,.ptr 0 0),(13,.int .i64 ((65-x.2.length:Nat):Int)),(14,.int .u64 4),(15,.int .u64 16),(16,.int .u64 15)]) (fun x=>[.box (bufA x.2)]) (fun x=>x.1) (n,[]) ?_ fun x hx=>?_
 ·simp only[go_sem,Nat.reduceEqDiff,Nat.reduceSub,reduceCtorEq]
  exact ⟨hn,rfl⟩
 ·obtain ⟨u,t⟩:=x
  obtain ⟨h1,h2⟩:=hx
  dsimp only at h1 h2⊢
  have hpos:1<=(Lx.hexs u).length:=by
   cases hq:Lx.hexs u with
   | nil=>exact absurd hq (zta u).2.2
   | cons=>simp
  have htl:t.length<=5:=by
   have:=congrArg List.length h1
   rw[List.length_append]at this
   omega
  have hbl:=zs5 (t:=t) (by omega)
  have w13:IntKind.i64.wrap (((65-t.length:Nat):Int)-1)=((65-t.length-1:Nat):Int):=by rw[wi64 (by omega)];omega
  have a15:bits .and .u64 (u:Int) 15=((u % 16:Nat):Int):=by rw[zHo (by omega) (by omega)];omega
  have sh4:Int.fdiv (u:Int) (2 ^ min 4 64)=((u / 16:Nat):Int):=by
   rw[show (2:Int) ^ min 4 64=16 by decide,Int.fdiv_eq_ediv_of_nonneg _ (by omega)];omega
  have hm:u % 16<16:=Nat.mod_lt _ (by decide)
  have hsc:∀c:UInt8,setCells (bufA t) (65-t.length-1) [.int .u8 ((c.toNat:Nat):Int)]=bufA (c::t):=fun c=>zzc (by omega) c
  simp only[zeG,go_sem,Nat.reduceEqDiff,Nat.reduceAdd,Int.reduceToNat,Int.reduceLE,reduceCtorEq,Nat.reduceLeDiff,w13,a15,sh4,zxu hm,hbl,hsc,Nat.mul_one]
  refine ⟨fun c=>⟨⟨by omega,by omega⟩,⟨by omega,by omega⟩,by omega,(u / 16,Wo.hexd (u % 16)::t),?_,⟨?_,?_⟩,⟨rfl,?_⟩,rfl⟩,fun c=>⟨⟨by omega,by omega⟩,⟨by omega,by omega⟩,by omega,⟨by omega,by omega⟩,?_⟩⟩
  ·exact Nat.div_lt_self (by omega) (by decide)
  ·rw[<-h1,zkD (n:=u) (by omega),List.append_assoc];rfl
  ·exact Nat.lt_of_le_of_lt (Nat.div_le_self _ _) h2
  ·simp only[List.length_cons];congr 1
  ·have hu:u<16:=by omega
   rw[zxu hu]
   have e1:b2sA [Blk.box (bufA (Wo.hexd u::t))] (AV.rsl 0 (65-t.length-1) (65-(65-t.length-1)) (65-(65-t.length-1)) 1)=lst u8 .ro (Wo.hexd u::t):=by
    have hd:=zw0 (Wo.hexd u::t) (by simp only[List.length_cons];omega)
    rw[List.length_cons,show 65-(t.length+1)=65-t.length-1 by omega]at hd
    have hb:=zs5 (t:=Wo.hexd u::t) (by simp only[List.length_cons];omega)
    simp only[b2sA,zdZ,List.getElem?_cons_zero]
    rw[if_pos ⟨trivial,by rw[hb];omega⟩,hd]
    simp only
    rw[List.take_of_length_le (by rw[List.length_map,List.length_cons];omega)];rfl
   rw[e1]
   simp only[go_sem,Nat.reduceEqDiff,reduceCtorEq]
   rw[<-h1,zeH hu];rfl
theorem zqP (hB:X.G 8=some tabB)(n:Nat)(hn:n<1114112):Ev X zaN [.int .i64 n,.int .i64 16] (.str (Lx.hexs n)):=by
 refine zac hs (ziF hX) 0 ?_
 simp only[zgR,go_sem,Nat.reduceEqDiff,Nat.reduceAdd,reduceCtorEq]
 refine zab (r:=.str (Lx.hexs n)) ?_ ?_
 ·refine zac hs (zgn hX) 0 ?_
  have h0:¬(n:Int)<0:=by omega
  have hw:IntKind.u64.wrap (n:Int)=n:=wu64 (by omega)
  simp only[zd8,go_sem,Nat.reduceEqDiff,Nat.reduceAdd,Int.reduceEq,reduceCtorEq,h0,hw]
  refine zab (zoU hX hs hB n hn) ?_
  simp only[go_sem,Nat.reduceEqDiff,Nat.reduceAdd,reduceCtorEq,Nat.reduceLT]
 ·simp only[go_sem,Nat.reduceEqDiff,reduceCtorEq]
end
end Go.Avm
namespace Go.Avm
open Go Go.Rn Go.Lx
section
variable {X:Cx}(hX:X.P=Go.Proofs.Tryz.prog)(hs:Std X)
include hX hs
end
def hasP (s t:List UInt8):Bool:=decide (t.length<=s.length)&&decide (s.take t.length=t)
theorem zwJ (s:List UInt8)(c:UInt8):hasP s [c]=(decide (0<s.length)&&decide (s.getD 0 0=c)):=by
 cases s with
 | nil=>rfl
 | cons x r=>simp [hasP]
theorem zt6 {s:List UInt8}{i:Nat}(hi:i<s.length):hxL 0 (s.take (i+1))=hxL 0 (s.take i)*16+(Wo.hexv (s.getD i 0)).getD 0:=by
 rw[List.take_succ_eq_append_getElem hi,zxN,List.getD_eq_getElem?_getD,List.getElem?_eq_getElem hi]
 rfl
theorem zBG {c:UInt8}{n:Nat}(h:Wo.hexv c=some n):n<16:=(Wo.zvQ h).1
theorem zCX (c:UInt8):(Wo.hexv c).getD 0<16:=by
 cases h:Wo.hexv c with
 | none=>simp
 | some n=>simpa using zBG h
theorem ztJ:∀(i:Nat) (s:List UInt8),i<=s.length->hxL 0 (s.take i)<16 ^ i
 | 0,s,_=>by simp [hxL]
 | i+1,s,h=>by
  have ih:=ztJ i s (by omega)
  have:=zCX (s.getD i 0)
  rw[zt6 (by omega),Nat.pow_succ]
  omega
theorem ztS {c:UInt8}(h:hxB c=true):(48<=c.toNat/\c.toNat<=57/\(Wo.hexv c).getD 0=c.toNat-48)∨(97<=c.toNat/\c.toNat<=102/\(Wo.hexv c).getD 0=c.toNat-87):=by
 simp only[hxB,Wo.hexv]at h⊢
 split at h
 ·rename_i h1;rw[if_pos h1];exact .inl ⟨h1.1,h1.2,rfl⟩
 ·rename_i h1
  rw[if_neg h1]
  split at h
  ·rename_i h2;rw[if_pos h2];exact .inr ⟨h2.1,h2.2,rfl⟩
  ·cases h
theorem zBf:∀n:Nat,n<128->97<=n->n<=102->bits .or .u8 (n:Int) 32=n:=by decide +kernel
set_option maxRecDepth 10000
section
variable {X:Cx}(hX:X.P=Go.Proofs.Tryz.prog)(hs:Std X)
include hX hs
theorem za8 (s t:List UInt8)(hl:s.length<1000000)(ht:t.length<1000000):Ev X zaG [.str s,.str t] (.bool (hasP s t)):=by
 refine zac hs (zjt hX) 0 ?_
 simp only[zg2,go_sem,Nat.reduceEqDiff,Nat.reduceAdd,reduceCtorEq]
 refine zab (r:=.bool (hasP s t)) ?_ ?_
 ·refine zac hs (zeE hX) 0 ?_
  simp only[zex,go_sem,Nat.reduceEqDiff,Nat.reduceAdd,Int.reduceToNat,Int.reduceLE,reduceCtorEq]
  refine ⟨fun h=>⟨by omega,?_⟩,fun h=>?_⟩
  ·simp only[hasP,show t.length<=s.length by omega,decide_true,Bool.true_and]
  ·simp only[hasP,show ¬t.length<=s.length by omega,decide_false,Bool.false_and]
 ·simp only[go_sem,Nat.reduceEqDiff,reduceCtorEq]
theorem ziL (c:UInt8)(h:97<=c.toNat/\c.toNat<=102):Ev X zb0 [.int .u8 ((c.toNat:Nat):Int)] (.int .u8 ((c.toNat:Nat):Int)):=by
 refine zac hs (zoT hX) 0 ?_
 simp only[zm6,go_sem,Nat.reduceEqDiff,reduceCtorEq,zBf c.toNat (by omega) h.1 h.2]
theorem zmQ (s:List UInt8)(hx:s.all hxB=true)(h0:s≠[])(hl:s.length<=6):Ev X zed [.str s,.int .i64 16,.int .i64 32] (.tuple [.int .u64 (hxL 0 s:Nat),.nilI]):=by
 refine zac hs (ziU hX) 0 ?_
 have k1:IntKind.u64.wrap 32=32:=by decide
 have k2:IntKind.u64.wrap (IntKind.u64.wrap (1*2 ^ min 32 64)-1)=4294967295:=by decide
 have k3:IntKind.u8.wrap 16=16:=by decide
 have k4:IntKind.u64.wrap 16=16:=by decide
 have hml:(List.map u8 s).length=s.length:=List.length_map ..
 simp only[zgZ,go_sem,Nat.reduceEqDiff,Nat.reduceAdd,Int.reduceToNat,Int.reduceLE,Int.reduceLT,Int.reduceEq,reduceCtorEq,h0,k1,k2,hml]
 refine ⟨by omega,?_⟩
 refine zaj hs.hm (ι:=Nat) (fun i=>i<=s.length) (fun i=>[(0,.str s),(1,.int .i64 16),(8,.bool false),(9,.str s),(10,.int .u64 1152921504606846976),(11,.int .u64 4294967295),(12,.bool false),(13,.int .u64 (hxL 0 (s.take i):Nat)),(99,lst u8 .ro s),(100,.int .i64 s.length),(101,.int .i64 i)]) (fun _=>[]) (fun i=>s.length-i) 0 ?_ fun i hi=>?_
 ·simp only[go_sem,Nat.reduceEqDiff,reduceCtorEq]
  exact ⟨Nat.zero_le _,rfl,rfl⟩
 ·have hlt:=ztJ i s hi
  have hp:16 ^ i<=16 ^ 6:=Nat.pow_le_pow_right (by decide) (by omega)
  have e6:16 ^ 6=16777216:=by decide
  have fin:i<s.length->∀d:Nat,d=(Wo.hexv (s.getD i 0)).getD 0->∃j,s.length-j<s.length-i/\j<=s.length/\AV.int .u64 ((hxL 0 (s.take i)*16+d:Nat):Int)=AV.int .u64 (hxL 0 (s.take j):Nat)/\AV.int .i64 (IntKind.i64.wrap ((i:Int)+1))=AV.int .i64 j:=fun h d hd=>by
   refine ⟨i+1,by omega,by omega,?_,by rw[wi64 (by omega)];rfl⟩
   rw[zt6 h,hd]
  by_cases hlt':i<s.length
  ·have hm:s.getD i 0∈s:=by
    rw[List.getD_eq_getElem?_getD,List.getElem?_eq_getElem hlt'];exact List.getElem_mem hlt'
   have hc:=ztS (List.all_eq_true.1 hx _ hm)
   have fin:=fin hlt'
   obtain ⟨c,hcd⟩:∃c,s.getD i default=c:=⟨_,rfl⟩
   rw[show s.getD i 0=c from hcd]at hm hc fin
   have w1:IntKind.u64.wrap ((hxL 0 (s.take i):Nat)*16)=((hxL 0 (s.take i)*16:Nat):Int):=by rw[wu64 (by omega)];omega
   have hz:(i:Int)<s.length:=by omega
   rcases hc with ⟨a,b,hv⟩|⟨a,b,hv⟩
   ·have a95:¬((c.toNat:Nat):Int)=95:=by omega
    have a48:(48:Int)<=((c.toNat:Nat):Int):=by omega
    have a57:((c.toNat:Nat):Int)<=57:=by omega
    have w2:IntKind.u8.wrap (((c.toNat:Nat):Int)-48)=((c.toNat-48:Nat):Int):=by rw[wu8 (by omega)];omega
    have w3:IntKind.u64.wrap ((c.toNat-48:Nat):Int)=((c.toNat-48:Nat):Int):=wu64 (by omega)
    have w4:IntKind.u64.wrap (((hxL 0 (s.take i)*16:Nat):Int)+((c.toNat-48:Nat):Int))=((hxL 0 (s.take i)*16+(c.toNat-48):Nat):Int):=by rw[wu64 (by omega)];omega
    have g1:¬(16:Int)<=((c.toNat-48:Nat):Int):=by omega
    have g2:¬(1152921504606846976:Int)<=(hxL 0 (s.take i):Nat):=by omega
    have g3:¬((hxL 0 (s.take i)*16+(c.toNat-48):Nat):Int)<(hxL 0 (s.take i)*16:Nat):=by omega
    have g4:¬(4294967295:Int)<((hxL 0 (s.take i)*16+(c.toNat-48):Nat):Int):=by omega
    simp only[zbO,go_sem,Nat.reduceEqDiff,reduceCtorEq,hz,hcd,a95,a48,a57,w1,w2,w3,w4,g1,g2,g3,g4,k3,k4]
    exact ⟨by omega,fin _ hv.symm⟩
   ·have a95:¬((c.toNat:Nat):Int)=95:=by omega
    have a48:(48:Int)<=((c.toNat:Nat):Int):=by omega
    have a57:¬((c.toNat:Nat):Int)<=57:=by omega
    have a97:(97:Int)<=((c.toNat:Nat):Int):=by omega
    have a122:((c.toNat:Nat):Int)<=122:=by omega
    have w2:IntKind.u8.wrap (((c.toNat:Nat):Int)-97)=((c.toNat-97:Nat):Int):=by rw[wu8 (by omega)];omega
    have w2':IntKind.u8.wrap (((c.toNat-97:Nat):Int)+10)=((c.toNat-87:Nat):Int):=by rw[wu8 (by omega)];omega
    have w3:IntKind.u64.wrap ((c.toNat-87:Nat):Int)=((c.toNat-87:Nat):Int):=wu64 (by omega)
    have w4:IntKind.u64.wrap (((hxL 0 (s.take i)*16:Nat):Int)+((c.toNat-87:Nat):Int))=((hxL 0 (s.take i)*16+(c.toNat-87):Nat):Int):=by rw[wu64 (by omega)];omega
    have g1:¬(16:Int)<=((c.toNat-87:Nat):Int):=by omega
    have g2:¬(1152921504606846976:Int)<=(hxL 0 (s.take i):Nat):=by omega
    have g3:¬((hxL 0 (s.take i)*16+(c.toNat-87):Nat):Int)<(hxL 0 (s.take i)*16:Nat):=by omega
    have g4:¬(4294967295:Int)<((hxL 0 (s.take i)*16+(c.toNat-87):Nat):Int):=by omega
    simp only[zbO,go_sem,Nat.reduceEqDiff,reduceCtorEq,hz,hcd,a95,a48,a57]
    refine ⟨by omega,?_⟩
    refine zab (ziL hX hs c ⟨a,b⟩) ?_
    simp only[go_sem,Nat.reduceEqDiff,reduceCtorEq,a97]
    refine zab (ziL hX hs c ⟨a,b⟩) ?_
    simp only[go_sem,Nat.reduceEqDiff,reduceCtorEq,a122]
    refine zab (ziL hX hs c ⟨a,b⟩) ?_
    simp only[go_sem,Nat.reduceEqDiff,reduceCtorEq,w1,w2,w2',w3,w4,g1,g2,g3,g4,k3,k4]
    exact fin _ hv.symm
  ·have hz:¬(i:Int)<s.length:=by omega
   have ht:s.take i=s:=List.take_of_length_le (by omega)
   simp only[zbO,go_sem,Nat.reduceEqDiff,reduceCtorEq,hz,ht]
end
end Go.Avm
namespace Go.Avm
open Go Go.Rn Go.Lx
def zui:List UInt8:=[48,49,50,51,52,53,54,55,56,57,97,98,99,100,101,102]
theorem zvX:∀n:Nat,n<256->Lat.inB zui n=((decide (48<=n)&&decide (n<=57))||(decide (97<=n)&&decide (n<=102))):=by decide +kernel
theorem zzp (c:UInt8):Lat.inB zui c.toNat=hxB c:=by
 rw[zvX _ c.toNat_lt]
 simp only[hxB,Wo.hexv]
 split
 ·rename_i h;simp [h]
 ·rename_i h
  split
  ·rename_i h2;simp [h2]
  ·rename_i h2
   simp only[Option.isSome_none,Bool.or_eq_false_iff,Bool.and_eq_false_iff,decide_eq_false_iff_not]
   omega
theorem zyA (s:List UInt8):decide (Lat.trimS zui s=[])=s.all hxB:=by
 have:(fun c:UInt8=>Lat.inB zui c.toNat)=hxB:=funext zzp
 have h:=Lat.zos zui s
 rw[this]at h
 cases ha:s.all hxB with
 | true=>simp [h.2 ha]
 | false=>simp [h,ha]
def escV (w:List UInt8):AV:=match escp w with
 | some (r,n)=>.tuple [.int .i32 r,.int .i64 (n:Nat),.bool true]
 | none=>.tuple [.int .i32 0,.int .i64 0,.bool false]
set_option maxRecDepth 10000
section
variable {X:Cx}(hX:X.P=Go.Proofs.Tryz.prog)(hs:Std X)
include hX hs
theorem zBN (s:List UInt8)(hx:s.all hxB=true)(h0:s≠[])(hl:s.length<=6):Ev X zbC [.str s,.int .i64 16,.int .i64 32] (.tuple [.int .i64 (hxL 0 s:Nat),.nilI]):=by
 have hlen:0<s.length:=by cases s with
  | nil=>exact absurd rfl h0
  | cons=>simp
 have hm:s.getD 0 0∈s:=by
  rw[List.getD_eq_getElem?_getD,List.getElem?_eq_getElem hlen];exact List.getElem_mem hlen
 have hc:=ztS (List.all_eq_true.1 hx _ hm)
 have hlt:=ztJ s.length s (Nat.le_refl _)
 rw[List.take_length]at hlt
 have hp:16 ^ s.length<=16 ^ 6:=Nat.pow_le_pow_right (by decide) hl
 have e6:16 ^ 6=16777216:=by decide
 have n43:¬((s.getD 0 0).toNat:Int)=43:=by omega
 have n45:¬((s.getD 0 0).toNat:Int)=45:=by omega
 refine zac hs (zgO hX) 0 ?_
 have hl1:(0:Int)<s.length:=by omega
 simp only[zeT,go_sem,Nat.reduceEqDiff,Nat.reduceAdd,Int.reduceToNat,Int.reduceLE,reduceCtorEq,h0,n43,n45]
 refine ⟨by omega,?_⟩
 refine zab (zmQ hX hs s hx h0 hl) ?_
 have k1:IntKind.u64.wrap (IntKind.i64.wrap (32-1))=31:=by decide
 have k2:IntKind.u64.wrap (1*2 ^ min 31 64)=2147483648:=by decide
 have k2':IntKind.u64.wrap (1*2 ^ min (Int.toNat 31) 64)=2147483648:=by decide
 have g1:¬(2147483648:Int)<=(hxL 0 s:Nat):=by omega
 have w1:IntKind.i64.wrap ((hxL 0 s:Nat):Int)=(hxL 0 s:Nat):=wi64 (by omega)
 simp only[go_sem,Nat.reduceEqDiff,Nat.reduceAdd,Int.reduceToNat,Int.reduceLE,Int.reduceEq,reduceCtorEq,Nat.reduceLT,k1,k2,g1,w1]
theorem zot {te:Nat}(hR:X.G 5=some [.ifc te .undef])(s:List UInt8)(hx:s.all hxB=true)(hl:s.length<=6):Ev X zbe [.str s,.int .i64 16,.int .i64 32] (if s=[] then .tuple [.int .i64 0,.ifc (sRen.t 168) .undef] else .tuple [.int .i64 (hxL 0 s:Nat),.nilI]):=by
 refine zac hs (zkp hX) 0 ?_
 simp only[zil,go_sem,Nat.reduceEqDiff,Nat.reduceAdd,reduceCtorEq]
 by_cases h0:s=[]
 ·subst h0
  refine zab (zvi hX 16 32) ?_
  simp only[go_sem,Nat.reduceEqDiff,Nat.reduceAdd,reduceCtorEq,Nat.reduceLT]
  refine zab (zug hX hR [80,97,114,115,101,73,110,116] [] 16 32 (by decide)) ?_
  simp only[go_sem,Nat.reduceEqDiff,reduceCtorEq]
  rfl
 ·refine zab (zBN hX hs s hx h0 hl) ?_
  simp only[go_sem,Nat.reduceEqDiff,Nat.reduceAdd,reduceCtorEq,Nat.reduceLT,if_neg h0]
theorem zqu {te:Nat}(hR:X.G 5=some [.ifc te .undef])(w:List UInt8)(hl:w.length<1000000):Ev X zhk [.str w] (escV w):=by
 refine zac hs (zmD hX) 0 ?_
 simp only[zk3,go_sem,Nat.reduceEqDiff,reduceCtorEq]
 refine zab (za8 hX hs w [34] hl (by decide)) ?_
 rw[zwJ]
 cases w with
 | nil =>
  simp only[go_sem,Nat.reduceEqDiff,reduceCtorEq,Nat.reduceLT]
  refine zab (za8 hX hs [] [92] (by decide) (by decide)) ?_
  rw[zwJ]
  simp only[go_sem,Nat.reduceEqDiff,reduceCtorEq,Nat.reduceLT]
  refine zab (za8 hX hs [] [110] (by decide) (by decide)) ?_
  rw[zwJ]
  simp only[go_sem,Nat.reduceEqDiff,reduceCtorEq,Nat.reduceLT]
  refine zab (za8 hX hs [] [117] (by decide) (by decide)) ?_
  rw[zwJ]
  simp only[go_sem,Nat.reduceEqDiff,reduceCtorEq,Nat.reduceLT,escV,escp]
 | cons c r =>
  have h1:decide (0<(c::r).length)=true:=by simp
  simp only[h1,List.getD_cons_zero,Bool.true_and]
  have hp:∀d:UInt8,Ev X zaG [.str (c::r),.str [d]] (.bool (decide (c=d))):=fun d=>by
   have:=za8 hX hs (c::r) [d] hl (by simp)
   rw[zwJ,h1,List.getD_cons_zero,Bool.true_and]at this
   exact this
  have hl':r.length<1000000:=by simp only[List.length_cons]at hl;omega
  by_cases c34:c=34
  ·subst c34
   have e:escV (34::r)=.tuple [.int .i32 34,.int .i64 1,.bool true]:=by
    unfold escV;rw[escp,if_pos (.inl rfl)];rfl
   rw[e]
   simp only[go_sem,Nat.reduceEqDiff,Int.reduceToNat,Int.reduceLE,reduceCtorEq]
   exact ⟨by omega,rfl⟩
  by_cases c92:c=92
  ·subst c92
   have e:escV (92::r)=.tuple [.int .i32 92,.int .i64 1,.bool true]:=by
    unfold escV;rw[escp,if_pos (.inr rfl)];rfl
   rw[e]
   simp only[go_sem,Nat.reduceEqDiff,reduceCtorEq,c34]
   refine zab (hp 92) ?_
   simp only[go_sem,Nat.reduceEqDiff,Int.reduceToNat,Int.reduceLE,reduceCtorEq]
   exact ⟨by omega,rfl⟩
  have n1:¬(c=34∨c=92):=fun e=>e.elim c34 c92
  simp only[go_sem,Nat.reduceEqDiff,reduceCtorEq,c34]
  refine zab (hp 92) ?_
  simp only[go_sem,Nat.reduceEqDiff,reduceCtorEq,c92]
  refine zab (hp 110) ?_
  by_cases c110:c=110
  ·subst c110
   have e:escV (110::r)=.tuple [.int .i32 10,.int .i64 1,.bool true]:=by
    unfold escV;rw[escp,if_neg (by decide),if_pos rfl];rfl
   rw[e]
   simp only[go_sem,Nat.reduceEqDiff,reduceCtorEq]
  simp only[go_sem,Nat.reduceEqDiff,reduceCtorEq,c110]
  refine zab (hp 117) ?_
  by_cases c117:c=117
  ·subst c117
   simp only[go_sem,Nat.reduceEqDiff,Int.reduceToNat,Int.reduceLE,reduceCtorEq]
   refine ⟨by omega,?_⟩
   rw[List.take_length]
   refine zab (zDd hX hs r 59 hl') ?_
   have e:escV (117::r)=if Lat.idx 59 r<r.length/\Lat.idx 59 r<=6/\(r.take (Lat.idx 59 r)).all hxB=true/\Lat.idx 59 r≠0/\valid (hxL 0 (r.take (Lat.idx 59 r)))=true then .tuple [.int .i32 (hxL 0 (r.take (Lat.idx 59 r)):Nat),.int .i64 ((Lat.idx 59 r+2:Nat):Int),.bool true] else .tuple [.int .i32 0,.int .i64 0,.bool false]:=by
    unfold escV
    rw[escp,if_neg (by decide),if_neg (by decide),if_neg (by decide)]
    split
    ·rename_i a b h
     split at h
     ·rename_i hc
      simp only[Option.some.injEq,Prod.mk.injEq]at h
      obtain ⟨rfl,rfl⟩:=h
      rw[if_pos hc]
     ·cases h
    ·rename_i h
     split at h
     ·cases h
     ·rename_i hc
      rw[if_neg hc]
   rw[e]
   by_cases hk:Lat.idx 59 r<r.length
   ·have hdl:(r.take (Lat.idx 59 r)).length=Lat.idx 59 r:=by rw[List.length_take];omega
    simp only[hk,if_true,decide_true,true_and]
    generalize hds:r.take (Lat.idx 59 r)=ds at *
    generalize Lat.idx 59 r=k at *
    by_cases h6:k<=6
    ·have h6':¬(6:Int)<ds.length:=by omega
     simp only[go_sem,Nat.reduceEqDiff,Nat.reduceAdd,reduceCtorEq,Nat.reduceLT,h6',h6]
     refine zab (zsr hX hs zui ds (by decide) (by decide) (by decide) (by omega)) ?_
     have ht:=zyA ds
     cases hx:ds.all hxB with
     | false =>
      rw[hx,decide_eq_false_iff_not]at ht
      simp only[go_sem,Nat.reduceEqDiff,reduceCtorEq,ht]
      simp
     | true =>
      rw[hx,decide_eq_true_eq]at ht
      simp only[go_sem,Nat.reduceEqDiff,reduceCtorEq,ht]
      refine zab (zot hX hs hR ds hx (by omega)) ?_
      by_cases hd0:ds=[]
      ·have hk0:k=0:=by rw[hd0]at hdl;simpa using hdl.symm
       simp only[hd0,hk0,if_true,go_sem,Nat.reduceEqDiff,Nat.reduceAdd,reduceCtorEq,Nat.reduceLT]
       simp
      ·have hk0:k≠0:=fun e=>hd0 (List.length_eq_zero_iff.1 (by omega))
       have hlt:=ztJ ds.length ds (Nat.le_refl _)
       rw[List.take_length]at hlt
       have hp2:16 ^ ds.length<=16 ^ 6:=Nat.pow_le_pow_right (by decide) (by omega)
       have e6:16 ^ 6=16777216:=by decide
       have w32:IntKind.i32.wrap ((hxL 0 ds:Nat):Int)=(hxL 0 ds:Nat):=wi32 (by omega)
       simp only[if_neg hd0,go_sem,Nat.reduceEqDiff,Nat.reduceAdd,reduceCtorEq,Nat.reduceLT,w32]
       refine zab (zoq hX hs _) ?_
       cases hv:valid (hxL 0 ds:Nat) with
       | true =>
        simp only[go_sem,Nat.reduceEqDiff,reduceCtorEq]
        rw[if_pos hk0,w32,wi64 (by omega),hdl]
        rfl
       | false =>
        simp only[go_sem,Nat.reduceEqDiff,reduceCtorEq]
        rw[if_neg (by simp)]
    ·have h6':(6:Int)<ds.length:=by omega
     simp only[go_sem,Nat.reduceEqDiff,Nat.reduceAdd,reduceCtorEq,Nat.reduceLT,h6',h6]
     simp
   ·simp only[hk,if_false,decide_false,false_and,go_sem,Nat.reduceEqDiff,Nat.reduceAdd,reduceCtorEq,Nat.reduceLT]
  ·have e:escV (c::r)=.tuple [.int .i32 0,.int .i64 0,.bool false]:=by
    unfold escV;rw[escp,if_neg n1,if_neg c110,if_pos c117]
   rw[e]
   simp only[go_sem,Nat.reduceEqDiff,reduceCtorEq,c117]
end
end Go.Avm
