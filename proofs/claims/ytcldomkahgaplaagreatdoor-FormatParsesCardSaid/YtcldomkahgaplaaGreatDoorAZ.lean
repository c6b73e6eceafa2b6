/- Runes: Decode. -/
import Derived.Test.YtcldomkahgaplaaGreatDoorAR1
import Derived.Test.YtcldomkahgaplaaGreatDoorAR2
set_option linter.all false
namespace Go.Avm
open Go Go.Rn
set_option maxRecDepth 4000
def fb (a:Int):Int:=if a<128 then 240 else if a<194 then 241 else if a<224 then 2 else if a=224 then 19 else if a=237 then 35 else if a<240 then 3 else if a=240 then 52 else if a<244 then 4 else if a=244 then 68 else 241
def zi0:List AV:=(List.range 256).map fun i:Nat=>.int .u8 (fb i)
def zkn:List AV:=[128,191,160,191,128,159,144,191,128,143,0,0,0,0,0,0,0,0,0,0,0,0,0,0,0,0,0,0,0,0,0,0].map (AV.int .u8)
theorem zih (l:List UInt8)(i:Nat):List.drop ((bt l i).toNat*1) zi0=.int .u8 (fb (bt l i))::List.drop ((bt l i).toNat+1) zi0:=by
  have h:=zbu l i
  have:(bt l i).toNat<zi0.length:=by simp only[zi0,List.length_map,List.length_range];omega
  rw[Nat.mul_one,List.drop_eq_getElem_cons this]
  simp only[zi0,List.getElem_map,List.getElem_range]
  rw[Int.toNat_of_nonneg h.1]
set_option maxRecDepth 4000
section
variable {X:Cx}(hX:X.P=Go.Proofs.Tryz.prog)(hs:Std X)(hG0:X.G 0=some zi0)(hG1:X.G 1=some zkn)
include hX hs hG0 hG1
theorem zsV         (l : List UInt8)(p : Perm)(h0 : ¬ (l.length : Int) < 1)(c sz q a b x y : Int)(tl : List AV)(hf:fb (bt l 0)=c)(k0:¬240<=c)(k1:bits .and .u8 c 7=sz)(k2:Int.fdiv c (2 ^ min 4 8)=q)(kq:0<=q/\q<16)(k3:List.drop (q.toNat*2) zkn=.int .u8 a::.int .u8 b::tl)(k4:IntKind.i64.wrap sz=sz)(k5:2<=sz/\sz<=4)
    (hbad:l.length<sz∨bt l 1<a∨b<bt l 1∨3<=sz/\(bt l 2<128∨191<bt l 2)∨4<=sz/\(bt l 3<128∨191<bt l 3)->x=65533/\y=1)
    (h2:sz=2->2<=(l.length:Int)->a<=bt l 1->bt l 1<=b->x=bt l 0 % 32*64+bt l 1 % 64/\y=2)
    (h3:sz=3->3<=(l.length:Int)->a<=bt l 1->bt l 1<=b->128<=bt l 2->bt l 2<=191->x=bt l 0 % 16*4096+bt l 1 % 64*64+bt l 2 % 64/\y=3)
    (h4:sz=4->4<=(l.length:Int)->a<=bt l 1->bt l 1<=b->128<=bt l 2->bt l 2<=191->128<=bt l 3->bt l 3<=191->x=bt l 0 % 8*262144+bt l 1 % 64*4096+bt l 2 % 64*64+bt l 3 % 64/\y=4) :
    Ev X zaY [lst u8 p l] (.tuple [.int .i32 x,.int .i64 y]):=by
  have b0:=zbu l 0;have b1:=zbu l 1;have b2:=zbu l 2;have b3:=zbu l 3
  have n31:∀z:Int,0<=z/\z<256->IntKind.i32.wrap (bits .and .u8 z 31)=z % 32:=fun z hz=>by rw[u8_and31 z hz.1 hz.2,wi32 (by omega)]
  have n15:∀z:Int,0<=z/\z<256->IntKind.i32.wrap (bits .and .u8 z 15)=z % 16:=fun z hz=>by rw[u8_and15 z hz.1 hz.2,wi32 (by omega)]
  have n7:∀z:Int,0<=z/\z<256->IntKind.i32.wrap (bits .and .u8 z 7)=z % 8:=fun z hz=>by rw[u8_and7 z hz.1 hz.2,wi32 (by omega)]
  have n63:∀z:Int,0<=z/\z<256->IntKind.i32.wrap (bits .and .u8 z 63)=z % 64:=fun z hz=>by rw[u8_and63 z hz.1 hz.2,wi32 (by omega)]
  have s6 : ∀ z : Int, 0 ≤ z ∧ z < 64 → IntKind.i32.wrap (z * 2 ^ min 6 32) = z * 64 := fun z hz => wi32 (by have:(2:Int) ^ min 6 32=64:=by decide
                                                                                                             rw[this];omega)
  have s12 : ∀ z : Int, 0 ≤ z ∧ z < 64 → IntKind.i32.wrap (z * 2 ^ min 12 32) = z * 4096 := fun z hz => wi32 (by have:(2:Int) ^ min 12 32=4096:=by decide
                                                                                                                 rw[this];omega)
  have s18 : ∀ z : Int, 0 ≤ z ∧ z < 64 → IntKind.i32.wrap (z * 2 ^ min 18 32) = z * 262144 := fun z hz => wi32 (by have:(2:Int) ^ min 18 32=262144:=by decide
                                                                                                                   rw[this];omega)
  refine zac hs (za2 hX) 0 ?_
  have hc:∀x y z w:AV,setCells [x,y] 0 [z,w]=[z,w]:=fun _ _ _ _=>rfl
  have sB:∀k n,zah (.int k n)=true:=fun _ _=>rfl
  simp only[zaZ,go_sem,Nat.reduceEqDiff,Nat.reduceAdd,Int.reduceToNat,Int.reduceLE,reduceCtorEq,Nat.reduceLT,Nat.reduceLeDiff,hG0,hG1,zih,zgU,hf,k0,k1,k2,k3,kq.1,kq.2,k4,hc,sB,IntKind.bits,h0,n31 _ b0,n15 _ b0,n7 _ b0,n63 _ b1,n63 _ b2,n63 _ b3,AV.tuple.injEq,List.cons.injEq,AV.int.injEq]
  rw[s6 _ (by omega),s12 _ (by omega),s6 (bt l 1 % 64) (by omega),s18 _ (by omega),s12 (bt l 1 % 64) (by omega),s6 (bt l 2 % 64) (by omega)]
  rw [i32_or6 (x:=bt l 0 % 32*64) (y:=bt l 1 % 64) (by omega) (by omega) (by omega) (by omega) (by omega),i32_or12 (x:=bt l 0 % 16*4096) (y:=bt l 1 % 64*64) (by omega) (by omega) (by omega) (by omega) (by omega),
    i32_or6 (x:=bt l 0 % 16*4096+bt l 1 % 64*64) (y:=bt l 2 % 64) (by omega) (by omega) (by omega) (by omega) (by omega),
    i32_or18 (x:=bt l 0 % 8*262144) (y:=bt l 1 % 64*4096) (by omega) (by omega) (by omega) (by omega) (by omega),i32_or12 (x:=bt l 0 % 8*262144+bt l 1 % 64*4096) (y:=bt l 2 % 64*64) (by omega) (by omega) (by omega) (by omega) (by omega),
    i32_or6 (x:=bt l 0 % 8*262144+bt l 1 % 64*4096+bt l 2 % 64*64) (y:=bt l 3 % 64) (by omega) (by omega) (by omega) (by omega) (by omega)]
  clear s6 s12 s18 n31 n15 n7 n63 hf k1 k2 k3 k4 hc sB hX hs hG0 hG1
  have B:=fun h=>(⟨(hbad h).1.symm,(hbad h).2.symm⟩:65533=x/\1=y)
  have B2:=fun a b c d=>(⟨(h2 a b c d).1.symm,(h2 a b c d).2.symm⟩:_=x/\2=y)
  have B3:=fun a b c d e f=>(⟨(h3 a b c d e f).1.symm,(h3 a b c d e f).2.symm⟩:_=x/\3=y)
  have B4:=fun a b c d e f g h=>(⟨(h4 a b c d e f g h).1.symm,(h4 a b c d e f g h).2.symm⟩:_=x/\4=y)
  clear hbad h2 h3 h4
  generalize (l.length:Int)=n at *
  generalize bt l 0=d0 at *
  generalize bt l 1=d1 at *
  generalize bt l 2=d2 at *
  generalize bt l 3=d3 at *
  refine ⟨by omega,b0,fun c1=>B (.inl c1),fun c1=>⟨by clear B B2 B3 B4;omega,fun c2=>B (.inr (.inl c2)),fun c2=>⟨fun c3=>B (.inr (.inr (.inl c3))),fun c3=>⟨fun c4=>B2 ?_ ?_ ?_ ?_,fun c4=>⟨by clear B B2 B3 B4;omega,fun c5=>B ?_,fun c5=>⟨fun c6=>B ?_,fun c6=>⟨fun c7=>B3 ?_ ?_ ?_ ?_ ?_ ?_,fun c7=>⟨by clear B B2 B3 B4;omega,fun c8=>B ?_,fun c8=>⟨fun c9=>B ?_,fun c9=>B4 ?_ ?_ ?_ ?_ ?_ ?_ ?_ ?_⟩⟩⟩⟩⟩⟩⟩⟩⟩
  all_goals clear B B2 B3 B4
  all_goals omega
end
theorem zyo {a:Int}(h:0<=a/\a<256):bits .or .i32 (bits .andNot .i32 (IntKind.i32.wrap a) 0) 0=a:=by
  have:∀n:Fin 256,bits .or .i32 (bits .andNot .i32 (IntKind.i32.wrap ((n.val:Nat):Int)) 0) 0=((n.val:Nat):Int):=by decide +kernel
  have:=this ⟨a.toNat,by omega⟩
  simpa [Int.toNat_of_nonneg h.1] using this
theorem zya {a:Int}(h:0<=a/\a<256):bits .or .i32 (bits .andNot .i32 (IntKind.i32.wrap a) (-1)) 65533=65533:=by
  have:∀n:Fin 256,bits .or .i32 (bits .andNot .i32 (IntKind.i32.wrap ((n.val:Nat):Int)) (-1)) 65533=65533:=by decide +kernel
  have:=this ⟨a.toNat,by omega⟩
  simpa [Int.toNat_of_nonneg h.1] using this
def dvr (l:List UInt8):Int:=match dcO l with|some (r,_)=>r|none=>65533
def dvn (l:List UInt8):Int:=match dcO l with|some (_,n)=>(n:Int)|none=>if l=[] then 0 else 1
theorem ziv {l:List UInt8}{r:Int}{n:Nat}(h:dcO l=some (r,n)):r=dvr l/\(n:Int)=dvn l:=by simp [dvr,dvn,h]
theorem zso {l:List UInt8}(h:dcO l=none)(hl:l≠[]):65533=dvr l/\(1:Int)=dvn l:=by simp [dvr,dvn,h,hl]
section
variable {X:Cx}(hX:X.P=Go.Proofs.Tryz.prog)(hs:Std X)(hG0:X.G 0=some zi0)(hG1:X.G 1=some zkn)
include hX hs hG0 hG1
theorem ztK (l:List UInt8)(p:Perm):Ev X zaY [lst u8 p l] (.tuple [.int .i32 (dvr l),.int .i64 (dvn l)]):=by
  have b0:=zbu l 0;have b1:=zbu l 1;have b2:=zbu l 2;have b3:=zbu l 3
  have hd:dcO l=decI l.length (bt l 0) (bt l 1) (bt l 2) (bt l 3):=rfl
  have hL:=lohi (bt l 0)
  by_cases h0:(l.length:Int)<1
  · have:l=[]:=List.length_eq_zero_iff.1 (by omega)
    subst this
    refine zac hs (za2 hX) 0 ?_
    simp only[zaZ,go_sem,Nat.reduceEqDiff,Int.reduceLT,reduceCtorEq,lst,show dvr []=65533 from rfl,show dvn []=0 from rfl]
  have hl:l≠[]:=fun h=>h0 (by subst h;decide)
  simp only[decI,if_neg h0]at hd
  by_cases c1:bt l 0<128
  · rw[if_pos c1]at hd
    have k:fb (bt l 0)=240:=by simp only[fb];rw[if_pos c1]
    have k1:Int.fdiv (IntKind.i32.wrap (IntKind.i32.wrap 240*2 ^ min 31 32)) (2 ^ min 31 32)=0:=by decide
    have k2:bits .and .i32 65533 0=0:=by decide
    refine zac hs (za2 hX) 0 ?_
    simp only[zaZ,go_sem,Nat.reduceEqDiff,Int.reduceToNat,Int.reduceLE,reduceCtorEq,hG0,zih,zgU,k,h0,IntKind.bits,k1,k2]
    rw[zyo b0,<-(ziv hd).1,<-(ziv hd).2]
    exact ⟨by omega,b0,by omega,rfl⟩
  rw[if_neg c1]at hd
  by_cases c2:bt l 0<194∨245<=bt l 0
  · rw[if_neg (by omega),if_neg (by omega),if_neg (by omega)]at hd
    have k:fb (bt l 0)=241:=by simp only[fb];grind
    have k1:Int.fdiv (IntKind.i32.wrap (IntKind.i32.wrap 241*2 ^ min 31 32)) (2 ^ min 31 32)=-1:=by decide
    have k2:bits .and .i32 65533 (-1)=65533:=by decide
    refine zac hs (za2 hX) 0 ?_
    simp only[zaZ,go_sem,Nat.reduceEqDiff,Int.reduceToNat,Int.reduceLE,reduceCtorEq,hG0,zih,zgU,k,h0,IntKind.bits,k1,k2]
    rw[zya b0,<-(zso hd hl).1,<-(zso hd hl).2]
    exact ⟨by omega,b0,by omega,rfl⟩
  have main:∀(c sz q a b:Int) (tl:List AV),fb (bt l 0)=c->¬240<=c->bits .and .u8 c 7=sz->Int.fdiv c (2 ^ min 4 8)=q->(0<=q/\q<16)->List.drop (q.toNat*2) zkn=.int .u8 a::.int .u8 b::tl->IntKind.i64.wrap sz=sz->(2<=sz/\sz<=4)->lo (bt l 0)=a->hi (bt l 0)=b ->
      (sz=2->194<=bt l 0/\bt l 0<224)->(sz=3->224<=bt l 0/\bt l 0<240)->(sz=4->240<=bt l 0/\bt l 0<245)->Ev X zaY [lst u8 p l] (.tuple [.int .i32 (dvr l),.int .i64 (dvn l)]):=by
    intro c sz q a b tl e1 e2 e3 e4 e5 e6 e7 e8 eL eH m2 m3 m4
    refine zsV hX hs hG0 hG1 l p h0 c sz q a b _ _ tl e1 e2 e3 e4 e5 e6 e7 e8 (fun hb=>?_) (fun hz k1 k2 k3=>?_) (fun hz k1 k2 k3 k4 k5=>?_) (fun hz k1 k2 k3 k4 k5 k6 k7=>?_)
    · refine (fun h:_=_/\_=_=>⟨h.1.symm,h.2.symm⟩) (zso ?_ hl)
      rw[hd]
      clear hL e1 e2 e3 e4 e5 e6 e7 hd
      rw[eL,eH]
      subst eL eH
      rcases (by omega:sz=2∨sz=3∨sz=4) with h|h|h
      · have:=m2 h;have:=lohi (bt l 0);clear m2 m3 m4
        rw[if_neg (by omega),if_neg (by omega),if_neg (by omega)]
      · have:=m3 h;clear m2 m3 m4
        rw[if_neg (by omega),if_neg (by omega),if_neg (by omega)]
      · have:=m4 h;clear m2 m3 m4
        rw[if_neg (by omega),if_neg (by omega),if_neg (by omega)]
    · have hz':=m2 hz
      rw[if_pos (by omega)]at hd
      have:=ziv hd
      constructor
      · rw[<-this.1];omega
      · rw[<-this.2];rfl
    · have hz':=m3 hz
      rw[if_neg (by omega),if_pos (by omega)]at hd
      have:=ziv hd
      constructor
      · rw[<-this.1];omega
      · rw[<-this.2];rfl
    · have hz':=m4 hz
      rw[if_neg (by omega),if_neg (by omega),if_pos (by omega)]at hd
      have:=ziv hd
      constructor
      · rw[<-this.1];omega
      · rw[<-this.2];rfl
  by_cases h_2_0:194<=bt l 0/\bt l 0<224
  · exact main 2 2 0 128 191 _ (by simp only[fb];grind) (by omega) (by decide) (by decide) (by decide) rfl (by decide) (by decide) (by omega) (by omega) (by omega) (by omega) (by omega)
  by_cases h_19_1:bt l 0=224
  · exact main 19 3 1 160 191 _ (by simp only[fb];grind) (by omega) (by decide) (by decide) (by decide) rfl (by decide) (by decide) (by omega) (by omega) (by omega) (by omega) (by omega)
  by_cases h_35_2:bt l 0=237
  · exact main 35 3 2 128 159 _ (by simp only[fb];grind) (by omega) (by decide) (by decide) (by decide) rfl (by decide) (by decide) (by omega) (by omega) (by omega) (by omega) (by omega)
  by_cases h_3_0:225<=bt l 0/\bt l 0<240/\bt l 0≠237
  · exact main 3 3 0 128 191 _ (by simp only[fb];grind) (by omega) (by decide) (by decide) (by decide) rfl (by decide) (by decide) (by omega) (by omega) (by omega) (by omega) (by omega)
  by_cases h_52_3:bt l 0=240
  · exact main 52 4 3 144 191 _ (by simp only[fb];grind) (by omega) (by decide) (by decide) (by decide) rfl (by decide) (by decide) (by omega) (by omega) (by omega) (by omega) (by omega)
  by_cases h_68_4:bt l 0=244
  · exact main 68 4 4 128 143 _ (by simp only[fb];grind) (by omega) (by decide) (by decide) (by decide) rfl (by decide) (by decide) (by omega) (by omega) (by omega) (by omega) (by omega)
  by_cases h_4_0:241<=bt l 0/\bt l 0<244
  · exact main 4 4 0 128 191 _ (by simp only[fb];grind) (by omega) (by decide) (by decide) (by decide) rfl (by decide) (by decide) (by omega) (by omega) (by omega) (by omega) (by omega)
  omega
end
theorem zwM {l:List UInt8}(h0:¬(l.length:Int)<1)(h:bt l 0<128):dcO l=some (bt l 0,1):=by
  simp only[dcO,decI];rw[if_neg h0,if_pos h]
set_option maxRecDepth 4000
section
variable {X:Cx}(hX:X.P=Go.Proofs.Tryz.prog)(hs:Std X)(hG0:X.G 0=some zi0)(hG1:X.G 1=some zkn)
include hX hs hG0 hG1
theorem zpP (l:List UInt8)(p:Perm):Ev X zes [lst u8 p l] (.tuple [.int .i32 (dvr l),.int .i64 (dvn l)]):=by
  have b0:=zbu l 0
  refine zac hs (ziR hX) 0 ?_
  simp only[zgY,go_sem,Nat.reduceEqDiff,reduceCtorEq]
  refine zaj hs.hm (ι:=Nat) (fun i=>i=0) (fun _=>[(0,lst u8 p l),(6,lst u8 p l),(7,.int .i64 l.length),(8,.int .i64 0)]) (fun _=>[]) (fun i=>1-i) 0 ?_ fun i hi=>?_
  · simp only[go_sem,Nat.reduceEqDiff,reduceCtorEq]
  · subst hi
    simp only[zfp,go_sem,Nat.reduceBEq,Nat.reduceEqDiff,Int.reduceToNat,Int.reduceLE,reduceCtorEq,zgU]
    refine ⟨fun c1=>⟨by omega,fun c2=>?_,fun c2=>?_⟩,fun c1=>?_⟩
    · have hd:=ziv (zwM (by omega) c2)
      rw[wi32 (by omega),<-hd.1,<-hd.2];rfl
    · refine zab (ztK hX hs hG0 hG1 l .ro) ?_
      simp only[go_sem,Nat.reduceEqDiff,Nat.reduceAdd,reduceCtorEq,Nat.reduceLT]
    · refine zab (ztK hX hs hG0 hG1 l .ro) ?_
      simp only[go_sem,Nat.reduceEqDiff,Nat.reduceAdd,reduceCtorEq,Nat.reduceLT]
theorem zu0 (l:List UInt8)(p:Perm)(h0:(l.length:Int)≠0)(c sz q a b:Int)(y:Bool)(tl:List AV)(hf:fb (bt l 0)=c)(k1:bits .and .u8 c 7=sz)(k2:Int.fdiv c (2 ^ min 4 8)=q)(kq:0<=q/\q<16)(k3:List.drop (q.toNat*2) zkn=.int .u8 a::.int .u8 b::tl)(k4:IntKind.i64.wrap sz=sz)
    (hy:y=true↔(sz<=l.length∨1<(l.length:Int)/\(bt l 1<a∨b<bt l 1)∨2<(l.length:Int)/\(bt l 2<128∨191<bt l 2))) :
    Ev X zcK [lst u8 p l] (.bool y):=by
  have b0:=zbu l 0
  have hn:(0:Int)<=l.length:=by omega
  have hc:∀x y z w:AV,setCells [x,y] 0 [z,w]=[z,w]:=fun _ _ _ _=>rfl
  have sB:∀k n,zah (.int k n)=true:=fun _ _=>rfl
  refine zac hs (zlB hX) 0 ?_
  simp only[zjI,go_sem,Nat.reduceEqDiff,Nat.reduceAdd,Int.reduceToNat,Int.reduceLE,reduceCtorEq,Nat.reduceLT,Nat.reduceLeDiff,hG0,hG1,zih,zgU,hf,k1,k2,k3,kq.1,kq.2,k4,hc,sB,IntKind.bits,h0,AV.bool.injEq]
  have y1:(true=y)=(sz<=l.length∨1<(l.length:Int)/\(bt l 1<a∨b<bt l 1)∨2<(l.length:Int)/\(bt l 2<128∨191<bt l 2)):=by rw[<-hy,eq_comm (a:=true)]
  have y2:(false=y)=¬(sz<=l.length∨1<(l.length:Int)/\(bt l 1<a∨b<bt l 1)∨2<(l.length:Int)/\(bt l 2<128∨191<bt l 2)):=by rw[<-hy,eq_comm (a:=false),Bool.not_eq_true]
  simp only[y1,y2]
  clear y1 y2 hy hf k1 k2 k3 k4 kq hX hs hG0 hG1 hc sB
  generalize (l.length:Int)=n at *
  generalize bt l 0=d0 at *
  generalize bt l 1=d1 at *
  generalize bt l 2=d2 at *
  omega
theorem zsB (l:List UInt8)(h0:¬(l.length:Int)<1):Ev X zcK [lst u8 .ro l] (.bool (!more l)):=by
  have b0:=zbu l 0
  have hL:=lohi (bt l 0)
  have main:∀(c sz q a b:Int) (tl:List AV),fb (bt l 0)=c->bits .and .u8 c 7=sz->Int.fdiv c (2 ^ min 4 8)=q->(0<=q/\q<16)->List.drop (q.toNat*2) zkn=.int .u8 a::.int .u8 b::tl->IntKind.i64.wrap sz=sz->(2<=sz->lo (bt l 0)=a/\hi (bt l 0)=b) ->
      (sz=2/\194<=bt l 0/\bt l 0<224∨sz=3/\224<=bt l 0/\bt l 0<240∨sz=4/\240<=bt l 0/\bt l 0<245∨sz<=1/\(bt l 0<194∨245<=bt l 0))->Ev X zcK [lst u8 .ro l] (.bool (!more l)):=by
    intro c sz q a b tl e1 e2 e3 e4 e5 e6 e7 e8
    refine zu0 hX hs hG0 hG1 l .ro (by omega) c sz q a b _ tl e1 e2 e3 e4 e5 e6 ?_
    clear hX hs hG0 hG1 e1 e2 e3 e4 e5 e6
    simp only[more,zx2,Bool.not_eq_true',Bool.or_eq_false_iff,decide_eq_false_iff_not]
    generalize (l.length:Int)=n at *
    generalize bt l 1=d1 at *
    generalize bt l 2=d2 at *
    rcases e8 with e8|e8|e8|e8
    · have:=e7 (by omega);clear e7
      rw[this.1,this.2];omega
    · have:=e7 (by omega);clear e7
      rw[this.1,this.2];omega
    · have:=e7 (by omega);clear e7
      rw[this.1,this.2];omega
    · clear e7 hL
      omega
  by_cases h0:bt l 0<128
  · exact main 240 0 15 0 0 _ (by simp only[fb];grind) (by decide) (by decide) (by decide) rfl (by decide) (by omega) (by omega)
  by_cases h1:bt l 0<194∨245<=bt l 0
  · exact main 241 1 15 0 0 _ (by simp only[fb];grind) (by decide) (by decide) (by decide) rfl (by decide) (by omega) (by omega)
  by_cases h2:194<=bt l 0/\bt l 0<224
  · exact main 2 2 0 128 191 _ (by simp only[fb];grind) (by decide) (by decide) (by decide) rfl (by decide) (by omega) (by omega)
  by_cases h3:bt l 0=224
  · exact main 19 3 1 160 191 _ (by simp only[fb];grind) (by decide) (by decide) (by decide) rfl (by decide) (by omega) (by omega)
  by_cases h4:bt l 0=237
  · exact main 35 3 2 128 159 _ (by simp only[fb];grind) (by decide) (by decide) (by decide) rfl (by decide) (by omega) (by omega)
  by_cases h5:225<=bt l 0/\bt l 0<240/\bt l 0≠237
  · exact main 3 3 0 128 191 _ (by simp only[fb];grind) (by decide) (by decide) (by decide) rfl (by decide) (by omega) (by omega)
  by_cases h6:bt l 0=240
  · exact main 52 4 3 144 191 _ (by simp only[fb];grind) (by decide) (by decide) (by decide) rfl (by decide) (by omega) (by omega)
  by_cases h7:bt l 0=244
  · exact main 68 4 4 128 143 _ (by simp only[fb];grind) (by decide) (by decide) (by decide) rfl (by decide) (by omega) (by omega)
  by_cases h8:241<=bt l 0/\bt l 0<244
  · exact main 4 4 0 128 191 _ (by simp only[fb];grind) (by decide) (by decide) (by decide) rfl (by decide) (by omega) (by omega)
  omega
theorem zk0 (l:List UInt8)(i:Int)(hi:0<=i/\i<l.length):Ev X zfk [lst u8 .ro l,.int .i64 i] (dcv (l.drop i.toNat)):=by
  have h0:¬((l.drop i.toNat).length:Int)<1:=by rw[List.length_drop];omega
  have h1:l.drop i.toNat≠[]:=fun h=>h0 (by rw[h];decide)
  refine zac hs (zmC hX) 0 ?_
  simp only[zlY,go_sem,Nat.reduceEqDiff,Nat.reduceAdd,reduceCtorEq]
  refine ⟨fun h=>by omega,fun _=>⟨fun h=>by omega,fun _=>⟨by omega,?_⟩⟩⟩
  refine zab (zpP hX hs hG0 hG1 _ .ro) ?_
  simp only[go_sem,Nat.reduceEqDiff,Nat.reduceAdd,reduceCtorEq,Nat.reduceLT]
  cases hd:dcO (l.drop i.toNat) with
  | some x =>
    obtain ⟨r,n⟩:=x
    have hr:=zvx hd
    simp only[dvr,dvn,dcv,hd]
    refine ⟨fun c=>?_,fun c=>⟨fun c2=>?_,fun c2=>?_⟩⟩
    · rw[wi64 (by omega)]
    · rw[wi64 (by omega)]
    · exfalso
      have h4:=za4 hd
      have h5:=h4.2.2.2
      rw[zhn h4.1,c]at h5
      simp at h5
      omega
  | none =>
    simp only[dvr,dvn,dcv,hd,if_neg h1,go_sem,Int.reduceLT]
    refine ⟨by omega,?_⟩
    refine zab (zsB hX hs hG0 hG1 _ h0) ?_
    simp only[go_sem,Nat.reduceEqDiff,reduceCtorEq]
    cases more (l.drop i.toNat)<;>simp
end
theorem zE4:tab0=zi0:=by kernel_rfl
theorem zDs:tab1=zkn:=by kernel_rfl
end Go.Avm
namespace Go.Avm
open Go Go.Rn
set_option maxRecDepth 4000
section
variable {X:Cx}(hX:X.P=Go.Proofs.Tryz.prog)(hs:Std X)(hG0:X.G 0=some zi0)(hG1:X.G 1=some zkn)
include hX hs hG0 hG1
theorem zz4 (b:List UInt8):Ev X zkw [lst u8 .ro b] (.clo zjA [] [.vp [lst u8 .ro b]]):=by
 refine zac hs (zrV hX) 2 ?_
 simp only[ztT,go_sem,Nat.reduceEqDiff,reduceCtorEq]
 rfl
end
def ckN (b:List UInt8):Int:=if 8000<b.length then 0 else stop b
def ckE (b:List UInt8):Int:=if 8000<b.length then 3 else zwk b
theorem zzt {r:Int}(h:valid r=true):rlen r=(enc r).length:=by
 have:=(zbk r).1 h
 rw[zhn h]
 simp only[rlen];grind
theorem zxF {b:List UInt8}{p:Nat}(h:¬8000<(b.length:Int))(h2:stop b=p+stop (b.drop p))(h3:dcO (b.drop p)=none):(p:Int)=ckN b/\((p:Int)<b.length->(if more (b.drop p)=true then 370 else 6)=ckE b)/\(¬(p:Int)<b.length->0=ckE b):=by
 rw[zdg h3,Nat.add_zero]at h2
 have h4:¬8000<b.length:=by omega
 subst h2
 simp only[ckN,ckE,if_neg h4,zwk]
 refine ⟨trivial,fun h=>?_,fun h=>?_⟩
 ·have h5:stop b<b.length:=by omega
  simp [h5]
 ·have h5:¬stop b<b.length:=by omega
  simp [h5]
set_option maxRecDepth 4000
section
variable {X:Cx}(hX:X.P=Go.Proofs.Tryz.prog)(hs:Std X)(hG0:X.G 0=some zi0)(hG1:X.G 1=some zkn)
include hX hs hG0 hG1
theorem znU (b:List UInt8):Ev X zjo [lst u8 .ro b] (.tuple [.int .i64 (ckN b),.int .i64 (ckE b)]):=by
 refine zac hs (zph hX) 2 ?_
 simp only[znP,go_sem,Nat.reduceEqDiff,reduceCtorEq,Nat.reduceLT]
 refine ⟨fun h=>?_,fun h=>?_⟩
 ·have:8000<b.length:=by omega
  simp only[ckN,ckE,this,if_true]
 ·refine zab (zz4 hX hs hG0 hG1 b) ?_
  simp only[go_sem]
  refine zmx hs rfl (zh7 hX) fun L frc hf hL hps=>?_
  simp only[zjm,go_sem,Nat.reduceAdd]
  refine zaj hs.hm (ι:=Nat) (fun p=>p<=b.length/\stop b=p+stop (b.drop p)) (fun p=>[(0,.yv 1),(1,.vp [lst u8 .ro b]),(3,.int .i64 p)]) (fun p=>[.box [.int .i64 p],.lp L frc]) (fun p=>b.length-p) 0 ?_ fun p hp=>?_
  ·simp only[go_sem,Nat.reduceEqDiff,reduceCtorEq]
   exact Nat.zero_le _
  ·obtain ⟨p1,p2⟩:=hp
   simp only[zfV,go_sem,Nat.reduceEqDiff,reduceCtorEq]
   refine ⟨fun c=>?_,fun c=>?_⟩
   ·refine zab (zk0 hX hs hG0 hG1 b p (by omega)) ?_
    cases hd:dcO (b.drop p) with
    | none =>
     have hne:¬(if more (b.drop p)=true then (370:Int) else 6)=0:=by split<;>omega
     simp only[go_sem,Nat.reduceEqDiff,Nat.reduceAdd,reduceCtorEq,Nat.reduceLT,dcv,hd,hne]
     refine lq_n rfl ?_
     rw[hf]
     simp only[go_sem,Nat.reduceEqDiff,reduceCtorEq,Nat.reduceLT]
     refine ⟨fun c=>?_,fun c=>?_⟩
     ·refine zab (zk0 hX hs hG0 hG1 b p (by omega)) ?_
      simp only[go_sem,Nat.reduceEqDiff,Nat.reduceAdd,reduceCtorEq,Nat.reduceLT,dcv,hd]
      have hk:=zxF h p2 hd
      rw[<-hk.1,<-hk.2.1 c]
     ·have hk:=zxF h p2 hd
      rw[<-hk.1,<-hk.2.2 c]
    | some x =>
     obtain ⟨r,n⟩:=x
     have hr:=za3 hd
     rw[List.length_drop]at hr
     simp only[go_sem,Nat.reduceEqDiff,Nat.reduceAdd,reduceCtorEq,Nat.reduceLT,dcv,hd]
     refine zpQ hs.hm hL hps rfl rfl fun l=>?_
     rw[hf]
     simp only[zh3,zhO,go_sem,Nat.reduceEqDiff,reduceCtorEq]
     have hv:=za4 hd
     have hrv:=zao hv.1
     rw[wi32 (by omega)]
     refine zab (zDt (zvd hX hs r)) ?_
     simp only[go_sem,Nat.reduceEqDiff,reduceCtorEq]
     have e:IntKind.i64.wrap ((p:Int)+rlen r)=((p+n:Nat):Int):=by
      rw[zzt hv.1,<-hv.2.2.2,wi64 (by omega)];omega
     have e2:IntKind.i64.wrap ((p:Int)+n)=((p+n:Nat):Int):=by
      rw[wi64 (by omega)];omega
     rw[e,e2]
     exact ⟨p+n,by omega,⟨by omega,by rw[p2,zcL hd,List.drop_drop];omega⟩,rfl,rfl⟩
   ·have hd:dcO (b.drop p)=none:=by rw[List.drop_of_length_le (by omega)];rfl
    refine lq_n rfl ?_
    rw[hf]
    simp only[go_sem,Nat.reduceEqDiff,reduceCtorEq,Nat.reduceLT]
    refine ⟨fun c'=>absurd c' c,fun c=>?_⟩
    have hk:=zxF h p2 hd
    rw[<-hk.1,<-hk.2.2 c]
end
theorem zz5 {X:Cx}{f:Nat}{args:List AV}{p:Perm}{es:List AV}{x:AV}(h:Ev X f args (.tuple [.sl p es,x])):Ev X f args (.tuple [.sl .ro es,x]):=by
 refine zwV h fun g w v hr=>?_
 simp only[Rel,RelL]at hr⊢
 obtain ⟨vs,h1,h2⟩:=hr
 obtain ⟨v1,t1,h3,h4,h5⟩:=h2
 obtain ⟨a,cap,us,sz,k1,k2,k3,k4,_⟩:=h4
 exact ⟨vs,h1,v1,t1,h3,⟨a,cap,us,sz,k1,k2,k3,k4,trivial⟩,h5⟩
theorem zDT {b:List UInt8}(h:ckE b=0):b.length<=8000/\stop b=b.length:=by
 have h2:=zAl b
 simp only[ckE,zwk]at h
 split at h
 ·omega
 ·split at h
  ·split at h<;>omega
  ·omega
set_option maxRecDepth 4000
section
variable {X:Cx}(hX:X.P=Go.Proofs.Tryz.prog)(hs:Std X)(hG0:X.G 0=some zi0)(hG1:X.G 1=some zkn)
include hX hs hG0 hG1
theorem zxZ (b:List UInt8):Ev X ziV [lst u8 .ro b] (.tuple [lst (AV.int .i64) .ro (if ckE b=0 then zbd b else []),.int .i64 (ckE b)]):=by
 by_cases he:ckE b=0
 ·rw [if_pos he]
  obtain ⟨hl,hst⟩:=zDT he
  refine zac hs (zhU hX) 2 ?_
  simp only[ziY,go_sem,Nat.reduceEqDiff,reduceCtorEq]
  refine zab (znU hX hs hG0 hG1 b) ?_
  simp only[go_sem,Nat.reduceEqDiff,Nat.reduceAdd,reduceCtorEq,Nat.reduceLT,he]
  refine zab (zz4 hX hs hG0 hG1 b) ?_
  simp only[go_sem]
  refine zzv (zly 0 0 1 rfl rfl) ?_
  refine zmx hs rfl (zh7 hX) fun L frc hf hL hps=>?_
  simp only[zjm,go_sem,Nat.reduceAdd]
  refine zaj hs.hm (ι:=Nat×List Int) (fun s=>s.1<=b.length/\s.2.length<=s.1/\zbd b=s.2++zbd (b.drop s.1)/\stop b=s.1+stop (b.drop s.1)) (fun s=>[(0,.yv 2),(1,.vp [lst u8 .ro b]),(3,.int .i64 s.1)]) (fun s=>[.box [lst (AV.int .i64) (.tok 1 1) s.2],.tok s.2.length,.lp L frc]) (fun s=>b.length-s.1) (0,[]) ?_ fun s hp=>?_
  ·simp only[go_sem,Nat.reduceEqDiff,reduceCtorEq]
   exact ⟨by simp,rfl⟩
  ·obtain ⟨p,acc⟩:=s
   obtain ⟨p1,p2,p3,p4⟩:=hp
   simp only at p1 p2 p3 p4
   simp only[zfV,go_sem,Nat.reduceEqDiff,reduceCtorEq]
   refine ⟨fun c=>?_,fun c=>?_⟩
   ·refine zab (zk0 hX hs hG0 hG1 b p (by omega)) ?_
    cases hd:dcO (b.drop p) with
    | none =>
     exfalso
     rw[zdg hd]at p4;omega
    | some x =>
     obtain ⟨r,n⟩:=x
     have hr:=za3 hd
     rw[List.length_drop]at hr
     simp only[go_sem,Nat.reduceEqDiff,Nat.reduceAdd,reduceCtorEq,Nat.reduceLT,dcv,hd]
     refine zpQ hs.hm hL hps rfl rfl fun l=>?_
     rw[hf]
     simp only[zh9,zif,go_sem,Nat.reduceEqDiff,reduceCtorEq,Nat.reduceLT,Nat.reduceLeDiff]
     refine ⟨⟨by omega,by omega⟩,(p+n,acc++[r]),by simp only;omega,⟨by simp only;omega,by simp only[List.length_append,List.length_cons,List.length_nil];omega,?_,?_⟩,?_,by simp only[List.length_append,List.length_cons,List.length_nil,Nat.zero_add]⟩
     ·simp only[p3,zco hd,List.drop_drop,List.append_assoc,List.cons_append,List.nil_append]
     ·simp only[p4,zcL hd,List.drop_drop];omega
     ·rw[wi64 (by omega)];rfl
   ·have hd:dcO (b.drop p)=none:=by rw[List.drop_of_length_le (by omega)];rfl
    refine lq_n rfl ?_
    rw[hf]
    simp only[go_sem,Nat.reduceEqDiff,reduceCtorEq,Nat.reduceLT]
    rw[p3,zeQ hd,List.append_nil]
 ·rw[if_neg he]
  refine zz5 (p:=.ex) (es:=[]) ?_
  refine zac hs (zhU hX) 2 ?_
  simp only[ziY,go_sem,Nat.reduceEqDiff,reduceCtorEq]
  refine zab (znU hX hs hG0 hG1 b) ?_
  simp only[go_sem,Nat.reduceEqDiff,Nat.reduceAdd,reduceCtorEq,Nat.reduceLT,he]
end
set_option maxRecDepth 4000
section
variable {X:Cx}(hX:X.P=Go.Proofs.Tryz.prog)(hs:Std X)
include hX hs
theorem zlf (b:List UInt8)(hb:b.length<9223372036854775800):Ev X zjC [lst u8 .ro b] (.tuple [.int .i64 (ckN b),.int .i64 (ckE b)]):=by
 refine zac hs (zoI hX) 0 ?_
 simp only[zn9,go_sem,Nat.reduceEqDiff,reduceCtorEq]
 refine ⟨fun h=>?_,fun h=>?_⟩
 ·have:8000<b.length:=by omega
  simp only[ckN,ckE,this,if_true]
 ·refine zaj hs.hm (ι:=Nat) (fun p=>p<=b.length/\stop b=p+stop (b.drop p)) (fun p=>[(0,lst u8 .ro b),(4,.int .i64 p)]) (fun _=>[]) (fun p=>b.length-p) 0 ?_ fun p hp=>?_
  ·simp only[go_sem,Nat.reduceEqDiff,reduceCtorEq]
   exact Nat.zero_le _
  ·obtain ⟨p1,p2⟩:=hp
   simp only[zjM,go_sem,Nat.reduceEqDiff,reduceCtorEq]
   refine ⟨fun c=>?_,fun c=>?_⟩
   ·refine zab (zdX hX hs b p (by omega) hb) ?_
    cases hd:dcO (b.drop p) with
    | none =>
     have hne:¬(if more (b.drop p)=true then (370:Int) else 6)=0:=by split<;>omega
     simp only[go_sem,Nat.reduceEqDiff,Nat.reduceAdd,reduceCtorEq,Nat.reduceLT,dcv,hd,hne]
     have hk:=zxF h p2 hd
     rw[<-hk.1,<-hk.2.1 c]
    | some x =>
     obtain ⟨r,n⟩:=x
     have hr:=za3 hd
     rw[List.length_drop]at hr
     simp only[go_sem,Nat.reduceEqDiff,Nat.reduceAdd,reduceCtorEq,Nat.reduceLT,dcv,hd]
     refine ⟨p+n,by omega,⟨by omega,by rw[p2,zcL hd,List.drop_drop];omega⟩,?_⟩
     rw[wi64 (by omega)];rfl
   ·have hd:dcO (b.drop p)=none:=by rw[List.drop_of_length_le (by omega)];rfl
    have hk:=zxF h p2 hd
    rw[<-hk.1,<-hk.2.2 c]
theorem zsu (b:List UInt8)(hb:b.length<9223372036854775800):Ev X ziT [lst u8 .ro b] (.tuple [lst (AV.int .i64) .ro (if ckE b=0 then zbd b else []),.int .i64 (ckE b)]):=by
 by_cases he:ckE b=0
 ·rw [if_pos he]
  obtain ⟨hl,hst⟩:=zDT he
  refine zac hs (zhZ hX) 2 ?_
  simp only[zi9,go_sem,Nat.reduceEqDiff,reduceCtorEq]
  refine zab (zlf hX hs b hb) ?_
  simp only[go_sem,Nat.reduceEqDiff,Nat.reduceAdd,reduceCtorEq,Nat.reduceLT,he]
  refine zbj hs.hm (ι:=Nat×List Int) (fun s=>s.1<=b.length/\s.2.length<=s.1/\zbd b=s.2++zbd (b.drop s.1)/\stop b=s.1+stop (b.drop s.1)) (fun s=>[(0,lst u8 .ro b),(6,lst (AV.int .i64) (.tok 0 1) s.2),(7,.int .i64 s.1)]) (fun s=>[.tok s.2.length]) (fun s=>b.length-s.1) (0,[]) ⟨by simp,_,_,zcf 6 1 rfl,⟨by simp only[go_sem,Nat.reduceEqDiff,reduceCtorEq];rfl,rfl⟩⟩ fun s hp=>?_
  obtain ⟨p,acc⟩:=s
  obtain ⟨p1,p2,p3,p4⟩:=hp
  simp only at p1 p2 p3 p4
  simp only[zkd,go_sem,Nat.reduceEqDiff,reduceCtorEq]
  refine ⟨fun c=>?_,fun c=>?_⟩
  ·cases hd:dcO (b.drop p) with
   | none =>
    exfalso
    rw[zdg hd]at p4;omega
   | some x =>
    obtain ⟨r,n⟩:=x
    have hr:=za3 hd
    rw[List.length_drop]at hr
    refine zab (zdX hX hs b p (by omega) (by omega)) ?_
    simp only[go_sem,Nat.reduceEqDiff,Nat.reduceAdd,reduceCtorEq,Nat.reduceLT,Nat.reduceLeDiff,dcv,hd]
    refine ⟨⟨by omega,by omega⟩,(p+n,acc++[r]),by simp only;omega,⟨by simp only;omega,by simp only[List.length_append,List.length_cons,List.length_nil];omega,?_,?_⟩,?_,by simp only[List.length_append,List.length_cons,List.length_nil,Nat.zero_add]⟩
    ·simp only[p3,zco hd,List.drop_drop,List.append_assoc,List.cons_append,List.nil_append]
    ·simp only[p4,zcL hd,List.drop_drop];omega
    all_goals first|rfl|(rw[wi64 (by omega)];exact ⟨rfl,rfl⟩)
  ·have hd:dcO (b.drop p)=none:=by rw[List.drop_of_length_le (by omega)];rfl
   rw[p3,zeQ hd,List.append_nil]
 ·rw[if_neg he]
  refine zz5 (p:=.ex) (es:=[]) ?_
  refine zac hs (zhZ hX) 2 ?_
  simp only[zi9,go_sem,Nat.reduceEqDiff,reduceCtorEq]
  refine zab (zlf hX hs b hb) ?_
  simp only[go_sem,Nat.reduceEqDiff,Nat.reduceAdd,reduceCtorEq,Nat.reduceLT,he]
end
end Go.Avm
namespace Go.Avm
open Go Go.Rn
set_option maxRecDepth 4000
theorem u8_or128 {y:Int}(h₀:0<=y)(h₁:y<64):bits .or .u8 128 y=128+y:=bits_join .u8 8 (by decide) wraps_u8 6 128 y (by decide) (by decide) (by decide) h₀ h₁ (by omega)
theorem u8_or192 {y:Int}(h₀:0<=y)(h₁:y<64):bits .or .u8 192 y=192+y:=bits_join .u8 8 (by decide) wraps_u8 6 192 y (by decide) (by decide) (by decide) h₀ h₁ (by omega)
theorem u8_or224 {y:Int}(h₀:0<=y)(h₁:y<32):bits .or .u8 224 y=224+y:=bits_join .u8 8 (by decide) wraps_u8 5 224 y (by decide) (by decide) (by decide) h₀ h₁ (by omega)
theorem u8_or240 {y:Int}(h₀:0<=y)(h₁:y<16):bits .or .u8 240 y=240+y:=bits_join .u8 8 (by decide) wraps_u8 4 240 y (by decide) (by decide) (by decide) h₀ h₁ (by omega)
theorem zrQ (n:Int)(k:Nat)(hk:k<=32):n.fdiv (2 ^ min k 32)=n / 2 ^ k:=by
 have:min k 32=k:=by omega
 rw[this]
 have hp:(0:Int)<=2 ^ k:=by exact_mod_cast Nat.zero_le (2 ^ k)
 exact Int.fdiv_eq_ediv_of_nonneg n hp
def badI:List Int->Int
 | []=>-1
 | r::t=>if valid r then (if badI t<0 then -1 else badI t+1) else 0
theorem zvJ:∀l:List Int,-1<=badI l
 | []=>by simp [badI]
 | r::t=>by
  have:=zvJ t
  simp only[badI];split
  ·split<;>omega
  ·omega
theorem zvv:∀(l:List Int) (k:Nat),k<l.length->valid (l.getD k 0)=false->(∀j,j<k->valid (l.getD j 0)=true)->badI l=k
 | [],k,h,_,_=>by simp at h
 | r::t,0,_,h,_=>by
  simp only[List.getD_cons_zero]at h
  simp [badI,h]
 | r::t,k+1,h,h1,h2=>by
  have h0:=h2 0 (by omega)
  simp only[List.getD_cons_zero]at h0
  have ih:=zvv t k (by simpa using h) (by simpa using h1) (fun j hj=>by have:=h2 (j+1) (by omega);simpa using this)
  simp only[badI,h0,if_true,ih]
  rw[if_neg (by omega)];omega
theorem zib:∀(l:List Int),(∀j,j<l.length->valid (l.getD j 0)=true)->badI l=-1
 | [],_=>rfl
 | r::t,h=>by
  have h0:=h 0 (by simp)
  simp only[List.getD_cons_zero]at h0
  have ih:=zib t (fun j hj=>by have:=h (j+1) (by simpa using hj);simpa using this)
  simp only[badI,h0,if_true,ih]
  rfl
theorem zjz:∀(l:List Int),badI l<0->∀r∈l,valid r=true
 | [],_,r,h=>by simp at h
 | x :: t,hb,r,h=>by
  simp only[badI]at hb
  split at hb
  ·rename_i hx
   split at hb
   ·rcases List.mem_cons.1 h with rfl|h
    ·exact hx
    ·exact zjz t (by assumption) r h
   ·have:=zvJ t;omega
  ·omega
set_option maxRecDepth 4000
section
variable {X:Cx}(hX:X.P=Go.Proofs.Tryz.prog)(hs:Std X)
include hX hs
theorem zxK (n:Int)(hn:-9223372036854775808<=n/\n<9223372036854775808):Ev X zcP [.int .i64 n] (.bool (!valid n)):=by
 refine zac hs (zl2 hX) 0 ?_
 simp only[zjR,go_sem,Nat.reduceEqDiff,reduceCtorEq]
 refine zab (zGp hX hs n hn) ?_
 simp only[go_sem,Nat.reduceEqDiff,reduceCtorEq]
theorem zyn (i:Nat)(l:List UInt8)(n:Int)(H:Heap)(hH:H[i]?=some (.tok l.length))(hv:valid n=true)(h:¬n<128)(hl:l.length<100000) :
  EvM X zbm [lst u8 (.tok i 1) l,.int .i32 n] H fun r H'=>r=lst u8 (.tok i 1) (l++enc n)/\H'=H.set i (.tok (l.length+(enc n).length)):=by
 have hn:=zao hv
 have hvi:=(zbk n).1 hv
 have hle:=zaQ hv
 refine zaz hs (zeb hX) ?_
 have s6:=zrQ n 6 (by omega)
 have s12:=zrQ n 12 (by omega)
 have s18:=zrQ n 18 (by omega)
 have w8:∀x:Int,0<=x->bits .and .u8 (IntKind.u8.wrap x) 63=x % 64:=fun x hx=>by
  rw[w_u8,u8_and63 _ (by omega) (by omega)];omega
 have wn:=wu32 (n:=n) (by omega)
 simp only[zci,go_sem,Nat.reduceEqDiff,Nat.reduceAdd,Int.reduceToNat,Int.reduceLE,reduceCtorEq,Nat.reduceLT,s6,s12,s18,w8 n hn.1,w8 (n / 2 ^ 6) (by omega),w8 (n / 2 ^ 12) (by omega),wn]
 have key:appX H 1 1 (lst u8 (.tok i 1) l) (some ((enc n).map u8))=some (true,lst u8 (.tok i 1) (l++enc n),some (H.set i (.tok (l.length+(enc n).length)))):=by
  rw[zdU,hH]
  have a1:(l.length+(enc n).length)*1<=140737488355328:=by omega
  have a2:l.length+(enc n).length<=9223372036854775807:=by omega
  simp only[decide_true,a1,a2,Bool.true_and]
 have p6:(2:Int) ^ 6=64:=by decide
 have p12:(2:Int) ^ 12=4096:=by decide
 have p18:(2:Int) ^ 18=262144:=by decide
 rw[p6,p12,p18]
 have ee:enc n=(encI n).map zaB:=zfZ hv
 have e3:¬n<=2047->n<=65535->[AV.int .u8 (bits .or .u8 224 (IntKind.u8.wrap (n / 4096))),AV.int .u8 (bits .or .u8 128 (n / 64 % 64)),AV.int .u8 (bits .or .u8 128 (n % 64))]=(enc n).map u8:=fun c c'=>by
  rw[ee,wu8 (by omega),u8_or224 (by omega) (by omega),u8_or128 (by omega) (by omega),u8_or128 (by omega) (by omega)]
  simp (disch:=omega) only[encI,if_neg h,if_neg (show ¬n<2048 by omega),if_pos (show n<65536 by omega),List.map_cons,List.map_nil,zb4]
 refine ⟨fun c1=>?_,fun c1=>⟨fun c2=>⟨fun c3=>?_,fun c3=>absurd c2 c3⟩,fun c2=>⟨fun c3=>⟨fun c4=>?_,fun c4=>⟨fun c5=>⟨fun c6=>?_,fun c6=>?_⟩,fun c5=>?_⟩⟩,fun c3=>?_⟩⟩⟩
 ·have e:[AV.int .u8 (bits .or .u8 192 (IntKind.u8.wrap (n / 64))),AV.int .u8 (bits .or .u8 128 (n % 64))]=(enc n).map u8:=by
   rw[ee,wu8 (by omega),u8_or192 (by omega) (by omega),u8_or128 (by omega) (by omega)]
   simp (disch:=omega) only[encI,if_neg h,if_pos (show n<2048 by omega),List.map_cons,List.map_nil,zb4]
  rw[e,key]
  simp only[go_sem,Nat.reduceEqDiff,reduceCtorEq]
 ·rw[e3 c1 (by omega),key]
  simp only[go_sem,Nat.reduceEqDiff,reduceCtorEq]
 ·rw[e3 c1 c4,key]
  simp only[go_sem,Nat.reduceEqDiff,reduceCtorEq]
 ·have e:[AV.int .u8 (bits .or .u8 240 (IntKind.u8.wrap (n / 262144))),AV.int .u8 (bits .or .u8 128 (n / 4096 % 64)),AV.int .u8 (bits .or .u8 128 (n / 64 % 64)),AV.int .u8 (bits .or .u8 128 (n % 64))]=(enc n).map u8:=by
   rw[ee,wu8 (by omega),u8_or240 (by omega) (by omega),u8_or128 (by omega) (by omega),u8_or128 (by omega) (by omega),u8_or128 (by omega) (by omega)]
   simp (disch:=omega) only[encI,if_neg h,if_neg (show ¬n<2048 by omega),if_neg (show ¬n<65536 by omega),List.map_cons,List.map_nil,zb4]
  rw[e,key]
  simp only[go_sem,Nat.reduceEqDiff,reduceCtorEq]
 all_goals exfalso;omega
theorem zn4 (i:Nat)(l:List UInt8)(n:Int)(H:Heap)(hH:H[i]?=some (.tok l.length))(hv:valid n=true)(hl:l.length<100000) :
  EvM X zem [lst u8 (.tok i 1) l,.int .i32 n] H fun r H'=>r=lst u8 (.tok i 1) (l++enc n)/\H'=H.set i (.tok (l.length+(enc n).length)):=by
 have hn:=zao hv
 have wn:=wu32 (n:=n) (by omega)
 refine zaz hs (zje hX) ?_
 simp only[zgQ,go_sem,Nat.reduceEqDiff,Nat.reduceAdd,reduceCtorEq,Nat.reduceLT,wn]
 refine ⟨fun c=>?_,fun c=>?_⟩
 ·have e:[AV.int .u8 (IntKind.u8.wrap n)]=(enc n).map u8:=by
   rw[zfZ hv,wu8 (by omega)]
   simp (disch:=omega) only[encI,if_pos (show n<128 by omega),List.map_cons,List.map_nil,zb4]
  have hle:=zaQ hv
  rw[e,zdU,hH]
  have a1:(l.length+(enc n).length)*1<=140737488355328:=by omega
  have a2:l.length+(enc n).length<=9223372036854775807:=by omega
  simp only[go_sem,Nat.reduceEqDiff,reduceCtorEq,a1,a2]
 ·refine zae (zyn hX hs i l n H hH hv (by omega) hl) ?_
  rintro r H' ⟨rfl,rfl⟩
  simp only[go_sem,Nat.reduceEqDiff,reduceCtorEq]
theorem zgo (l:List Int)(hl:∀r∈l,-9223372036854775808<=r/\r<9223372036854775808)(hlen:l.length<9223372036854775807):Ev X zas [lst (AV.int .i64) .ro l,.clo zcP [] []] (.int .i64 (badI l)):=by
 refine zac hs (zbh hX) 0 ?_
 simp only[zaT,go_sem,Nat.reduceEqDiff,Nat.reduceAdd,reduceCtorEq]
 refine zaj hs.hm (ι:=Nat) (fun k=>k<=l.length/\∀j,j<k->valid (l.getD j 0)=true) (fun k=>[(0,lst (AV.int .i64) .ro l),(1,.clo zcP [] []),(6,lst (AV.int .i64) .ro l),(7,.int .i64 l.length),(8,.int .i64 k)]) (fun _=>[]) (fun k=>l.length-k) 0 ?_ fun k hk=>?_
 ·simp only[go_sem,Nat.reduceEqDiff,reduceCtorEq]
  exact ⟨Nat.zero_le _,fun j hj=>by omega⟩
 ·obtain ⟨k1,k2⟩:=hk
  simp only[zaM,go_sem,Nat.reduceEqDiff,reduceCtorEq]
  refine ⟨fun c=>⟨by omega,?_⟩,fun c=>?_⟩
  ·have hk':k<l.length:=by omega
   have hm:l.getD k default∈l:=by simp [List.getD,hk']
   refine zab (zxK hX hs _ (hl _ hm)) ?_
   cases hv:valid (l.getD k default) with
   | true =>
    simp only[go_sem,Nat.reduceEqDiff,reduceCtorEq]
    refine ⟨k+1,by omega,⟨by omega,fun j hj=>?_⟩,by rw[wi64 (by omega)];rfl⟩
    rcases (by omega:j=k∨j<k) with rfl|h
    ·exact hv
    ·exact k2 j h
   | false =>
    simp only[go_sem,Nat.reduceEqDiff,reduceCtorEq]
    rw[zvv l k hk' hv k2]
  ·rw[zib l fun j hj=>k2 j (by omega)]
end
theorem zFq {X:Cx}{f:Nat}{args:List AV}{p:Perm}{es xs:List AV}(h:Ev X f args (.tuple (.sl p es::xs))):Ev X f args (.tuple (.sl .ro es::xs)):=by
 refine zwV h fun g w v hr=>?_
 simp only[Rel,RelL]at hr⊢
 obtain ⟨vs,h1,h2⟩:=hr
 obtain ⟨v1,t1,h3,h4,h5⟩:=h2
 obtain ⟨a,cap,us,sz,k1,k2,k3,k4,_⟩:=h4
 exact ⟨vs,h1,v1,t1,h3,⟨a,cap,us,sz,k1,k2,k3,k4,trivial⟩,h5⟩
def zbE (l:List Int):List UInt8:=(l.map enc).flatten
def byB (l:List Int):List UInt8:=if badI l<0/\(zbE l).length<=8000 then zbE l else []
def byA (l:List Int):Int:=if badI l<0 then 0 else badI l
def byE (l:List Int):Int:=if badI l<0 then (if (zbE l).length<=8000 then 0 else 3) else 7
theorem zio (l:List Int)(k:Nat)(h:k<l.length):zbE (l.take (k+1))=zbE (l.take k)++enc (l.getD k default):=by
 simp only[zbE]
 rw[List.take_succ_eq_append_getElem h,List.map_append,List.flatten_append]
 simp [List.getD,h]
theorem zp5 (l:List Int)(k:Nat):(zbE (l.take k)).length<=(zbE l).length:=by
 have:zbE l=zbE (l.take k)++zbE (l.drop k):=by
  simp only[zbE,<-List.flatten_append,<-List.map_append,List.take_append_drop]
 rw[this,List.length_append];omega
theorem zFY {l:List Int}(h:¬badI l<0):byB l=[]/\byA l=badI l/\byE l=7:=by simp [byB,byA,byE,h]
theorem zB1 {l:List Int}(h:badI l<0)(h2:¬(zbE l).length<=8000):byB l=[]/\byA l=0/\byE l=3:=by
 refine ⟨?_,?_,?_⟩
 ·simp only[byB];rw[if_neg (by omega)]
 ·simp only[byA];rw[if_pos h]
 ·simp only[byE];rw[if_pos h,if_neg h2]
theorem zEB {l:List Int}(h:badI l<0)(h2:(zbE l).length<=8000):byB l=zbE l/\byA l=0/\byE l=0:=by
 refine ⟨?_,?_,?_⟩
 ·simp only[byB];rw[if_pos ⟨h,h2⟩]
 ·simp only[byA];rw[if_pos h]
 ·simp only[byE];rw[if_pos h,if_pos h2]
set_option maxRecDepth 4000
section
variable {X:Cx}(hX:X.P=Go.Proofs.Tryz.prog)(hs:Std X)
include hX hs
theorem zyk (l:List Int)(hl:∀r∈l,-9223372036854775808<=r/\r<9223372036854775808)(hlen:l.length<9223372036854775807):Ev X ziE [lst (AV.int .i64) .ro l] (.tuple [lst u8 .ro (byB l),.int .i64 (byA l),.int .i64 (byE l)]):=by
 by_cases hb:badI l<0
 ·have hval:=zjz l hb
  by_cases h8:(zbE l).length<=8000
  ·have hk:=zEB hb h8
   rw[hk.1,hk.2.1,hk.2.2]
   refine zac hs (zfi hX) 2 ?_
   simp only[zgD,go_sem,Nat.reduceEqDiff,reduceCtorEq]
   refine zab (zgo hX hs l hl hlen) ?_
   simp only[go_sem,Nat.reduceEqDiff,reduceCtorEq,(show ¬0<=badI l by omega)]
   refine zbj hs.hm (ι:=Nat) (fun k=>k<=l.length) (fun k=>[(2,lst u8 (.tok 0 1) (zbE (l.take k))),(13,lst (AV.int .i64) .ro l),(14,.int .i64 l.length),(15,.int .i64 k)]) (fun k=>[.tok (zbE (l.take k)).length]) (fun k=>l.length-k) 0 ⟨Nat.zero_le _,_,_,zcf 2 1 rfl,⟨by simp only[go_sem,Nat.reduceEqDiff,reduceCtorEq];rfl,rfl⟩⟩ fun k hk=>?_
   simp only[zfD,go_sem,Nat.reduceEqDiff]
   refine ⟨fun c=>⟨by omega,?_⟩,fun c=>?_⟩
   ·have hk':k<l.length:=by omega
    have hm:l.getD k default∈l:=by simp [List.getD,hk']
    have hv:=hval _ hm
    have hr:=zao hv
    have hf:=zio l k hk'
    have hfl:=zp5 l (k+1)
    have hfl2:=zp5 l k
    rw[wi32 (by omega)]
    refine zae (zn4 hX hs 0 _ _ _ rfl hv (by omega)) ?_
    rintro r H' ⟨rfl,rfl⟩
    rw[show zbE (l.take k)++enc (l.getD k default)=zbE (l.take (k+1)) from hf.symm]
    simp only[go_sem,Nat.reduceEqDiff]
    refine ⟨fun c2=>by omega,fun c2=>⟨k+1,by omega,by omega,⟨rfl,by rw[wi64 (by omega)];rfl⟩,?_⟩⟩
    rw[hf,List.length_append]
   ·rw[List.take_of_length_le (by omega)]
  ·have hk:=zB1 hb h8
   rw[hk.1,hk.2.1,hk.2.2]
   refine zFq (p:=.ex) (es:=[]) ?_
   refine zac hs (zfi hX) 2 ?_
   simp only[zgD,go_sem,Nat.reduceEqDiff,reduceCtorEq]
   refine zab (zgo hX hs l hl hlen) ?_
   simp only[go_sem,Nat.reduceEqDiff,reduceCtorEq,(show ¬0<=badI l by omega)]
   refine zbj hs.hm (ι:=Nat) (fun k=>k<=l.length/\(zbE (l.take k)).length<=8000) (fun k=>[(2,lst u8 (.tok 0 1) (zbE (l.take k))),(13,lst (AV.int .i64) .ro l),(14,.int .i64 l.length),(15,.int .i64 k)]) (fun k=>[.tok (zbE (l.take k)).length]) (fun k=>l.length-k) 0 ⟨⟨Nat.zero_le _,by simp [zbE]⟩,_,_,zcf 2 1 rfl,⟨by simp only[go_sem,Nat.reduceEqDiff,reduceCtorEq];rfl,rfl⟩⟩ fun k hk=>?_
   obtain ⟨hk1,hk2⟩:=hk
   simp only[zfD,go_sem,Nat.reduceEqDiff]
   refine ⟨fun c=>⟨by omega,?_⟩,fun c=>?_⟩
   ·have hk':k<l.length:=by omega
    have hm:l.getD k default∈l:=by simp [List.getD,hk']
    have hv:=hval _ hm
    have hr:=zao hv
    have hf:=zio l k hk'
    rw[wi32 (by omega)]
    refine zae (zn4 hX hs 0 _ _ _ rfl hv (by omega)) ?_
    rintro r H' ⟨rfl,rfl⟩
    rw[show zbE (l.take k)++enc (l.getD k default)=zbE (l.take (k+1)) from hf.symm]
    simp only[go_sem,Nat.reduceEqDiff]
    refine fun c2=>⟨k+1,by omega,⟨by omega,by omega⟩,⟨rfl,by rw[wi64 (by omega)];rfl⟩,?_⟩
    rw[hf,List.length_append]
   ·rw[List.take_of_length_le (by omega)]at hk2;omega
 ·have hk:=zFY hb
  rw[hk.1,hk.2.1,hk.2.2]
  refine zFq (p:=.ex) (es:=[]) ?_
  refine zac hs (zfi hX) 2 ?_
  simp only[zgD,go_sem,Nat.reduceEqDiff,reduceCtorEq]
  refine zab (zgo hX hs l hl hlen) ?_
  simp only[go_sem,Nat.reduceEqDiff,reduceCtorEq,(show 0<=badI l by omega)]
end
end Go.Avm
