/- FieldsFunc at blanks. -/
import Derived.Test.YtcldomkahgaplaaGreatDoorAV2
import Derived.Test.YtcldomkahgaplaaGreatDoorAV1
import Derived.Test.YtcldomkahgaplaaGreatDoorA9
import Derived.Test.YtcldomkahgaplaaGreatDoorM2
import Derived.Shelf.Strings.FieldsFuncAny
import Derived.Deep.QuietTactic
import Derived.BigQuiet
import Derived.WalkKit
import Derived.Test.YtcldomkahgaplaaGreatDoorAK1
import Derived.Test.YtcldomkahgaplaaGreatDoorA8
set_option linter.all false
namespace Go.Avm
open Go Go.Proofs Go.Shelf Go.RowKit
theorem zG6:Lays.n229 Go.Proofs.Tryz.prog sRen:=by
 constructor<;>first|kernel_rfl|(intro w;kernel_rfl)|(constructor<;>first|kernel_rfl|(intro w;kernel_rfl)|(constructor<;>first|kernel_rfl|(intro w;kernel_rfl)))
theorem zEQ (W:World)(x:Int):Calls Tryz.prog 79 #[.int .i32 x] W fun e w'=>e=.returned (.bool (decide (x=32)))/\∃q,w'=W.drewN q:=by
 go_enter Tryz.func79,Tryz.ntmps79
 go_wp2
 go_ret
 exact ⟨rfl,0,rfl⟩
section
variable {X:Cx}(hX:X.P=Go.Proofs.Tryz.prog)
include hX
theorem zok (s:List UInt8)(hl:s.length<1000000):Ev X zfO [.str s,.clo znL [] []] (lst AV.str .ro ((Lib.goFieldsP (fun r=>decide (r=32)) ⟨s.toArray⟩).map fun x=>x.data.toList)):=by
 refine zFi (xs:=Lib.goFieldsP (fun r=>decide (r=32)) ⟨s.toArray⟩) ⟨Go.Proofs.Tryz.f78,by rw[hX];exact Go.Proofs.Tryz.func78,by decide,by kernel_rfl⟩ ?_ fun g w vs hwf hvs=>?_
 ·have h:=congrArg List.length (Go.Fm.zw8 s)
  rw[List.length_map]at h
  have:=Go.Fm.zo2 s
  omega
 ·simp only[RelL,Rel]at hvs
  obtain ⟨v1,r1,rfl,⟨b,rfl,h2⟩,v2,r2,rfl,⟨us,ws,rfl,rfl,rfl⟩,rfl⟩:=hvs
  rw[hX]
  have hb:b=⟨s.toArray⟩:=by
   cases b with
   | mk d=>congr 1;rw[<-h2]
  subst hb
  refine (Any.strings_FieldsFunc_runes zG6 79 #[] (enters_of Tryz.func79 (by kernel_rfl) rfl) (fun r=>decide (r=32)) ⟨s.toArray⟩ w ?_ (fun W x hx hB=>?_) (by kernel_rfl) (by kernel_rfl)).mono ?_
  ·show s.toArray.size<=_
   rw[List.size_toArray]
   omega
  ·unfold FnGives
   have:=zEQ W (x:Int)
   rw[show decide ((x:Int)=32)=decide (x=32) by rw[Bool.eq_iff_iff,decide_eq_true_eq,decide_eq_true_eq];omega]at this
   exact this
  ·rintro e w' ⟨A,rfl,hA,hO,hB⟩
   exact ⟨A,_,rfl,hA,hO,hB⟩
end
end Go.Avm
namespace Go.Avm
open Go Go.Tb
theorem zaE {X:Cx}{f:Nat}{args:List AV}{r:AV}(h:EvK X f args [] r):Ev X f args r:=h.evF
theorem def0:(default:Int)=0:=id rfl
section
variable {α:Type}(H:List α)(a b c d x y:α)(K r:List α)
theorem p0g:(H++a::K)[H.length]?=some a:=by simp
theorem p1g:(H++a::b::K)[H.length+1]?=some b:=by
 rw[List.getElem?_append_right (by omega),show H.length+1-H.length=1 by omega];rfl
theorem p0s:(H++a::K).set H.length x=H++x::K:=by
 rw[List.set_append_right _ _ (by omega),Nat.sub_self];rfl
theorem p1l:(H++[a]).length=H.length+1:=by simp
end
theorem zsb {H:Heap}{i:Nat}{b:Blk}(h:H[i]?=some b)(K:Heap):(H++K)[i]?=some b:=by
 rw[List.getElem?_append_left (List.getElem?_eq_some_iff.1 h).1];exact h
end Go.Avm
namespace Go.Avm
open Go Go.Fm
set_option maxRecDepth 10000
def colV (c:Col):AV:=.agg [lst AV.str .ro c.c,.int .i64 (c.w:Nat),.clo (if c.r then zc9 else zeR) [] []]
section
variable {X:Cx}(hX:X.P=Go.Proofs.Tryz.prog)(hs:Std X)(hP:X.G (sRen.g 17)=some tabQ)
include hX hs
theorem zrk (s:List UInt8)(w:Int)(hw:0<=w/\w<=1000000)(hl:s.length<=1000000):Ev X zfj [.str s,.int .i64 w] (.str (blk (w.toNat-s.length))):=by
 refine zac hs (zmW hX) 0 ?_
 simp only[zk2,go_sem,Nat.reduceEqDiff,Nat.reduceAdd,reduceCtorEq]
 rw[wi64 (by omega)]
 have e:(if w-(s.length:Int)<0 then 0 else w-(s.length:Int))=((w.toNat-s.length:Nat):Int):=by split<;>omega
 refine zab (r:=.str (blk (w.toNat-s.length))) ?_ ?_
 ·rw[blk,<-znR,e]
  exact zqQ hX [32] _ (by omega) (by simp only[List.length_singleton];omega)
 ·simp only[go_sem,Nat.reduceEqDiff,reduceCtorEq]
theorem zBB (s:List UInt8)(w:Int)(hw:0<=w/\w<=1000000)(hl:s.length<=1000000):Ev X zeR [.str s,.int .i64 w] (.str (s++blk (w.toNat-s.length))):=by
 refine zac hs (zq4 hX) 0 ?_
 simp only[zqZ,go_sem,Nat.reduceEqDiff,Nat.reduceAdd,reduceCtorEq]
 refine zab (zrk hX hs s w hw hl) ?_
 simp only[go_sem,Nat.reduceEqDiff,reduceCtorEq]
 rw[blk,List.length_replicate]
 omega
theorem zxG (s:List UInt8)(w:Int)(hw:0<=w/\w<=1000000)(hl:s.length<=1000000):Ev X zc9 [.str s,.int .i64 w] (.str (blk (w.toNat-s.length)++s)):=by
 refine zac hs (zpf hX) 0 ?_
 simp only[znA,go_sem,Nat.reduceEqDiff,Nat.reduceAdd,reduceCtorEq]
 refine zab (zrk hX hs s w hw hl) ?_
 simp only[go_sem,Nat.reduceEqDiff,reduceCtorEq]
 rw[blk,List.length_replicate]
 omega
include hP
theorem zCu (k v:Int)(hv:-9223372036854775808<=v/\v<=9223372036854775807):Ev X zl1 [.int .i64 k,.int .i64 v] (.str (cellS k v)):=by
 refine zac hs (zqV hX) 0 ?_
 simp only[zqO,go_sem,Nat.reduceEqDiff,Nat.reduceAdd,reduceCtorEq]
 refine ⟨fun h=>?_,fun h=>?_⟩
 ·refine zab (zf4 hX hP v hv) ?_
  simp only[go_sem,Nat.reduceEqDiff,reduceCtorEq]
  rw[cellS,if_pos h]
 ·by_cases h3:32<=v
  ·by_cases h4:v<=126
   ·simp only[go_sem,h3,h4,zbH ⟨h3,h4⟩]
    rw[cellS,if_neg h,if_pos ⟨h3,h4⟩]
   ·simp only[go_sem,h3,h4]
    rw[cellS,if_neg h,if_neg (fun c=>h4 c.2)]
  ·simp only[go_sem,h3]
   rw[cellS,if_neg h,if_neg (fun c=>h3 c.1)]
theorem zy8 {Q:Exit->Fr->Heap->Prop}{F:FL}{C:AV}(k:Int)(l:List Int)(n:Nat)(hv:∀v∈l,-9223372036854775808<=v/\v<=9223372036854775807)(hl:l.length<1000000)(hn:n<=1000)
  (hF:FL.has F.get [(18,.int .i64 0),(17,.int .i64 l.length),(16,lst (AV.int .i64) .ro l),(0,.int .i64 k),(6,.ptr 1 0),(7,.ptr 2 0)])
  (hQ:∀F':FL,FL.has F'.get [(6,.ptr 1 0),(7,.ptr 2 0)]->Q (.exit 0) F'.get [.dead,.box [.sl .ex [],.int .i64 0,.nilF],.box [lst AV.str (.tok 3 1) (l.map (cellS k)),.int .i64 (wid k l n:Nat),C],.tok l.length]) :
  wpc X 39 (.loop zcw) Q F.get [.dead,.box [.sl .ex [],.int .i64 0,.nilF],.box [.sl .ex [],.int .i64 (n:Nat),C]]:=by
 refine zbj hs.hm (ι:=Nat) (fun i=>i<=l.length) (fun i=>[(18,.int .i64 i),(17,.int .i64 l.length),(16,lst (AV.int .i64) .ro l),(0,.int .i64 k),(6,.ptr 1 0),(7,.ptr 2 0)]) (fun i=>[.dead,.box [.sl .ex [],.int .i64 0,.nilF],.box [lst AV.str (.tok 3 1) ((l.take i).map (cellS k)),.int .i64 (wid k (l.take i) n:Nat),C],.tok i]) (fun i=>l.length-i) 0 ⟨Nat.zero_le _,_,_,zly 2 0 1 rfl rfl,?_⟩ fun i hi=>?_
 ·exact ⟨hF,rfl⟩
 have hwl:=zzW (k:=k) (l:=l.take i) (n:=n) (m:=1000) (fun v h=>hv v (List.mem_of_mem_take h)) hn (by decide)
 by_cases hi':i<l.length
 ·have h1:(i:Int)<l.length:=by omega
  have hw:IntKind.i64.wrap ((i:Int)+1)=((i+1:Nat):Int):=by rw[wi64 (by omega)];omega
  have hr:=hv (l.getD i 0) (by rw[List.getD_eq_getElem?_getD,List.getElem?_eq_getElem hi'];exact List.getElem_mem _)
  have hlt:(l.take i).length=i:=by rw[List.length_take];omega
  have e:(l.take i).map (cellS k)++[cellS k (l.getD i 0)]=(l.take (i+1)).map (cellS k):=by
   rw[List.take_succ_eq_append_getElem hi',List.map_append,List.getD_eq_getElem?_getD,List.getElem?_eq_getElem hi']
   rfl
  have ew:=zyu (k:=k) (n:=n) hi'
  have hcl:=zhV (k:=k) hr
  simp only[zcw,go_sem,Nat.reduceEqDiff,reduceCtorEq,h1,def0]
  refine ⟨by omega,zab (zCu hX hs hP k _ hr) ?_⟩
  simp only[go_sem,Nat.reduceMod,Nat.reduceBNe,Nat.reduceEqDiff,Nat.reduceAdd,reduceCtorEq,Nat.reduceLT,Nat.reduceLeDiff,app1,List.length_map,hlt,e]
  refine ⟨⟨by omega,by omega⟩,i+1,by omega,hi',by rw[hw],?_⟩
  rw[ew,show (if ((wid k (l.take i) n:Nat):Int)<((cellS k (l.getD i 0)).length:Nat) then (((cellS k (l.getD i 0)).length:Nat):Int) else (wid k (l.take i) n:Nat))=((max (wid k (l.take i) n) (cellS k (l.getD i 0)).length:Nat):Int) by split<;>omega]
 ·have h1:¬(i:Int)<l.length:=by omega
  simp only[zcw,go_sem,Nat.reduceEqDiff,reduceCtorEq,h1]
  have:=hQ
  rw[List.take_of_length_le (by omega),show i=l.length by omega]
  exact hQ _ ⟨rfl,rfl,trivial⟩
theorem ziz (k:Int)(l:List Int)(n:Nat)(hv:∀v∈l,-9223372036854775808<=v/\v<=9223372036854775807)(hl:l.length<1000000)(hn:n<=1000) :
  Ev X zcT [.int .i64 k,lst (AV.int .i64) .ro l,.int .i64 (n:Nat)] (colV (stk k l n)):=by
 refine zaE (zsw hs (zmt hX) ?_)
 simp only[zkh,go_sem,Nat.reduceEqDiff,Nat.reduceAdd,reduceCtorEq,Nat.reduceLeDiff]
 refine ⟨fun h=>?_,fun h=>?_⟩
 all_goals
  refine zy8 hX hs hP k l n hv hl hn ⟨rfl,rfl,rfl,rfl,rfl,rfl,trivial⟩ fun F' hF'=>?_
  obtain ⟨f1,f2,_⟩:=hF'
  simp only[go_sem,Nat.reduceEqDiff,Nat.reduceAdd,f1,f2]
  first|exact ⟨⟨_,rfl⟩,by rw[colV,stk,if_pos (decide_eq_true h)];rfl⟩|exact ⟨⟨_,rfl⟩,by rw[colV,stk,if_neg (by simpa using h)];rfl⟩
end
end Go.Avm
namespace Go.Avm
open Go Go.Fm
set_option maxRecDepth 10000
section
variable {X:Cx}(hX:X.P=Go.Proofs.Tryz.prog)(hs:Std X)(hP:X.G (sRen.g 17)=some tabQ)
include hX hs hP
theorem ziH (l:List Int)(hv:∀v∈l,-9223372036854775808<=v/\v<=9223372036854775807)(hl:l.length<1000000) :
  Ev X zd4 [lst (AV.int .i64) .ro l] (.str (nums l)):=by
 refine zac hs (zlm hX) 0 ?_
 simp only[zj2,go_sem,Nat.reduceEqDiff,reduceCtorEq]
 have hil:∀x∈l.map Lib.itoa,x.length<=21:=fun x hx=>by
  obtain ⟨v,h1,rfl⟩:=List.mem_map.1 hx
  exact Lib.itoa_length_le v (hv v h1).1 (hv v h1).2
 have hjl:=zgC [32] 21 _ hil
 rw[List.length_map]at hjl
 refine zbj hs.hm (ι:=Nat) (fun i=>i<=l.length) (fun i=>[(8,.int .i64 i),(7,.int .i64 l.length),(6,lst (AV.int .i64) .ro l),(3,lst AV.str (.tok 0 1) ((l.take i).map Lib.itoa))]) (fun i=>[.tok i]) (fun i=>l.length-i) 0 ⟨Nat.zero_le _,_,_,zcf 3 1 rfl,?_⟩ fun i hi=>?_
 ·exact ⟨⟨rfl,rfl,rfl,rfl,trivial⟩,rfl⟩
 by_cases hi':i<l.length
 ·have h1:(i:Int)<l.length:=by omega
  have hw:IntKind.i64.wrap ((i:Int)+1)=((i+1:Nat):Int):=by rw[wi64 (by omega)];omega
  have hr:=hv (l.getD i 0) (by rw[List.getD_eq_getElem?_getD,List.getElem?_eq_getElem hi'];exact List.getElem_mem _)
  have hlt:(l.take i).length=i:=by rw[List.length_take];omega
  have e:(l.take i).map Lib.itoa++[Lib.itoa (l.getD i 0)]=(l.take (i+1)).map Lib.itoa:=by
   rw[List.take_succ_eq_append_getElem hi',List.map_append,List.getD_eq_getElem?_getD,List.getElem?_eq_getElem hi']
   rfl
  simp only[zeo,go_sem,Nat.reduceEqDiff,h1,def0]
  refine ⟨by omega,zab (zf4 hX hP _ hr) ?_⟩
  simp only[go_sem,Nat.reduceEqDiff,Nat.reduceLT,Nat.reduceLeDiff,app1,List.length_map,hlt,e]
  exact ⟨by omega,i+1,by omega,hi',⟨by rw[hw],rfl⟩,rfl⟩
 ·have h1:¬(i:Int)<l.length:=by omega
  simp only[zeo,go_sem,Nat.reduceEqDiff,h1]
  rw[List.take_of_length_le (by omega)]
  refine zab (zkz hX (l.map Lib.itoa) [32] (by rw[List.length_map];omega) (by simp only[List.length_singleton]at hjl;omega)) ?_
  simp only[go_sem,Nat.reduceEqDiff]
  rfl
end
end Go.Avm
namespace Go.Avm
open Go Go.Fm
set_option maxRecDepth 10000
instance : Elt colV 3:=⟨fun _=>rfl,fun _=>rfl,fun _=>rfl,fun a=>by obtain ⟨c,w,r⟩:=a;simp only[colV,go_sem];rfl⟩
theorem zw2 {H:Heap}{by':Nat}(i:Nat)(l:List Col)(a:Col):appX H 3 by' (lst colV (.tok i 3) l) (some [colV a])=app1 H by' i l.length (lst colV (.tok i 3) (l++[a])):=zdU (f:=colV) (m:=[a]) i
theorem zvR (a:Col):dry (colV a)=colV a:=id rfl
theorem zeS (a:Col):(colV a).cells=[lst AV.str .ro a.c,.int .i64 (a.w:Nat),.clo (if a.r then zc9 else zeR) [] []]:=id rfl
theorem zFU {X:Cx}{N:Nat}{fr:Fr}(H:Heap):∃D:Heap,(H++D).length % 2=1/\WkA X N fr H fr (H++D):=by
 rcases Nat.mod_two_eq_zero_or_one H.length with h|h
 ·exact ⟨[.dead],by rw[List.length_append,List.length_singleton];omega,zxQ⟩
 ·exact ⟨[],by rw[List.append_nil];exact h,by rw[List.append_nil];exact WkA.refl⟩
section
variable {α:Type}(H:List α)(a x y:α)(K r:List α)
theorem z1l:(H++a::K).length=H.length+1+K.length:=by simp;omega
theorem z1g:(H++a::(K++x::r))[H.length+1+K.length]?=some x:=by
 rw[List.getElem?_append_right (by omega),show H.length+1+K.length-H.length=K.length+1 by omega]
 simp
end
section
variable {X:Cx}(hX:X.P=Go.Proofs.Tryz.prog)(hs:Std X)(hP:X.G (sRen.g 17)=some tabQ)
include hX hs
theorem zpA (r:Bool)(s:List UInt8)(w:Nat)(hw:w<=1000)(hl:s.length<=1000000):Ev X (if r then zc9 else zeR) [.str s,.int .i64 (w:Nat)] (.str (padB r w s)):=by
 cases r
 ·rw[if_neg (by decide),padB,if_neg (by decide)]
  exact zBB hX hs s w (by omega) hl
 ·rw[if_pos rfl,padB,if_pos rfl]
  exact zxG hX hs s w (by omega) hl
include hP
theorem zEZ {Q:Exit->Fr->Heap->Prop}{F:FL}(k:Int)(c:List Int)(l0 l1:Nat)(gap:List UInt8)(hv:∀v∈c,-9223372036854775808<=v/\v<=9223372036854775807)(hc:c.length=l0*l1)(b0:l0<=400)(b1:l1<=400)
  (hF:FL.has F.get [(38,.int .i64 0),(37,.int .i64 (l1:Nat)),(1,.ptr 0 0),(5,.str gap),(6,.sl .ex [])])
  (hQ:∀(F':FL) (G:Heap),FL.has F'.get [(1,.ptr 0 0),(5,.str gap),(6,lst colV (.tok 1 3) (zir k c l0 l1 l1))]->Q (.exit 0) F'.get (.box [.int .i64 k,.int .i64 2,.int .i64 l0,.int .i64 l1,lst (AV.int .i64) .ro c]::.tok l1::G)) :
  wpc X 101 (.loop zcB) Q F.get [.box [.int .i64 k,.int .i64 2,.int .i64 l0,.int .i64 l1,lst (AV.int .i64) .ro c]]:=by
 have hcb:c.length<=160000:=by rw[hc];exact Nat.mul_le_mul b0 b1
 refine zbj hs.hm (ι:=Nat×Heap) (fun x=>x.1<=l1) (fun x=>[(38,.int .i64 x.1),(37,.int .i64 (l1:Nat)),(1,.ptr 0 0),(5,.str gap),(6,lst colV (.tok 1 3) (zir k c l0 l1 x.1))]) (fun x=>.box [.int .i64 k,.int .i64 2,.int .i64 l0,.int .i64 l1,lst (AV.int .i64) .ro c]::.tok x.1::x.2) (fun x=>l1-x.1) (0,[]) ⟨Nat.zero_le _,_,_,zcf 6 3 hF.2.2.2.2.1,?_⟩ fun x hx=>?_
 ·exact ⟨⟨hF.1,hF.2.1,hF.2.2.1,hF.2.2.2.1,rfl,trivial⟩,rfl⟩
 obtain ⟨j,G⟩:=x
 dsimp only at hx⊢
 by_cases hj:j<l1
 ·have h1:(j:Int)<l1:=by omega
  have hw:IntKind.i64.wrap ((j:Int)+1)=((j+1:Nat):Int):=by rw[wi64 (by omega)];omega
  simp only[zcB,go_sem,Nat.reduceEqDiff,h1]
  refine zbj hs.hm (ι:=Nat) (fun n=>n<=l0) (fun n=>[(9,.int .i64 ((j+n*l1:Nat):Int)),(8,lst (AV.int .i64) (.tok (G.length+2) 1) (colL l1 n j c)),(38,.int .i64 j),(37,.int .i64 (l1:Nat)),(1,.ptr 0 0),(5,.str gap),(6,lst colV (.tok 1 3) (zir k c l0 l1 j))]) (fun n=>.box [.int .i64 k,.int .i64 2,.int .i64 l0,.int .i64 l1,lst (AV.int .i64) .ro c]::.tok j::(G++[.tok n])) (fun n=>l0-n) 0 ⟨Nat.zero_le _,_,_,zcf 8 1 rfl,?_⟩ fun n hn=>?_
  ·exact ⟨⟨by rw[Nat.zero_mul];rfl,rfl,rfl,rfl,rfl,rfl,rfl,trivial⟩,rfl⟩
  by_cases hn':n<l0
  ·have h2:j+n*l1<c.length:=by
    rw[hc]
    have:=Nat.mul_le_mul_right l1 hn'
    rw[Nat.succ_mul]at this
    omega
   have h3:((j+n*l1:Nat):Int)<(c.length:Nat):=by omega
   have hw2:IntKind.i64.wrap (((j+n*l1:Nat):Int)+(l1:Nat))=((j+(n+1)*l1:Nat):Int):=by rw[wi64 (by omega),Nat.succ_mul];omega
   simp only[zeq,go_sem,Nat.reduceEqDiff,Nat.reduceAdd,Nat.reduceMul,Int.reduceToNat,Int.reduceLE,Int.reduceLT,Nat.reduceLT,Nat.reduceLeDiff,h3,hw2,def0,app1,gx0,gs0,zoS]
   exact ⟨by omega,⟨by omega,by omega⟩,n+1,by omega,hn',⟨rfl,by rw[zxE]⟩,rfl⟩
  ·have en:n=l0:=by omega
   subst en
   have h3:¬((j+n*l1:Nat):Int)<(c.length:Nat):=by rw[hc];omega
   have hst:=ziz hX hs hP k (colL l1 n j c) 0 (zxq hv _ _ _) (by rw[zoS];omega) (by decide)
   simp only[zeq,go_sem,Nat.reduceEqDiff,Nat.reduceAdd,Nat.reduceLT,h3]
   refine zab hst ?_
   simp only[go_sem,Nat.reduceEqDiff,Nat.reduceLT,Nat.reduceLeDiff,zw2,zvR,app1,zqx,hw,<-zul]
   exact ⟨⟨rfl,rfl⟩,⟨by omega,by omega⟩,(j+1,_),by dsimp only;omega,hj,⟨rfl,rfl⟩,rfl⟩
 ·have h1:¬(j:Int)<l1:=by omega
  simp only[zcB,go_sem,Nat.reduceEqDiff,h1]
  have ej:j=l1:=by omega
  subst ej
  exact hQ _ _ ⟨rfl,rfl,rfl,trivial⟩
theorem zEX {Q:Exit->Fr->Heap->Prop}{F:FL}(cs:List Col)(i m:Nat)(H:Heap)(v71 v70 v5 v6 v10:AV)(hm:cs.length<=400)(hcs:∀c∈cs,ColOk c m)(hi:i<m)
  (hF:FL.has F.get [(76,.int .i64 0),(75,.int .i64 cs.length),(74,lst colV (.tok 1 3) cs),(11,.int .i64 i),(71,v71),(70,v70),(5,v5),(6,v6),(10,v10),(12,.sl .ex [])])
  (hQ:∀(F':FL) (G:Heap) (t:Nat),FL.has F'.get [(12,lst AV.str (.tok t 1) (rowS cs i)),(71,v71),(70,v70),(5,v5),(6,v6),(10,v10)]->Q (.exit 6) F'.get (H++G)) :
  wpc X 101 (.loop zcC) Q F.get H:=by
 obtain ⟨D,ho,hwD⟩:=zFU (X:=X) (N:=101) (fr:=F.get) H
 obtain ⟨H1,hH1⟩:∃H1,H1=H++D:=⟨_,rfl⟩
 rw[<-hH1]at ho hwD
 refine zbj hs.hm (ι:=Nat×Heap) (fun x=>x.1<=cs.length) (fun x=>[(76,.int .i64 x.1),(75,.int .i64 cs.length),(74,lst colV (.tok 1 3) cs),(11,.int .i64 i),(71,v71),(70,v70),(5,v5),(6,v6),(10,v10),(12,lst AV.str (.tok H1.length 1) (rowS (cs.take x.1) i))]) (fun x=>H1++.tok x.1::x.2) (fun x=>cs.length-x.1) (0,[]) ⟨Nat.zero_le _,_,_,hwD.trans (zcf 12 1 hF.2.2.2.2.2.2.2.2.2.1),?_⟩ fun x hx=>?_
 ·obtain ⟨f1,f2,f3,f4,f5,f6,f7,f8,f9,f10,_⟩:=hF
  exact ⟨⟨f1,f2,f3,f4,f5,f6,f7,f8,f9,rfl,trivial⟩,rfl⟩
 obtain ⟨n,G⟩:=x
 dsimp only at hx⊢
 by_cases hn:n<cs.length
 ·have h1:(n:Int)<cs.length:=by omega
  have hw:IntKind.i64.wrap ((n:Int)+1)=((n+1:Nat):Int):=by rw[wi64 (by omega)];omega
  have hok:=hcs (cs.getD n default) (by rw[List.getD_eq_getElem?_getD,List.getElem?_eq_getElem hn];exact List.getElem_mem _)
  have e:rowS (cs.take n) i++[padB (cs.getD n default).r (cs.getD n default).w ((cs.getD n default).c.getD i [])]=rowS (cs.take (n+1)) i:=by
   rw[List.take_succ_eq_append_getElem hn,rowS,rowS,List.map_append,List.getD_eq_getElem?_getD,List.getElem?_eq_getElem hn]
   rfl
  have hlr:(rowS (cs.take n) i).length=n:=by rw[rowS,List.length_map,List.length_take];omega
  have hpar:(H1.length % 2 != 0)=true:=by rw[bne_iff_ne];omega
  simp only[zcC,go_sem,Nat.reduceEqDiff,Nat.reduceAdd,h1]
  generalize cs.getD n default=x at hok e
  simp only[zeS,go_sem,Nat.reduceEqDiff,Nat.reduceAdd,Nat.reduceLT,List.append_assoc,z1l,z1g]
  have hxl:(x.c.getD i default).length<=21:=hok.all _ (by
   rw[List.getD_eq_getElem?_getD,List.getElem?_eq_getElem (by rw[hok.len];exact hi)]
   exact List.getElem_mem _)
  refine ⟨by omega,⟨by omega,by rw[hok.len];omega⟩,za1 (zpA hX hs x.r (x.c.getD i default) x.w hok.w (by omega)) ?_⟩
  have e':rowS (cs.take n) i++[padB x.r x.w (x.c.getD i default)]=rowS (cs.take (n+1)) i:=e
  simp only[go_sem,Nat.reduceMod,Nat.reduceEqDiff,Nat.reduceLT,Nat.reduceLeDiff,app1,hlr,hpar,p0g,p0s,e']
  exact ⟨⟨by omega,by omega⟩,(n+1,_),by dsimp only;omega,hn,⟨by rw[hw],rfl⟩,rfl⟩
 ·have h1:¬(n:Int)<cs.length:=by omega
  simp only[zcC,go_sem,Nat.reduceEqDiff,h1]
  have en:n=cs.length:=by omega
  subst en
  rw[List.take_length,hH1,List.append_assoc]
  exact hQ _ _ (H++D).length ⟨by rw[<-hH1];rfl,rfl,rfl,rfl,rfl,rfl,trivial⟩
theorem zGo {Q:Exit->Fr->Heap->Prop}{F:FL}(cs:List Col)(gap:List UInt8)(l0:Nat)(B:Heap)(hg:gap.length<=2)(hm:cs.length<=400)(hl0:l0<=400)(hcs:∀c∈cs,ColOk c l0)
  (hF:FL.has F.get [(71,.int .i64 0),(70,.int .i64 (l0:Nat)),(5,.str gap),(6,lst colV (.tok 1 3) cs),(10,.ptr B.length 0)])
  (hQ:∀(F':FL) (G:Heap),FL.has F'.get [(10,.ptr B.length 0)]->Q (.exit 4) F'.get (B++.bld 61 5 (picP cs gap l0)::G)) :
  wpc X 101 (.loop zcA) Q F.get (B++[.bld 61 5 []]):=by
 refine zbj hs.hm (ι:=Nat×Heap) (fun x=>x.1<=l0) (fun x=>[(71,.int .i64 x.1),(70,.int .i64 (l0:Nat)),(5,.str gap),(6,lst colV (.tok 1 3) cs),(10,.ptr B.length 0)]) (fun x=>B++.bld 61 5 (picP cs gap x.1)::x.2) (fun x=>l0-x.1) (0,[]) ⟨Nat.zero_le _,_,_,WkA.refl,hF,rfl⟩ fun x hx=>?_
 obtain ⟨i,G⟩:=x
 dsimp only at hx⊢
 by_cases hi:i<l0
 ·have h1:(i:Int)<l0:=by omega
  have hw:IntKind.i64.wrap ((i:Int)+1)=((i+1:Nat):Int):=by rw[wi64 (by omega)];omega
  have hpl:=zyY hcs hg i
  have hrl:=ztV (i:=i) hcs hg
  have hpb:i*(cs.length*1002+1)<=400*(400*1002+1):=Nat.mul_le_mul (by omega) (by omega)
  simp only[zcA,go_sem,Nat.reduceEqDiff,h1]
  refine zEX hX hs hP cs i l0 _ (.int .i64 i) (.int .i64 (l0:Nat)) (.str gap) (lst colV (.tok 1 3) cs) (.ptr B.length 0) hm hcs hi ⟨rfl,rfl,rfl,rfl,rfl,rfl,rfl,rfl,rfl,rfl,trivial⟩ fun F' G' t hF'=>?_
  obtain ⟨g1,g2,g3,g4,g5,g6,_⟩:=hF'
  simp only[go_sem,Nat.reduceEqDiff,g1,g4,List.append_assoc,List.cons_append]
  have hjl:(Lib.join (rowS cs i) gap).length+1=(rowP cs gap i).length:=by rw[rowP,List.length_append];rfl
  refine zab (zkz hX (rowS cs i) gap (by rw[rowS,List.length_map];omega) (by omega)) ?_
  simp only[go_sem,Nat.reduceEqDiff,Nat.reduceLeDiff,g6]
  refine ⟨by omega,zae (zka hX (i:=B.length) _ (p0g _ _ _) (by simp only[List.length_append,List.length_singleton];omega)) fun r1 H1 ⟨e1,e2⟩=>?_⟩
  subst e1 e2
  simp only[go_sem,Nat.reduceEqDiff,g2,g3,g4,g5,g6,p0s]
  refine ⟨(i+1,G++G'),by dsimp only;omega,hi,by rw[hw],?_⟩
  rw[zqq]
  rfl
 ·have h1:¬(i:Int)<l0:=by omega
  simp only[zcA,go_sem,Nat.reduceEqDiff,h1]
  have en:i=l0:=by omega
  subst en
  exact hQ _ _ ⟨rfl,trivial⟩
theorem zvl (a:Lat.Arr)(hv:∀v∈a.c,-9223372036854775808<=v/\v<=9223372036854775807)(hl:a.c.length<1000000) :
  Ev X zfX [arrV a] (.tuple [.str (picR a).1,.int .i64 (picR a).2]):=by
 refine zaE (zak hs (zmh hX) ?_)
 by_cases h:Lat.arrE a=0
 ·have e0:picR a=(pic1 a,0):=if_neg (by omega)
  rw[e0]
  have hgap:∀k:Int,(gapS k).length<=2:=fun k=>by unfold gapS;split<;>decide
  have hk:=(Lat.zts h).1
  by_cases hr:a.r<2
  ·have hj:=zgC (gapS a.k) 21 (a.c.map (cellS a.k)) fun x hx=>by
    obtain ⟨v,h1,rfl⟩:=List.mem_map.1 hx
    exact zhV (hv v h1)
   rw[List.length_map]at hj
   have hj2:a.c.length*((gapS a.k).length+21)<=a.c.length*23:=Nat.mul_le_mul (Nat.le_refl _) (by have:=hgap a.k;omega)
   have hst:=ziz hX hs hP a.k a.c 0 hv hl (by decide)
   have e1:pic1 a=Lib.join (a.c.map (cellS a.k)) (gapS a.k)++[10]:=if_pos hr
   have hck:=zds hX hs a hl
   obtain ⟨k,r,l0,l1,c⟩:=a
   dsimp only at *
   rw[e1]
   simp only[zd0,arrV,go_sem,Nat.reduceEqDiff,Nat.reduceAdd,reduceCtorEq]
   refine zab hck ?_
   simp only[h,go_sem,Nat.reduceEqDiff,Nat.reduceAdd,Nat.reduceMul,Int.reduceToNat,Int.reduceLE,Int.reduceLT,reduceCtorEq,Nat.reduceLT]
   refine ⟨fun hk1=>?_,fun hk1=>?_⟩
   all_goals
    first|(have eg:gapS k=[32]:=if_pos hk1)|(have eg:gapS k=[]:=if_neg hk1)
    rw[eg]at hj hj2⊢
    simp only[hr,go_sem]
    refine zab hst ?_
    simp only[colV,stk,go_sem,Nat.reduceEqDiff,Nat.reduceAdd,reduceCtorEq,Nat.reduceLT]
    refine zab (zkz hX _ _ (by rw[List.length_map];omega) (by omega)) ?_
    simp only[go_sem,Nat.reduceEqDiff,reduceCtorEq,Nat.reduceLeDiff]
    exact ⟨by omega,⟨_,rfl⟩,rfl⟩
  ·obtain ⟨l0,l1,e1,e2,hc,b0,b1,er⟩:=arr2 h hr
   have e1':pic1 a=picP (zir a.k a.c l0 l1 l1) (gapS a.k) l0:=by unfold pic1;rw[if_neg hr,e1,e2];rfl
   have hck:=zds hX hs a hl
   obtain ⟨k,r,l0',l1',c⟩:=a
   dsimp only at *
   subst e1 e2 er
   rw[e1']
   simp only[zd0,arrV,go_sem,Nat.reduceEqDiff,Nat.reduceAdd,reduceCtorEq]
   refine zab hck ?_
   simp only[h,go_sem,Nat.reduceEqDiff,Nat.reduceAdd,Nat.reduceMul,Int.reduceToNat,Int.reduceLE,Int.reduceLT,reduceCtorEq,Nat.reduceLT]
   refine ⟨fun hk1=>?_,fun hk1=>?_⟩
   all_goals
    first|(have eg:gapS k=[32]:=if_pos hk1)|(have eg:gapS k=[]:=if_neg hk1)
    refine zEZ hX hs hP k c l0 l1 (gapS k) hv hc b0 b1 ⟨rfl,rfl,rfl,by rw[eg];rfl,rfl,trivial⟩ fun F' G hF'=>?_
    obtain ⟨f1,f2,f3,_⟩:=hF'
    simp only[go_sem,Nat.reduceEqDiff,Nat.reduceAdd,Nat.reduceMul,Int.reduceToNat,Int.reduceLE,Int.reduceLT,Nat.reduceLT,f1]
    refine zGo hX hs hP (zir k c l0 l1 l1) (gapS k) l0 (.box [.int .i64 k,.int .i64 2,.int .i64 l0,.int .i64 l1,lst (AV.int .i64) .ro c]::.tok l1::G) (hgap k) (by rw[zqx];exact b1) b0 (zzb hv l0 l1 l1) ⟨rfl,rfl,f2,f3,rfl,trivial⟩ fun F2 G2 hF2=>?_
    obtain ⟨g1,_⟩:=hF2
    simp only[go_sem,g1]
    generalize picP (zir k c l0 l1 l1) (gapS k) l0=s
    by_cases hs0:s=[]
    ·subst hs0
     refine zae (zr0 hX (p0g (.box [.int .i64 k,.int .i64 2,.int .i64 l0,.int .i64 l1,lst (AV.int .i64) .ro c]::.tok l1::G) _ _)) fun r H' ⟨e1,e2⟩=>?_
     subst e1 e2
     simp only[go_sem,Nat.reduceEqDiff]
     exact ⟨⟨_,rfl⟩,rfl⟩
    ·refine zae (ziN hX (p0g (.box [.int .i64 k,.int .i64 2,.int .i64 l0,.int .i64 l1,lst (AV.int .i64) .ro c]::.tok l1::G) _ _) hs0) fun r H' ⟨e1,e2⟩=>?_
     subst e1 e2
     simp only[go_sem,Nat.reduceEqDiff]
     exact ⟨⟨_,rfl⟩,rfl⟩
 ·have e0:picR a=([],Lat.arrE a):=if_pos h
  rw[e0]
  simp only[zd0,arrV,go_sem,Nat.reduceEqDiff,Nat.reduceAdd,reduceCtorEq]
  refine zab (zds hX hs a hl) ?_
  simp only[h,go_sem,Nat.reduceEqDiff,reduceCtorEq]
  exact ⟨⟨_,rfl⟩,rfl⟩
end
end Go.Avm
