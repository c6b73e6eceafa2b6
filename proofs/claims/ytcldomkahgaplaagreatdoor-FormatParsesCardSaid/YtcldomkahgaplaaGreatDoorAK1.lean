/- Shapes and arrays. -/
import Derived.Test.YtcldomkahgaplaaGreatDoorAV2
import Derived.Test.YtcldomkahgaplaaGreatDoorM1
set_option linter.all false
namespace Go.Avm
open Go
section
variable {X:Cx}(hX:X.P=Go.Proofs.Tryz.prog)(hs:Std X)
include hX hs
theorem zoz (l:List Int)(f:Nat)(cs:List AV)(hd:dryL cs=cs)(p:Int->Bool)(hp:∀x∈l,Ev X f (.int .i64 x::cs) (.bool (p x)))(hl:l.length<1000000):Ev X zbo [lst (AV.int .i64) .ro l,.clo f [] cs] (.int .i64 (Lat.oi (Lat.ff l.length fun i=>p (l.getD i 0)))):=by
 refine zac hs (zev hX) 0 ?_
 simp only[zce,go_sem,Nat.reduceEqDiff,Nat.reduceAdd,reduceCtorEq]
 refine zaj hs.hm (ι:=Nat) (fun i=>i<=l.length/\∀j,j<i->p (l.getD j 0)=false) (fun i=>[(8,.int .i64 i),(7,.int .i64 l.length),(1,.clo f [] cs),(0,lst (AV.int .i64) .ro l)]) (fun _=>[]) (fun i=>l.length-i) 0 ?_ fun i hi=>?_
 ·simp only[go_sem,Nat.reduceEqDiff,reduceCtorEq]
  exact ⟨Nat.zero_le _,zkG⟩
 ·obtain ⟨i1,i2⟩:=hi
  simp only[zbV,go_sem,Nat.reduceEqDiff,reduceCtorEq]
  refine ⟨fun c=>⟨⟨by omega,c⟩,zab (r:=.bool (p (l.getD i 0))) ?_ ?_⟩,fun c=>?_⟩
  ·simp only[dryL,dry,hd]
   refine hp _ ?_
   rw[List.getD_eq_getElem?_getD,List.getElem?_eq_getElem (show i<l.length by omega)]
   exact List.getElem_mem _
  ·cases e:p (l.getD i 0) with
   | true =>
    simp only[go_sem,Nat.reduceEqDiff,reduceCtorEq]
    rw[Lat.zjy (p:=fun a=>p (l.getD a 0)) (show i<l.length by omega) e i2]
    rfl
   | false =>
    simp only[go_sem,Nat.reduceEqDiff,reduceCtorEq]
    exact nxt1 (by omega) i2 e (by omega)
  ·rw[Lat.zg9 (p:=fun a=>p (l.getD a 0)) (n:=l.length) fun j hj=>i2 j (by omega)]
   rfl
theorem zaw (l:List Int)(f:Nat)(cs:List AV)(hd:dryL cs=cs)(p:Int->Bool)(hp:∀x∈l,Ev X f (.int .i64 x::cs) (.bool (p x)))(hl:l.length<1000000):Ev X zat [lst (AV.int .i64) .ro l,.clo f [] cs] (.bool (l.any p)):=by
 refine zac hs (zc3 hX) 0 ?_
 simp only[zbK,go_sem,Nat.reduceEqDiff,Nat.reduceAdd,reduceCtorEq]
 refine zab (r:=.int .i64 (Lat.oi (Lat.ff l.length fun i=>p (l.getD i 0)))) ?_ ?_
 ·simp only[dryL,dry,lst,hd]
  exact zoz hX hs l f cs hd p hp hl
 ·simp only[go_sem,Nat.reduceEqDiff,reduceCtorEq]
  rw[show l.any p=(Lat.ff l.length fun i=>p (l.getD i 0)).isSome from ?_]
  ·cases Lat.ff l.length fun i=>p (l.getD i 0) with
   | none=>rfl
   | some c=>simp [Lat.oi]
  ·rw [Bool.eq_iff_iff,List.any_eq_true]
   constructor
   ·rintro ⟨x,hx,hpx⟩
    obtain ⟨i,hi,e⟩:=List.getElem_of_mem hx
    cases hq:Lat.ff l.length fun i=>p (l.getD i 0) with
    | some c=>rfl
    | none =>
     have:=Lat.zcs.1 hq i hi
     rw[List.getD_eq_getElem?_getD,List.getElem?_eq_getElem hi,Option.getD_some,e,hpx]at this
     exact absurd this (by decide)
   ·intro h
    obtain ⟨a,ha⟩:=Option.isSome_iff_exists.1 h
    obtain ⟨h1,h2,_⟩:=Lat.zgw.1 ha
    exact ⟨_,List.getElem_mem h1,by rw[List.getD_eq_getElem?_getD,List.getElem?_eq_getElem h1]at h2;exact h2⟩
end
def arrV (a:Lat.Arr):AV:=.agg [.int .i64 a.k,.int .i64 a.r,.int .i64 a.l0,.int .i64 a.l1,lst (AV.int .i64) .ro a.c]
theorem ztn {r l0 l1:Int}(h:Lat.zav r l0 l1=0):(0<=r/\r<=2)/\(0<=l0/\l0<=400)/\(0<=l1/\l1<=400):=by
 unfold Lat.zav at h
 split at h
 ·omega
 ·split at h
  ·omega
  ·split at h
   ·omega
   ·split at h
    ·omega
    ·omega
section
variable {X:Cx}(hX:X.P=Go.Proofs.Tryz.prog)(hs:Std X)
include hX hs
theorem zwP (x:Int):Ev X zbU [.int .i64 x] (.bool (decide (x<0))):=by
 refine zac hs (zmq hX) 1 ?_
 simp only[zjK,go_sem,Nat.reduceEqDiff,reduceCtorEq]
theorem zv0 (x:Int):Ev X zbZ [.int .i64 x] (.bool (!decide (x=0))):=by
 refine zac hs (zml hX) 1 ?_
 simp only[zj5,go_sem,Nat.reduceEqDiff,reduceCtorEq]
theorem zv7 (x:Int):Ev X zb2 [.int .i64 x] (.bool (decide (400<x))):=by
 refine zac hs (zkR hX) 1 ?_
 simp only[zke,go_sem,Nat.reduceEqDiff,reduceCtorEq]
theorem zgF (n:Nat)(hn:n<=2)(l0 l1:Int)(h0:0<=l0/\l0<=400)(h1:0<=l1/\l1<=400):Ev X zdN [.int .i64 n,.agg [.int .i64 l0,.int .i64 l1]] (.int .i64 (Lat.many n l0 l1)):=by
 refine zac hs (zme hX) 1 ?_
 have hm:0<=l1*l0/\l1*l0<=400*400:=⟨Int.mul_nonneg h1.1 h0.1,Int.mul_le_mul h1.2 h0.2 h0.1 (by decide)⟩
 have:n=0∨n=1∨n=2:=by omega
 rcases this with rfl|rfl|rfl
 ·simp only[zd7,go_sem,Nat.reduceBEq,Nat.reduceEqDiff,Nat.reduceAdd,Int.reduceEq,reduceCtorEq]
  simp [Lat.many]
 ·simp only[zd7,go_sem,Nat.reduceBEq,Nat.reduceEqDiff,Nat.reduceAdd,Nat.reduceMul,Int.reduceToNat,Int.reduceLE,Int.reduceLT,Int.reduceEq,reduceCtorEq,Nat.reduceLT]
  rw[wi64 (by omega)]
  simp [Lat.many]
 ·simp only[zd7,go_sem,Nat.reduceEqDiff,Nat.reduceAdd,Nat.reduceMul,Int.reduceToNat,Int.reduceLE,Int.reduceLT,reduceCtorEq,Nat.reduceLT,Int.one_mul]
  rw[wi64 (n:=l1) (by omega),wi64 (by omega)]
  simp [Lat.many,Int.mul_comm]
theorem zw4 (r l0 l1:Int):Ev X zi4 [.int .i64 r,.agg [.int .i64 l0,.int .i64 l1]] (.int .i64 (Lat.zav r l0 l1)):=by
 refine zac hs (zoZ hX) 1 ?_
 by_cases hr:r<0∨2<r
 ·simp only[zey,go_sem,Nat.reduceEqDiff,Nat.reduceAdd,Nat.reduceMul,Nat.reduceSub,Int.reduceToNat,Int.reduceLE,reduceCtorEq]
  have e:Lat.zav r l0 l1=7:=if_pos hr
  rw[e]
  refine ⟨fun _=>rfl,fun h=>⟨fun _=>rfl,fun h2=>absurd hr (by omega)⟩⟩
 ·have : r=0∨r=1∨r=2:=by omega
  rcases this with rfl|rfl|rfl
  ·simp only[zey,go_sem,Nat.reduceEqDiff,Nat.reduceAdd,Nat.reduceMul,Nat.reduceSub,Int.reduceToNat,Int.reduceLE,Int.reduceLT,reduceCtorEq]
   refine za5 (r:=.bool (([]:List Int).any fun x=>decide (x<0))) (zaw hX hs [] zbU [] rfl _ (fun x hx=>zwP hX hs x) (by simp)) rfl ?_
   simp only[List.any_nil,go_sem,Nat.reduceEqDiff,reduceCtorEq]
   refine za5 (r:=.bool (([l0,l1]:List Int).any fun x=>!decide (x=0))) (zaw hX hs [l0,l1] zbZ [] rfl _ (fun x hx=>zv0 hX hs x) (by simp)) rfl ?_
   cases e:([l0,l1]:List Int).any fun x=>!decide (x=0) with
   | true =>
    simp only[go_sem,Nat.reduceEqDiff,reduceCtorEq]
    simp only[List.any_cons,List.any_nil,Bool.or_false,Bool.or_eq_true,Bool.not_eq_true',decide_eq_false_iff_not]at e
    simp only[Lat.zav,Lat.many]
    grind
   | false =>
    simp only[go_sem,Nat.reduceEqDiff,reduceCtorEq]
    refine za5 (r:=.bool (([]:List Int).any fun x=>decide (400<x))) (zaw hX hs [] zb2 [] rfl _ (fun x hx=>zv7 hX hs x) (by simp)) rfl ?_
    simp only[List.any_nil,go_sem,Nat.reduceEqDiff,Nat.reduceAdd,reduceCtorEq]
    simp only[List.any_cons,List.any_nil,Bool.or_false,Bool.or_eq_false_iff,Bool.not_eq_false',decide_eq_true_eq]at e
    refine zab (zgF hX hs 0 (by omega) l0 l1 (by omega) (by omega)) ?_
    simp only[go_sem,Nat.reduceEqDiff,Int.reduceLE,Int.reduceLT,reduceCtorEq,Lat.zav,Lat.many]
    grind
  ·simp only[zey,go_sem,Nat.reduceEqDiff,Nat.reduceAdd,Nat.reduceMul,Nat.reduceSub,Int.reduceToNat,Int.reduceLE,Int.reduceLT,reduceCtorEq]
   refine za5 (r:=.bool (([l0]:List Int).any fun x=>decide (x<0))) (zaw hX hs [l0] zbU [] rfl _ (fun x hx=>zwP hX hs x) (by simp)) rfl ?_
   cases e:([l0]:List Int).any fun x=>decide (x<0) with
   | true =>
    simp only[go_sem,Nat.reduceEqDiff,reduceCtorEq]
    simp only[List.any_cons,List.any_nil,Bool.or_false,decide_eq_true_eq]at e
    simp only[Lat.zav,Lat.many]
    grind
   | false =>
    simp only[go_sem,Nat.reduceEqDiff,reduceCtorEq]
    simp only[List.any_cons,List.any_nil,Bool.or_false,decide_eq_false_iff_not]at e
    refine za5 (r:=.bool (([l1]:List Int).any fun x=>!decide (x=0))) (zaw hX hs [l1] zbZ [] rfl _ (fun x hx=>zv0 hX hs x) (by simp)) rfl ?_
    cases e2:([l1]:List Int).any fun x=>!decide (x=0) with
    | true =>
     simp only[go_sem,Nat.reduceEqDiff,reduceCtorEq]
     simp only[List.any_cons,List.any_nil,Bool.or_false,Bool.not_eq_true',decide_eq_false_iff_not]at e2
     simp only[Lat.zav,Lat.many]
     grind
    | false =>
     simp only[go_sem,Nat.reduceEqDiff,reduceCtorEq]
     simp only[List.any_cons,List.any_nil,Bool.or_false,Bool.not_eq_false',decide_eq_true_eq]at e2
     refine za5 (r:=.bool (([l0]:List Int).any fun x=>decide (400<x))) (zaw hX hs [l0] zb2 [] rfl _ (fun x hx=>zv7 hX hs x) (by simp)) rfl ?_
     cases e3:([l0]:List Int).any fun x=>decide (400<x) with
     | true =>
      simp only[go_sem,Nat.reduceEqDiff,reduceCtorEq]
      simp only[List.any_cons,List.any_nil,Bool.or_false,decide_eq_true_eq]at e3
      simp only[Lat.zav,Lat.many]
      grind
     | false =>
      simp only[go_sem,Nat.reduceEqDiff,Nat.reduceAdd,reduceCtorEq]
      simp only[List.any_cons,List.any_nil,Bool.or_false,decide_eq_false_iff_not]at e3
      refine zab (zgF hX hs 1 (by omega) l0 l1 (by omega) (by omega)) ?_
      simp only[go_sem,Nat.reduceEqDiff,Int.reduceLE,Int.reduceLT,reduceCtorEq,Lat.zav,Lat.many]
      grind
  ·simp only[zey,go_sem,Nat.reduceEqDiff,Nat.reduceAdd,Nat.reduceMul,Nat.reduceSub,Int.reduceToNat,Int.reduceLE,Int.reduceLT,reduceCtorEq]
   refine za5 (r:=.bool (([l0,l1]:List Int).any fun x=>decide (x<0))) (zaw hX hs [l0,l1] zbU [] rfl _ (fun x hx=>zwP hX hs x) (by simp)) rfl ?_
   cases e:([l0,l1]:List Int).any fun x=>decide (x<0) with
   | true =>
    simp only[go_sem,Nat.reduceEqDiff,reduceCtorEq]
    simp only[List.any_cons,List.any_nil,Bool.or_false,Bool.or_eq_true,decide_eq_true_eq]at e
    simp only[Lat.zav,Lat.many]
    grind
   | false =>
    simp only[go_sem,Nat.reduceEqDiff,reduceCtorEq]
    simp only[List.any_cons,List.any_nil,Bool.or_false,Bool.or_eq_false_iff,decide_eq_false_iff_not]at e
    refine za5 (r:=.bool (([]:List Int).any fun x=>!decide (x=0))) (zaw hX hs [] zbZ [] rfl _ (fun x hx=>zv0 hX hs x) (by simp)) rfl ?_
    simp only[List.any_nil,go_sem,Nat.reduceEqDiff,reduceCtorEq]
    refine za5 (r:=.bool (([l0,l1]:List Int).any fun x=>decide (400<x))) (zaw hX hs [l0,l1] zb2 [] rfl _ (fun x hx=>zv7 hX hs x) (by simp)) rfl ?_
    cases e3:([l0,l1]:List Int).any fun x=>decide (400<x) with
    | true =>
     simp only[go_sem,Nat.reduceEqDiff,reduceCtorEq]
     simp only[List.any_cons,List.any_nil,Bool.or_false,Bool.or_eq_true,decide_eq_true_eq]at e3
     simp only[Lat.zav,Lat.many]
     grind
    | false =>
     simp only[go_sem,Nat.reduceEqDiff,Nat.reduceAdd,reduceCtorEq]
     simp only[List.any_cons,List.any_nil,Bool.or_false,Bool.or_eq_false_iff,decide_eq_false_iff_not]at e3
     refine zab (zgF hX hs 2 (by omega) l0 l1 (by omega) (by omega)) ?_
     simp only[go_sem,Nat.reduceEqDiff,Int.reduceLE,Int.reduceLT,reduceCtorEq,Lat.zav,Lat.many]
     grind
theorem zs3 (r l0 l1:Int):Ev X ziA [.int .i64 r,.agg [.int .i64 l0,.int .i64 l1]] (.tuple [.int .i64 (if Lat.zav r l0 l1=0 then Lat.many r l0 l1 else 0),.int .i64 (Lat.zav r l0 l1)]):=by
 refine zac hs (zpi hX) 1 ?_
 simp only[zm7,go_sem,Nat.reduceEqDiff,Nat.reduceAdd,reduceCtorEq]
 refine zab (zw4 hX hs r l0 l1) ?_
 by_cases h:Lat.zav r l0 l1=0
 ·simp only[h,go_sem,Nat.reduceEqDiff,Nat.reduceAdd,reduceCtorEq]
  obtain ⟨h1,h2,h3⟩:=ztn h
  obtain ⟨n,rfl⟩:∃n:Nat,r=n:=⟨r.toNat,by omega⟩
  refine zab (zgF hX hs n (by omega) l0 l1 h2 h3) ?_
  simp only[go_sem,Nat.reduceEqDiff,reduceCtorEq]
 ·simp only[h,go_sem,Nat.reduceEqDiff,reduceCtorEq]
theorem zoe (l:List Int)(f:Nat)(cs:List AV)(hd:dryL cs=cs)(p:Int->Bool)(hp:∀x∈l,Ev X f (.int .i64 x::cs) (.bool (p x)))(hl:l.length<1000000):Ev X zas [lst (AV.int .i64) .ro l,.clo f [] cs] (.int .i64 (Lat.oi (Lat.ff l.length fun i=>p (l.getD i 0)))):=by
 refine zac hs (zbh hX) 0 ?_
 simp only[zaT,go_sem,Nat.reduceEqDiff,Nat.reduceAdd,reduceCtorEq]
 refine zaj hs.hm (ι:=Nat) (fun i=>i<=l.length/\∀j,j<i->p (l.getD j 0)=false) (fun i=>[(8,.int .i64 i),(7,.int .i64 l.length),(1,.clo f [] cs),(0,lst (AV.int .i64) .ro l)]) (fun _=>[]) (fun i=>l.length-i) 0 ?_ fun i hi=>?_
 ·simp only[go_sem,Nat.reduceEqDiff,reduceCtorEq]
  exact ⟨Nat.zero_le _,zkG⟩
 ·obtain ⟨i1,i2⟩:=hi
  simp only[zaM,go_sem,Nat.reduceEqDiff,reduceCtorEq]
  refine ⟨fun c=>⟨⟨by omega,c⟩,zab (r:=.bool (p (l.getD i 0))) ?_ ?_⟩,fun c=>?_⟩
  ·simp only[dryL,dry,hd]
   refine hp _ ?_
   rw[List.getD_eq_getElem?_getD,List.getElem?_eq_getElem (show i<l.length by omega)]
   exact List.getElem_mem _
  ·cases e:p (l.getD i 0) with
   | true =>
    simp only[go_sem,Nat.reduceEqDiff,reduceCtorEq]
    rw[Lat.zjy (p:=fun a=>p (l.getD a 0)) (show i<l.length by omega) e i2]
    rfl
   | false =>
    simp only[go_sem,Nat.reduceEqDiff,reduceCtorEq]
    exact nxt1 (by omega) i2 e (by omega)
  ·rw[Lat.zg9 (p:=fun a=>p (l.getD a 0)) (n:=l.length) fun j hj=>i2 j (by omega)]
   rfl
theorem zfs (l:List Int)(f:Nat)(cs:List AV)(hd:dryL cs=cs)(p:Int->Bool)(hp:∀x∈l,Ev X f (.int .i64 x::cs) (.bool (p x)))(hl:l.length<1000000):Ev X zaK [lst (AV.int .i64) .ro l,.clo f [] cs] (.bool (l.any p)):=by
 refine zac hs (zcc hX) 0 ?_
 simp only[zbi,go_sem,Nat.reduceEqDiff,Nat.reduceAdd,reduceCtorEq]
 refine zab (r:=.int .i64 (Lat.oi (Lat.ff l.length fun i=>p (l.getD i 0)))) ?_ ?_
 ·simp only[dryL,dry,lst,hd]
  exact zoe hX hs l f cs hd p hp hl
 ·simp only[go_sem,Nat.reduceEqDiff,reduceCtorEq]
  rw[show l.any p=(Lat.ff l.length fun i=>p (l.getD i 0)).isSome from ?_]
  ·cases Lat.ff l.length fun i=>p (l.getD i 0) with
   | none=>rfl
   | some c=>simp [Lat.oi]
  ·rw [Bool.eq_iff_iff,List.any_eq_true]
   constructor
   ·rintro ⟨x,hx,hpx⟩
    obtain ⟨i,hi,e⟩:=List.getElem_of_mem hx
    cases hq:Lat.ff l.length fun i=>p (l.getD i 0) with
    | some c=>rfl
    | none =>
     have:=Lat.zcs.1 hq i hi
     rw[List.getD_eq_getElem?_getD,List.getElem?_eq_getElem hi,Option.getD_some,e,hpx]at this
     exact absurd this (by decide)
   ·intro h
    obtain ⟨a,ha⟩:=Option.isSome_iff_exists.1 h
    obtain ⟨h1,h2,_⟩:=Lat.zgw.1 ha
    exact ⟨_,List.getElem_mem h1,by rw[List.getD_eq_getElem?_getD,List.getElem?_eq_getElem h1]at h2;exact h2⟩
theorem zp2 (x:Int)(hx:0<=x/\x<=1114111):Ev X zbb [.int .i32 x] (.bool (Lat.zf8 x)):=by
 refine zac hs (zft hX) 1 ?_
 simp only[zfl,go_sem,Nat.reduceEqDiff,reduceCtorEq,Lat.zf8]
 have h1:(0<=x)=True:=eq_true hx.1
 have h2:(x<=1114111)=True:=eq_true hx.2
 simp only[h1,h2,go_sem]
 grind
theorem zzj (k x:Int):Ev X zjd [.int .i64 k,.int .i64 x] (.bool (decide (k=1)||Lat.zf8 x)):=by
 refine zac hs (zpa hX) 1 ?_
 simp only[znb,go_sem,Nat.reduceEqDiff,Nat.reduceAdd,reduceCtorEq]
 refine ⟨fun h=>?_,fun h=>⟨fun h2=>⟨fun h3=>?_,fun h3=>?_⟩,fun h2=>?_⟩⟩
 ·simp [h]
 ·rw[wi32 (by omega)]
  refine zab (zp2 hX hs x ⟨h2,h3⟩) ?_
  simp only[go_sem,Nat.reduceEqDiff,reduceCtorEq,h]
 ·simp [h,Lat.zf8,h3]
 ·simp [h,Lat.zf8,h2]
theorem zzR (k r a b:Int)(c:AV)(x:Int):Ev X zcH [.int .i64 x,.vp [.int .i64 k,.int .i64 r,.int .i64 a,.int .i64 b,c]] (.bool (!(decide (k=1)||Lat.zf8 x))):=by
 refine zac hs (zlT hX) 1 ?_
 simp only[zjV,go_sem,Nat.reduceEqDiff,Nat.reduceAdd,reduceCtorEq]
 refine zab (zzj hX hs k x) ?_
 simp only[go_sem,Nat.reduceEqDiff,reduceCtorEq]
theorem zds (a:Lat.Arr)(hl:a.c.length<1000000):Ev X zc6 [arrV a] (.int .i64 (Lat.arrE a)):=by
 obtain ⟨k,r,l0,l1,c⟩:=a
 refine zac hs (zpB hX) 1 ?_
 by_cases hk:k=1∨k=2
 ·simp only[Lat.arrE,show ¬(k≠1/\k≠2) by omega,if_false]
  rcases hk with rfl|rfl<;>simp only[zjr,arrV,go_sem,Nat.reduceEqDiff,Nat.reduceAdd,Int.reduceEq,reduceCtorEq,Nat.reduceLT,Nat.reduceLeDiff]
  ·refine zab (zs3 hX hs r l0 l1) ?_
   by_cases h:Lat.zav r l0 l1=0
   ·simp only[h,go_sem,Nat.reduceEqDiff,Nat.reduceAdd,reduceCtorEq,Nat.reduceLT,ne_eq]
    refine ⟨fun e=>?_,fun e=>?_⟩
    ·rw[if_pos e]
    ·refine za5 (r:=.bool (c.any fun x=>!(decide (((1:Int))=1)||Lat.zf8 x))) (zfs hX hs c zcH [.vp [.int .i64 1,.int .i64 r,.int .i64 l0,.int .i64 l1,lst (AV.int .i64) .ro c]] rfl _ (fun x hx=>zzR hX hs 1 r l0 l1 _ x) hl) rfl ?_
     rw[if_neg (fun z=>z e)]
     simp only[decide_true,Bool.true_or,Bool.not_true,go_sem,Nat.reduceEqDiff,reduceCtorEq]
     have e2:(c.any fun _=>false)=false:=by simp
     simp only[e2,false_and,go_sem,reduceCtorEq]
   ·simp only[h,go_sem,Nat.reduceEqDiff,Nat.reduceAdd,reduceCtorEq,Nat.reduceLT,ne_eq]
  ·refine zab (zs3 hX hs r l0 l1) ?_
   by_cases h:Lat.zav r l0 l1=0
   ·simp only[h,go_sem,Nat.reduceEqDiff,Nat.reduceAdd,reduceCtorEq,Nat.reduceLT,ne_eq]
    refine ⟨fun e=>?_,fun e=>?_⟩
    ·rw[if_pos e]
    ·refine za5 (r:=.bool (c.any fun x=>!(decide (((2:Int))=1)||Lat.zf8 x))) (zfs hX hs c zcH [.vp [.int .i64 2,.int .i64 r,.int .i64 l0,.int .i64 l1,lst (AV.int .i64) .ro c]] rfl _ (fun x hx=>zzR hX hs 2 r l0 l1 _ x) hl) rfl ?_
     rw[if_neg (fun z=>z e)]
     simp only[show decide ((2:Int)=1)=false from rfl,Bool.false_or]
     cases e2:c.any fun x=>!Lat.zf8 x<;>simp only[go_sem,Nat.reduceEqDiff,reduceCtorEq]
   ·simp only[h,go_sem,Nat.reduceEqDiff,Nat.reduceAdd,reduceCtorEq,Nat.reduceLT,ne_eq]
 ·have e:Lat.arrE ⟨k,r,l0,l1,c⟩=2:=if_pos (by simp only;omega)
  rw[e]
  have h1:(k=1)=False:=eq_false (by omega)
  have h2:(k=2)=False:=eq_false (by omega)
  simp only[zjr,arrV,go_sem,Nat.reduceEqDiff,Nat.reduceAdd,reduceCtorEq,Nat.reduceLT,h1,h2]
end
end Go.Avm
namespace Go.Avm
open Go Go.Tb
set_option maxRecDepth 10000
instance : Elt arrV 5:=⟨fun _=>rfl,fun _=>rfl,fun _=>rfl,fun a=>by obtain ⟨k,r,l0,l1,c⟩:=a;simp only[arrV,go_sem]⟩
def tabV (t:Tab):AV:=.agg [lst AV.str .ro t.n,lst arrV .ro t.c]
theorem zbg (a:Lat.Arr):(arrV a).cells=[.int .i64 a.k,.int .i64 a.r,.int .i64 a.l0,.int .i64 a.l1,lst (AV.int .i64) .ro a.c]:=id rfl
theorem zye {t:Tab}(h:16<t.n.length):chk t=(-1,3):=if_pos h
theorem zy2 {t:Tab}(h:t.n.length<=16)(h2:t.c.length≠t.n.length):chk t=(-1,6):=by unfold chk;rw[if_neg (by omega),if_pos h2]
theorem zwh {t:Tab}{i:Nat}(h:i<t.c.length):t.col i∈t.c:=by
 unfold Tab.col
 rw[List.getD_eq_getElem?_getD,List.getElem?_eq_getElem h]
 exact List.getElem_mem h
theorem gx0 {α:Type}(G:List α)(x:α)(r:List α):(G++x::r)[G.length]?=some x:=by simp
theorem gx1 {α:Type}(G:List α)(x y:α)(r:List α):(G++x::y::r)[G.length+1]?=some y:=by
 rw[List.getElem?_append_right (by omega),show G.length+1-G.length=1 by omega];rfl
theorem gs0 {α:Type}(G:List α)(x z:α)(r:List α):(G++x::r).set G.length z=G++z::r:=by
 rw[List.set_append_right _ _ (Nat.le_refl _),Nat.sub_self];rfl
theorem gs1 {α:Type}(G:List α)(x y z:α)(r:List α):(G++x::y::r).set (G.length+1) z=G++x::z::r:=by
 rw[List.set_append_right _ _ (by omega),show G.length+1-G.length=1 by omega];rfl
theorem gl2 {α:Type}(G:List α)(x:α):(G++[x]).length=G.length+1:=by simp
theorem gl3 {α:Type}(G:List α)(x y:α):(G++[x,y]).length=G.length+2:=by simp
section
variable {X:Cx}(hX:X.P=Go.Proofs.Tryz.prog)(hs:Std X)
include hX hs
theorem zyQ (t:Tab)(hl:∀a∈t.c,a.c.length<1000000):Ev X ziJ [tabV t] (.tuple [.int .i64 (chk t).1,.int .i64 (chk t).2]):=by
 refine zac hs (zpX hX) 0 ?_
 simp only[znm,tabV,go_sem,Nat.reduceEqDiff,Nat.reduceAdd,reduceCtorEq,Nat.reduceLT]
 refine ⟨fun h=>?_,fun h=>⟨fun h2=>?_,fun h2=>?_⟩⟩
 ·rw[zye (by omega)]
 ·rw[zy2 (by omega) (by omega)]
 have hlen:t.n.length<=16:=by omega
 have heq:t.c.length=t.n.length:=by omega
 refine zaj hs.hm (ι:=Nat×Heap) (fun x=>x.1<=t.n.length/\∀j,j<x.1->colE t j=0) (fun x=>[(26,.int .i64 x.1),(25,.int .i64 t.n.length),(24,lst AV.str .ro t.n),(4,.mp 1),(1,.ptr 0 0)]) (fun x=>.box [lst AV.str .ro t.n,lst arrV .ro t.c]::.mpb (t.n.take x.1)::x.2) (fun x=>t.n.length-x.1) (0,[]) ?_ fun x hx=>?_
 ·simp only[go_sem,Nat.reduceEqDiff,reduceCtorEq,List.take_zero]
  exact ⟨Nat.zero_le _,zkG⟩
 obtain ⟨i,G⟩:=x
 obtain ⟨i1,i2⟩:=hx
 dsimp only at i1 i2⊢
 by_cases hi:i<t.n.length
 ·have hi':(i:Int)<t.n.length:=by omega
  have hic:(i:Int)<t.c.length:=by omega
  have hic0:(0:Int)<t.c.length:=by omega
  simp only[zfH,go_sem,Nat.reduceEqDiff,Nat.reduceAdd,Nat.reduceLT,hi',hic,zbg]
  refine ⟨by omega,by omega,?_⟩
  have e0:∀d,t.c.getD i d=t.col i:=fun d=>by unfold Tab.col;rw[List.getD_eq_getElem?_getD,List.getD_eq_getElem?_getD,List.getElem?_eq_getElem (by omega)];rfl
  have e00:∀d,t.c.getD 0 d=t.col 0:=fun d=>by unfold Tab.col;rw[List.getD_eq_getElem?_getD,List.getD_eq_getElem?_getD,List.getElem?_eq_getElem (by omega)];rfl
  have en:∀d,t.n.getD i d=t.nm i:=fun d=>by unfold Tab.nm;rw[List.getD_eq_getElem?_getD,List.getD_eq_getElem?_getD,List.getElem?_eq_getElem (by omega)];rfl
  rw[e0,en]
  have hcE:colE t i≠0->∀k:Int,k=colE t i->AV.tuple [.int .i64 i,.int .i64 k]=AV.tuple [.int .i64 (chk t).1,.int .i64 (chk t).2]:=fun h k hk=>by rw[zAU hlen heq hi i2 h,hk]
  refine zab (zds hX hs (t.col i) (hl _ (zwh (by omega)))) ?_
  simp only[go_sem,Nat.reduceEqDiff]
  refine zab (zAX hX hs (t.nm i)) ?_
  cases hN:Lat.isNm (t.nm i) with
  | false =>
   simp only[go_sem,Nat.reduceEqDiff]
   have e:colE t i=6:=if_pos hN
   exact hcE (by rw[e];decide) 6 e.symm
  | true =>
   have hN':¬Lat.isNm (t.nm i)=false:=by rw[hN];decide
   simp only[go_sem,Nat.reduceEqDiff,Nat.reduceAdd,Int.reduceToNat,Int.reduceLE,Nat.reduceLT,Nat.reduceLeDiff]
   cases hC:(t.n.take i).contains (t.nm i) with
   | true =>
    simp only[go_sem,reduceCtorEq]
    have e:colE t i=8:=by unfold colE;rw[if_neg hN',if_pos hC]
    exact hcE (by rw[e];decide) 8 e.symm
   | false =>
    have hC':¬(t.n.take i).contains (t.nm i)=true:=by rw[hC];decide
    simp only[go_sem,reduceCtorEq]
    by_cases hA:Lat.arrE (t.col i)=0
    ·simp only[go_sem,hA]
     by_cases hr:(t.col i).r=1
     ·simp only[go_sem,Nat.reduceEqDiff,Nat.reduceAdd,Nat.reduceLeDiff,hr,e00,zbg]
      by_cases h5:(t.col i).l0=(t.col 0).l0/\(t.col i).l1=(t.col 0).l1
      ·have hb:(((t.col i).l0==(t.col 0).l0)&&((t.col i).l1==(t.col 0).l1))=true:=by simp [h5.1,h5.2]
       have hw:IntKind.i64.wrap ((i:Int)+1)=((i+1:Nat):Int):=by rw[wi64 (by omega)];omega
       refine ⟨by omega,fun h=>absurd (hb.symm.trans h) (by decide),fun _=>?_⟩
       rw[if_neg hC']
       simp only[go_sem,Nat.reduceEqDiff,hw]
       have e:colE t i=0:=by unfold colE;rw[if_neg hN',if_neg hC',if_neg (fun h=>h hA),if_neg (fun h=>h hr),if_neg (fun h=>h h5)]
       have ht:t.n.take i++[t.nm i]=t.n.take (i+1):=by
        rw[List.take_succ_eq_append_getElem hi]
        have:t.n[i]=t.nm i:=by unfold Tab.nm;rw[List.getD_eq_getElem?_getD,List.getElem?_eq_getElem hi];rfl
        rw[this]
       rw[ht]
       refine ⟨(i+1,_),by dsimp only;omega,⟨by dsimp only;omega,fun j hj=>?_⟩,rfl,rfl⟩
       dsimp only at hj
       by_cases ej:j=i
       ·rw[ej,e]
       ·exact i2 j (by omega)
      ·have hb:(((t.col i).l0==(t.col 0).l0)&&((t.col i).l1==(t.col 0).l1))=false:=by
        rw[Bool.eq_false_iff];intro h;simp only[Bool.and_eq_true,beq_iff_eq]at h;exact h5 h
       refine ⟨by omega,fun h=>?_,fun h=>absurd h (by simpa using h5)⟩
       have e:colE t i=11:=by unfold colE;rw[if_neg hN',if_neg hC',if_neg (fun h=>h hA),if_neg (fun h=>h hr),if_pos h5]
       exact hcE (by rw[e];decide) 11 e.symm
     ·simp only[go_sem,hr]
      have e:colE t i=22:=by unfold colE;rw[if_neg hN',if_neg hC',if_neg (fun h=>h hA),if_pos hr]
      exact hcE (by rw[e];decide) 22 e.symm
    ·simp only[go_sem,hA]
     have e:colE t i=Lat.arrE (t.col i):=by unfold colE;rw[if_neg hN',if_neg hC',if_pos hA]
     exact hcE (by rw[e];exact hA) _ e.symm
 ·have hi':¬(i:Int)<t.n.length:=by omega
  simp only[zfH,go_sem,Nat.reduceEqDiff,hi']
  rw[zDN ⟨hlen,heq,fun j hj=>i2 j (by omega)⟩]
end
end Go.Avm
namespace Go.Avm
open Go Go.Tb
set_option maxRecDepth 10000
theorem zGl (t:Tab)(i:Nat)(hi:i<t.c.length)(d:Lat.Arr):t.c.getD i d=t.col i:=by
 unfold Tab.col
 rw[List.getD_eq_getElem?_getD,List.getD_eq_getElem?_getD,List.getElem?_eq_getElem hi];rfl
theorem zGF (t:Tab)(i:Nat)(hi:i<t.n.length)(d:List UInt8):t.n.getD i d=t.nm i:=by
 unfold Tab.nm
 rw[List.getD_eq_getElem?_getD,List.getD_eq_getElem?_getD,List.getElem?_eq_getElem hi];rfl
section
variable {X:Cx}(hX:X.P=Go.Proofs.Tryz.prog)(hs:Std X)
include hX hs
theorem zAB (a b:Lat.Arr):Ev X zlx [arrV a,arrV b] (.bool (zuF a b)):=by
 obtain ⟨k,r,l0,l1,c⟩:=a
 obtain ⟨k',r',l0',l1',c'⟩:=b
 refine zac hs (zq8 hX) 0 ?_
 simp only[zql,arrV,go_sem,Nat.reduceEqDiff,Nat.reduceAdd,reduceCtorEq,Nat.reduceLT,Nat.reduceLeDiff,zuF]
 grind
theorem zzG (a b:Lat.Arr)(hl:a.c.length<1000000):Ev X zmp [arrV a,arrV b] (.bool (zrZ a b)):=by
 obtain ⟨k,r,l0,l1,l⟩:=a
 obtain ⟨k',r',l0',l1',m⟩:=b
 refine zac hs (zqh hX) 0 ?_
 simp only[zrw,arrV,go_sem,Nat.reduceEqDiff,Nat.reduceAdd,reduceCtorEq]
 refine zab (zAB hX hs ⟨k,r,l0,l1,l⟩ ⟨k',r',l0',l1',m⟩) ?_
 dsimp only at hl
 cases hk:zuF ⟨k,r,l0,l1,l⟩ ⟨k',r',l0',l1',m⟩ with
 | false =>
  simp only[go_sem,Nat.reduceEqDiff,reduceCtorEq]
  simp only[zrZ,hk,Bool.false_and]
 | true =>
  have e0:zrZ ⟨k,r,l0,l1,l⟩ ⟨k',r',l0',l1',m⟩=(l==m):=by simp only[zrZ,hk,Bool.true_and]
  rw[e0]
  simp only[go_sem,Nat.reduceEqDiff,Nat.reduceAdd,reduceCtorEq,Nat.reduceLT]
  refine ⟨fun h=>?_,fun h=>?_⟩
  ·have:(l==m)=false:=by rw[beq_eq_false_iff_ne];rintro rfl;exact h rfl
   rw[this]
  have hlm:l.length=m.length:=by omega
  refine zaj hs.hm (ι:=Nat) (fun i=>i<=l.length/\∀j,j<i->l.getD j 0=m.getD j 0) (fun i=>[(5,.int .i64 i),(2,.ptr 0 0),(3,.ptr 1 0)]) (fun _=>[.box [.int .i64 k,.int .i64 r,.int .i64 l0,.int .i64 l1,lst (AV.int .i64) .ro l],.box [.int .i64 k',.int .i64 r',.int .i64 l0',.int .i64 l1',lst (AV.int .i64) .ro m]]) (fun i=>l.length-i) 0 ?_ fun i hi=>?_
  ·simp only[go_sem,Nat.reduceEqDiff,reduceCtorEq]
   exact ⟨Nat.zero_le _,fun j hj=>absurd hj (Nat.not_lt_zero _)⟩
  obtain ⟨x1,x2⟩:=hi
  by_cases hi:i<l.length
  ·have h1:(i:Int)<l.length:=by omega
   have h2:(i:Int)<m.length:=by omega
   have hw:IntKind.i64.wrap ((i:Int)+1)=((i+1:Nat):Int):=by rw[wi64 (by omega)];omega
   simp only[zhc,go_sem,Nat.reduceEqDiff,Nat.reduceAdd,Nat.reduceLT,h1,h2,hw]
   refine ⟨by omega,by omega,fun h=>?_,fun h=>⟨i+1,by omega,⟨hi,fun j hj=>?_⟩,rfl⟩⟩
   ·have:(l==m)=false:=by rw[beq_eq_false_iff_ne];rintro rfl;exact h rfl
    rw[this]
   ·rcases (by omega:j=i∨j<i) with rfl|hj
    ·exact h
    ·exact x2 j hj
  ·have h1:¬(i:Int)<l.length:=by omega
   simp only[zhc,go_sem,Nat.reduceEqDiff,Nat.reduceAdd,Nat.reduceLT,h1]
   have:(l==m)=true:=by rw[beq_iff_eq];exact zt8 0 hlm fun j hj=>x2 j (by omega)
   rw[this]
end
end Go.Avm
namespace Go.Avm
open Go
set_option maxRecDepth 10000
section
variable {X:Cx}(hX:X.P=Go.Proofs.Tryz.prog)(hs:Std X)
include hX hs
theorem zq7 (n:Nat)(hn:n<=2)(l0 l1:Int)(h0:0<=l0/\l0<=400)(h1:0<=l1/\l1<=400):Ev X zhH [.int .i64 n,.agg [.int .i64 l0,.int .i64 l1]] (.int .i64 (Lat.many n l0 l1)):=by
 have hm:0<=l0*l1/\l0*l1<=400*400:=⟨Int.mul_nonneg h0.1 h1.1,Int.mul_le_mul h0.2 h1.2 h1.1 (by decide)⟩
 refine zac hs (zq3 hX) 1 ?_
 simp only[zp8,go_sem,Nat.reduceAdd,reduceCtorEq]
 refine zaj hs.hm (ι:=Nat) (fun i=>i<=n) (fun i=>[(6,.int .i64 i),(0,.int .i64 n),(3,.ptr 0 0),(5,.int .i64 (Lat.many i l0 l1))]) (fun _=>[.box [.int .i64 l0,.int .i64 l1]]) (fun i=>n-i) 0 ?_ fun i hi=>?_
 ·simp only[go_sem,Nat.reduceEqDiff,Int.reduceLE,reduceCtorEq,Lat.many]
  exact Nat.zero_le _
 ·simp only[zli,go_sem,Nat.reduceEqDiff,Nat.reduceAdd,reduceCtorEq]
  refine ⟨fun c=>?_,fun c=>?_⟩
  ·have:i=0∨i=1:=by omega
   rcases this with rfl|rfl
   ·simp only[go_sem,Nat.reduceEqDiff,Int.reduceAdd,Nat.reduceMul,Int.reduceLE,Int.reduceLT,reduceCtorEq,Nat.reduceLT]
    refine ⟨1,by omega,by omega,rfl,?_⟩
    rw[wi64 (by simp [Lat.many];omega)]
    simp [Lat.many]
   ·simp only[go_sem,Nat.reduceEqDiff,Int.reduceAdd,Nat.reduceMul,Int.reduceLE,Int.reduceLT,reduceCtorEq,Nat.reduceLT]
    refine ⟨2,by omega,by omega,rfl,?_⟩
    rw[wi64 (by simp [Lat.many];omega)]
    simp [Lat.many]
  ·obtain rfl:i=n:=by omega
   rfl
theorem zvf (r l0 l1:Int):Ev X zjc [.int .i64 r,.agg [.int .i64 l0,.int .i64 l1]] (.int .i64 (Lat.zav r l0 l1)):=by
 refine zac hs (zpc hX) 1 ?_
 by_cases hr:0<=r/\r<=2
 ·obtain ⟨n,rfl⟩:∃n:Nat,r=n:=⟨r.toNat,by omega⟩
  have hn:n<=2:=by omega
  have g0:((n:Int)<0)=False:=eq_false (by omega)
  have g2:((2:Int)<n)=False:=eq_false (by omega)
  simp only[ziS,go_sem,Nat.reduceEqDiff,Nat.reduceAdd,reduceCtorEq,g0,g2]
  refine zaj hs.hm (ι:=Nat) (fun i=>i<=n/\(1<=i->0<=l0)/\(2<=i->0<=l1)) (fun i=>[(5,.int .i64 i),(0,.int .i64 n),(3,.ptr 0 0)]) (fun _=>[.box [.int .i64 l0,.int .i64 l1]]) (fun i=>n-i) 0 ?_ fun i hi=>?_
  ·simp only[go_sem,Nat.reduceEqDiff,reduceCtorEq,Nat.reduceLeDiff]
   exact Nat.zero_le _
  ·obtain ⟨i1,i2,i3⟩:=hi
   simp only[zjL,go_sem,Nat.reduceEqDiff,Nat.reduceAdd,reduceCtorEq]
   refine ⟨fun c=>⟨by omega,by omega,?_⟩,fun c=>?_⟩
   ·have:i=0∨i=1:=by omega
    rcases this with rfl|rfl
    ·simp only[go_sem,Nat.reduceEqDiff,Int.reduceAdd,Nat.reduceMul,reduceCtorEq]
     refine ⟨fun e=>?_,fun e=>⟨1,by omega,⟨by omega,fun _=>by omega,fun h=>absurd h (by omega)⟩,rfl⟩⟩
     simp only[Lat.zav]
     rw[if_neg (by omega),if_pos (by omega)]
    ·simp only[go_sem,Nat.reduceEqDiff,Int.reduceAdd,Nat.reduceMul,reduceCtorEq]
     refine ⟨fun e=>?_,fun e=>⟨2,by omega,⟨by omega,fun _=>i2 (by omega),fun _=>by omega⟩,rfl⟩⟩
     simp only[Lat.zav]
     rw[if_neg (by omega),if_pos (by omega)]
   ·obtain rfl:i=n:=by omega
    refine zaj hs.hm (ι:=Nat) (fun j=>i<=j/\j<=2/\(i=0->1<=j->l0=0)/\(i<=1->2<=j->l1=0)) (fun j=>[(6,.int .i64 j),(0,.int .i64 i),(3,.ptr 0 0)]) (fun _=>[.box [.int .i64 l0,.int .i64 l1]]) (fun j=>2-j) i ?_ fun j hj=>?_
    ·simp only[go_sem,Nat.reduceEqDiff,reduceCtorEq]
     exact ⟨hn,fun h1 h2=>absurd h2 (by omega),fun h1 h2=>absurd h2 (by omega)⟩
    ·obtain ⟨j1,j2,j3,j4⟩:=hj
     simp only[zj3,go_sem,Nat.reduceEqDiff,Nat.reduceAdd,Nat.reduceMul,Int.reduceToNat,Int.reduceLE,Int.reduceLT,reduceCtorEq,Nat.reduceLT]
     refine ⟨fun c=>⟨by omega,by omega,?_⟩,fun c=>?_⟩
     ·have:j=0∨j=1:=by omega
      rcases this with rfl|rfl
      ·simp only[go_sem,Nat.reduceEqDiff,Int.reduceAdd,Nat.reduceMul,Nat.reduceSub,Int.reduceLT,reduceCtorEq]
       refine ⟨fun e=>?_,fun e=>⟨1,by omega,⟨by omega,by omega,fun _ _=>e,fun _ h=>absurd h (by omega)⟩,rfl⟩⟩
       simp only[Lat.zav]
       rw[if_neg (by omega),if_neg (by omega),if_pos (by omega)]
      ·simp only[go_sem,Nat.reduceEqDiff,Int.reduceAdd,Nat.reduceMul,Nat.reduceSub,Int.reduceLT,reduceCtorEq]
       refine ⟨fun e=>?_,fun e=>⟨2,by omega,⟨by omega,by omega,fun h _=>j3 h (by omega),fun _ _=>e⟩,rfl⟩⟩
       simp only[Lat.zav]
       rw[if_neg (by omega),if_neg (by omega),if_pos (by omega)]
     ·have b0:i=0->l0=0:=fun h=>j3 h (by omega)
      have b1:i<=1->l1=0:=fun h=>j4 h (by omega)
      have p0:0<=l0:=by
       rcases Nat.lt_or_ge i 1 with h|h
       ·rw[b0 (by omega)];decide
       ·exact i2 h
      have p1:0<=l1:=by
       rcases Nat.lt_or_ge i 2 with h|h
       ·rw[b1 (by omega)];decide
       ·exact i3 h
      have e3:Lat.zav i l0 l1=if 400<l0∨400<l1∨400<Lat.many i l0 l1 then 15 else 0:=by
       simp only[Lat.zav]
       rw[if_neg (by omega),if_neg (by omega),if_neg]
       rintro (⟨h1,h2⟩|⟨h1,h2⟩)
       ·exact h2 (b0 (by omega))
       ·exact h2 (b1 (by omega))
      rw[e3]
      refine ⟨fun h=>?_,fun h=>⟨fun h'=>?_,fun h'=>zab (zq7 hX hs i hn l0 l1 (by omega) (by omega)) ?_⟩⟩
      ·rw[if_pos (by omega)]
      ·rw[if_pos (by omega)]
      ·simp only[go_sem,Nat.reduceEqDiff,reduceCtorEq]
       refine ⟨fun h''=>?_,fun h''=>?_⟩
       ·rw[if_pos (by omega)]
       ·rw[if_neg (by omega)]
 ·have e:Lat.zav r l0 l1=7:=if_pos (by omega)
  rw[e]
  simp only[ziS,go_sem,Nat.reduceEqDiff,Nat.reduceAdd,reduceCtorEq]
  exact fun h h2=>absurd hr (by omega)
theorem zum (r l0 l1:Int):Ev X ziB [.int .i64 r,.agg [.int .i64 l0,.int .i64 l1]] (.tuple [.int .i64 (if Lat.zav r l0 l1=0 then Lat.many r l0 l1 else 0),.int .i64 (Lat.zav r l0 l1)]):=by
 refine zac hs (zoy hX) 1 ?_
 simp only[znO,go_sem,Nat.reduceEqDiff,Nat.reduceAdd,reduceCtorEq]
 refine zab (zvf hX hs r l0 l1) ?_
 by_cases h:Lat.zav r l0 l1=0
 ·obtain ⟨h1,h2,h3⟩:=ztn h
  obtain ⟨n,rfl⟩:∃n:Nat,r=n:=⟨r.toNat,by omega⟩
  simp only[h,go_sem,Nat.reduceEqDiff,Nat.reduceAdd,reduceCtorEq]
  refine zab (zq7 hX hs n (by omega) l0 l1 h2 h3) ?_
  simp only[go_sem,Nat.reduceEqDiff,reduceCtorEq]
 ·simp only[h,go_sem,Nat.reduceEqDiff,reduceCtorEq]
theorem zvZ (c:Int):Ev X zhy [.int .i64 c] (.bool (Lat.zf8 c)):=by
 refine zac hs (zmK hX) 1 ?_
 simp only[zk6,go_sem,Nat.reduceEqDiff,reduceCtorEq,Lat.zf8]
 refine ⟨fun h1=>⟨fun h2=>⟨fun h3=>?_,fun h3=>?_⟩,fun h2=>?_⟩,fun h1=>?_⟩<;>simp [*]
def finC (k:Int)(cs:List Int)(E:Int):Int:=if E≠0 then E else if k=2/\cs.any (fun c=>!Lat.zf8 c)=true then 7 else 0
theorem zwK {Q:Exit->Fr->Heap->Prop}{F:FL}{k r l0 l1:Int}{cs:List Int}(E:Int)(hl:cs.length<1000000)(hF:FL.has F.get [(5,.int .i64 0),(1,.ptr 0 0),(4,.int .i64 E)])
  (hQ:∀F':FL,FL.has F'.get [(4,.int .i64 (finC k cs E))]->Q (.exit 0) F'.get [.box [.int .i64 k,.int .i64 r,.int .i64 l0,.int .i64 l1,lst (AV.int .i64) .ro cs]]) :
  wpc X 55 (.loop zgb) Q F.get [.box [.int .i64 k,.int .i64 r,.int .i64 l0,.int .i64 l1,lst (AV.int .i64) .ro cs]]:=by
 refine zaj hs.hm (ι:=Nat×Int) (fun p=>p.1<=cs.length/\((p.2=0/\E=0/\(k=2->∀j,j<p.1->Lat.zf8 (cs.getD j 0)=true))∨(p.2=finC k cs E/\p.2≠0))) (fun p=>[(5,.int .i64 p.1),(1,.ptr 0 0),(4,.int .i64 p.2)]) (fun _=>[.box [.int .i64 k,.int .i64 r,.int .i64 l0,.int .i64 l1,lst (AV.int .i64) .ro cs]]) (fun p=>cs.length-p.1) (0,E) ⟨⟨Nat.zero_le _,?_⟩,hF,rfl⟩ fun p hi=>?_
 ·by_cases h:E=0
  ·exact .inl ⟨h,h,fun _ j hj=>absurd hj (by simp)⟩
  ·exact .inr ⟨(if_pos h).symm,h⟩
 ·obtain ⟨i,e⟩:=p
  simp only at hi
  obtain ⟨i1,hi⟩:=hi
  simp only[zgb,go_sem,Nat.reduceEqDiff,Nat.reduceAdd,Nat.reduceLT]
  have bad:∀j,j<cs.length->k=2->Lat.zf8 (cs.getD j 0)=false->E=0->finC k cs E=7:=fun j hj hk hb hE=>by
   have hmem:cs.getD j 0∈cs:=by
    rw[List.getD_eq_getElem?_getD,List.getElem?_eq_getElem hj]
    exact List.getElem_mem _
   unfold finC
   rw[if_neg (by omega),if_pos ⟨hk,List.any_eq_true.2 ⟨cs.getD j 0,hmem,by rw[hb];rfl⟩⟩]
  rcases hi with ⟨rfl,hE,hg⟩|⟨he,hne⟩
  ·refine ⟨fun c=>?_,fun c=>?_⟩
   ·simp only[go_sem]
    refine ⟨fun hk=>⟨⟨by omega,c⟩,zab (zvZ hX hs _) ?_⟩,fun hk=>?_⟩
    ·cases hb:Lat.zf8 (cs.getD i 0) with
     | false =>
      simp only[go_sem,Nat.reduceEqDiff]
      exact ⟨(i+1,7),by simp only;omega,⟨by simp only;omega,.inr ⟨(bad i (by omega) hk hb hE).symm,by simp only;decide⟩⟩,by simp only;rw[wi64 (by omega)];rfl,rfl⟩
     | true =>
      simp only[go_sem,Nat.reduceEqDiff]
      exact ⟨(i+1,0),by simp only;omega,⟨by simp only;omega,.inl ⟨rfl,hE,fun _ j hj=>by
       rcases Nat.lt_or_eq_of_le (Nat.le_of_lt_succ hj) with h|h
       ·exact hg hk j h
       ·rw[h];exact hb⟩⟩,by simp only;rw[wi64 (by omega)];rfl,rfl⟩
    ·exact ⟨(i+1,0),by simp only;omega,⟨by simp only;omega,.inl ⟨rfl,hE,fun h=>absurd h hk⟩⟩,by simp only;rw[wi64 (by omega)];rfl,rfl⟩
   ·refine hQ _ ?_
    simp only[go_sem,Nat.reduceEqDiff]
    rw[AV.int.injEq]
    refine ⟨rfl,?_⟩
    unfold finC
    rw[if_neg (by omega),if_neg]
    rintro ⟨hk,h⟩
    obtain ⟨x,hx,hb⟩:=List.any_eq_true.1 h
    obtain ⟨j,hj,rfl⟩:=List.getElem_of_mem hx
    have:=hg hk j (by omega)
    rw[List.getD_eq_getElem?_getD,List.getElem?_eq_getElem hj,Option.getD_some]at this
    rw[this]at hb
    cases hb
  ·have hne':(e=0)=False:=eq_false hne
   have fin:=hQ
   simp only[go_sem,hne']
   refine ⟨fun c=>hQ _ ?_,fun c=>hQ _ ?_⟩
   ·simp only[go_sem,Nat.reduceEqDiff,he]
   ·simp only[go_sem,Nat.reduceEqDiff,he]
theorem zuq (a:Lat.Arr)(hl:a.c.length<1000000):Ev X zix [arrV a] (.int .i64 (Lat.arrE a)):=by
 refine zac hs (zpr hX) 1 ?_
 obtain ⟨k,r,l0,l1,cs⟩:=a
 simp only at hl
 by_cases hk:k=1∨k=2
 ·have e1:Lat.arrE ⟨k,r,l0,l1,cs⟩=if Lat.zav r l0 l1≠0 then Lat.zav r l0 l1 else if (cs.length:Int)≠Lat.many r l0 l1 then 6 else if k=2/\cs.any (fun c=>!Lat.zf8 c)=true then 7 else 0:=if_neg (by simp only;omega)
  have e2:Lat.arrE ⟨k,r,l0,l1,cs⟩=finC k cs (if Lat.zav r l0 l1≠0 then Lat.zav r l0 l1 else if (cs.length:Int)≠Lat.many r l0 l1 then 6 else 0):=by
   rw[e1]
   unfold finC
   by_cases h1:Lat.zav r l0 l1=0
   ·by_cases h2:(cs.length:Int)=Lat.many r l0 l1
    ·simp [h1,h2]
    ·simp [h1,h2]
   ·simp [h1]
  rw[e2]
  rcases hk with rfl|rfl
  all_goals
   simp only[ziw,arrV,go_sem,Nat.reduceEqDiff,Nat.reduceAdd,Int.reduceEq,reduceCtorEq,Nat.reduceLT,Nat.reduceLeDiff]
   refine zab (zum hX hs r l0 l1) ?_
   by_cases h1:Lat.zav r l0 l1=0
   ·by_cases h2:(cs.length:Int)=Lat.many r l0 l1
    ·simp only[h1,h2,go_sem,Nat.reduceEqDiff,Nat.reduceAdd,reduceCtorEq,Nat.reduceLT,ne_eq]
     refine zwK hX hs 0 hl ⟨rfl,rfl,rfl,trivial⟩ fun F' hF'=>?_
     simp only[go_sem,Nat.reduceEqDiff]at hF' ⊢
     simp only[go_sem,hF']
    ·simp only[h1,h2,go_sem,Nat.reduceEqDiff,Nat.reduceAdd,reduceCtorEq,Nat.reduceLT,ne_eq]
     refine zwK hX hs 6 hl ⟨rfl,rfl,rfl,trivial⟩ fun F' hF'=>?_
     simp only[go_sem,Nat.reduceEqDiff]at hF' ⊢
     simp only[go_sem,hF']
   ·simp only[h1,go_sem,Nat.reduceEqDiff,Nat.reduceAdd,reduceCtorEq,Nat.reduceLT,ne_eq]
    refine zwK hX hs (Lat.zav r l0 l1) hl ⟨rfl,rfl,rfl,trivial⟩ fun F' hF'=>?_
    simp only[go_sem,Nat.reduceEqDiff]at hF' ⊢
    simp only[go_sem,hF']
 ·have e:Lat.arrE ⟨k,r,l0,l1,cs⟩=2:=if_pos (by simp only;omega)
  have h1:(k=1)=False:=eq_false (by omega)
  have h2:(k=2)=False:=eq_false (by omega)
  rw[e]
  simp only[ziw,arrV,go_sem,Nat.reduceEqDiff,Nat.reduceAdd,reduceCtorEq,Nat.reduceLT,h1,h2]
end
end Go.Avm
