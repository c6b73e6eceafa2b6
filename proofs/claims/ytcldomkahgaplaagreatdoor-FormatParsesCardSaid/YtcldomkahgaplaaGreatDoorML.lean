/- Runes and their bytes, plainly. -/
import Derived.Test.YtcldomkahgaplaaGreatDoorA8
import Derived.Lib.ValidLaws
import Derived.Test.YtcldomkahgaplaaGreatDoorM1
import Derived.Lib.ParseIntB
set_option linter.all false
namespace Go.Rn
open Go Go.Avm
def valid (n:Int):Bool:=(decide (0<=n)&&decide (n<55296))||(decide (57343<n)&&decide (n<=1114111))
def encI (n:Int):List Int:=
  if n<128 then [n] else if n<2048 then [192+n / 64,128+n % 64] else if n<65536 then [224+n / 4096,128+n / 64 % 64,128+n % 64]
  else [240+n / 262144,128+n / 4096 % 64,128+n / 64 % 64,128+n % 64]
def zaB (x:Int):UInt8:=UInt8.ofNat x.toNat
def enc (n:Int):List UInt8:=if valid n then (encI n).map zaB else []
def fault (b:Bool):Int:=if b then 0 else 7
theorem zb4 {x:Int}(h:0<=x/\x<256):u8 (zaB x)=.int .u8 x:=by
  simp only[u8,zaB,AV.int.injEq,true_and]
  have:(UInt8.ofNat x.toNat).toNat=x.toNat:=by simp;omega
  rw[this];omega
def bt (l:List UInt8)(i:Nat):Int:=((l.getD i 0).toNat:Int)
theorem zbu (l:List UInt8)(i:Nat):0<=bt l i/\bt l i<256:=by
  have:=(l.getD i 0).toNat_lt;simp only[bt];omega
theorem zen (a:UInt8)(l:List UInt8):bt (a::l) 0=(a.toNat:Int):=rfl
theorem zfg (a:UInt8)(l:List UInt8)(i:Nat):bt (a::l) (i+1)=bt l i:=rfl
theorem zar {x:Int}(h:0<=x/\x<256):((zaB x).toNat:Int)=x:=by
  simp only[zaB]
  have:(UInt8.ofNat x.toNat).toNat=x.toNat:=by simp;omega
  rw[this];omega
theorem zto (b:UInt8):zaB (b.toNat:Int)=b:=by simp [zaB]
theorem zyM (l:List UInt8)(i:Nat):zaB (bt l i)=l.getD i 0:=by simp [zaB,bt]
def lo (a:Int):Int:=if a=224 then 160 else if a=240 then 144 else 128
def hi (a:Int):Int:=if a=237 then 159 else if a=244 then 143 else 191
theorem lohi (a:Int):128<=lo a/\lo a<=160/\143<=hi a/\hi a<=191/\(a=224->lo a=160)/\(a=240->lo a=144)/\(a=237->hi a=159)/\(a=244->hi a=143)/\(a≠224->a≠240->lo a=128)/\(a≠237->a≠244->hi a=191):=by
  simp only[lo,hi];grind
def decI (n a b c d:Int):Option (Int×Nat):=
  if n<1 then none
  else if a<128 then some (a,1)
  else if 194<=a/\a<224/\2<=n/\128<=b/\b<192 then some (64*(a-192)+(b-128),2)
  else if 224<=a/\a<240/\3<=n/\lo a<=b/\b<=hi a/\128<=c/\c<192 then some (4096*(a-224)+64*(b-128)+(c-128),3)
  else if 240<=a/\a<245/\4<=n/\lo a<=b/\b<=hi a/\128<=c/\c<192/\128<=d/\d<192 then some (262144*(a-240)+4096*(b-128)+64*(c-128)+(d-128),4)
  else none
def dcO (l:List UInt8):Option (Int×Nat):=decI l.length (bt l 0) (bt l 1) (bt l 2) (bt l 3)
def zx2 (n a b c:Int):Bool:=
  decide (194<=a/\a<224/\n=1)||decide (224<=a/\a<240/\1<=n/\n<3/\(n=1∨lo a<=b/\b<=hi a)) ||
  decide (240<=a/\a<245/\1<=n/\n<4/\(n=1∨lo a<=b/\b<=hi a)/\(n<=2∨128<=c/\c<192))
def more (l:List UInt8):Bool:=zx2 l.length (bt l 0) (bt l 1) (bt l 2)
theorem zbk (n:Int):valid n=true↔(0<=n/\n<55296)∨(57343<n/\n<=1114111):=by simp [valid]
theorem zao {n:Int}(h:valid n=true):0<=n/\n<=1114111:=by rw[zbk]at h;omega
theorem zx4 {n:Int}(h:valid n=true):∀x∈encI n,0<=x/\x<256:=by
  have:=zao h
  simp only[encI];split
  · simp;omega
  split
  · simp;omega
  split<;>· simp;omega
theorem zyl (n:Int):(encI n).length=if n<128 then 1 else if n<2048 then 2 else if n<65536 then 3 else 4:=by
  simp only[encI];split
  · rfl
  split
  · rfl
  split<;>rfl
theorem zfZ {n:Int}(h:valid n=true):enc n=(encI n).map zaB:=by simp [enc,h]
theorem zhn {n:Int}(h:valid n=true):(enc n).length=if n<128 then 1 else if n<2048 then 2 else if n<65536 then 3 else 4:=by
  rw[zfZ h,List.length_map,zyl]
theorem zaQ {n:Int}(h:valid n=true):1<=(enc n).length/\(enc n).length<=4:=by
  rw[zhn h];split
  · omega
  split
  · omega
  split<;>omega
theorem zff {n:Int}(h:valid n=true)(t:List UInt8):dcO (enc n++t)=some (n,(enc n).length):=by
  have hr:=zao h
  have hv:=(zbk n).1 h
  rw[zhn h,zfZ h]
  simp only[encI,dcO]
  by_cases h1:n<128
  · simp only[h1,if_true,List.map_cons,List.map_nil,List.cons_append,List.nil_append,List.length_cons,zen]
    rw[zar (by omega)]
    simp only[decI,h1,if_true]
    rw[if_neg (by omega)]
  by_cases h2:n<2048
  · simp only[h1,h2,if_true,if_false,List.map_cons,List.map_nil,List.cons_append,List.nil_append,List.length_cons,zen,zfg]
    rw[zar (by omega),zar (by omega)]
    simp only[decI]
    rw[if_neg (by omega),if_neg (by omega),if_pos (by omega)]
    simp only[Option.some.injEq,Prod.mk.injEq,and_true];omega
  by_cases h3:n<65536
  · simp only[h1,h2,h3,if_true,if_false,List.map_cons,List.map_nil,List.cons_append,List.nil_append,List.length_cons,zen,zfg]
    rw[zar (by omega),zar (by omega),zar (by omega)]
    simp only[decI]
    rw[if_neg (by omega),if_neg (by omega),if_neg (by omega),if_pos (by have:=lohi (224+n / 4096);have:=lohi (240+n / 262144);omega)]
    simp only[Option.some.injEq,Prod.mk.injEq,and_true];omega
  · simp only[h1,h2,h3,if_false,List.map_cons,List.map_nil,List.cons_append,List.nil_append,List.length_cons,zen,zfg]
    rw[zar (by omega),zar (by omega),zar (by omega),zar (by omega)]
    simp only[decI]
    rw[if_neg (by omega),if_neg (by omega),if_neg (by omega),if_neg (by omega),if_pos (by have:=lohi (224+n / 4096);have:=lohi (240+n / 262144);omega)]
    simp only[Option.some.injEq,Prod.mk.injEq,and_true];omega
theorem za4 {l : List UInt8}{r : Int}{n : Nat}(h : dcO l = some (r, n)):valid r=true/\n<=l.length/\l.take n=enc r/\n=(enc r).length:=by
  have b0:=zbu l 0;have b1:=zbu l 1;have b2:=zbu l 2;have b3:=zbu l 3
  simp only[dcO,decI]at h
  rw[zbk]
  have key:∀hv:valid r=true,n=(encI r).length->n<=l.length->(∀i<n,bt l i=(encI r).getD i 0)->valid r=true/\n<=l.length/\l.take n=enc r/\n=(enc r).length:=fun hv hn hl hi=>by
    refine ⟨hv,hl,?_,by rw[zfZ hv,List.length_map];exact hn⟩
    rw[zfZ hv]
    refine List.ext_getElem (by simp;omega) fun i h1 h2=>?_
    simp only[List.length_take,List.length_map]at h1 h2
    have:=hi i (by omega)
    rw[List.getElem_take,List.getElem_map]
    have e1:l.getD i 0=l[i]'(by omega):=by simp [List.getD,(show i<l.length by omega)]
    have e2:(encI r).getD i 0=(encI r)[i]'(by omega):=by simp [List.getD,h2]
    rw[e2]at this
    rw[<-this,zyM,e1]
  rw[zbk]at key
  have s1 : ∀ P : Nat → Prop, P 0 → ∀ i < 1, P i := fun P h0 i hi => by have:i=0:=by omega
                                                                        subst this;exact h0
  have s2:∀P:Nat->Prop,P 0->P 1->∀i<2,P i:=fun P h0 h1 i hi=>by match i,hi with|0,_=>exact h0|1,_=>exact h1
  have s3:∀P:Nat->Prop,P 0->P 1->P 2->∀i<3,P i:=fun P h0 h1 h2 i hi=>by match i,hi with|0,_=>exact h0|1,_=>exact h1|2,_=>exact h2
  have s4:∀P:Nat->Prop,P 0->P 1->P 2->P 3->∀i<4,P i:=fun P h0 h1 h2 h3 i hi=>by match i,hi with|0,_=>exact h0|1,_=>exact h1|2,_=>exact h2|3,_=>exact h3
  split at h
  · exact absurd h (by simp)
  split at h
  · simp only[Option.some.injEq,Prod.mk.injEq]at h;obtain ⟨rfl,rfl⟩:=h
    have e:encI (bt l 0)=[bt l 0]:=by simp only[encI];rw[if_pos (by omega)]
    rw[e]at key
    exact key (by omega) (by simp) (by omega) (s1 _ (by simp))
  split at h
  · simp only[Option.some.injEq,Prod.mk.injEq]at h;obtain ⟨rfl,rfl⟩:=h
    have e:encI (64*(bt l 0-192)+(bt l 1-128))=[bt l 0,bt l 1]:=by
      simp only[encI];rw[if_neg (by omega),if_pos (by omega)];congr 1
      · omega
      · congr 1;omega
    rw[e]at key
    exact key (by omega) (by simp) (by omega) (s2 _ (by simp) (by simp))
  split at h
  · simp only[Option.some.injEq,Prod.mk.injEq]at h;obtain ⟨rfl,rfl⟩:=h
    have hh:2048<=4096*(bt l 0-224)+64*(bt l 1-128)+(bt l 2-128)/\(4096*(bt l 0-224)+64*(bt l 1-128)+(bt l 2-128)<55296∨57343<4096*(bt l 0-224)+64*(bt l 1-128)+(bt l 2-128))/\4096*(bt l 0-224)+64*(bt l 1-128)+(bt l 2-128)<65536/\128<=bt l 1/\bt l 1<192:=by have:=lohi (bt l 0);omega
    have e:encI (4096*(bt l 0-224)+64*(bt l 1-128)+(bt l 2-128))=[bt l 0,bt l 1,bt l 2]:=by
      simp only[encI];rw[if_neg (by omega),if_neg (by omega),if_pos (by omega)];congr 1
      · omega
      · congr 1
        · omega
        · congr 1;omega
    rw[e]at key
    exact key (by omega) (by simp) (by omega) (s3 _ (by simp) (by simp) (by simp))
  split at h
  · simp only [Option.some.injEq,Prod.mk.injEq]at h;obtain ⟨rfl,rfl⟩:=h
    have hh:65536<=262144*(bt l 0-240)+4096*(bt l 1-128)+64*(bt l 2-128)+(bt l 3-128)/\262144*(bt l 0-240)+4096*(bt l 1-128)+64*(bt l 2-128)+(bt l 3-128)<=1114111/\128<=bt l 1/\bt l 1<192:=by have:=lohi (bt l 0);omega
    have e : encI (262144*(bt l 0-240)+4096*(bt l 1-128)+64*(bt l 2-128)+(bt l 3-128))=[bt l 0,bt l 1,bt l 2,bt l 3]:=by
      simp only[encI];rw[if_neg (by omega),if_neg (by omega),if_neg (by omega)];congr 1
      · omega
      · congr 1
        · omega
        · congr 1
          · omega
          · congr 1;omega
    rw[e]at key
    exact key (by omega) (by simp) (by omega) (s4 _ (by simp) (by simp) (by simp) (by simp))
  · exact absurd h (by simp)
def numI (l:List UInt8):Int:=
  if l.length=1 then (if bt l 0<128 then bt l 0 else -1)
  else if l.length=2 then (if 192<=bt l 0/\bt l 0<224/\128<=bt l 1/\bt l 1<192 then 64*(bt l 0-192)+bt l 1-128 else -1)
  else if l.length=3 then (if 224<=bt l 0/\bt l 0<240/\128<=bt l 1/\bt l 1<192/\128<=bt l 2/\bt l 2<192 then 64*(64*(bt l 0-224)+bt l 1-128)+bt l 2-128 else -1)
  else if l.length=4 then (if 240<=bt l 0/\bt l 0<248/\128<=bt l 1/\bt l 1<192/\128<=bt l 2/\bt l 2<192/\128<=bt l 3/\bt l 3<192 then 64*(64*(64*(bt l 0-240)+bt l 1-128)+bt l 2-128)+bt l 3-128 else -1)
  else -1
def sb (l:List UInt8):Bool:=decide ((dcO l).map (·.2)=some l.length)
theorem zBo {l:List UInt8}{r:Int}(h:dcO l=some (r,l.length)):numI l=r:=by
  have hL:=lohi (bt l 0)
  simp only[dcO,decI]at h
  split at h
  · cases h
  split at h
  · simp only[Option.some.injEq,Prod.mk.injEq]at h
    simp only[numI,if_pos h.2.symm];rw[if_pos (by assumption)];exact h.1
  split at h
  · simp only[Option.some.injEq,Prod.mk.injEq]at h
    simp only[numI];rw[if_neg (by omega),if_pos (by omega),if_pos (by omega)];omega
  split at h
  · simp only[Option.some.injEq,Prod.mk.injEq]at h
    simp only[numI];rw[if_neg (by omega),if_neg (by omega),if_pos (by omega),if_pos (by omega)];omega
  split at h
  · simp only[Option.some.injEq,Prod.mk.injEq]at h
    simp only[numI];rw[if_neg (by omega),if_neg (by omega),if_neg (by omega),if_pos (by omega),if_pos (by omega)];omega
  · cases h
theorem zvW (l:List UInt8):sb l=true↔valid (numI l)=true/\enc (numI l)=l:=by
  simp only[sb,decide_eq_true_eq]
  constructor
  · intro h
    cases hd:dcO l with
    | none=>simp [hd]at h
    | some x =>
      obtain ⟨r,n⟩:=x
      simp [hd]at h
      subst h
      have h2:=za4 hd
      rw[zBo hd]
      exact ⟨h2.1,by rw[<-h2.2.2.1,List.take_length]⟩
  · rintro ⟨h1,h2⟩
    have:=zff h1 []
    rw[List.append_nil,h2]at this
    simp [this]
theorem zAc {l:List UInt8}(h:sb l=true):dcO l=some (numI l,l.length):=by
  have h':=(zvW l).1 h
  have:=zff h'.1 []
  rw[List.append_nil,h'.2]at this
  exact this
theorem zii {t:List UInt8}{r:Int}{k:Nat}:dcO t=some (r,k)↔k<=t.length/\dcO (t.take k)=some (r,k):=by
  constructor
  · intro h
    have h2:=za4 h
    refine ⟨h2.2.1,?_⟩
    rw[h2.2.2.1]
    have:=zff h2.1 []
    rw[List.append_nil]at this
    rw[this,<-h2.2.2.2]
  · rintro ⟨hk,h⟩
    have h2:=za4 h
    have:t=enc r++t.drop k:=by
      rw[<-h2.2.2.1,List.take_take,Nat.min_self,List.take_append_drop]
    rw[this,zff h2.1,<-h2.2.2.2]
theorem zBW {t:List UInt8}{k:Nat}(hk:k<=t.length):sb (t.take k)=true↔(dcO t).map (·.2)=some k:=by
  have hl:(t.take k).length=k:=by rw[List.length_take];omega
  constructor
  · intro h
    have:=zAc h
    rw[hl]at this
    rw[zii.2 ⟨hk,this⟩];rfl
  · intro h
    cases hd:dcO t with
    | none=>simp [hd]at h
    | some x =>
      obtain ⟨r,n⟩:=x
      simp [hd]at h
      subst h
      simp only[sb,(zii.1 hd).2,hl];simp
def many (a:Int):Nat:=if 192<=a/\a<224 then 2 else if 224<=a/\a<240 then 3 else if 240<=a/\a<248 then 4 else 0
theorem zGA (l t:List UInt8)(i:Nat):bt (l++t) i=if i<l.length then bt l i else bt t (i-l.length):=by
  simp only[bt,List.getD]
  split
  · rw[List.getElem?_append_left (by assumption)]
  · rw[List.getElem?_append_right (by omega)]
theorem znk (k:Nat)(b:UInt8)(i:Nat)(h:i<k):bt (List.replicate k b) i=b.toNat:=by
  simp [bt,List.getD,List.getElem?_replicate,h]
theorem zjQ (l:List UInt8):(dcO l).map (·.2)=some l.length ↔
    (l.length=1/\bt l 0<128)∨(l.length=2/\194<=bt l 0/\bt l 0<224/\128<=bt l 1/\bt l 1<192) ∨
    (l.length=3/\224<=bt l 0/\bt l 0<240/\lo (bt l 0)<=bt l 1/\bt l 1<=hi (bt l 0)/\128<=bt l 2/\bt l 2<192) ∨
    (l.length=4/\240<=bt l 0/\bt l 0<245/\lo (bt l 0)<=bt l 1/\bt l 1<=hi (bt l 0)/\128<=bt l 2/\bt l 2<192/\128<=bt l 3/\bt l 3<192):=by
  have b0:=zbu l 0
  simp only[dcO,decI]
  split
  · simp;omega
  split
  · simp;omega
  split
  · simp;omega
  split
  · simp;omega
  split
  · simp;omega
  · simp;omega
theorem zc1 (l:List UInt8)(h1:1<=l.length)(h2:l.length<many (bt l 0)) :
    more l=(sb (l++List.replicate (many (bt l 0)-l.length) (zaB 128))||sb (l++List.replicate (many (bt l 0)-l.length) (zaB 191))):=by
  have b0:=zbu l 0
  have hL:=lohi (bt l 0)
  have e1:((zaB 128).toNat:Int)=128:=by decide
  have e2:((zaB 191).toNat:Int)=191:=by decide
  rw[Bool.eq_iff_iff]
  simp only[Bool.or_eq_true,sb,decide_eq_true_eq]
  rw[zjQ,zjQ]
  simp only[List.length_append,List.length_replicate,zGA]
  simp only[more,zx2,Bool.or_eq_true,decide_eq_true_eq]
  have hm:(192<=bt l 0/\bt l 0<224/\many (bt l 0)=2)∨(224<=bt l 0/\bt l 0<240/\many (bt l 0)=3)∨(240<=bt l 0/\bt l 0<248/\many (bt l 0)=4):=by
    simp only[many]at h2⊢;grind
  rcases hm with ⟨g1,g2,hm⟩|⟨g1,g2,hm⟩|⟨g1,g2,hm⟩<;>rw[hm]at h2⊢
  · have h:l.length=1:=by omega
    simp [h,znk,e1,e2,zen,zfg]
    omega
  · rcases (by omega:l.length=1∨l.length=2) with h|h
    · simp [h,znk,e1,e2,zen,zfg]
      omega
    · simp [h,znk,e1,e2,zen,zfg]
      omega
  · rcases (by omega:l.length=1∨l.length=2∨l.length=3) with h|h|h
    · simp [h,znk,e1,e2,zen,zfg]
      omega
    · simp [h,znk,e1,e2,zen,zfg]
      omega
    · simp [h,znk,e1,e2,zen,zfg]
      omega
theorem zra (l:List UInt8)(h:more l=true):1<=l.length/\l.length<many (bt l 0):=by
  simp only[more,zx2,Bool.or_eq_true,decide_eq_true_eq]at h
  simp only[many]
  grind
theorem za3 {l:List UInt8}{r:Int}{n:Nat}(h:dcO l=some (r,n)):1<=n/\n<=4/\n<=l.length:=by
  have:=za4 h
  have h2:=zaQ this.1
  omega
def zpL:Nat->List UInt8->List (Int×Nat)
  | 0,_=>[]
  | k+1,t=>match dcO t with|some (r,n)=>(r,n)::zpL k (t.drop n)|none=>[]
def runs (t:List UInt8):List (Int×Nat):=zpL t.length t
theorem zgz : ∀(k:Nat) (t:List UInt8),t.length<=k->zpL k t=runs t
  | 0,t,h=>by rw[show t=[] from List.length_eq_zero_iff.1 (by omega)];rfl
  | k + 1, t,h=>by
    simp only[zpL]
    cases hd:dcO t with
    | none =>
      simp only[runs]
      cases ht:t.length with
      | zero=>rfl
      | succ m=>simp only[zpL,hd]
    | some x =>
      obtain ⟨r,n⟩:=x
      have hr:=za3 hd
      simp only[runs]
      cases ht:t.length with
      | zero=>omega
      | succ m =>
        simp only[zpL,hd]
        rw[zgz k (t.drop n) (by rw[List.length_drop];omega)]
        rw[show m=m from rfl]
        have : zpL m (t.drop n)=runs (t.drop n):=by
          by_cases hm:m<=k
          · by_cases hmk:m=k
            · subst hmk;exact zgz m _ (by rw[List.length_drop];omega)
            · exact zgz m _ (by rw[List.length_drop];omega)
          · omega
        rw[this]
termination_by k=>k
theorem zgc {t:List UInt8}{r:Int}{n:Nat}(h:dcO t=some (r,n)):runs t=(r,n)::runs (t.drop n):=by
  have hr:=za3 h
  simp only[runs]
  cases ht:t.length with
  | zero=>omega
  | succ m =>
    simp only[zpL,h]
    rw[zgz m _ (by rw[List.length_drop];omega)]
    rfl
theorem zqc {t:List UInt8}(h:dcO t=none):runs t=[]:=by
  simp only[runs]
  cases ht:t.length with
  | zero=>rfl
  | succ m=>simp only[zpL,h]
def zbd (t:List UInt8):List Int:=(runs t).map (·.1)
def stop (t:List UInt8):Nat:=((runs t).map (·.2)).sum
def zwk (t:List UInt8):Int:=if stop t<t.length then (if more (t.drop (stop t)) then 370 else 6) else 0
theorem zcL {t:List UInt8}{r:Int}{n:Nat}(h:dcO t=some (r,n)):stop t=n+stop (t.drop n):=by
  simp only[stop,zgc h,List.map_cons,List.sum_cons]
theorem zdg {t:List UInt8}(h:dcO t=none):stop t=0:=by simp [stop,zqc h]
theorem zco {t:List UInt8}{r:Int}{n:Nat}(h:dcO t=some (r,n)):zbd t=r::zbd (t.drop n):=by
  simp only[zbd,zgc h,List.map_cons]
theorem zeQ {t:List UInt8}(h:dcO t=none):zbd t=[]:=by simp [zbd,zqc h]
theorem zh2 {P:List UInt8->Prop}(h0:∀t,dcO t=none->P t)(h1:∀t r n,dcO t=some (r,n)->P (t.drop n)->P t):∀t,P t:=by
  intro t
  generalize hk:t.length=k
  induction k using Nat.strongRecOn generalizing t with
  | ind k ih =>
    cases hd:dcO t with
    | none=>exact h0 t hd
    | some x =>
      obtain ⟨r,n⟩:=x
      have hr:=za3 hd
      exact h1 t r n hd (ih (t.drop n).length (by rw[List.length_drop];omega) _ rfl)
theorem zAl (t:List UInt8):stop t<=t.length:=by
  refine zh2 (P:=fun t=>stop t<=t.length) (fun t h=>by rw[zdg h];omega) (fun t r n h ih=>?_) t
  have:=za3 h
  rw[zcL h];rw[List.length_drop]at ih;omega
theorem zxd (t:List UInt8):t.take (stop t)=((zbd t).map enc).flatten:=by
  refine zh2 (P:=fun t=>t.take (stop t)=((zbd t).map enc).flatten) (fun t h=>by rw[zdg h,zeQ h];rfl) (fun t r n h ih=>?_) t
  rw[zcL h,zco h,List.map_cons,List.flatten_cons,<-ih,<-(za4 h).2.2.1]
  rw[List.take_add]
theorem zdk (t:List UInt8):∀r∈zbd t,valid r=true:=by
  refine zh2 (P:=fun t=>∀r∈zbd t,valid r=true) (fun t h=>by rw[zeQ h];simp) (fun t r n h ih=>?_) t
  rw[zco h]
  intro x hx
  rcases List.mem_cons.1 hx with rfl|hx
  · exact (za4 h).1
  · exact ih x hx
theorem zsD {a:List UInt8}(h:stop a=a.length)(b:List UInt8):runs (a++b)=runs a++runs b:=by
  revert h
  refine zh2 (P:=fun a=>stop a=a.length->runs (a++b)=runs a++runs b) (fun t h hs=>?_) (fun t r n h ih hs=>?_) a
  · rw[zdg h]at hs
    rw[List.length_eq_zero_iff.1 hs.symm];rfl
  · have hn:=za3 h
    have h2:dcO (t++b)=some (r,n):=zii.2 ⟨by rw[List.length_append];omega,by rw[List.take_append_of_le_length hn.2.2];exact (zii.1 h).2⟩
    rw[zgc h,zgc h2,List.cons_append,List.drop_append_of_le_length hn.2.2,ih]
    rw[zcL h]at hs;rw[List.length_drop];omega
theorem ztE {r:Int}(h:valid r=true):runs (enc r)=[(r,(enc r).length)]:=by
  have h2:=zff h []
  rw[List.append_nil]at h2
  rw[zgc h2,List.drop_length];rfl
theorem zyZ {r:Int}(h:valid r=true):stop (enc r)=(enc r).length:=by
  simp [stop,ztE h]
theorem zl4:∀(l:List Int),(∀r∈l,valid r=true)->runs (l.map enc).flatten=l.map fun r=>(r,(enc r).length)
  | [],_=>rfl
  | r::t,h=>by
    rw[List.map_cons,List.flatten_cons,zsD (zyZ (h r (by simp))),ztE (h r (by simp)),zl4 t (fun x hx=>h x (by simp [hx]))]
    rfl
theorem zxP (l:List Int)(h:∀r∈l,valid r=true):stop (l.map enc).flatten=(l.map enc).flatten.length:=by
  simp only[stop,zl4 l h,List.length_flatten,List.map_map];rfl
theorem znE (l:List Int)(h:∀r∈l,valid r=true):zbd (l.map enc).flatten=l:=by
  simp only[zbd,zl4 l h,List.map_map];exact List.map_id l
end Go.Rn
namespace Go.Rn
open Go Go.Avm
def decN (n a b c d:Nat):Nat×Nat:=
 if a<128 then (a,1)
 else if (a / 32==6&&(decide (1<n)&&b / 64==2))=true then (if a % 32*64+b % 64≥128 then (a % 32*64+b % 64,2) else (65533,1))
 else if (a / 16==14&&(decide (1<n)&&b / 64==2)&&(decide (2<n)&&c / 64==2))=true then
  (if (a % 16*4096+b % 64*64+c % 64≥2048&&Utf8.valid (a % 16*4096+b % 64*64+c % 64:Nat))=true then (a % 16*4096+b % 64*64+c % 64,3) else (65533,1))
 else if (a / 8==30&&(decide (1<n)&&b / 64==2)&&(decide (2<n)&&c / 64==2)&&(decide (3<n)&&d / 64==2))=true then
  (if (a % 8*262144+b % 64*4096+c % 64*64+d % 64≥65536&&Utf8.valid (a % 8*262144+b % 64*4096+c % 64*64+d % 64:Nat))=true then (a % 8*262144+b % 64*4096+c % 64*64+d % 64,4) else (65533,1))
 else (65533,1)
theorem zGs (l:List UInt8):dec l=decN l.length (l.getD 0 0).toNat (l.getD 1 0).toNat (l.getD 2 0).toNat (l.getD 3 0).toNat:=rfl
theorem u8v (n:Nat):Utf8.valid (n:Int)=decide ((n<55296)∨(57343<n/\n<=1114111)):=by
 simp only[Utf8.valid]
 rw[Bool.eq_iff_iff]
 simp
 omega
def pr:Option (Int×Nat)->Nat×Nat
 | some (r,n)=>(r.toNat,n)
 | none=>(65533,1)
theorem zpg {r:Int}{m k n:Nat}(h1:r=m)(h2:k=n):(m,k)=pr (some (r,n)):=by
 subst h1 h2;simp [pr]
theorem zDR (n a b c d:Nat)(hn:1<=n)(ha:a<256)(hb:b<256)(hc:c<256)(hd:d<256):decN n a b c d=pr (decI n a b c d):=by
 have hlo:=lohi (a:Int)
 unfold decN decI
 rw[if_neg (c:=(n:Int)<1) (by omega)]
 by_cases c1:a<128
 ·rw[if_pos c1,if_pos (by omega)];exact zpg rfl rfl
 rw[if_neg c1,if_neg (c:=(a:Int)<128) (by omega)]
 simp only[u8v,Bool.and_eq_true,beq_iff_eq,decide_eq_true_eq]
 by_cases c2:192<=a/\a<224
 ·rw [if_neg (c:=224<=(a:Int)/\_) (by omega),if_neg (c:=240<=(a:Int)/\_) (by omega)]
  by_cases d2:1<n/\b / 64=2
  ·rw [if_pos (c:=a / 32=6/\_) (by omega)]
   by_cases d3:194<=a
   ·rw[if_pos (by omega),if_pos (by omega)]
    exact zpg (by omega) rfl
   ·rw[if_neg (by omega),if_neg (by omega)];rfl
  ·rw[if_neg (c:=a / 32=6/\_) (by omega),if_neg (c:=(a / 16=14/\_)/\_) (by omega),if_neg (c:=((a / 8=30/\_)/\_)/\_) (by omega),if_neg (by omega)];rfl
 rw[if_neg (c:=a / 32=6/\_) (by omega),if_neg (c:=194<=(a:Int)/\_) (by omega)]
 by_cases c3:224<=a/\a<240
 ·rw [if_neg (c:=240<=(a:Int)/\_) (by omega)]
  by_cases d2:2<n/\b / 64=2/\c / 64=2
  ·rw [if_pos (c:=(a / 16=14/\_)/\_) (by omega)]
   by_cases d3:lo a<=b/\b<=hi a
   ·rw[if_pos (by omega),if_pos (by omega)]
    exact zpg (by omega) rfl
   ·rw[if_neg (by omega),if_neg (by omega)];rfl
  ·rw[if_neg (c:=(a / 16=14/\_)/\_) (by omega),if_neg (c:=((a / 8=30/\_)/\_)/\_) (by omega),if_neg (by omega)];rfl
 rw[if_neg (c:=(a / 16=14/\_)/\_) (by omega),if_neg (c:=224<=(a:Int)/\_) (by omega)]
 by_cases c4:240<=a/\a<248/\3<n/\b / 64=2/\c / 64=2/\d / 64=2
 ·rw [if_pos (c:=((a / 8=30/\_)/\_)/\_) (by omega)]
  by_cases d3:a<245/\lo a<=b/\b<=hi a
  ·rw[if_pos (by omega),if_pos (by omega)]
   exact zpg (by omega) rfl
  ·rw[if_neg (by omega),if_neg (by omega)];rfl
 ·rw[if_neg (c:=((a / 8=30/\_)/\_)/\_) (by omega),if_neg (by omega)];rfl
theorem znn (l:List UInt8)(h:l≠[]):dec l=pr (dcO l):=by
 have hn:1<=l.length:=by cases l with
  | nil=>exact absurd rfl h
  | cons=>simp
 rw[zGs]
 exact zDR _ _ _ _ _ hn (l.getD 0 0).toNat_lt (l.getD 1 0).toNat_lt (l.getD 2 0).toNat_lt (l.getD 3 0).toNat_lt
def okT (t:List UInt8):Bool:=decide (stop t=t.length)
theorem zpn {t:List UInt8}{r:Int}{n:Nat}(h:dcO t=some (r,n)):okT t=okT (t.drop n):=by
 have h1:=za3 h
 have h2:=zcL h
 unfold okT
 rw[h2,List.length_drop,decide_eq_decide]
 omega
theorem zop {t:List UInt8}(h:dcO t=none)(h0:t≠[]):okT t=false:=by
 unfold okT
 rw[zdg h,decide_eq_false_iff_not]
 cases t with
 | nil=>exact absurd rfl h0
 | cons=>simp
theorem zq0 {l:List UInt8}(hl:l≠[]):((dec l).1=65533/\(dec l).2=1)↔dcO l=none:=by
 rw[znn l hl]
 cases hd:dcO l with
 | none=>simp [pr]
 | some x =>
  obtain ⟨r,n⟩:=x
  have h1:=za4 hd
  simp only[pr]
  have h2:=zhn h1.1
  have hr:=zao h1.1
  simp only[reduceCtorEq,iff_false]
  rintro ⟨h3,h4⟩
  subst h4
  rw[<-h1.2.2.2]at h2
  split at h2<;>(try split at h2)<;>(try split at h2)<;>omega
end Go.Rn
namespace Go.Rn
open Go Go.Avm
theorem zAu (l:List UInt8):Lib.decodeL l=dec l:=by
 unfold Lib.decodeL
 rw[zzU]
 simp
theorem zrh:∀(k:Nat) (l:List UInt8),l.length<=k->Lib.validD l=okT l
 | 0,l,h=>by
  have:l=[]:=List.length_eq_zero_iff.1 (by omega)
  subst this;rfl
 | k+1,l,h=>by
  by_cases h0:l=[]
  ·subst h0;rfl
  rw[Lib.validD_step l h0,zAu]
  cases hd:dcO l with
  | none =>
   rw[if_pos ((zq0 h0).2 hd),zop hd h0]
  | some x =>
   obtain ⟨r,n⟩:=x
   have h1:=za3 hd
   rw[if_neg (fun e=>by rw[(zq0 h0).1 e]at hd;cases hd),zpn hd,znn l h0,hd]
   simp only[pr]
   exact zrh k _ (by rw[List.length_drop];omega)
end Go.Rn
namespace Go.Lx
open Go Go.Avm Go.Rn
structure Tok where
 kind:Int
 n:Int
 s:List UInt8
deriving DecidableEq
inductive Out where
 | ok (t:Tok) (k:Nat)
 | bad (d:Nat) (e:Int)
def ltr (c:UInt8):Bool:=decide (97<=c.toNat)&&decide (c.toNat<=122)
def dg (c:UInt8):Bool:=decide (48<=c.toNat)&&decide (c.toNat<=57)
def al (c:UInt8):Bool:=ltr c||dg c
def cnt (p:UInt8->Bool):List UInt8->Nat
 | []=>0
 | c::r=>if p c then cnt p r+1 else 0
def sepB:List UInt8->Bool
 | []=>true
 | c::_=>!al c
theorem gL {a b:List UInt8}{k:Nat}(h:k<a.length):(a++b).getD k 0=a.getD k 0:=by
 rw[List.getD_eq_getElem?_getD,List.getElem?_append_left h,<-List.getD_eq_getElem?_getD]
theorem gR {a b:List UInt8}{k:Nat}(h:a.length<=k):(a++b).getD k 0=b.getD (k-a.length) 0:=by
 rw[List.getD_eq_getElem?_getD,List.getElem?_append_right h,<-List.getD_eq_getElem?_getD]
theorem zdu (p:UInt8->Bool):∀u:List UInt8,cnt p u<=u.length
 | []=>Nat.le_refl _
 | c::r=>by
  have:=zdu p r
  simp only[cnt,List.length_cons];split<;>omega
theorem zlU (p:UInt8->Bool):∀u:List UInt8,∀c∈u.take (cnt p u),p c=true
 | [],c,h=>by simp at h
 | x::r,c,h=>by
  simp only[cnt]at h
  split at h
  ·rename_i hx
   simp only[List.take_succ_cons,List.mem_cons]at h
   rcases h with rfl|h
   ·exact hx
   ·exact zlU p r c h
  ·simp at h
theorem zpE (p:UInt8->Bool):∀(a v:List UInt8),(∀c∈a,p c=true)->cnt p (a++v)=a.length+cnt p v
 | [],v,_=>by simp
 | x::r,v,h=>by
  simp only[List.cons_append,cnt,h x (by simp),if_true,List.length_cons]
  rw[zpE p r v fun c hc=>h c (by simp [hc])]
  omega
theorem zd2 (p:UInt8->Bool):∀u:List UInt8,cnt p u<u.length->p (u.getD (cnt p u) 0)=false
 | [],h=>by simp at h
 | x::r,h=>by
  simp only[cnt]at h⊢
  split
  ·rename_i hx
   rw[if_pos hx]at h
   simp only[List.getD_cons_succ]
   exact zd2 p r (by simpa using h)
  ·rename_i hx
   simpa using hx
theorem cnt_lt (p:UInt8->Bool):∀(u:List UInt8) (k:Nat),k<cnt p u->p (u.getD k 0)=true
 | [],k,h=>by simp [cnt]at h
 | x::r,k,h=>by
  simp only[cnt]at h
  split at h
  ·rename_i hx
   cases k with
   | zero=>simpa using hx
   | succ k=>simp only[List.getD_cons_succ];exact cnt_lt p r k (by omega)
  ·omega
theorem zoK {p:UInt8->Bool}(hp:∀c,p c=true->al c=true)(v:List UInt8)(h:sepB v=true):cnt p v=0:=by
 cases v with
 | nil=>rfl
 | cons c r =>
  simp only[sepB,Bool.not_eq_true']at h
  simp only[cnt]
  rw[if_neg fun e=>by rw[hp c e]at h;cases h]
theorem zFT {c:UInt8}(h:dg c=true):al c=true:=by simp [al,h]
def zdK (u:List UInt8):Out:=if 16<cnt al u then .bad 16 3 else .ok ⟨1,0,u.take (cnt al u)⟩ (cnt al u)
def sg (u:List UInt8):Nat:=if u.getD 0 0=45 then 1 else 0
def numO (u:List UInt8):Out:=
 let m:=cnt dg (u.drop (sg u))
 if m=0 then .bad 0 6 else
 match Lib.parseIntB 64 (u.take (sg u+m)) with
 | .ok v=>if ltr (u.getD (sg u+m) 0) then .bad (sg u+m) 6 else .ok ⟨2,v,[]⟩ (sg u+m)
 | _=>.bad 0 7
def hxB (c:UInt8):Bool:=(Wo.hexv c).isSome
def hxL:Nat->List UInt8->Nat
 | a,[]=>a
 | a,c::r=>hxL (a*16+(Wo.hexv c).getD 0) r
def escp:List UInt8->Option (Int×Nat)
 | []=>none
 | c::r=>if c=34∨c=92 then some (c.toNat,1) else if c=110 then some (10,1) else if c≠117 then none
  else if Lat.idx 59 r<r.length/\Lat.idx 59 r<=6/\(r.take (Lat.idx 59 r)).all hxB=true/\Lat.idx 59 r≠0/\valid (hxL 0 (r.take (Lat.idx 59 r)))=true then some (hxL 0 (r.take (Lat.idx 59 r)),Lat.idx 59 r+2) else none
def elem (v:List UInt8):Option (List UInt8×Nat):=
 if v.getD 0 0=92 then (escp (v.drop 1)).map fun (r,n)=>(enc r,n+1)
 else match dcO v with
  | none=>none
  | some (r,n)=>if r<32 then none else some (enc r,n)
inductive TR where
 | ok (c:List UInt8) (k:Nat)
 | bad (d:Nat)
 | out
def TR.up (bs:List UInt8)(n:Nat):TR->TR
 | .ok c k=>.ok (bs++c) (k+n)
 | .bad d=>.bad (d+n)
 | .out=>.out
theorem zvD (a b:List UInt8)(m n:Nat)(t:TR):(t.up b n).up a m=t.up (a++b) (n+m):=by
 cases t<;>simp [TR.up]<;>omega
theorem up_0 (t:TR):t.up [] 0=t:=by cases t<;>simp [TR.up]
def txtS:Nat->List UInt8->TR
 | _,[]=>.out
 | k+1,_::r=>(txtS k r).up [] 1
 | 0,c::r=>if c=34 then .ok [] 1 else match elem (c::r) with
  | none=>.bad 0
  | some (bs,n)=>(txtS (n-1) r).up bs 1
theorem zl3:∀(k:Nat) (u:List UInt8),k<=u.length->txtS k u=(txtS 0 (u.drop k)).up [] k
 | 0,u,_=>by rw[List.drop_zero,up_0]
 | k+1,[],h=>by simp at h
 | k+1,c::r,h=>by
  rw[txtS,zl3 k r (by simpa using h),List.drop_succ_cons,zvD];rfl
def zer (u:List UInt8):Out:=match txtS 0 (u.drop 1) with
 | .ok c k=>.ok ⟨3,0,c⟩ (k+1)
 | .bad d=>.bad (d+1) 6
 | .out=>.bad 0 6
def zee (u:List UInt8):Out:=
 if u.getD 0 0=40 then .ok ⟨4,0,[]⟩ 1 else if u.getD 0 0=41 then .ok ⟨5,0,[]⟩ 1 else if u.getD 0 0=91 then .ok ⟨6,0,[]⟩ 1 else if u.getD 0 0=93 then .ok ⟨7,0,[]⟩ 1
 else if u.getD 0 0=60/\u.getD 1 0=45 then .ok ⟨8,0,[]⟩ 2 else if u.getD 0 0=61 then .ok ⟨9,0,[]⟩ 1 else .bad 0 6
def tokO (u:List UInt8):Out:=
 if ltr (u.getD 0 0) then zdK u else if dg (u.getD 0 0)||decide (u.getD 0 0=45) then numO u else if u.getD 0 0=34 then zer u else zee u
def needs (t:Tok):Bool:=decide (t.kind=1)||decide (t.kind=2)
theorem zrK {w:List UInt8}{r:Int}{n:Nat}(h:escp w=some (r,n)):1<=n/\n<=w.length/\valid r=true/\∀v,escp (w.take n++v)=some (r,n):=by
 cases w with
 | nil=>simp [escp]at h
 | cons c t =>
  simp only[escp]at h
  by_cases h1:c=34∨c=92
  ·rw[if_pos h1]at h
   simp only[Option.some.injEq,Prod.mk.injEq]at h
   obtain ⟨rfl,rfl⟩:=h
   refine ⟨by omega,by simp,?_,fun v=>by simp [escp,h1]⟩
   exact (zbk _).2 (.inl ⟨by omega,by have:=c.toNat_lt;omega⟩)
  rw[if_neg h1]at h
  by_cases h2:c=110
  ·rw[if_pos h2]at h
   simp only[Option.some.injEq,Prod.mk.injEq]at h
   obtain ⟨rfl,rfl⟩:=h
   refine ⟨by omega,by simp,rfl,fun v=>by simp [escp,h2]⟩
  rw[if_neg h2]at h
  by_cases h3:c≠117
  ·rw[if_pos h3]at h;cases h
  rw[if_neg h3]at h
  split at h
  ·rename_i hc
   obtain ⟨a1,a2,a3,a4,a5⟩:=hc
   simp only[Option.some.injEq,Prod.mk.injEq]at h
   obtain ⟨rfl,rfl⟩:=h
   refine ⟨by omega,by simp only[List.length_cons];omega,a5,fun v=>?_⟩
   generalize hk:Lat.idx 59 t=k at *
   have e1:(c::t).take (k+2)++v=c::(t.take (k+1)++v):=by simp
   have hlen:(t.take (k+1)).length=k+1:=by rw[List.length_take];omega
   have e2:Lat.idx 59 (t.take (k+1)++v)=k:=by
    refine Lat.ztr (by rw[List.length_append];omega) ?_ fun j hj=>?_
    ·rw[gL (by omega)]
     have:=Lat.zqD (c:=59) (s:=t) (by omega)
     rw[hk]at this
     rw[List.getD_eq_getElem?_getD,List.getElem?_take,if_pos (by omega),<-List.getD_eq_getElem?_getD]
     exact this
    ·rw[gL (by omega)]
     have:=Lat.ztX (c:=59) (s:=t) (k:=j) (by omega)
     rw[List.getD_eq_getElem?_getD,List.getElem?_take,if_pos (by omega),<-List.getD_eq_getElem?_getD]
     exact this
   have e3:(t.take (k+1)++v).take k=t.take k:=by
    rw[List.take_append_of_le_length (by omega),List.take_take,Nat.min_eq_left (by omega)]
   rw[e1,escp,if_neg h1,if_neg h2,if_neg h3,e2,e3,if_pos ⟨by rw[List.length_append];omega,a2,a3,a4,a5⟩]
  ·cases h
theorem zfJ {v bs:List UInt8}{n:Nat}(h:elem v=some (bs,n)):1<=n/\n<=v.length/\∀w,elem (v.take n++w)=some (bs,n):=by
 simp only[elem]at h
 cases v with
 | nil=>simp [dcO,decI]at h
 | cons c t =>
  simp only[List.getD_cons_zero,List.drop_succ_cons,List.drop_zero]at h
  by_cases h1:c=92
  ·rw [if_pos h1]at h
   cases he:escp t with
   | none=>rw[he]at h;cases h
   | some x =>
    obtain ⟨r,k⟩:=x
    rw[he]at h
    simp only[Option.map_some,Option.some.injEq,Prod.mk.injEq]at h
    obtain ⟨rfl,rfl⟩:=h
    have hs:=zrK he
    refine ⟨by omega,by simp only[List.length_cons];omega,fun w=>?_⟩
    simp only[elem,List.take_succ_cons,List.cons_append,List.getD_cons_zero,if_pos h1,List.drop_succ_cons,List.drop_zero,hs.2.2.2 w,Option.map_some]
  ·rw [if_neg h1]at h
   cases hd:dcO (c::t) with
   | none=>rw[hd]at h;cases h
   | some x =>
    obtain ⟨r,k⟩:=x
    rw[hd]at h
    simp only at h
    split at h
    ·cases h
    ·rename_i h32
     simp only[Option.some.injEq,Prod.mk.injEq]at h
     obtain ⟨rfl,rfl⟩:=h
     have hr:=za3 hd
     have hs:=za4 hd
     refine ⟨by omega,by omega,fun w=>?_⟩
     obtain ⟨k,rfl⟩:∃j,k=j+1:=⟨k-1,(Nat.sub_add_cancel hr.1).symm⟩
     have e:dcO ((c::t).take (k+1)++w)=some (r,k+1):=by
      rw[hs.2.2.1,zff hs.1,<-hs.2.2.2]
     have e0:((c::t).take (k+1)++w).getD 0 0=c:=rfl
     simp only[elem,e,e0,if_neg h1,if_neg h32]
theorem zfW {c:UInt8}{r bs:List UInt8}{n:Nat}(h1:c≠34)(h2:elem (c::r)=some (bs,n)):txtS 0 (c::r)=(txtS 0 ((c::r).drop n)).up bs n:=by
 have hs:=zfJ h2
 obtain ⟨k,rfl⟩:∃j,n=j+1:=⟨n-1,by omega⟩
 rw[txtS,if_neg h1,h2]
 simp only[Nat.add_sub_cancel,List.drop_succ_cons]
 rw[zl3 k r (by have:=hs.2.1;simp only[List.length_cons]at this;omega),zvD,List.append_nil]
theorem zrN:∀(L:Nat) (v c:List UInt8) (k:Nat),v.length<=L->txtS 0 v=.ok c k->1<=k/\k<=v.length/\∀w,txtS 0 (v.take k++w)=.ok c k
 | _,[],c,k,_,h=>by simp [txtS]at h
 | 0,x::r,c,k,hl,h=>by simp at hl
 | L + 1,x::r,c,k,hl,h=>by
  by_cases h1:x=34
  ·rw[txtS,if_pos h1]at h
   simp only[TR.ok.injEq]at h
   obtain ⟨rfl,rfl⟩:=h
   exact ⟨by omega,by simp,fun w=>by simp [txtS,h1]⟩
  ·cases he:elem (x::r) with
   | none=>rw[txtS,if_neg h1,he]at h;cases h
   | some y =>
    obtain ⟨bs,n⟩:=y
    have hs:=zfJ he
    rw[zfW h1 he]at h
    cases ht:txtS 0 ((x::r).drop n) with
    | ok c' k' =>
     rw[ht]at h
     simp only[TR.up,TR.ok.injEq]at h
     obtain ⟨rfl,rfl⟩:=h
     obtain ⟨i1,i2,i3⟩:=zrN L _ c' k' (by rw[List.length_drop];omega) ht
     rw[List.length_drop]at i2
     refine ⟨by omega,by omega,fun w=>?_⟩
     have e1:(x::r).take (k' + n)++w=(x::r).take n++(((x::r).drop n).take k'++w):=by
      rw[<-List.append_assoc];congr 1
      rw[Nat.add_comm,List.take_add]
     obtain ⟨n,rfl⟩:∃j,n=j+1:=⟨n-1,by omega⟩
     rw[e1]
     have e2:=hs.2.2 (((x::r).drop (n+1)).take k'++w)
     rw[List.take_succ_cons,List.cons_append]at e2⊢
     rw[zfW h1 e2,<-List.cons_append,<-List.take_succ_cons]
     have hlen:((x::r).take (n+1)).length=n+1:=by rw[List.length_take];omega
     rw[List.drop_append_of_le_length (by omega),List.drop_eq_nil_of_le (by omega),List.nil_append,i3 w]
     rfl
    | bad d=>rw[ht]at h;cases h
    | out=>rw[ht]at h;cases h
theorem ztW:∀(L:Nat) (v:List UInt8) (d:Nat),v.length<=L->txtS 0 v=.bad d->d<v.length
 | _,[],d,_,h=>by simp [txtS]at h
 | 0,x::r,d,hl,h=>by simp at hl
 | L + 1,x::r,d,hl,h=>by
  by_cases h1:x=34
  ·rw[txtS,if_pos h1]at h;cases h
  ·cases he:elem (x::r) with
   | none =>
    rw[txtS,if_neg h1,he]at h
    simp only[TR.bad.injEq]at h
    subst h;simp
   | some y =>
    obtain ⟨bs,n⟩:=y
    have hs:=zfJ he
    rw[zfW h1 he]at h
    cases ht:txtS 0 ((x::r).drop n) with
    | ok c' k'=>rw[ht]at h;cases h
    | out=>rw[ht]at h;cases h
    | bad d' =>
     rw[ht]at h
     simp only[TR.up,TR.bad.injEq]at h
     have:=ztW L _ d' (by rw[List.length_drop];omega) ht
     rw[List.length_drop]at this
     omega
end Go.Lx
namespace Go.Lx
open Go Go.Avm Go.Rn
theorem zzX {c:UInt8}(h:ltr c=true):al c=true:=by simp [al,h]
theorem getD_take {u v:List UInt8}{n k:Nat}(h:k<n)(hn:n<=u.length):(u.take n++v).getD k 0=u.getD k 0:=by
 rw[gL (by rw[List.length_take];omega),List.getD_eq_getElem?_getD,List.getElem?_take,if_pos h,<-List.getD_eq_getElem?_getD]
theorem zt1 {u:List UInt8}{k:Nat}(h:k<u.length->al (u.getD k 0)=false):sepB (u.drop k)=true:=by
 by_cases hk:k<u.length
 ·rw[List.drop_eq_getElem_cons hk]
  have:=h hk
  rw[List.getD_eq_getElem?_getD,List.getElem?_eq_getElem hk]at this
  simpa [sepB] using this
 ·rw[List.drop_eq_nil_of_le (by omega)];rfl
theorem zxg {v:List UInt8}(h:sepB v=true):ltr (v.getD 0 0)=false:=by
 cases v with
 | nil=>rfl
 | cons c r =>
  simp only[sepB,Bool.not_eq_true']at h
  simp only[List.getD_cons_zero]
  rw[<-Bool.not_eq_true];intro e;rw[zzX e]at h;cases h
theorem zvE {u:List UInt8}{t:Tok}{n:Nat}(h0:ltr (u.getD 0 0)=true)(h:zdK u=.ok t n):1<=n/\n<=u.length/\t.kind=1/\sepB (u.drop n)=true/\∀v,sepB v=true->zdK (u.take n++v)=.ok t n:=by
 unfold zdK at h
 split at h
 ·cases h
 ·rename_i h1
  simp only[Out.ok.injEq]at h
  obtain ⟨rfl,rfl⟩:=h
  have hle:=zdu al u
  have hpos:1<=cnt al u:=by
   cases u with
   | nil=>exact absurd h0 (by decide)
   | cons c r=>simp only[List.getD_cons_zero]at h0;simp [cnt,zzX h0]
  refine ⟨hpos,hle,rfl,zt1 (zd2 al u),fun v hv=>?_⟩
  have e:cnt al (u.take (cnt al u)++v)=cnt al u:=by
   rw[zpE al _ v (zlU al u),zoK (fun _ h=>h) v hv,List.length_take];omega
  unfold zdK
  rw[e,if_neg h1,List.take_append_of_le_length (by rw[List.length_take];omega),List.take_take,Nat.min_self]
theorem zxV {u:List UInt8}{t:Tok}{n:Nat}(h:numO u=.ok t n):1<=n/\n<=u.length/\t.kind=2/\sepB (u.drop n)=true/\∀v,sepB v=true->numO (u.take n++v)=.ok t n:=by
 unfold numO at h
 simp only at h
 split at h
 ·cases h
 ·rename_i h1
  split at h
  ·rename_i w hw
   split at h
   ·cases h
   ·rename_i h3
    simp only[Out.ok.injEq]at h
    obtain ⟨rfl,rfl⟩:=h
    generalize hg:sg u=g at *
    have hle:=zdu dg (u.drop g)
    rw[List.length_drop]at hle
    generalize hm:cnt dg (u.drop g)=m at *
    have hle':g+m<=u.length:=by omega
    have hst:g+m<u.length->dg (u.getD (g+m) 0)=false:=fun hlt=>by
     have:=zd2 dg (u.drop g) (by rw[hm,List.length_drop];omega)
     rw[hm]at this
     simpa [List.getD_eq_getElem?_getD,List.getElem?_drop] using this
    refine ⟨by omega,hle',rfl,zt1 fun hlt=>?_,fun v hv=>?_⟩
    ·simp only[al,Bool.or_eq_false_iff]
     exact ⟨by simpa using h3,hst hlt⟩
    ·have hlen:(u.take (g+m)).length=g+m:=by rw[List.length_take];omega
     have e1:sg (u.take (g+m)++v)=g:=by
      have e0:(u.take (g+m)++v).getD 0 0=u.getD 0 0:=getD_take (by omega) hle'
      unfold sg at hg⊢
      rw[e0];exact hg
     have e2:(u.take (g+m)++v).drop g=(u.drop g).take m++v:=by
      rw[List.drop_append_of_le_length (by omega),List.drop_take]
      congr 2;omega
     have e3:cnt dg ((u.take (g+m)++v).drop g)=m:=by
      rw[e2,zpE dg _ v (fun c hc=>zlU dg (u.drop g) c (by rw[hm];exact hc)),zoK (fun _ h=>zFT h) v hv,List.length_take,List.length_drop]
      omega
     have e4:(u.take (g+m)++v).take (g+m)=u.take (g+m):=by
      rw[List.take_append_of_le_length (by omega),List.take_take,Nat.min_self]
     have e5:ltr ((u.take (g+m)++v).getD (g+m) 0)=false:=by
      rw[gR (by omega),hlen,Nat.sub_self]
      exact zxg hv
     unfold numO
     simp only[e1,e3,e4,e5,hw,if_neg h1,Bool.false_eq_true,if_false]
  ·cases h
theorem zxl {u:List UInt8}{t:Tok}{n:Nat}(h0:u≠[])(h:zer u=.ok t n):1<=n/\n<=u.length/\t.kind=3/\∀v,zer (u.take n++v)=.ok t n:=by
 unfold zer at h
 split at h
 ·rename_i c k hk
  simp only[Out.ok.injEq]at h
  obtain ⟨rfl,rfl⟩:=h
  have hs:=zrN _ _ c k (Nat.le_refl _) hk
  have hlen:1<=u.length:=by cases u with
   | nil=>exact absurd rfl h0
   | cons=>simp
  rw[List.length_drop]at hs
  refine ⟨by omega,by omega,rfl,fun v=>?_⟩
  have e:(u.take (k+1)++v).drop 1=(u.drop 1).take k++v:=by
   rw[List.drop_append_of_le_length (by rw[List.length_take];omega),List.drop_take];rfl
  unfold zer
  rw[e,hs.2.2 v]
 ·cases h
 ·cases h
theorem zwa {u:List UInt8}{t:Tok}{n:Nat}(h0:u≠[])(h:zee u=.ok t n):1<=n/\n<=u.length/\needs t=false/\∀v,zee (u.take n++v)=.ok t n:=by
 cases u with
 | nil=>exact absurd rfl h0
 | cons c r =>
  unfold zee at h⊢
  simp only[List.getD_cons_zero]at h⊢
  split at h
  ·rename_i e
   simp only[Out.ok.injEq]at h
   obtain ⟨rfl,rfl⟩:=h
   exact ⟨by omega,by simp,rfl,fun v=>by simp [e]⟩
  rename_i e1
  split at h
  ·rename_i e
   simp only[Out.ok.injEq]at h
   obtain ⟨rfl,rfl⟩:=h
   exact ⟨by omega,by simp,rfl,fun v=>by simp [e]⟩
  rename_i e2
  split at h
  ·rename_i e
   simp only[Out.ok.injEq]at h
   obtain ⟨rfl,rfl⟩:=h
   exact ⟨by omega,by simp,rfl,fun v=>by simp [e]⟩
  rename_i e3
  split at h
  ·rename_i e
   simp only[Out.ok.injEq]at h
   obtain ⟨rfl,rfl⟩:=h
   exact ⟨by omega,by simp,rfl,fun v=>by simp [e]⟩
  rename_i e4
  split at h
  ·rename_i e
   simp only[Out.ok.injEq]at h
   obtain ⟨rfl,rfl⟩:=h
   cases r with
   | nil=>simp at e
   | cons d r =>
    refine ⟨by omega,by simp,rfl,fun v=>?_⟩
    simp only[List.getD_cons_succ,List.getD_cons_zero]at e
    simp [e.1,e.2]
  rename_i e5
  split at h
  ·rename_i e
   simp only[Out.ok.injEq]at h
   obtain ⟨rfl,rfl⟩:=h
   exact ⟨by omega,by simp,rfl,fun v=>by simp [e]⟩
  ·cases h
theorem zc4 {u:List UInt8}{t:Tok}{n:Nat}(h0:u≠[])(h:tokO u=.ok t n):1<=n/\n<=u.length/\(needs t=true->sepB (u.drop n)=true)/\∀v,(needs t=true->sepB v=true)->tokO (u.take n++v)=.ok t n:=by
 have hd:∀v,1<=n->n<=u.length->(u.take n++v).getD 0 0=u.getD 0 0:=fun v h1 h2=>getD_take (by omega) h2
 unfold tokO at h
 split at h
 ·rename_i c1
  obtain ⟨a1,a2,a3,a4,a5⟩:=zvE c1 h
  exact ⟨a1,a2,fun _=>a4,fun v hv=>by unfold tokO;rw[hd v a1 a2,if_pos c1];exact a5 v (hv (by simp [needs,a3]))⟩
 rename_i c1
 split at h
 ·rename_i c2
  obtain ⟨a1,a2,a3,a4,a5⟩:=zxV h
  exact ⟨a1,a2,fun _=>a4,fun v hv=>by unfold tokO;rw[hd v a1 a2,if_neg c1,if_pos c2];exact a5 v (hv (by simp [needs,a3]))⟩
 rename_i c2
 split at h
 ·rename_i c3
  obtain ⟨a1,a2,a3,a5⟩:=zxl h0 h
  exact ⟨a1,a2,fun e=>by simp [needs,a3]at e,fun v hv=>by unfold tokO;rw[hd v a1 a2,if_neg c1,if_neg c2,if_pos c3];exact a5 v⟩
 ·rename_i c3
  obtain ⟨a1,a2,a3,a5⟩:=zwa h0 h
  exact ⟨a1,a2,fun e=>(by rw[a3]at e;cases e),fun v hv=>by unfold tokO;rw[hd v a1 a2,if_neg c1,if_neg c2,if_neg c3];exact a5 v⟩
theorem zhG {u:List UInt8}{d:Nat}{e:Int}(h0:u≠[])(h:tokO u=.bad d e):d<=u.length/\(e=3∨e=6∨e=7):=by
 unfold tokO at h
 split at h
 ·unfold zdK at h
  split at h
  ·rename_i h1
   simp only[Out.bad.injEq]at h
   obtain ⟨rfl,rfl⟩:=h
   have:=zdu al u
   exact ⟨by omega,.inl rfl⟩
  ·cases h
 split at h
 ·unfold numO at h
  simp only at h
  split at h
  ·simp only[Out.bad.injEq]at h
   obtain ⟨rfl,rfl⟩:=h
   exact ⟨by omega,.inr (.inl rfl)⟩
  ·have:=zdu dg (u.drop (sg u))
   rw[List.length_drop]at this
   split at h
   ·split at h
    ·simp only[Out.bad.injEq]at h
     obtain ⟨rfl,rfl⟩:=h
     exact ⟨by omega,.inr (.inl rfl)⟩
    ·cases h
   ·simp only[Out.bad.injEq]at h
    obtain ⟨rfl,rfl⟩:=h
    exact ⟨by omega,.inr (.inr rfl)⟩
 split at h
 ·unfold zer at h
  split at h
  ·cases h
  ·rename_i d' hd
   simp only[Out.bad.injEq]at h
   obtain ⟨rfl,rfl⟩:=h
   have:=ztW _ _ d' (Nat.le_refl _) hd
   rw[List.length_drop]at this
   exact ⟨by omega,.inr (.inl rfl)⟩
  ·simp only[Out.bad.injEq]at h
   obtain ⟨rfl,rfl⟩:=h
   exact ⟨by omega,.inr (.inl rfl)⟩
 ·unfold zee at h
  repeat' (split at h;· cases h)
  simp only[Out.bad.injEq]at h
  obtain ⟨rfl,rfl⟩:=h
  exact ⟨by omega,.inr (.inl rfl)⟩
abbrev PT:=Tok×Nat×Nat
inductive LR where
 | ok (l:List PT)
 | bad (d:Nat) (e:Int)
def LR.cons (t:PT):LR->LR
 | .ok l=>.ok (t::l)
 | .bad d e=>.bad d e
def lexS:Nat->Nat->List UInt8->LR
 | _,_,[]=>.ok []
 | k+1,p,_::r=>lexS k (p+1) r
 | 0,p,c::r=>if c=32 then lexS 0 (p+1) r else match tokO (c::r) with
  | .bad d e=>.bad (p+d) e
  | .ok t n=>(lexS (n-1) (p+1) r).cons (t,p,p+n)
theorem zp6:∀(k p:Nat) (u:List UInt8),lexS k p u=lexS 0 (p+k) (u.drop k)
 | 0,p,u=>rfl
 | k+1,p,[]=>by simp [lexS]
 | k+1,p,c::r=>by
  rw[lexS,zp6 k (p+1) r,List.drop_succ_cons];congr 1;omega
theorem zsp (p:Nat):lexS 0 p []=.ok []:=rfl
theorem zhW (p:Nat)(r:List UInt8):lexS 0 p (32::r)=lexS 0 (p+1) r:=by rw[lexS,if_pos rfl]
theorem zr5 {p:Nat}{c:UInt8}{r:List UInt8}{d:Nat}{e:Int}(h1:c≠32)(h:tokO (c::r)=.bad d e):lexS 0 p (c::r)=.bad (p+d) e:=by rw[lexS,if_neg h1,h]
theorem zo3 {p:Nat}{c:UInt8}{r:List UInt8}{t:Tok}{n:Nat}(h1:c≠32)(h:tokO (c::r)=.ok t n):lexS 0 p (c::r)=(lexS 0 (p+n) ((c::r).drop n)).cons (t,p,p+n):=by
 have:=(zc4 (by simp) h).1
 obtain ⟨k,rfl⟩:∃j,n=j+1:=⟨n-1,by omega⟩
 rw[lexS,if_neg h1,h]
 simp only[Nat.add_sub_cancel,List.drop_succ_cons]
 rw[zp6,Nat.add_assoc,Nat.add_comm 1 k]
inductive Lx:Nat->List UInt8->List PT->Prop
 | nil (p:Nat):Lx p [] []
 | blank {p:Nat} {r:List UInt8} {l:List PT}:Lx (p+1) r l->Lx p (32::r) l
 | tok {p:Nat} {c:UInt8} {r:List UInt8} {t:Tok} {n:Nat} {l:List PT}:c≠32->tokO (c::r)=.ok t n->Lx (p+n) ((c::r).drop n) l->Lx p (c::r) ((t,p,p+n)::l)
theorem zCc:∀(L p:Nat) (u:List UInt8) (l:List PT),u.length<=L->lexS 0 p u=.ok l->Lx p u l
 | _,p,[],l,_,h=>by
  rw[zsp]at h
  simp only[LR.ok.injEq]at h
  subst h;exact .nil p
 | 0,p,c::r,l,hl,h=>by simp at hl
 | L + 1,p,c::r,l,hl,h=>by
  by_cases h1:c=32
  ·subst h1
   rw[zhW]at h
   exact .blank (zCc L _ _ _ (by simpa using hl) h)
  ·cases ht:tokO (c::r) with
   | bad d e=>rw[zr5 h1 ht]at h;cases h
   | ok t n =>
    have hs:=zc4 (by simp) ht
    rw[zo3 h1 ht]at h
    cases hr:lexS 0 (p+n) ((c::r).drop n) with
    | bad d e=>rw[hr]at h;cases h
    | ok l' =>
     rw[hr]at h
     simp only[LR.cons,LR.ok.injEq]at h
     subst h
     exact .tok h1 ht (zCc L _ _ _ (by rw[List.length_drop];omega) hr)
theorem zF3 {p:Nat}{u:List UInt8}{l:List PT}(h:Lx p u l):lexS 0 p u=.ok l:=by
 induction h with
 | nil p=>rfl
 | blank _ ih=>rw[zhW,ih]
 | tok h1 ht _ ih=>rw[zo3 h1 ht,ih];rfl
theorem zCR (p:Nat)(u:List UInt8)(l:List PT):lexS 0 p u=.ok l↔Lx p u l:=⟨zCc _ p u l (Nat.le_refl _),zF3⟩
def sh (k:Nat)(l:List PT):List PT:=l.map fun (t,a,b)=>(t,a+k,b+k)
theorem zfa:∀(L p k:Nat) (u:List UInt8) (d:Nat) (e:Int),u.length<=L->lexS 0 p u=.bad d e->lexS 0 (p+k) u=.bad (d+k) e/\p<=d/\d<=p+u.length/\(e=3∨e=6∨e=7)
 | _,p,k,[],d,e,_,h=>by rw[zsp]at h;cases h
 | 0,p,k,c::r,d,e,hl,h=>by simp at hl
 | L + 1,p,k,c::r,d,e,hl,h=>by
  by_cases h1:c=32
  ·subst h1
   rw[zhW]at h⊢
   obtain ⟨a,b,c,d⟩:=zfa L _ k _ d e (by simpa using hl) h
   rw[show p+k+1=p+1+k by omega]
   exact ⟨a,by omega,by simp only[List.length_cons];omega,d⟩
  ·cases ht:tokO (c::r) with
   | bad d' e' =>
    have hb:=zhG (by simp) ht
    rw[zr5 h1 ht]at h⊢
    simp only[LR.bad.injEq]at h⊢
    obtain ⟨rfl,rfl⟩:=h
    exact ⟨⟨by omega,rfl⟩,by omega,by omega,hb.2⟩
   | ok t n =>
    have hs:=zc4 (by simp) ht
    rw[zo3 h1 ht]at h⊢
    cases hr:lexS 0 (p+n) ((c::r).drop n) with
    | ok l'=>rw[hr]at h;cases h
    | bad d' e' =>
     rw[hr]at h
     simp only[LR.cons,LR.bad.injEq]at h
     obtain ⟨rfl,rfl⟩:=h
     obtain ⟨a,b,c,d⟩:=zfa L _ k _ d' e' (by rw[List.length_drop];omega) hr
     rw[List.length_drop]at c
     rw[show p+k+n=p+n+k by omega,a]
     exact ⟨rfl,by omega,by omega,d⟩
end Go.Lx
