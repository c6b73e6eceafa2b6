/- What the pictures of cells are. -/
import Derived.Test.YtcldomkahgaplaaGreatDoorM1
import Derived.Lib.ItoaLen
import Derived.Lib.Repeat
import Derived.Lib.Join
import Derived.Lib.FieldsP
import Derived.Lib.TrimUEq
set_option linter.all false
namespace Go.Fm
open Go
def cellS (k v:Int):List UInt8:=if k=1 then Lib.itoa v else if 32<=v/\v<=126 then [UInt8.ofNat v.toNat] else [46]
def blk (n:Nat):List UInt8:=List.replicate n 32
def wid (k:Int)(l:List Int)(n:Nat):Nat:=l.foldl (fun m v=>max m (cellS k v).length) n
theorem znR (c:UInt8)(n:Nat):Lib.repeatL [c] n=List.replicate n c:=by
 induction n with
 | zero=>rfl
 | succ n ih=>rw[Lib.repeatL,ih,List.replicate_succ];rfl
theorem zhV {k v:Int}(h:-9223372036854775808<=v/\v<=9223372036854775807):(cellS k v).length<=21:=by
 have:=Lib.itoa_length_le v h.1 h.2
 by_cases h1:k=1
 ·rw[cellS,if_pos h1];exact this
 ·rw[cellS,if_neg h1]
  split<;>simp
structure Col where
 c:List (List UInt8)
 w:Nat
 r:Bool
 deriving Inhabited
def stk (k:Int)(l:List Int)(n:Nat):Col:=⟨l.map (cellS k),wid k l n,decide (k=1)⟩
theorem zyu {k:Int}{l:List Int}{n i:Nat}(h:i<l.length):wid k (l.take (i+1)) n=max (wid k (l.take i) n) (cellS k (l.getD i 0)).length:=by
 rw[List.take_succ_eq_append_getElem h,wid,List.foldl_append,List.getD_eq_getElem?_getD,List.getElem?_eq_getElem h]
 rfl
theorem zzW {k:Int}{l:List Int}{n m:Nat}(h:∀v∈l,-9223372036854775808<=v/\v<=9223372036854775807)(hn:n<=m)(hm:21<=m):wid k l n<=m:=by
 induction l generalizing n with
 | nil=>exact hn
 | cons a l ih =>
  refine ih (fun v hv=>h v (List.mem_cons_of_mem _ hv)) ?_
  have:=zhV (k:=k) (h a List.mem_cons_self)
  show max n (cellS k a).length<=m
  omega
theorem zbH {v:Int}(h:32<=v/\v<=126):(Utf8.encode (IntKind.i32.wrap v)).data.toList=[UInt8.ofNat v.toNat]:=by
 have:∀n:Nat,n<127->32<=n->(Utf8.encode (IntKind.i32.wrap (n:Int))).data.toList=[UInt8.ofNat n]:=by decide +kernel
 have h1:=this v.toNat (by omega) (by omega)
 rwa [show ((v.toNat:Nat):Int)=v by omega]at h1
theorem zxL (sep:List UInt8)(m:Nat)(r:List (List UInt8))(h:∀x∈r,x.length<=m):(Lib.joinTail sep r).length<=r.length*(sep.length+m):=by
 induction r with
 | nil=>simp [Lib.joinTail]
 | cons a r ih =>
  have h1:=ih fun x hx=>h x (List.mem_cons_of_mem _ hx)
  have h2:=h a List.mem_cons_self
  rw[show Lib.joinTail sep (a::r)=(sep++a)++Lib.joinTail sep r from rfl,List.length_append,List.length_append,List.length_cons,Nat.succ_mul]
  omega
theorem zgC (sep:List UInt8)(m:Nat)(l:List (List UInt8))(h:∀x∈l,x.length<=m):(Lib.join l sep).length<=l.length*(sep.length+m):=by
 cases l with
 | nil=>simp [Lib.join_nil]
 | cons a r =>
  have h1:=zxL sep m r fun x hx=>h x (List.mem_cons_of_mem _ hx)
  have h2:=h a List.mem_cons_self
  rw[Lib.join_cons,List.length_append,List.length_cons,Nat.succ_mul]
  omega
def nums (l:List Int):List UInt8:=Lib.join (l.map Lib.itoa) [32]
end Go.Fm
namespace Go.Fm
open Go
def padB (r:Bool)(w:Nat)(s:List UInt8):List UInt8:=if r then blk (w-s.length)++s else s++blk (w-s.length)
def colL (l1 m j:Nat)(c:List Int):List Int:=(List.range m).map fun i=>c.getD (j+i*l1) 0
def zir (k:Int)(c:List Int)(l0 l1 n:Nat):List Col:=(List.range n).map fun j=>stk k (colL l1 l0 j c) 0
def rowS (cs:List Col)(i:Nat):List (List UInt8):=cs.map fun c=>padB c.r c.w (c.c.getD i [])
def rowP (cs:List Col)(gap:List UInt8)(i:Nat):List UInt8:=Lib.join (rowS cs i) gap++[10]
def picP (cs:List Col)(gap:List UInt8)(n:Nat):List UInt8:=(List.range n).flatMap (rowP cs gap)
def gapS (k:Int):List UInt8:=if k=1 then [32] else []
def pic1 (a:Lat.Arr):List UInt8:=if a.r<2 then Lib.join (a.c.map (cellS a.k)) (gapS a.k)++[10] else picP (zir a.k a.c a.l0.toNat a.l1.toNat a.l1.toNat) (gapS a.k) a.l0.toNat
def picR (a:Lat.Arr):List UInt8×Int:=if Lat.arrE a≠0 then ([],Lat.arrE a) else (pic1 a,0)
theorem zqq (cs:List Col)(gap:List UInt8)(n:Nat):picP cs gap (n+1)=picP cs gap n++rowP cs gap n:=by
 simp [picP,List.range_succ]
theorem zxE (l1 m j:Nat)(c:List Int):colL l1 (m+1) j c=colL l1 m j c++[c.getD (j+m*l1) 0]:=by
 simp [colL,List.range_succ]
theorem zul (k:Int)(c:List Int)(l0 l1 n:Nat):zir k c l0 l1 (n+1)=zir k c l0 l1 n++[stk k (colL l1 l0 n c) 0]:=by
 simp [zir,List.range_succ]
theorem zoS (l1 m j:Nat)(c:List Int):(colL l1 m j c).length=m:=by simp [colL]
theorem zqx (k:Int)(c:List Int)(l0 l1 n:Nat):(zir k c l0 l1 n).length=n:=by simp [zir]
theorem ztj (r:Bool)(w:Nat)(s:List UInt8):(padB r w s).length=max w s.length:=by
 unfold padB blk
 cases r
 ·rw[if_neg (by decide),List.length_append,List.length_replicate];omega
 ·rw[if_pos rfl,List.length_append,List.length_replicate];omega
structure ColOk (c:Col) (n:Nat):Prop where
 w:c.w<=1000
 len:c.c.length=n
 all:∀s∈c.c,s.length<=21
theorem zAa {c:Col}{n i:Nat}(h:ColOk c n):(padB c.r c.w (c.c.getD i [])).length<=1000:=by
 rw[ztj]
 have:=h.w
 have:(c.c.getD i []).length<=21:=by
  rw[List.getD_eq_getElem?_getD]
  cases e:c.c[i]? with
  | none=>simp
  | some s=>exact h.all s (List.mem_of_getElem? e)
 omega
def I64 (v:Int):Prop:=-9223372036854775808<=v/\v<=9223372036854775807
theorem zz8 {k:Int}{l:List Int}{n:Nat}(h:∀v∈l,-9223372036854775808<=v/\v<=9223372036854775807)(hn:n<=1000):ColOk (stk k l n) l.length where
 w:=zzW h hn (by decide)
 len:=List.length_map _
 all:=fun s hs=>by
  obtain ⟨v,hv,rfl⟩:=List.mem_map.1 hs
  exact zhV (h v hv)
theorem zxq {c:List Int}(h:∀v∈c,-9223372036854775808<=v/\v<=9223372036854775807)(l1 m j:Nat):∀v∈colL l1 m j c,-9223372036854775808<=v/\v<=9223372036854775807:=fun v hv=>by
 obtain ⟨i,_,rfl⟩:=List.mem_map.1 hv
 rw[List.getD_eq_getElem?_getD]
 cases e:c[j+i*l1]? with
 | none=>exact ⟨by decide,by decide⟩
 | some s=>exact h s (List.mem_of_getElem? e)
theorem zzb {k:Int}{c:List Int}(h:∀v∈c,-9223372036854775808<=v/\v<=9223372036854775807)(l0 l1 n:Nat):∀x∈zir k c l0 l1 n,ColOk x l0:=fun x hx=>by
 obtain ⟨j,_,rfl⟩:=List.mem_map.1 hx
 have:=zz8 (k:=k) (l:=colL l1 l0 j c) (n:=0) (zxq h _ _ _) (by decide)
 rwa [zoS]at this
theorem ztV {cs:List Col}{gap:List UInt8}{n i:Nat}(h:∀c∈cs,ColOk c n)(hg:gap.length<=2):(rowP cs gap i).length<=cs.length*1002+1:=by
 have:=zgC gap 1000 (rowS cs i) fun x hx=>by
  obtain ⟨c,hc,rfl⟩:=List.mem_map.1 hx
  exact zAa (h c hc)
 rw[rowP,List.length_append,List.length_singleton]
 have e:(rowS cs i).length=cs.length:=List.length_map _
 rw[e]at this
 have:cs.length*(gap.length+1000)<=cs.length*1002:=Nat.mul_le_mul (Nat.le_refl _) (by omega)
 omega
theorem zyY {cs:List Col}{gap:List UInt8}{n:Nat}(h:∀c∈cs,ColOk c n)(hg:gap.length<=2)(m:Nat):(picP cs gap m).length<=m*(cs.length*1002+1):=by
 induction m with
 | zero=>simp [picP]
 | succ m ih =>
  have:=ztV (i:=m) h hg
  rw[zqq,List.length_append,Nat.succ_mul]
  omega
theorem arr2 {a:Lat.Arr}(h:Lat.arrE a=0)(hr:¬a.r<2):∃l0 l1:Nat,a.l0=l0/\a.l1=l1/\a.c.length=l0*l1/\l0<=400/\l1<=400/\a.r=2:=by
 obtain ⟨h1,h2,h3⟩:=Lat.zts h
 unfold Lat.zav at h2
 have hm:Lat.many a.r a.l0 a.l1=a.l0*a.l1:=if_pos (by omega)
 split at h2
 ·omega
 ·split at h2
  ·omega
  ·split at h2
   ·omega
   ·split at h2
    ·omega
    ·obtain ⟨l0,e0⟩:∃n:Nat,a.l0=n:=⟨a.l0.toNat,by omega⟩
     obtain ⟨l1,e1⟩:∃n:Nat,a.l1=n:=⟨a.l1.toNat,by omega⟩
     refine ⟨l0,l1,e0,e1,?_,by omega,by omega,by omega⟩
     rw[hm,e0,e1]at h3
     exact_mod_cast h3
end Go.Fm
namespace Go.Fm
open Go Go.Tb
def ze2 (t:Tab)(n:Nat):List Col:=(List.range n).map fun i=>stk (t.col i).k (t.col i).c (t.n.getD i default).length
def zeW (t:Tab):List Col×Int:=if (chk t).2≠0 then ([],(chk t).2) else (ze2 t t.c.length,0)
theorem zrU (t:Tab)(n:Nat):ze2 t (n+1)=ze2 t n++[stk (t.col n).k (t.col n).c (t.n.getD n default).length]:=by
 simp [ze2,List.range_succ]
theorem zeY (t:Tab)(n:Nat):(ze2 t n).length=n:=by simp [ze2]
end Go.Fm
namespace Go.Fm
open Go Go.Tb
def zlF (g:Nat->List UInt8)(n:Nat):List UInt8:=Lib.join ((List.range n).map g) [32,32]++[10]
def zfN (cs:List Col)(i:Nat):Col:=cs.getD i default
def zwi (ns:List (List UInt8))(cs:List Col)(i:Nat):List UInt8:=padB (zfN cs i).r (zfN cs i).w (ns.getD i [])
def zzC (cs:List Col)(i:Nat):List UInt8:=List.replicate (zfN cs i).w 45
def zyz (cs:List Col)(row i:Nat):List UInt8:=padB (zfN cs i).r (zfN cs i).w ((zfN cs i).c.getD row [])
def zzu (ns:List (List UInt8))(cs:List Col):List UInt8:=zlF (zwi ns cs) cs.length++zlF (zzC cs) cs.length
def zkN (ns:List (List UInt8))(cs:List Col)(n:Nat):List UInt8:=zzu ns cs++(List.range n).flatMap fun row=>zlF (zyz cs row) cs.length
def zqn (t:Tab):List UInt8×Int:=if (zeW t).2≠0∨(zeW t).1=[] then ([],(zeW t).2) else (zkN t.n (zeW t).1 (zfN (zeW t).1 0).c.length,0)
theorem znp (ns:List (List UInt8))(cs:List Col)(n:Nat):zkN ns cs (n+1)=zkN ns cs n++zlF (zyz cs n) cs.length:=by
 simp [zkN,List.range_succ]
theorem zfY {g:Nat->List UInt8}{n:Nat}(h:∀i,i<n->(g i).length<=1000):(zlF g n).length<=n*1002+1:=by
 have:=zgC [32,32] 1000 ((List.range n).map g) fun x hx=>by
  obtain ⟨i,hi,rfl⟩:=List.mem_map.1 hx
  exact h i (List.mem_range.1 hi)
 rw[List.length_map,List.length_range]at this
 rw[zlF,List.length_append,List.length_singleton]
 simp only[List.length_cons,List.length_nil]at this
 omega
structure zpR (ns:List (List UInt8)) (cs:List Col) (m:Nat):Prop where
 n:cs.length=ns.length
 c:cs.length<=16
 mm:m<=400
 col:∀i,i<cs.length->ColOk (zfN cs i) m
 nm:∀i,i<cs.length->(ns.getD i []).length<=16
theorem zpR.head {ns:List (List UInt8)}{cs:List Col}{m:Nat}(h:zpR ns cs m):∀i,i<cs.length->(zwi ns cs i).length<=1000:=fun i hi=>by
 rw[zwi,ztj]
 have:=(h.col i hi).w
 have:=h.nm i hi
 omega
theorem zpR.dash {ns:List (List UInt8)}{cs:List Col}{m:Nat}(h:zpR ns cs m):∀i,i<cs.length->(zzC cs i).length<=1000:=fun i hi=>by
 rw[zzC,List.length_replicate]
 exact (h.col i hi).w
theorem zpR.cell {ns:List (List UInt8)}{cs:List Col}{m:Nat}(h:zpR ns cs m)(row:Nat):∀i,i<cs.length->(zyz cs row i).length<=1000:=fun i hi=>zAa (h.col i hi)
theorem zpR.len {ns:List (List UInt8)}{cs:List Col}{m:Nat}(h:zpR ns cs m)(n:Nat):(zkN ns cs n).length<=(n+2)*20000:=by
 have h1:=zfY h.head
 have h2:=zfY h.dash
 have hc:=h.c
 induction n with
 | zero =>
  rw[zkN,zzu,List.range_zero,List.flatMap_nil,List.append_nil,List.length_append]
  omega
 | succ n ih =>
  have h3:=zfY (h.cell n)
  rw[znp,List.length_append]
  omega
theorem zE6 {t:Tab}{i:Nat}(h:i<t.c.length):t.col i∈t.c:=by
 unfold Tab.col
 rw[List.getD_eq_getElem?_getD,List.getElem?_eq_getElem h]
 exact List.getElem_mem h
theorem zse (t:Tab){n i:Nat}(h:i<n):zfN (ze2 t n) i=stk (t.col i).k (t.col i).c (t.n.getD i default).length:=by
 unfold zfN ze2
 rw[List.getD_eq_getElem?_getD,List.getElem?_map,List.getElem?_range h]
 rfl
theorem zDB {t:Tab}(hg:Tb.Good t)(hv:∀a∈t.c,∀v∈a.c,-9223372036854775808<=v/\v<=9223372036854775807):zpR t.n (ze2 t t.c.length) (Tb.many t).toNat where
 n:=by rw[zeY];exact hg.eq
 c:=by rw[zeY,hg.eq];exact hg.len
 mm:=by have:=hg.many;omega
 col := fun i hi=>by
  rw[zeY]at hi
  have hin:i<t.n.length:=by have:=hg.eq;omega
  rw[zse t hi]
  have hnm:=zwv (zt4 (hg.col i hin)).1
  have hl:(t.n.getD i default).length<=1000:=by
   have e:t.n.getD i default=t.nm i:=by
    unfold Tab.nm
    rw[List.getD_eq_getElem?_getD,List.getD_eq_getElem?_getD,List.getElem?_eq_getElem hin];rfl
   rw[e];omega
  have h1:=zz8 (k:=(t.col i).k) (l:=(t.col i).c) (n:=(t.n.getD i default).length) (hv _ (zE6 hi)) hl
  have h2:=(hg.at hin).2.2.1
  rwa [show (t.col i).c.length=(Tb.many t).toNat by omega]at h1
 nm := fun i hi=>by
  rw[zeY]at hi
  have hin:i<t.n.length:=by have:=hg.eq;omega
  have hnm:=zwv (zt4 (hg.col i hin)).1
  have e:t.n.getD i []=t.nm i:=by
    unfold Tab.nm
    simp [List.getD_eq_getElem?_getD,List.getElem?_eq_getElem hin]
  rw[e];omega
end Go.Fm
namespace Go.Fm
open Go
def ne0 (x:List UInt8):Bool:=!x.isEmpty
def fldB (s:List UInt8):List (List UInt8):=(Wo.splC 32 s).filter ne0
theorem zoM {c:UInt8}{u v:List UInt8}(h:c∉u){a:List UInt8}{t:List (List UInt8)}(hv:Wo.splC c v=a::t):Wo.splC c (u++v)=(u++a)::t:=by
 induction u with
 | nil=>exact hv
 | cons b r ih =>
  have h1:¬b=c:=fun e=>h (by rw[e];exact List.mem_cons_self)
  have h2:=ih fun e=>h (List.mem_cons_of_mem _ e)
  rw[List.cons_append,Wo.splC,if_neg h1,h2]
  rfl
theorem zvT (c:UInt8)(v:List UInt8):∃a t,Wo.splC c v=a::t:=List.exists_cons_of_ne_nil (Wo.zi8 c v)
theorem zhx {l:List UInt8}{i:Nat}(h:64<=(l.getD i 0).toNat):l.getD i 0≠32:=fun e=>by rw[e]at h;simp at h
theorem ziq {l:List UInt8}{i:Nat}(h:64<=(l.getD i 0).toNat):i<l.length:=by
 rcases Nat.lt_or_ge i l.length with h1|h1
 ·exact h1
 ·rw[List.getD_eq_getElem?_getD,List.getElem?_eq_none h1]at h;simp at h
theorem zvS (s:ByteArray)(pos:Nat)(hp:pos<s.data.toList.length):(s.data.toList.getD pos 0=32/\Utf8.decode s pos=(32,1))∨((Utf8.decode s pos).1≠32/\1<=(Utf8.decode s pos).2/\pos+(Utf8.decode s pos).2<=s.data.toList.length/\∀k,k<(Utf8.decode s pos).2->s.data.toList.getD (pos+k) 0≠32):=by
 rw[Lib.decode_N]
 generalize hl:s.data.toList=l at hp
 have one:l.getD pos 0≠32->∀k,k<1->l.getD (pos+k) 0≠32:=fun h k hk=>by rw[show k=0 by omega,Nat.add_zero];exact h
 unfold Lib.decodeN
 by_cases h0:(l.getD pos 0).toNat<128
 ·rw [if_pos h0]
  by_cases e:l.getD pos 0=32
  ·exact .inl ⟨e,by rw[e];rfl⟩
  ·refine .inr ⟨fun h=>e ?_,Nat.le_refl _,by dsimp only;omega,one e⟩
   dsimp only at h
   apply UInt8.toNat_inj.1
   rw[h];rfl
 ·have e:l.getD pos 0≠32:=zhx (by omega)
  rw[if_neg h0]
  right
  split
  ·rename_i h
   obtain ⟨_,h1,h2⟩:=h
   split
   ·have h3:64<=(l.getD (pos+1) 0).toNat:=by omega
    have h4:=ziq h3
    refine ⟨by dsimp only;omega,by dsimp only;omega,by dsimp only;omega,fun k hk=>?_⟩
    dsimp only at hk
    rcases (show k=0∨k=1 by omega) with rfl|rfl
    ·exact e
    ·exact zhx h3
   ·exact ⟨by dsimp only;omega,Nat.le_refl _,by dsimp only;omega,one e⟩
  ·split
   ·rename_i h
    obtain ⟨_,⟨_,h1⟩,_,h2⟩:=h
    split
    ·have h3:64<=(l.getD (pos+1) 0).toNat:=by omega
     have h4:64<=(l.getD (pos+2) 0).toNat:=by omega
     have h5:=ziq h4
     refine ⟨by dsimp only;omega,by dsimp only;omega,by dsimp only;omega,fun k hk=>?_⟩
     dsimp only at hk
     rcases (show k=0∨k=1∨k=2 by omega) with rfl|rfl|rfl
     ·exact e
     ·exact zhx h3
     ·exact zhx h4
    ·exact ⟨by dsimp only;omega,Nat.le_refl _,by dsimp only;omega,one e⟩
   ·split
    ·rename_i h
     obtain ⟨_,⟨_,h1⟩,⟨_,h2⟩,_,h3⟩:=h
     split
     ·have h4:64<=(l.getD (pos+1) 0).toNat:=by omega
      have h5:64<=(l.getD (pos+2) 0).toNat:=by omega
      have h6:64<=(l.getD (pos+3) 0).toNat:=by omega
      have h7:=ziq h6
      refine ⟨by dsimp only;omega,by dsimp only;omega,by dsimp only;omega,fun k hk=>?_⟩
      dsimp only at hk
      rcases (show k=0∨k=1∨k=2∨k=3 by omega) with rfl|rfl|rfl|rfl
      ·exact e
      ·exact zhx h4
      ·exact zhx h5
      ·exact zhx h6
     ·exact ⟨by dsimp only;omega,Nat.le_refl _,by dsimp only;omega,one e⟩
    ·exact ⟨by dsimp only;omega,Nat.le_refl _,by dsimp only;omega,one e⟩
def pce (l:List UInt8)(x:Nat×Nat):List UInt8:=(l.drop x.1).take (x.2-x.1)
def rst (l:List UInt8)(pos:Nat):Option Nat->List (List UInt8)
 | none=>(Wo.splC 32 (l.drop pos)).filter ne0
 | some a=>match Wo.splC 32 (l.drop pos) with
  | h::t=>(pce l (a,pos)++h)::t.filter ne0
  | []=>[]
theorem drop_one {l:List UInt8}{pos:Nat}(h:pos<l.length):l.drop pos=l.getD pos 0::l.drop (pos+1):=by
 rw[List.drop_eq_getElem_cons h,List.getD_eq_getElem?_getD,List.getElem?_eq_getElem h];rfl
theorem zxv {l:List UInt8}{pos n:Nat}(h:∀k,k<n->l.getD (pos+k) 0≠32)(hn:pos+n<=l.length):(32:UInt8)∉(l.drop pos).take n:=fun hm=>by
 obtain ⟨k,hk,e⟩:=List.getElem_of_mem hm
 rw[List.length_take,List.length_drop]at hk
 refine h k (by omega) ?_
 rw[List.getD_eq_getElem?_getD,List.getElem?_eq_getElem (by omega)]
 rw[List.getElem_take,List.getElem_drop]at e
 exact e
theorem zrb (s:ByteArray)(f pos:Nat)(st:Option Nat)(acc:List (Nat×Nat))(hn:¬pos<s.data.toList.length)(hp:pos<=s.data.toList.length) :
  (Lib.closeSpans s (Lib.spansFromP (fun r=>decide (r=32)) s f pos st acc)).map (pce s.data.toList)=acc.map (pce s.data.toList)++rst s.data.toList pos st:=by
 have hsz:s.size=s.data.toList.length:=by rw[Array.length_toList];rfl
 rw[Lib.spansFromP_end _ _ _ _ _ _ (by rw[hsz];exact hn)]
 have ep:pos=s.data.toList.length:=by omega
 have ed:s.data.toList.drop pos=[]:=List.drop_of_length_le (by omega)
 cases st with
 | none=>simp [Lib.closeSpans,rst,ed,Wo.splC,ne0]
 | some a=>simp only[Lib.closeSpans,rst,ed,Wo.splC,List.map_append,List.map_cons,List.map_nil,List.filter_nil,List.append_nil,hsz,<-ep]
theorem spans_eq (s:ByteArray)(f pos:Nat)(st:Option Nat)(acc:List (Nat×Nat))(hf:s.data.toList.length<=pos+f)(hp:pos<=s.data.toList.length)(hst:∀a,st=some a->a<pos) :
  (Lib.closeSpans s (Lib.spansFromP (fun r=>decide (r=32)) s f pos st acc)).map (pce s.data.toList)=acc.map (pce s.data.toList)++rst s.data.toList pos st:=by
 have hsz:s.size=s.data.toList.length:=by rw[Array.length_toList];rfl
 induction f generalizing pos st acc with
 | zero=>exact zrb s 0 pos st acc (by omega) hp
 | succ f ih =>
  by_cases hlt:pos<s.data.toList.length
  ·have hlt':pos<s.size:=by rw[hsz];exact hlt
   unfold Lib.spansFromP
   rw[if_pos hlt']
   rcases zvS s pos hlt with ⟨h1,h2⟩|⟨h1,h2,h3,h4⟩
   ·rw [h2]
    have e1:s.data.toList.drop pos=32::s.data.toList.drop (pos+1):=by rw[drop_one hlt,h1]
    have e2:Wo.splC 32 (s.data.toList.drop pos)=[]::Wo.splC 32 (s.data.toList.drop (pos+1)):=by rw[e1,Wo.splC,if_pos rfl]
    simp only[decide_true,if_true]
    cases st with
    | none =>
     dsimp only
     rw[ih (pos+1) none acc (by omega) (by omega) (fun a h=>by cases h)]
     simp only[rst,e2]
     rfl
    | some a =>
     dsimp only
     rw[ih (pos+1) none (acc++[(a,pos)]) (by omega) (by omega) (fun a h=>by cases h)]
     simp only[rst,e2,List.map_append,List.map_cons,List.map_nil,List.append_assoc,List.append_nil,List.cons_append,List.nil_append]
   ·generalize hD:Utf8.decode s pos=D at h1 h2 h3 h4
    obtain ⟨r,n⟩:=D
    dsimp only at h1 h2 h3 h4
    have ed:decide (r=32)=false:=decide_eq_false h1
    have e1:s.data.toList.drop pos=(s.data.toList.drop pos).take n++s.data.toList.drop (pos+n):=by
     rw[<-List.drop_drop,List.take_append_drop]
    obtain ⟨a0,t0,e2⟩:=zvT 32 (s.data.toList.drop (pos+n))
    have e3:Wo.splC 32 (s.data.toList.drop pos)=((s.data.toList.drop pos).take n++a0)::t0:=by
     rw[e1]
     have:=zoM (zxv h4 h3) e2
     rw[<-e1]
     rw[<-e1]at this
     exact this
    have hne:ne0 ((s.data.toList.drop pos).take n++a0)=true:=by
     have:((s.data.toList.drop pos).take n).length=n:=by rw[List.length_take,List.length_drop];omega
     unfold ne0
     cases e:(s.data.toList.drop pos).take n with
     | nil=>rw[e]at this;simp at this;omega
     | cons b u=>rfl
    simp only[ed,Bool.false_eq_true,if_false]
    cases st with
    | none =>
     dsimp only
     rw[ih (pos+n) (some pos) acc (by omega) (by omega) (fun a h=>by cases h;omega)]
     simp only[rst,e2,e3,pce,Nat.add_sub_cancel_left,List.filter_cons,hne,if_true]
    | some a =>
     have ha:=hst a rfl
     dsimp only
     rw[ih (pos+n) (some a) acc (by omega) (by omega) (fun b h=>by cases h;omega)]
     have e4:(s.data.toList.drop a).take (pos+n-a)=(s.data.toList.drop a).take (pos-a)++(s.data.toList.drop pos).take n:=by
      rw[show pos+n-a=(pos-a)+n by omega,List.take_add,List.drop_drop,show a+(pos-a)=pos by omega]
     simp only[rst,e2,e3,pce,e4,List.append_assoc]
  ·exact zrb s _ pos st acc hlt hp
theorem zw8 (s:List UInt8):(Lib.goFieldsP (fun r=>decide (r=32)) ⟨s.toArray⟩).map (fun x=>x.data.toList)=fldB s:=by
 have h:=spans_eq ⟨s.toArray⟩ s.length 0 none [] (by simp) (Nat.zero_le _) (fun a h=>by cases h)
 have hsz:(⟨s.toArray⟩:ByteArray).size=s.length:=by show s.toArray.size=_;simp
 unfold Lib.goFieldsP Lib.spansOfP
 rw[hsz,List.map_map]
 have h2:(fun x:ByteArray=>x.data.toList)∘(fun x:Nat×Nat=>(⟨s.toArray⟩:ByteArray).extract x.1 x.2)=pce s:=by
  funext x
  simp [pce,ByteArray.data_extract]
 rw[h2]
 have h3:(⟨s.toArray⟩:ByteArray).data.toList=s:=rfl
 rw[h3]at h
 rw[h]
 simp [rst,fldB]
end Go.Fm
namespace Go.Fm
open Go
def gI (s:List UInt8):Int×Int:=Wo.intS s (-9223372036854775808) 9223372036854775807
theorem gI_e (s:List UInt8):(gI s).2=0∨(gI s).2=6∨(gI s).2=7:=by
 unfold gI Wo.intS
 split
 ·exact .inr (.inl rfl)
 ·split
  ·exact .inr (.inr rfl)
  ·exact .inl rfl
def gE (fs:List (List UInt8)):Int:=if fs.any (fun f=>decide ((gI f).2=7)) then 7 else 0
def gN (fs:List (List UInt8)):List Int:=fs.map fun f=>(gI f).1
def rowL (fs:List (List UInt8)):List Int×Int:=if fs.any (fun f=>decide ((gI f).2=6)) then ([],6) else if fs=[] then ([],6) else (gN fs,gE fs)
def rowR (s:List UInt8):List Int×Int:=rowL (fldB s)
theorem zCL {fs:List (List UInt8)}{i:Nat}(h:i<fs.length):gE (fs.take (i+1))=if (gI (fs.getD i [])).2=7 then 7 else gE (fs.take i):=by
 unfold gE
 rw[List.take_succ_eq_append_getElem h,List.any_append,List.getD_eq_getElem?_getD,List.getElem?_eq_getElem h]
 simp only[List.any_cons,List.any_nil,Bool.or_false,Option.getD_some]
 by_cases h7:(gI fs[i]).2=7
 ·simp [h7]
 ·simp [h7]
theorem zAC {fs:List (List UInt8)}{i:Nat}(h:i<fs.length):gN (fs.take (i+1))=gN (fs.take i)++[(gI (fs.getD i [])).1]:=by
 unfold gN
 rw[List.take_succ_eq_append_getElem h,List.map_append,List.getD_eq_getElem?_getD,List.getElem?_eq_getElem h]
 rfl
theorem zkx {fs:List (List UInt8)}{p:List UInt8->Bool}{i:Nat}(h:i<fs.length):(fs.take (i+1)).any p=((fs.take i).any p||p (fs.getD i [])):=by
 rw[List.take_succ_eq_append_getElem h,List.any_append,List.getD_eq_getElem?_getD,List.getElem?_eq_getElem h]
 simp
theorem zo2 (s:List UInt8):(fldB s).length<=s.length+1:=by
 unfold fldB
 have h1:=List.length_filter_le ne0 (Wo.splC 32 s)
 have h2:=Wo.zbW 32 s
 have h3:=List.count_le_length (a:=(32:UInt8)) (l:=s)
 omega
theorem zxc {s p:List UInt8}(h:p∈fldB s):p.length<=s.length:=Wo.zcb (List.mem_filter.1 h).1
theorem zt0 (s:List UInt8):(rowR s).1.length<=s.length+1:=by
 unfold rowR rowL
 split
 ·simp
 ·split
  ·simp
  ·have:=zo2 s
   simpa [gN] using this
def zA:Lat.Arr:=⟨0,0,0,0,[]⟩
def rowAt (ls:List (List UInt8))(i:Nat):List Int×Int:=rowR (ls.getD i [])
def zde (ls:List (List UInt8))(i:Nat):Int:=if (rowAt ls i).2≠0 then (rowAt ls i).2 else if 0<i/\(rowAt ls i).1.length≠(rowAt ls 0).1.length then 11 else 0
def zdL (ls:List (List UInt8))(i:Nat):List Int:=(List.range i).flatMap fun j=>(rowAt ls j).1
def zy5 (ls:List (List UInt8)):Lat.Arr×Int×Int:=match Lat.ff ls.length (fun i=>decide (zde ls i≠0)) with
 | some i=>(zA,i+1,zde ls i)
 | none=>if 400<(zdL ls ls.length).length then (zA,0,15) else (⟨1,2,ls.length,(rowAt ls 0).1.length,zdL ls ls.length⟩,0,0)
def zAS (s:List UInt8):Lat.Arr×Int×Int:=if (Wo.zaF s).2≠0 then (zA,0,(Wo.zaF s).2) else if (Wo.zaF s).1=[] then (zA,0,6) else zy5 (Wo.zaF s).1
theorem zkY (ls:List (List UInt8))(i:Nat):zdL ls (i+1)=zdL ls i++(rowAt ls i).1:=by
 simp [zdL,List.range_succ]
theorem zu8 {ls:List (List UInt8)}{m:Nat}(h:∀p∈ls,p.length<=m)(i:Nat):(zdL ls i).length<=i*(m+1):=by
 induction i with
 | zero=>simp [zdL]
 | succ i ih =>
  have h1:=zt0 (ls.getD i [])
  have h2:(ls.getD i []).length<=m:=by
   rw[List.getD_eq_getElem?_getD]
   cases e:ls[i]? with
   | none=>simp
   | some s=>exact h s (List.mem_of_getElem? e)
  have h3:(rowAt ls i).1.length<=m+1:=by unfold rowAt;omega
  rw[zkY,List.length_append,Nat.succ_mul]
  omega
theorem zkJ (s:List UInt8):(Wo.zaF s).1.length<=5000:=by
 unfold Wo.zaF
 split
 ·simp
 ·split
  ·simp
  ·split
   ·simp
   ·split
    ·simp
    ·dsimp only;omega
theorem zdb {s p:List UInt8}(h:p∈(Wo.zaF s).1):p.length<=s.length:=by
 unfold Wo.zaF at h
 split at h
 ·simp at h
 ·split at h
  ·simp at h
  ·split at h
   ·simp at h
   ·split at h
    ·simp at h
    ·have:=Wo.zcb h
     rw[List.length_take]at this
     omega
theorem zx5 {ls:List (List UInt8)}{i:Nat}(h:zde ls i=0):(rowAt ls i).2=0/\(0<i->(rowAt ls i).1.length=(rowAt ls 0).1.length):=by
 unfold zde at h
 split at h
 ·exact absurd h (by assumption)
 ·split at h
  ·omega
  ·rename_i h1 h2
   exact ⟨Classical.not_not.1 h1,fun h0=>Classical.byContradiction fun hc=>h2 ⟨h0,hc⟩⟩
end Go.Fm
namespace Go.Fm
open Go
def headA (a:Lat.Arr):List UInt8:=(if a.k=2 then [99,104,97,114,32] else [105,110,116,32])++(nums ([a.r,a.l0,a.l1].take (a.r.toNat+1))++[10])
def pcsA (pc:List Int->List UInt8)(c:List Int)(i:Nat):List UInt8:=(List.range i).flatMap fun j=>pc ((c.drop (j*20)).take 20)++[10]
def nch (n:Nat):Nat:=(n+19) / 20
def arrT (pc:List Int->List UInt8)(a:Lat.Arr):List UInt8:=headA a++pcsA pc a.c (nch a.c.length)
def zrB (pc:List Int->List UInt8)(a:Lat.Arr):List UInt8×Int:=if Lat.arrE a≠0 then ([],Lat.arrE a) else (arrT pc a,0)
theorem zrz (pc:List Int->List UInt8)(c:List Int)(i:Nat):pcsA pc c (i+1)=pcsA pc c i++(pc ((c.drop (i*20)).take 20)++[10]):=by
 simp [pcsA,List.range_succ]
theorem zyH {pc:List Int->List UInt8}{c:List Int}(h:∀j,(pc ((c.drop (j*20)).take 20)).length<=2000)(i:Nat):(pcsA pc c i).length<=i*2001:=by
 induction i with
 | zero=>simp [pcsA]
 | succ i ih =>
  have:=h i
  rw[zrz,List.length_append,List.length_append,List.length_singleton]
  omega
theorem zl6 {j n:Nat}:j<nch n↔j*20<n:=by unfold nch;omega
theorem zo6 {l:List Int}(h:∀v∈l,-9223372036854775808<=v/\v<=9223372036854775807):(nums l).length<=l.length*22:=by
 have:=zgC [32] 21 (l.map Lib.itoa) fun x hx=>by
  obtain ⟨v,h1,rfl⟩:=List.mem_map.1 hx
  exact Lib.itoa_length_le v (h v h1).1 (h v h1).2
 rw[List.length_map]at this
 simpa [nums] using this
theorem arrG {a:Lat.Arr}(h:Lat.arrE a=0):(a.r=0∨a.r=1∨a.r=2)/\(0<=a.l0/\a.l0<=400)/\(0<=a.l1/\a.l1<=400)/\a.c.length<=400/\(a.k=1∨a.k=2):=by
 obtain ⟨h1,h2,h3⟩:=Lat.zts h
 unfold Lat.zav at h2
 split at h2
 ·omega
 ·split at h2
  ·omega
  ·split at h2
   ·omega
   ·split at h2
    ·omega
    ·exact ⟨by omega,by omega,by omega,by omega,h1⟩
end Go.Fm
namespace Go.Fm
open Go
def wI (high:Int)(f:List UInt8):Int×Int:=Wo.intS f (-1-high) high
def wOk (high:Int)(f:List UInt8):Bool:=decide ((wI high f).2=0)&&!(decide (high<9223372036854775807)&&decide ((wI high f).1<0))
def wN (high:Int)(fs:List (List UInt8)):List Int:=fs.map fun f=>(wI high f).1
def zaJ (high:Int)(fs:List (List UInt8)):List Int×Bool:=if fs.all (wOk high) then (wN high fs,true) else ([],false)
theorem zpm {high:Int}{fs:List (List UInt8)}{i:Nat}(h:i<fs.length):wN high (fs.take (i+1))=wN high (fs.take i)++[(wI high (fs.getD i [])).1]:=by
 unfold wN
 rw[List.take_succ_eq_append_getElem h,List.map_append,List.getD_eq_getElem?_getD,List.getElem?_eq_getElem h]
 rfl
theorem zhK {fs:List (List UInt8)}{p:List UInt8->Bool}{i:Nat}(h:i<fs.length):(fs.take (i+1)).all p=((fs.take i).all p&&p (fs.getD i [])):=by
 rw[List.take_succ_eq_append_getElem h,List.all_append,List.getD_eq_getElem?_getD,List.getElem?_eq_getElem h]
 simp
def zcM (w:List UInt8):Int:=if w=[105,110,116] then 1 else if w=[99,104,97,114] then 2 else 0
def zeg (k:Int)(l:List Int):Lat.Arr×Int×Bool:=match l with
 | [r]=>if r=0 then (⟨k,0,0,0,[]⟩,1,true) else (zA,0,false)
 | [r,a]=>if r=1 then (⟨k,1,a,0,[]⟩,a,true) else (zA,0,false)
 | [r,a,b]=>if r=2 then (⟨k,2,a,b,[]⟩,a*b,true) else (zA,0,false)
 | _=>(zA,0,false)
def zgX (fs:List (List UInt8)):Lat.Arr×Int×Bool:=match fs with
 | []=>(zA,0,false)
 | w::fs=>if zcM w=0 then (zA,0,false) else if (zaJ 1000000000 fs).2 then zeg (zcM w) (zaJ 1000000000 fs).1 else (zA,0,false)
def zbF (s:List UInt8):Lat.Arr×Int×Bool:=zgX (Wo.splC 32 s)
theorem zeU {k r:Int}{t:List Int}(h:¬(r=t.length/\t.length<=2)):zeg k (r::t)=(zA,0,false):=by
 match t,h with
 | [],h=>exact if_neg fun e=>h ⟨by simpa using e,by simp⟩
 | [a],h=>exact if_neg fun e=>h ⟨by simpa using e,by simp⟩
 | [a,b],h=>exact if_neg fun e=>h ⟨by simpa using e,by simp⟩
 | _::_::_::_,h=>rfl
theorem zpz {k:Int}{t:List Int}(h:t.length<=2):zeg k ((t.length:Int)::t)=(⟨k,t.length,t.getD 0 0,t.getD 1 0,[]⟩,t.foldl (· * ·) 1,true):=by
 match t,h with
 | [],_=>rfl
 | [a],_=>simp [zeg]
 | [a,b],_=>simp [zeg]
theorem ztG {fs:List (List UInt8)}(h:(zaJ 1000000000 fs).2=true):∀v∈(zaJ 1000000000 fs).1,0<=v/\v<=1000000000:=by
 unfold zaJ at h⊢
 split at h
 ·rename_i ha
  rw[if_pos ha]
  intro v hv
  obtain ⟨f,hf,rfl⟩:=List.mem_map.1 hv
  have h1:=List.all_eq_true.1 ha f hf
  unfold wOk at h1
  simp only[Bool.and_eq_true,decide_eq_true_eq,Bool.not_eq_true',Bool.and_eq_false_iff,decide_eq_false_iff_not]at h1
  have h2:(wI 1000000000 f).1<=1000000000:=by
   unfold wI Wo.intS
   split
   ·simp
   ·split
    ·simp
    ·dsimp only;omega
  omega
 ·cases h
end Go.Fm
namespace Go.Fm
open Go
abbrev CF:=Int->List UInt8->Nat->List Int×Bool
def zfz (many j:Nat):Nat:=min (many-20*j) 20
def pcl (cf:CF)(k:Int)(ls:List (List UInt8))(many j:Nat):List Int×Bool:=cf k (ls.getD (j+1) []) (zfz many j)
def pBad (cf:CF)(k:Int)(ls:List (List UInt8))(many j:Nat):Bool:=decide (ls.length<=j+1)||!(pcl cf k ls many j).2
def accP (cf:CF)(k:Int)(ls:List (List UInt8))(many i:Nat):List Int:=(List.range i).flatMap fun j=>(pcl cf k ls many j).1
def ztC (a:Lat.Arr):Lat.Arr×Int×Int:=if Lat.arrE a≠0 then (zA,0,Lat.arrE a) else (a,0,0)
def zjW (cf:CF)(ls:List (List UInt8))(a:Lat.Arr)(many:Nat):Lat.Arr×Int×Int:=match Lat.ff (nch many) (pBad cf a.k ls many) with
 | some j=>(zA,(j:Int)+2,6)
 | none=>if nch many+1<ls.length then (zA,(nch many:Int)+2,6) else ztC ⟨a.k,a.r,a.l0,a.l1,accP cf a.k ls many (nch many)⟩
def ztv (cf:CF)(ls:List (List UInt8)):Lat.Arr×Int×Int:=if (zbF (ls.getD 0 [])).2.2=false then (zA,1,6) else if 400<(zbF (ls.getD 0 [])).2.1 then (zA,1,15) else zjW cf ls (zbF (ls.getD 0 [])).1 (zbF (ls.getD 0 [])).2.1.toNat
def zfT (cf:CF)(s:List UInt8):Lat.Arr×Int×Int:=if (Wo.zaF s).2≠0 then (zA,0,(Wo.zaF s).2) else if (Wo.zaF s).1=[] then (zA,1,6) else ztv cf (Wo.zaF s).1
def zkk (s:List UInt8)(m:Nat):List Int×Bool:=((zaJ 9223372036854775807 (Wo.splC 32 s)).1,decide ((zaJ 9223372036854775807 (Wo.splC 32 s)).1.length=m)&&decide (nums (zaJ 9223372036854775807 (Wo.splC 32 s)).1=s))
theorem zkX (cf:CF)(k:Int)(ls:List (List UInt8))(many i:Nat):accP cf k ls many (i+1)=accP cf k ls many i++(pcl cf k ls many i).1:=by
 simp [accP,List.range_succ]
theorem zuC {k:Int}{l:List Int}(h:∀v∈l,0<=v):0<=(zeg k l).2.1:=by
 match l,h with
 | [],_=>exact Int.le_refl _
 | [r],_=>by_cases h1:r=0<;>simp [zeg,h1]
 | [r,a],h=>by_cases h1:r=1<;>simp [zeg,h1,h a (by simp)]
 | [r,a,b],h=>by_cases h1:r=2<;>simp [zeg,h1,Int.mul_nonneg (h a (by simp)) (h b (by simp))]
 | _::_::_::_::_,_=>exact Int.le_refl _
theorem zlO (s:List UInt8):0<=(zbF s).2.1:=by
 unfold zbF zgX
 split
 ·decide
 ·split
  ·decide
  ·split
   ·rename_i h
    exact zuC fun v hv=>(ztG h v hv).1
   ·decide
theorem zAN {k:Int}{l:List Int}(h:(zeg k l).2.2=true):(zeg k l).1.k=k:=by
 match l,h with
 | [],h=>cases h
 | [r],h=>by_cases h1:r=0<;>simp [zeg,h1]at h⊢
 | [r,a],h=>by_cases h1:r=1<;>simp [zeg,h1]at h⊢
 | [r,a,b],h=>by_cases h1:r=2<;>simp [zeg,h1]at h⊢
 | _::_::_::_::_,h=>cases h
theorem ztg {s:List UInt8}(h:(zbF s).2.2=true):(zbF s).1.k=1∨(zbF s).1.k=2:=by
 unfold zbF zgX at h⊢
 split at h
 ·cases h
 ·split at h
  ·cases h
  ·split at h
   ·rename_i w fs _ h1 h2
    rw[if_neg h1,if_pos h2,zAN h]
    unfold zcM at h1⊢
    split at h1
    ·rename_i hw;rw[if_pos hw];exact .inl rfl
    ·rename_i hw
     rw[if_neg hw]
     split at h1
     ·rename_i hw2;rw[if_pos hw2];exact .inr rfl
     ·exact absurd rfl h1
   ·cases h
theorem ztU {cf:CF}{k:Int}{ls:List (List UInt8)}{many:Nat}(hc:∀p m,(cf k p m).2=true->(cf k p m).1.length=m)(i:Nat)(h:∀j,j<i->pBad cf k ls many j=false):(accP cf k ls many i).length=min many (20*i):=by
 induction i with
 | zero=>simp [accP]
 | succ i ih =>
  have h1:=ih fun j hj=>h j (by omega)
  have h2:=h i (by omega)
  unfold pBad at h2
  simp only[Bool.or_eq_false_iff,Bool.not_eq_false']at h2
  have h3:=hc _ _ h2.2
  have h4:(pcl cf k ls many i).1.length=zfz many i:=h3
  rw[zkX,List.length_append,h1,h4]
  unfold zfz
  omega
theorem zA9 (fs:List (List UInt8)):∀v∈(zaJ 9223372036854775807 fs).1,-9223372036854775808<=v/\v<=9223372036854775807:=fun v hv=>by
 unfold zaJ at hv
 split at hv
 ·obtain ⟨f,_,rfl⟩:=List.mem_map.1 hv
  unfold wI Wo.intS
  split
  ·simp
  ·split
   ·simp
   ·dsimp only;omega
 ·simp at hv
theorem zxa (high:Int)(fs:List (List UInt8)):(zaJ high fs).1.length<=fs.length:=by
 unfold zaJ
 split
 ·simp [wN]
 ·simp
end Go.Fm
namespace Go.Fm
open Go
theorem zAs {c:UInt8}{u v:List UInt8}(h:c∉u):Wo.splC c (u++c::v)=u::Wo.splC c v:=by
 have:=zoM (v:=c::v) (a:=[]) (t:=Wo.splC c v) h (by rw[Wo.splC,if_pos rfl])
 rwa [List.append_nil]at this
theorem zzL {c:UInt8}{u:List UInt8}(h:c∉u):Wo.splC c u=[u]:=by
 have:=zoM (v:=[]) (a:=[]) (t:=[]) h rfl
 simpa using this
end Go.Fm
namespace Go.Fm
open Go
theorem zkV {l:List (List UInt8)}(h:l≠[])(x sep:List UInt8):Lib.join (l++[x]) sep=Lib.join l sep++(sep++x):=by
 obtain ⟨a,r,rfl⟩:=List.exists_cons_of_ne_nil h
 rw[List.cons_append,Lib.join_cons,Lib.join_cons,List.append_assoc]
 simp [Lib.joinTail]
theorem zqF {l:List (List UInt8)}{i:Nat}(h:i<l.length)(sep:List UInt8):Lib.join (l.take (i+1)) sep=(if 0<i then Lib.join (l.take i) sep++sep else Lib.join (l.take i) sep)++l.getD i []:=by
 by_cases h0:0<i
 ·rw [if_pos h0,List.take_succ_eq_append_getElem h,List.getD_eq_getElem?_getD,List.getElem?_eq_getElem h]
  have hne:l.take i≠[]:=fun e=>by
   have:=congrArg List.length e
   rw[List.length_take,List.length_nil]at this
   omega
  rw[zkV hne,List.append_assoc]
  rfl
 ·have hi:i=0:=by omega
  subst hi
  cases l with
  | nil=>simp at h
  | cons a r=>simp [Lib.join_nil,Lib.join_one]
end Go.Fm
namespace Go.Fm
open Go
end Go.Fm
namespace Go.Fm
open Go
end Go.Fm
