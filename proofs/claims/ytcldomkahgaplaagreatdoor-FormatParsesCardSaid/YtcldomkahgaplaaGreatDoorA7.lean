/- What simp is to know of verification conditions: one rule for each shape. -/
import Derived.Test.YtcldomkahgaplaaGreatDoorA6
import Derived.RangeFuncIn
set_option linter.all false
namespace Go.Avm
open Go
theorem FL.get_cons (i:Nat)(v:AV)(r:FL)(t:Nat):FL.get ((i,v)::r) t=if i=t then v else FL.get r t:=id rfl
theorem FL.get_nil (t:Nat):FL.get [] t=.undef:=id rfl
theorem FL.upd_some (F:FL)(d:Nat)(v:AV):(FL.get F).updo (some d) v=FL.get ((d,v)::F):=FL.get_set F d v
theorem FL.upd_none (F:FL)(v:AV):(FL.get F).updo none v=FL.get F:=id rfl
section
variable (k:IntKind)(x y:Int)(s t:List UInt8)(a b c:Bool)(v:AV)
theorem zDU:abin .add (.int k x) (.int k y)=some (true,.int k (k.wrap (x+y))):=by simp [abin,zaU,bint]
theorem zEL:abin .sub (.int k x) (.int k y)=some (true,.int k (k.wrap (x-y))):=by simp [abin,zaU,bint]
theorem zCW:abin .mul (.int k x) (.int k y)=some (true,.int k (k.wrap (x*y))):=by simp [abin,zaU,bint]
theorem zDf:abin .quo (.int k x) (.int k y)=some (decide (y≠0),.int k (k.wrap (x.tdiv y))):=by simp [abin,zaU,bint]
theorem zFy:abin .rem (.int k x) (.int k y)=some (decide (y≠0),.int k (x.tmod y)):=by simp [abin,zaU,bint]
theorem zFA:abin .and (.int k x) (.int k y)=some (true,.int k (bits .and k x y)):=by simp [abin,zaU,bint]
theorem zG2:abin .or (.int k x) (.int k y)=some (true,.int k (bits .or k x y)):=by simp [abin,zaU,bint]
theorem zFs:abin .xor (.int k x) (.int k y)=some (true,.int k (bits .xor k x y)):=by simp [abin,zaU,bint]
theorem zwT:abin .andNot (.int k x) (.int k y)=some (true,.int k (bits .andNot k x y)):=by simp [abin,zaU,bint]
theorem zET:abin .eql (.int k x) (.int k y)=some (true,.bool (decide (x=y))):=by simp [abin,zaU,bint];rfl
theorem zDO:abin .neq (.int k x) (.int k y)=some (true,.bool (!decide (x=y))):=by simp [abin,zaU,bint,bne];rfl
theorem zGe:abin .lss (.int k x) (.int k y)=some (true,.bool (decide (x<y))):=by simp [abin,zaU,bint]
theorem zDV:abin .leq (.int k x) (.int k y)=some (true,.bool (decide (x<=y))):=by simp [abin,zaU,bint]
theorem zDY:abin .gtr (.int k x) (.int k y)=some (true,.bool (decide (y<x))):=by simp [abin,zaU,bint]
theorem zCU:abin .geq (.int k x) (.int k y)=some (true,.bool (decide (y<=x))):=by simp [abin,zaU,bint]
theorem zFQ (k':IntKind):abin .shl (.int k x) (.int k' y)=some (decide (0<=y),.int k (k.wrap (x*2 ^ (min y.toNat k.bits)))):=by simp [abin,zaU,sh]
theorem zC8 (k':IntKind):abin .shr (.int k x) (.int k' y)=some (decide (0<=y),.int k (x.fdiv (2 ^ (min y.toNat k.bits)))):=by simp [abin,zaU,sh]
theorem zAT:abin .add (.str s) (.str t)=some (decide (s.length+t.length<=9223372036854775807),.str (s++t)):=by simp [abin,bstr]
theorem zBK:abin .eql (.str s) (.str t)=some (true,.bool (decide (s=t))):=by simp [abin,bstr];exact Bool.eq_iff_iff.2 (by simp)
theorem zBg:abin .neq (.str s) (.str t)=some (true,.bool (!decide (s=t))):=by simp [abin,bstr];exact Bool.eq_iff_iff.2 (by simp)
theorem zCf:abin .lss (.str s) (.str t)=some (true,.bool (Op.bytesLess s t)):=by simp [abin,bstr]
theorem zBy:abin .leq (.str s) (.str t)=some (true,.bool (Op.bytesLess s t||s==t)):=by simp [abin,bstr]
theorem zCH:abin .gtr (.str s) (.str t)=some (true,.bool (!(Op.bytesLess s t||s==t))):=by simp [abin,bstr]
theorem zCn:abin .geq (.str s) (.str t)=some (true,.bool (!Op.bytesLess s t)):=by simp [abin,bstr]
theorem pk_b:zuo a (.bool b) (.bool c)=.bool (bif a then b else c):=rfl
theorem pk_1 (u:AV):zuo true (.bool b) u=.bool b:=by cases u<;>rfl
theorem pk_0 (u:AV):zuo false u (.bool b)=.bool b:=by cases u<;>rfl
theorem zBp:(bif a then b else false)=(a&&b):=by cases a<;>rfl
theorem zE3:(bif a then true else b)=(a||b):=by cases a<;>rfl
end
section
variable {X:Cx}{N:Nat}{Q:Exit->Fr->Heap->Prop}{fr:Fr}{H:Heap}{K:Fr->Heap->Prop}
theorem zHt (c:ACode)(ks:List Kt):kq X N Q (.seq c::ks) .normal fr H=wpc X N c (kq X N Q ks) fr H:=id rfl
theorem zIa (c:ACode)(ks:List Kt):kq X N Q (.seq c::ks) .ret fr H=kq X N Q ks .ret fr H:=id rfl
theorem zHO (c:ACode)(ks:List Kt)(i:Nat):kq X N Q (.seq c::ks) (.exit i) fr H=kq X N Q ks (.exit i) fr H:=id rfl
theorem zGP (i:Nat)(ks:List Kt):kq X N Q (.blk i::ks) .normal fr H=kq X N Q ks .normal fr H:=id rfl
theorem zHm (i:Nat)(ks:List Kt):kq X N Q (.blk i::ks) .ret fr H=kq X N Q ks .ret fr H:=id rfl
theorem zGW (i:Nat)(ks:List Kt):kq X N Q (.blk i::ks) (.exit i) fr H=kq X N Q ks .normal fr H:=by simp [kq,ABlk]
theorem zIn (i j:Nat)(ks:List Kt)(h:(j==i)=false):kq X N Q (.blk i::ks) (.exit j) fr H=kq X N Q ks (.exit j) fr H:=by
 simp only[kq,ABlk];rw[if_neg (by simpa using h)]
theorem zGN (ks:List Kt):kq X N Q (.sc::ks) .normal fr H=kq X N Q ks .normal fr H:=id rfl
theorem zHh (ks:List Kt):kq X N Q (.sc::ks) .ret fr H=kq X N Q ks .ret fr H:=id rfl
theorem zIo (ks:List Kt)(i:Nat):kq X N Q (.sc::ks) (.exit i) fr H=kq X N Q ks (.exit i) fr H:=id rfl
theorem zBQ (a:ACode)(ks:List Kt):wpc X N (.scope a) (kq X N Q ks) fr H=wpc X N a (kq X N Q (.sc::ks)) fr H:=id rfl
theorem zAy (l:Nat)(ks:List Kt):wpc X N (.label l) (kq X N Q ks) fr H=kq X N Q ks .normal fr H:=id rfl
theorem zD9 (l:Nat)(ks:List Kt):wpc X N (.goto l) (kq X N Q ks) fr H=kq X N Q ks (.goto l) fr H:=id rfl
theorem zGX (c:ACode)(ks:List Kt)(i:Nat):kq X N Q (.seq c::ks) (.goto i) fr H=kq X N Q ks (.goto i) fr H:=id rfl
theorem zHp (i j:Nat)(ks:List Kt):kq X N Q (.blk i::ks) (.goto j) fr H=kq X N Q ks (.goto j) fr H:=id rfl
theorem zHM (ks:List Kt):wpc X N .bad (kq X N Q ks) fr H=False:=id rfl
theorem kq_0 (e:Exit):kq X N Q [] e fr H=Q e fr H:=id rfl
theorem zFV (ks:List Kt):wpc X N .skip (kq X N Q ks) fr H=kq X N Q ks .normal fr H:=id rfl
theorem zIh (ks:List Kt):wpc X N .ret (kq X N Q ks) fr H=kq X N Q ks .ret fr H:=id rfl
theorem zCT (i:Nat)(ks:List Kt):wpc X N (.exit i) (kq X N Q ks) fr H=kq X N Q ks (.exit i) fr H:=id rfl
theorem zGT (a b:ACode)(ks:List Kt):wpc X N (.seq a b) (kq X N Q ks) fr H=wpc X N a (kq X N Q (.seq b::ks)) fr H:=id rfl
theorem zBv (i:Nat)(a:ACode)(ks:List Kt):wpc X N (.block i a) (kq X N Q ks) fr H=wpc X N a (kq X N Q (.blk i::ks)) fr H:=id rfl
theorem zHZ (ops:List zal)(ks:List Kt):wpc X N (.region false ops) (kq X N Q ks) fr H=zh0 X (kq X N Q ks .normal) ops fr H:=id rfl
theorem zFZ (ops:List zal)(ks:List Kt):wpc X N (.region true ops) (kq X N Q ks) fr H=zbx X (kq X N Q ks .normal) H ops fr:=id rfl
def zbR (e:Bool)(A B:Prop):Prop:=(e=true->A)/\(e=false->B)
theorem sp_t (A B:Prop):zbR true A B=A:=by simp [zbR]
theorem sp_f (A B:Prop):zbR false A B=B:=by simp [zbR]
theorem sp_e (e:Bool)(A B:Prop):zbR e A B=((e=true->A)/\(e=false->B)):=id rfl
def vcC (X:Cx)(N:Nat)(Q:Exit->Fr->Heap->Prop)(a b:ACode)(ks:List Kt)(fr:Fr)(H:Heap):AV->Prop
 | .bool t=>zbR t (wpc X N a (kq X N Q ks) fr H) (wpc X N b (kq X N Q ks) fr H)
 | _=>False
theorem zDD (c:AX)(a b:ACode)(ks:List Kt):wpc X N (.cond c a b) (kq X N Q ks) fr H=vcC X N Q a b ks fr H (c.eval X.G fr):=by
 simp only[wpc,vcC,zbR]
 cases c.eval X.G fr<;>rfl
theorem vi_b (a b:ACode)(ks:List Kt)(t:Bool):vcC X N Q a b ks fr H (.bool t)=zbR t (wpc X N a (kq X N Q ks) fr H) (wpc X N b (kq X N Q ks) fr H):=id rfl
theorem ri_r (res:List ARes)(Q:AV->Heap->Prop):zgM res Q .ret fr H=match za6 fr H res with|some vs=>Q (zkO vs) H|none=>False:=id rfl
theorem ri_n (res:List ARes)(Q:AV->Heap->Prop):zgM res Q .normal fr H=match za6 fr H res with|some vs=>Q (zkO vs) H|none=>False:=id rfl
theorem zD2:za6 fr H []=some []:=id rfl
theorem zFx (t:Nat)(r:List ARes):za6 fr H (.tmp t::r)=match za6 fr H r with|some vs=>some (fr t::vs)|none=>none:=by
 simp only[za6,ARes.val]
 cases za6 fr H r<;>rfl
theorem ro_1 (v:AV):zkO [v]=v:=id rfl
theorem ro_0:zkO []=.tuple []:=id rfl
theorem ro_2 (u v:AV)(r:List AV):zkO (u::v::r)=.tuple (u::v::r):=id rfl
theorem zCO:zh0 X K [] fr H=K fr H:=id rfl
theorem zAh (o:zal)(r:List zal):zh0 X K (o::r) fr H=vcOp X o fr H (zh0 X K r):=id rfl
theorem zGL (d:Option Nat)(op:AOp):vcOp X ⟨d,op,none⟩ fr H K=vcDo X op d fr H K:=id rfl
theorem vc_g (d:Option Nat)(op:AOp)(t:Nat)(b:Bool):vcOp X ⟨d,op,some (t,b)⟩ fr H K=vcG X t b op d fr H K (fr t):=id rfl
theorem vg_t (d:Option Nat)(op:AOp)(t:Nat)(e:Bool):vcG X t true op d fr H K (.bool e)=zbR e (vcDo X op d (fr.updo (some t) (.bool true)) H K) (K ((fr.updo (some t) (.bool false)).updo d noV) H):=id rfl
theorem vg_f (d:Option Nat)(op:AOp)(t:Nat)(e:Bool):vcG X t false op d fr H K (.bool e)=zbR e (K ((fr.updo (some t) (.bool true)).updo d noV) H) (vcDo X op d (fr.updo (some t) (.bool false)) H K):=id rfl
theorem zHB (d:Option Nat)(op:AOp)(t:Nat)(b:Bool):vcG X t b op d fr H K noV=K (fr.updo d noV) H:=by cases b<;>rfl
end
def vcR (d:Option Nat)(fr:Fr)(H:Heap)(K:Fr->Heap->Prop):Option (Bool×AV×Option Heap)->Prop
 | some (c,v,h)=>c=true/\K (fr.updo d v) (h.getD H)
 | none=>False
section
variable {X:Cx}{fr:Fr}{H:Heap}{K:Fr->Heap->Prop}(d:Option Nat)
theorem vr_n (c:Bool)(v:AV):vcR d fr H K (some (c,v,none))=(c=true/\K (fr.updo d v) H):=id rfl
theorem vr_s (c:Bool)(v:AV)(H':Heap):vcR d fr H K (some (c,v,some H'))=(c=true/\K (fr.updo d v) H'):=id rfl
theorem vr_0:vcR d fr H K none=False:=id rfl
theorem zGh (x':AX):vcDo X (.mov x') d fr H K=vcR d fr H K (aop X.G fr H (.mov x')):=by
 simp only[vcDo,callee,yieldOf,vcR]
 split<;>simp_all
theorem zCJ (c':AX)(a':AX)(b':AX):vcDo X (.pick c' a' b') d fr H K=vcR d fr H K (aop X.G fr H (.pick c' a' b')):=by
 simp only[vcDo,callee,yieldOf,vcR]
 split<;>simp_all
theorem zER (op':BinOp)(x':AX)(y':AX):vcDo X (.bin op' x' y') d fr H K=vcR d fr H K (aop X.G fr H (.bin op' x' y')):=by
 simp only[vcDo,callee,yieldOf,vcR]
 split<;>simp_all
theorem zCS (n':Bool)(x':AX)(y':AX):vcDo X (.beq n' x' y') d fr H K=vcR d fr H K (aop X.G fr H (.beq n' x' y')):=by
 simp only[vcDo,callee,yieldOf,vcR]
 split<;>simp_all
theorem zDr (x':AX):vcDo X (.not x') d fr H K=vcR d fr H K (aop X.G fr H (.not x')):=by
 simp only[vcDo,callee,yieldOf,vcR]
 split<;>simp_all
theorem zEY (x':AX):vcDo X (.neg x') d fr H K=vcR d fr H K (aop X.G fr H (.neg x')):=by
 simp only[vcDo,callee,yieldOf,vcR]
 split<;>simp_all
theorem zCj (k':IntKind)(x':AX):vcDo X (.conv k' x') d fr H K=vcR d fr H K (aop X.G fr H (.conv k' x')):=by
 simp only[vcDo,callee,yieldOf,vcR]
 split<;>simp_all
theorem zFI (x':AX):vcDo X (.b2s x') d fr H K=vcR d fr H K (aop X.G fr H (.b2s x')):=by
 simp only[vcDo,callee,yieldOf,vcR]
 split<;>simp_all
theorem zDo (t':Bool)(x':AX):vcDo X (.s2b t' x') d fr H K=vcR d fr H K (aop X.G fr H (.s2b t' x')):=by
 simp only[vcDo,callee,yieldOf,vcR]
 split<;>simp_all
theorem zCV (x':AX):vcDo X (.r2s x') d fr H K=vcR d fr H K (aop X.G fr H (.r2s x')):=by
 simp only[vcDo,callee,yieldOf,vcR]
 split<;>simp_all
theorem zAJ (x':AX):vcDo X (.smov x') d fr H K=vcR d fr H K (aop X.G fr H (.smov x')):=by
 simp only[vcDo,callee,yieldOf,vcR]
 split<;>simp_all
theorem zEn (x':AX):vcDo X (.len x') d fr H K=vcR d fr H K (aop X.G fr H (.len x')):=by
 simp only[vcDo,callee,yieldOf,vcR]
 split<;>simp_all
theorem zCI (x':AX):vcDo X (.lenS x') d fr H K=vcR d fr H K (aop X.G fr H (.lenS x')):=by
 simp only[vcDo,callee,yieldOf,vcR]
 split<;>simp_all
theorem zCs (n':Nat)(x':AX)(y':AX):vcDo X (.idxA n' x' y') d fr H K=vcR d fr H K (aop X.G fr H (.idxA n' x' y')):=by
 simp only[vcDo,callee,yieldOf,vcR]
 split<;>simp_all
theorem zCK (n':Nat)(m':Nat)(x':AX)(y':AX):vcDo X (.idxP n' m' x' y') d fr H K=vcR d fr H K (aop X.G fr H (.idxP n' m' x' y')):=by
 simp only[vcDo,callee,yieldOf,vcR]
 split<;>simp_all
theorem zHf (n':Option Nat)(x':AX):vcDo X (.ld n' x') d fr H K=vcR d fr H K (aop X.G fr H (.ld n' x')):=by
 simp only[vcDo,callee,yieldOf,vcR]
 split<;>simp_all
theorem zHe (n':Nat)(x':AX)(y':AX):vcDo X (.st n' x' y') d fr H K=vcR d fr H K (aop X.G fr H (.st n' x' y')):=by
 simp only[vcDo,callee,yieldOf,vcR]
 split<;>simp_all
theorem zCw (n':Nat)(x':AX):vcDo X (.fldA n' x') d fr H K=vcR d fr H K (aop X.G fr H (.fldA n' x')):=by
 simp only[vcDo,callee,yieldOf,vcR]
 split<;>simp_all
theorem zEH (n':Nat)(m':Option Nat)(x':AX):vcDo X (.fld n' m' x') d fr H K=vcR d fr H K (aop X.G fr H (.fld n' m' x')):=by
 simp only[vcDo,callee,yieldOf,vcR]
 split<;>simp_all
theorem zBr (x':AX)(y':AX):vcDo X (.idxS x' y') d fr H K=vcR d fr H K (aop X.G fr H (.idxS x' y')):=by
 simp only[vcDo,callee,yieldOf,vcR]
 split<;>simp_all
theorem zCa (n':Nat)(m':Nat)(l':Option Nat)(x':AX)(y':AX):vcDo X (.idxG n' m' l' x' y') d fr H K=vcR d fr H K (aop X.G fr H (.idxG n' m' l' x' y')):=by
 simp only[vcDo,callee,yieldOf,vcR]
 split<;>simp_all
theorem zEp (x':AX)(y':Option AX)(z':Option AX):vcDo X (.ssl x' y' z') d fr H K=vcR d fr H K (aop X.G fr H (.ssl x' y' z')):=by
 simp only[vcDo,callee,yieldOf,vcR]
 split<;>simp_all
theorem zF8 (n':Nat)(x':AX)(y':Option AX)(z':Option AX)(u':Option AX):vcDo X (.sls n' x' y' z' u') d fr H K=vcR d fr H K (aop X.G fr H (.sls n' x' y' z' u')):=by
 simp only[vcDo,callee,yieldOf,vcR]
 split<;>simp_all
theorem zC6 (n':Nat)(m':Nat)(x':AX)(y':Option AX)(z':Option AX)(u':Option AX):vcDo X (.slA n' m' x' y' z' u') d fr H K=vcR d fr H K (aop X.G fr H (.slA n' m' x' y' z' u')):=by
 simp only[vcDo,callee,yieldOf,vcR]
 split<;>simp_all
theorem zwX (T' e':Nat):vcDo X (.allocB T' e') d fr H K=vcR d fr H K (aop X.G fr H (.allocB T' e')):=by
 simp only[vcDo,callee,yieldOf,vcR]
 split<;>simp_all
theorem zzn (cs':List AV):vcDo X (.alloc cs') d fr H K=vcR d fr H K (aop X.G fr H (.alloc cs')):=by
 simp only[vcDo,callee,yieldOf,vcR]
 split<;>simp_all
theorem zFt (x':AX):vcDo X (.box x') d fr H K=vcR d fr H K (aop X.G fr H (.box x')):=by
 simp only[vcDo,callee,yieldOf,vcR]
 split<;>simp_all
theorem zyC (cs':List AV)(ps':List (Nat×Nat×AX)):vcDo X (.build cs' ps') d fr H K=vcR d fr H K (aop X.G fr H (.build cs' ps')):=by
 simp only[vcDo,callee,yieldOf,vcR]
 split<;>simp_all
theorem zF1 (n':Nat)(z':AV)(m':Nat)(ps':List (Nat×AX)):vcDo X (.bsl n' z' m' ps') d fr H K=vcR d fr H K (aop X.G fr H (.bsl n' z' m' ps')):=by
 simp only[vcDo,callee,yieldOf,vcR]
 split<;>simp_all
theorem zCN (x':AX)(n':Nat):vcDo X (.extr x' n') d fr H K=vcR d fr H K (aop X.G fr H (.extr x' n')):=by
 simp only[vcDo,callee,yieldOf,vcR]
 split<;>simp_all
theorem zE9 (n':Nat)(fs':List AX)(cs':List AX):vcDo X (.mkf n' fs' cs') d fr H K=vcR d fr H K (aop X.G fr H (.mkf n' fs' cs')):=by
 simp only[vcDo,callee,yieldOf,vcR]
 split<;>simp_all
theorem zFf (n':Nat)(x':AX):vcDo X (.mki n' x') d fr H K=vcR d fr H K (aop X.G fr H (.mki n' x')):=by
 simp only[vcDo,callee,yieldOf,vcR]
 split<;>simp_all
theorem zEz (n':Nat)(m':Nat)(x':AX):vcDo X (.mkT n' m' x') d fr H K=vcR d fr H K (aop X.G fr H (.mkT n' m' x')):=by
 simp only[vcDo,callee,yieldOf,vcR]
 split<;>simp_all
theorem zFJ (n':Nat)(m':Nat)(z':List AV)(x':AX)(y':AX):vcDo X (.mkR n' m' z' x' y') d fr H K=vcR d fr H K (aop X.G fr H (.mkR n' m' z' x' y')):=by
 simp only[vcDo,callee,yieldOf,vcR]
 split<;>simp_all
theorem zDE (n':Nat)(m':Nat)(x':AX)(y':AX):vcDo X (.app n' m' x' y') d fr H K=vcR d fr H K (aop X.G fr H (.app n' m' x' y')):=by
 simp only[vcDo,callee,yieldOf,vcR]
 split<;>simp_all
theorem zDM (x':AX):vcDo X (.nck x') d fr H K=vcR d fr H K (aop X.G fr H (.nck x')):=by
 simp only[vcDo,callee,yieldOf,vcR]
 split<;>simp_all
theorem zEr (n':Bool)(x' y':AX):vcDo X (.peq n' x' y') d fr H K=vcR d fr H K (aop X.G fr H (.peq n' x' y')):=by
 simp only[vcDo,callee,yieldOf,vcR]
 split<;>simp_all
theorem zDa (n':Bool)(x':AX):vcDo X (.isn n' x') d fr H K=vcR d fr H K (aop X.G fr H (.isn n' x')):=by
 simp only[vcDo,callee,yieldOf,vcR]
 split<;>simp_all
theorem zDF (n':Bool)(x':AX):vcDo X (.ifn n' x') d fr H K=vcR d fr H K (aop X.G fr H (.ifn n' x')):=by
 simp only[vcDo,callee,yieldOf,vcR]
 split<;>simp_all
theorem zAF (n':Nat)(x':AX):vcDo X (.boxS n' x') d fr H K=vcR d fr H K (aop X.G fr H (.boxS n' x')):=by
 simp only[vcDo,callee,yieldOf,vcR]
 split<;>simp_all
theorem zGd (x' y':AX):vcDo X (.cpy x' y') d fr H K=vcR d fr H K (aop X.G fr H (.cpy x' y')):=by
 simp only[vcDo,callee,yieldOf,vcR]
 split<;>simp_all
theorem zEU (n':Bool)(ks':List Nat)(x' y':AX):vcDo X (.aeq n' ks' x' y') d fr H K=vcR d fr H K (aop X.G fr H (.aeq n' ks' x' y')):=by
 simp only[vcDo,callee,yieldOf,vcR]
 split<;>simp_all
theorem zHS (n':Bool)(x' y':AX):vcDo X (.mm n' x' y') d fr H K=vcR d fr H K (aop X.G fr H (.mm n' x' y')):=by
 simp only[vcDo,callee,yieldOf,vcR]
 split<;>simp_all
theorem zCM (f:Nat)(as:List AX):vcDo X (.call f as) d fr H K=zdT X f (as.map (·.eval X.G fr)) d fr H K:=id rfl
def vcV (X:Cx)(as:List AX)(d:Option Nat)(fr:Fr)(H:Heap)(K:Fr->Heap->Prop):AV->Prop
 | .clo f fs cs=>zdT X f (fs++as.map (·.eval X.G fr)++cs) d fr H K
 | .yv i=>zi7 X i (as.map (·.eval X.G fr)) d fr H K
 | _=>False
theorem zGU (x:AX)(as:List AX):vcDo X (.callv x as) d fr H K=vcV X as d fr H K (x.eval X.G fr):=by
 simp only[vcDo,callee,yieldOf,aop]
 generalize x.eval X.G fr=v
 cases v<;>rfl
theorem zFD (as:List AX)(f:Nat)(fs cs:List AV):vcV X as d fr H K (.clo f fs cs)=zdT X f (fs++as.map (·.eval X.G fr)++cs) d fr H K:=id rfl
theorem zHP (as:List AX)(i:Nat):vcV X as d fr H K (.yv i)=zi7 X i (as.map (·.eval X.G fr)) d fr H K:=id rfl
end
end Go.Avm
namespace Go.Avm
open Go
section
variable {X:Cx}{N:Nat}
def FL.has (fr:Fr):FL->Prop
 | []=>True
 | (i,v)::r=>fr i=v/\FL.has fr r
theorem FL.has_get {fr:Fr}:∀{G:FL},FL.has fr G->∀t,G.get t=fr t∨G.get t=.undef
 | [],_,t=>.inr rfl
 | (i,v)::r,h,t=>by
  simp only[FL.get]
  split
  ·rename_i e;subst e;exact .inl h.1.symm
  ·exact FL.has_get h.2 t
theorem zqH {fr:Fr}{G:FL}{H:Heap}(h:FL.has fr G):Wk X N fr H G.get H:=zG1 (FL.has_get h)
def Inv (F':FL)(H':Heap)(fr:Fr)(H:Heap):Prop:=FL.has fr F'/\H=H'
def zvC {ι:Type}(C:ι->Prop)(F':ι->FL)(H':ι->Heap)(μ:ι->Nat)(i:ι)(Q:Exit->Fr->Heap->Prop):Exit->Fr->Heap->Prop
 | .normal,fr,H=>∃j,μ j<μ i/\C j/\Inv (F' j) (H' j) fr H
 | e,fr,H=>Q e fr H
theorem ag_n {ι:Type}{C:ι->Prop}{F':ι->FL}{H':ι->Heap}{μ:ι->Nat}{i:ι}{Q:Exit->Fr->Heap->Prop}(F:FL)(H:Heap) :
  zvC C F' H' μ i Q .normal F.get H=∃j,μ j<μ i/\C j/\FL.has F.get (F' j)/\H=H' j:=rfl
theorem ag_r {ι:Type}{C:ι->Prop}{F':ι->FL}{H':ι->Heap}{μ:ι->Nat}{i:ι}{Q:Exit->Fr->Heap->Prop}(fr:Fr)(H:Heap) :
  zvC C F' H' μ i Q .ret fr H=Q .ret fr H:=rfl
theorem ag_e {ι:Type}{C:ι->Prop}{F':ι->FL}{H':ι->Heap}{μ:ι->Nat}{i:ι}{Q:Exit->Fr->Heap->Prop}(fr:Fr)(H:Heap)(k:Nat) :
  zvC C F' H' μ i Q (.exit k) fr H=Q (.exit k) fr H:=rfl
theorem zbj (hm:X.P.follows .mixedOrders=true){ι:Type}(C:ι->Prop)(F':ι->FL)(H':ι->Heap)(μ:ι->Nat)(i:ι){body:ACode}{Q:Exit->Fr->Heap->Prop}{fr:Fr}{H:Heap}
  (h0:C i/\∃fr1 H1,WkA X N fr H fr1 H1/\Inv (F' i) (H' i) fr1 H1)
  (round:∀i,C i->wpc X N body (kq X N (zvC C F' H' μ i Q) []) (F' i).get (H' i)):wpc X N (.loop body) Q fr H:=by
 refine zAi (fun i fr H=>C i/\fr=(F' i).get/\H=H' i) μ i ?_ ?_
 ·obtain ⟨hc,fr1,H1,hw,h1,rfl⟩:=h0
  exact ⟨_,_,hw.trans (fun _=>zqH h1),hc,rfl,rfl⟩
 ·rintro i fr1 H1 ⟨hc,rfl,rfl⟩
  refine zeu (zaL hm _ (round i hc)) fun e fr2 H2 hq=>?_
  cases e with
  | normal =>
   obtain ⟨j,hj,hcj,h1,rfl⟩:=hq
   exact ⟨j,hj,_,_,fun _=>zqH h1,hcj,rfl,rfl⟩
  | _=>exact hq
theorem zaj (hm:X.P.follows .mixedOrders=true){ι:Type}(C:ι->Prop)(F':ι->FL)(H':ι->Heap)(μ:ι->Nat)(i:ι){body:ACode}{Q:Exit->Fr->Heap->Prop}{F:FL}{H:Heap}
  (h0:C i/\FL.has F.get (F' i)/\H=H' i)
  (round:∀i,C i->wpc X N body (kq X N (zvC C F' H' μ i Q) []) (F' i).get (H' i)):wpc X N (.loop body) Q F.get H:=
 zbj hm C F' H' μ i ⟨h0.1,_,_,WkA.refl,h0.2⟩ round
def AJ {ι:Type}(lb:ι->Nat)(C:ι->Prop)(F':ι->FL)(H':ι->Heap)(P:ι->Prop)(Q:Exit->Fr->Heap->Prop):Exit->Fr->Heap->Prop
 | .goto l,fr,H=>∃j,P j/\lb j=l/\C j/\Inv (F' j) (H' j) fr H
 | e,fr,H=>Q e fr H
section
variable {ι:Type}{lb:ι->Nat}{C:ι->Prop}{F':ι->FL}{H':ι->Heap}{P:ι->Prop}{Q:Exit->Fr->Heap->Prop}
theorem aj_g (F:FL)(H:Heap)(l:Nat):AJ lb C F' H' P Q (.goto l) F.get H=∃j,P j/\lb j=l/\C j/\FL.has F.get (F' j)/\H=H' j:=id rfl
theorem aj_n (fr:Fr)(H:Heap):AJ lb C F' H' P Q .normal fr H=Q .normal fr H:=id rfl
theorem aj_r (fr:Fr)(H:Heap):AJ lb C F' H' P Q .ret fr H=Q .ret fr H:=id rfl
theorem aj_e (fr:Fr)(H:Heap)(k:Nat):AJ lb C F' H' P Q (.exit k) fr H=Q (.exit k) fr H:=id rfl
end
theorem ztN (hm:X.P.follows .mixedOrders=true){ι:Type}(lb:ι->Nat)(C:ι->Prop)(F':ι->FL)(H':ι->Heap)(μ:ι->Nat){body:ACode}{Q:Exit->Fr->Heap->Prop}{fr:Fr}{H:Heap}
  (first:wpc X N body (kq X N (AJ lb C F' H' (fun _=>True) Q) []) fr H)
  (pass:∀i,C i->∃rest,zbl body (lb i)=some rest/\wpc X N rest (kq X N (AJ lb C F' H' (fun j=>μ j<μ i) Q) []) (F' i).get (H' i)):wpc X N (.scopeJ body) Q fr H:=by
 refine zwD lb μ (fun i fr H=>C i/\fr=(F' i).get/\H=H' i) (zeu (zaL hm _ first) fun e fr2 H2 hq=>?_) ?_
 ·cases e with
  | goto l =>
   obtain ⟨j,_,hj,hcj,h1,rfl⟩:=hq
   exact ⟨j,hj,_,_,fun _=>zqH h1,hcj,rfl,rfl⟩
  | _=>exact hq
 ·rintro i fr1 H1 ⟨hc,rfl,rfl⟩
  obtain ⟨rest,hf,hw⟩:=pass i hc
  refine ⟨rest,hf,zeu (zaL hm _ hw) fun e fr2 H2 hq=>?_⟩
  cases e with
  | goto l =>
   obtain ⟨j,hlt,hj,hcj,h1,rfl⟩:=hq
   exact ⟨j,hlt,hj,_,_,fun _=>zqH h1,hcj,rfl,rfl⟩
  | _=>exact hq
theorem zcf (v sz:Nat){F:FL}{H:Heap}(h:F.get v=.sl .ex []):WkA X N F.get H (FL.get ((v,.sl (.tok H.length sz) [])::F)) (H++[.tok 0]):=fun _ g w a hs=>by
 have hg:=zhb hs 0
 refine ⟨_,⟨hg.wf,hg.hr,fun t=>?_,hs.size,hs.defers.ext hg.ext,hs.n0⟩,hg.xm⟩
 simp only[FL.get]
 split
 ·rename_i e
  subst e
  have hr:=hs.fr v
  rw[h]at hr
  simp only[Rel]at hr⊢
  obtain ⟨ad,cap,vs,s,h1,h2,h3,h4,h5⟩:=hr
  simp only[RelL]at h3
  subst h3
  exact ⟨ad,cap,[],sz,h1,h2,by simp [RelL],.inl rfl,rfl,0,if_pos rfl,Nat.le_refl _,fun _=>.inl ⟨h5,rfl⟩⟩
 ·exact Rel.mono _ hg.mono (hs.fr t)
theorem FL.has_nil (fr:Fr):FL.has fr []=True:=id rfl
theorem FL.has_cons (fr:Fr)(i:Nat)(v:AV)(r:FL):FL.has fr ((i,v)::r)=(fr i=v/\FL.has fr r):=id rfl
theorem zab {f:Nat}{args:List AV}{d:Option Nat}{fr:Fr}{H:Heap}{K:Fr->Heap->Prop}{r:AV}(h:Ev X f (dryL args) r)(hK:K (fr.updo d r) H):zdT X f args d fr H K:=
 zdT.of_callV (zhD h) hK
theorem za5 {f:Nat}{args:List AV}{d:Option Nat}{fr:Fr}{H:Heap}{K:Fr->Heap->Prop}{r:AV}(h:Ev X f (zki H args) r)(hr:zgJ r=true)(hK:K (fr.updo d r) H):zdT X f args d fr H K:=
 zdT.of_callV (zvk h hr) hK
end
class Elt {α:Type} (f:α->AV) (sz:outParam Nat):Prop where
 len:∀x,(f x).cells.length=sz
 tup:∀x,za9 (f x)=true
 sca:∀x,(f x).cells.all zah=true
 dry:∀x,dry (f x)=f x
instance : Elt u8 1:=⟨fun _=>rfl,fun _=>rfl,fun _=>rfl,fun _=>rfl⟩
instance (k:IntKind):Elt (AV.int k) 1:=⟨fun _=>rfl,fun _=>rfl,fun _=>rfl,fun _=>rfl⟩
instance : Elt AV.str 1:=⟨fun _=>rfl,fun _=>rfl,fun _=>rfl,fun _=>rfl⟩
instance : Elt AV.bool 1:=⟨fun _=>rfl,fun _=>rfl,fun _=>rfl,fun _=>rfl⟩
def lst {α:Type}(f:α->AV)(p:Perm)(l:List α):AV:=.sl p (l.map f)
def idxX (sz:Nat)(x i:AV):Option (Bool×AV×Option Heap):=match x,i with
 | .sl _ es,.int _ n=>some (decide (0<=n)&&decide (n<es.length)&&decide ((es.getD n.toNat .undef).cells.length=sz)&&za9 (es.getD n.toNat .undef),.vp (es.getD n.toNat .undef).cells,none)
 | .rsl id off m _ s,.int _ n=>some (decide (0<=n)&&decide (n<m)&&decide (s=sz),.ptr id (off+n.toNat*sz),none)
 | _,_=>none
section
variable {α:Type}[Inhabited α]{f:α->AV}{sz:Nat}[Elt f sz]{d:Option Nat}{fr fr':Fr}{H:Heap}{K:Fr->Heap->Prop}{G:za0}{p:Perm}{l:List α}{k:IntKind}{n:Int}
theorem zFP (s:Nat)(x i:AX):aop G fr H (.idxA s x i)=idxX s (x.eval G fr) (i.eval G fr):=by
 simp only[aop]
 generalize x.eval G fr=u
 generalize i.eval G fr=v
 cases u<;>cases v<;>rfl
theorem getD_map (j:Nat)(h:j<l.length):(l.map f).getD j .undef=f (l.getD j default):=by
 simp [List.getD,h]
theorem zC9:vcR d fr H K (idxX sz (lst f p l) (.int k n))=((0<=n/\n<l.length)/\K (fr.updo d (.vp (f (l.getD n.toNat default)).cells)) H):=by
 simp only[idxX,lst,vcR,List.length_map,Option.getD_none,eq_iff_iff]
 constructor
 ·rintro ⟨h1,h2⟩
  simp only[Bool.and_eq_true,decide_eq_true_eq]at h1
  refine ⟨h1.1.1,?_⟩
  rwa [getD_map _ (by omega)]at h2
 ·rintro ⟨h1,h2⟩
  rw[getD_map _ (by omega)]
  exact ⟨by simp [h1.1,h1.2,Elt.len,Elt.tup],h2⟩
end
section
variable {H:Heap}{m:Nat}
theorem fi_b (b:Bool):fin H m (.bool b)=.bool b:=rfl
theorem fi_i (k:IntKind)(n:Int):fin H m (.int k n)=.int k n:=rfl
theorem fi_s (l:List UInt8):fin H m (.str l)=.str l:=rfl
theorem zHX (es:List AV):fin H m (.sl .ex es)=.sl .ex es:=rfl
theorem zH3 (es:List AV):fin H m (.sl .ro es)=.sl .ro es:=rfl
theorem zFC (i s:Nat)(es:List AV):fin H m (.sl (.tok i s) es)=.sl .ro es:=rfl
theorem zD0 {α:Type}(f:α->AV)(l:List α):fin H m (lst f .ex l)=lst f .ex l:=rfl
theorem zFr {α:Type}(f:α->AV)(l:List α):fin H m (lst f .ro l)=lst f .ro l:=rfl
theorem zAn {α:Type}(f:α->AV)(i s:Nat)(l:List α):fin H m (lst f (.tok i s) l)=lst f .ro l:=rfl
theorem zFW (vs:List AV):fin H m (.tuple vs)=.tuple (vs.map (fin H m)):=by
 have:∀vs,zfy (finN H m) H vs=vs.map (fin H m):=fun vs=>by
  induction vs with
  | nil=>rfl
  | cons x vs ih=>simp [zfy,ih,fin]
 simp only[fin,finB,this]
theorem zEj (vs:List AV):fin H m (.agg vs)=.agg (vs.map (fin H m)):=by
 have:∀vs,zfy (finN H m) H vs=vs.map (fin H m):=fun vs=>by
  induction vs with
  | nil=>rfl
  | cons x vs ih=>simp [zfy,ih,fin]
 simp only[fin,finB,this]
theorem fn_s (l:List AV):finN H (m+1) l=l.map (fin H m):=by
 have:∀vs,zfy (finN H m) H vs=vs.map (fin H m):=fun vs=>by
  induction vs with
  | nil=>rfl
  | cons x vs ih=>simp [zfy,ih,fin]
 simp only[finN,this]
theorem zz0 (i o n c z:Nat):fin H (m+1) (.rsl i o n c z)=match H[i]? with
  | some (.box cs)=>bif z==1&&decide (o+n<=cs.length)&&(cs.all zah||((cs.drop o).take n).all zah) then .sl .ro (((cs.drop o).take n).map (fin H m)) else .undef
  | _=>.undef:=by
 simp only[fin,finB,fn_s]
 generalize H[i]?=y
 rcases y with _|y
 ·rfl
 ·cases y<;>rfl
theorem zE1 (i o:Nat):fin H (m+1) (.ptr i o)=match H[i]? with
  | some (.box cs)=>.vp ((cs.drop o).map (fin H m))
  | _=>.undef:=by
 simp only[fin,finB,fn_s]
 generalize H[i]?=y
 rcases y with _|y
 ·rfl
 ·cases y<;>rfl
theorem zGI (vs:List AV):fin H m (.vp vs)=.vp vs:=rfl
theorem zG7:fin H m .nilF=.nilF:=rfl
theorem zH6:fin H m .nilP=.nilP:=rfl
theorem zGS:fin H m .nilI=.nilI:=rfl
end
section
variable {α:Type}[Inhabited α]{f:α->AV}{sz:Nat}[Elt f sz]{d:Option Nat}{fr fr':Fr}{H:Heap}{K:Fr->Heap->Prop}{G:za0}{p:Perm}{l:List α}{k:IntKind}{n:Int}
def lenX:AV->Option (Bool×AV×Option Heap)
 | .sl _ es=>some (true,.int .i64 es.length,none)
 | .rsl _ _ n _ _=>some (true,.int .i64 n,none)
 | _=>none
theorem zHV (x:AX):aop G fr H (.len x)=lenX (x.eval G fr):=by
 simp only[aop]
 generalize x.eval G fr=u
 cases u<;>rfl
theorem ln_l:lenX (lst f p l)=some (true,.int .i64 l.length,none):=by simp [lenX,lst]
theorem ln_s (es:List AV):lenX (.sl p es)=some (true,.int .i64 es.length,none):=rfl
theorem ln_r (i o n m s:Nat):lenX (.rsl i o n m s)=some (true,.int .i64 n,none):=rfl
def slsX (sz:Nat)(x:AV)(lo hi:Option AV):Option (Bool×AV×Option Heap):=match x with
 | .sl p es=>match lo.getD (.int .i64 0),hi.getD (.int .i64 es.length) with
  | .int _ a,.int _ b=>some (decide (0<=a)&&decide (a<=b)&&decide (b<=es.length)&&szE sz es,.sl (match p,hi with|.ex,none=>.ex|_,_=>.ro) ((es.take b.toNat).drop a.toNat),none)
  | _,_=>none
 | .rsl id off n cap s=>match lo.getD (.int .i64 0),hi.getD (.int .i64 n) with
  | .int _ a,.int _ b=>some (decide (s=sz)&&decide (0<=a)&&decide (a<=b)&&decide (b<=cap),.rsl id (off+a.toNat*sz) (b.toNat-a.toNat) (cap-a.toNat) sz,none)
  | _,_=>none
 | _=>none
theorem zHq (s:Nat)(x:AX)(lo hi:Option AX):aop G fr H (.sls s x lo hi none)=slsX s (x.eval G fr) (lo.map (·.eval G fr)) (hi.map (·.eval G fr)):=by
 cases hi with
 | none =>
  simp only[aop,Option.map_none]
  generalize x.eval G fr=u
  generalize lo.map (·.eval G fr)=v
  cases u<;>first|rfl|skip
  rename_i p es
  cases v with
  | none=>cases p<;>rfl
  | some v=>cases v<;>cases p<;>rfl
 | some hi =>
  simp only[aop,Option.map_some]
  generalize x.eval G fr=u
  generalize lo.map (·.eval G fr)=v
  generalize hi.eval G fr=z
  cases u<;>first|rfl|skip
  rename_i p es
  cases v with
  | none=>cases z<;>cases p<;>rfl
  | some v=>cases v<;>cases z<;>cases p<;>rfl
theorem zo8 (s:Nat)[Elt f s]:szE s (l.map f)=true:=by
 simp only[szE,List.all_eq_true,List.mem_map]
 rintro x ⟨y,_,rfl⟩
 simp [Elt.len,Elt.tup]
theorem zIb (a:Int):slsX sz (lst f .ro l) (some (.int k a)) none=some (decide (0<=a)&&decide (a<=l.length),lst f .ro (l.drop a.toNat),none):=by
 have h:(l.map f).length=l.length:=by simp
 simp only[slsX,lst,Option.getD_some,Option.getD_none,h,zo8]
 rw[List.take_of_length_le (by simp)];simp [List.map_drop]
theorem zFu (a:Int):slsX sz (lst f .ex l) (some (.int k a)) none=some (decide (0<=a)&&decide (a<=l.length),lst f .ex (l.drop a.toNat),none):=by
 have h:(l.map f).length=l.length:=by simp
 simp only[slsX,lst,Option.getD_some,Option.getD_none,h,zo8]
 rw[List.take_of_length_le (by simp)];simp [List.map_drop]
theorem zHR {k':IntKind}(a b:Int):slsX sz (lst f p l) (some (.int k a)) (some (.int k' b))=some (decide (0<=a)&&decide (a<=b)&&decide (b<=l.length),lst f .ro ((l.take b.toNat).drop a.toNat),none):=by
 have h:(l.map f).length=l.length:=by simp
 simp only[slsX,lst,Option.getD_some,h,zo8]
 cases p<;>simp [List.map_drop,List.map_take]
theorem ss_h (b:Int):slsX sz (lst f p l) none (some (.int k b))=some (decide (0<=b)&&decide (b<=l.length),lst f .ro (l.take b.toNat),none):=by
 have h:(l.map f).length=l.length:=by simp
 simp only[slsX,lst,Option.getD_some,Option.getD_none,h,zo8]
 cases p<;>simp [List.map_take]
theorem dr_l (f:α->AV)(l:List α)(p:Perm):dry (lst f p l)=lst f .ro l:=rfl
end
section
theorem zC2:dryL []=[]:=rfl
theorem zBz (v:AV)(r:List AV):dryL (v::r)=dry v::dryL r:=rfl
theorem dr_i (k:IntKind)(n:Int):dry (.int k n)=.int k n:=rfl
theorem dr_b (b:Bool):dry (.bool b)=.bool b:=rfl
theorem dr_s (s:List UInt8):dry (.str s)=.str s:=rfl
theorem zHJ (p:Perm)(es:List AV):dry (.sl p es)=.sl .ro es:=rfl
theorem zDh (cs:List AV):dry (.agg cs)=.agg (dryL cs):=rfl
theorem zGu (b:UInt8):dry (u8 b)=u8 b:=rfl
theorem zGO (b:UInt8):AV.cells (u8 b)=[.int .u8 b.toNat]:=rfl
theorem ce_i (k:IntKind)(n:Int):AV.cells (.int k n)=[.int k n]:=rfl
theorem ce_b (b:Bool):AV.cells (.bool b)=[.bool b]:=rfl
theorem ce_s (s:List UInt8):AV.cells (.str s)=[.str s]:=rfl
theorem zEl (cs:List AV):AV.cells (.agg cs)=cs:=rfl
end
end Go.Avm
namespace Go.Avm
open Go
section
variable {d:Option Nat}{fr:Fr}{H:Heap}{K:Fr->Heap->Prop}{G:za0}
def ldX (H:Heap):AV->Option (Bool×AV×Option Heap)
 | .vp cs=>some (decide (0<cs.length),cs.getD 0 .undef,none)
 | .ptr id off=>match H[id]? with
  | some (.box cs)=>some (decide (off<cs.length),cs.getD off .undef,none)
  | _=>none
 | _=>none
theorem a_ld (x:AX):aop G fr H (.ld none x)=ldX H (x.eval G fr):=by
 simp only[aop]
 generalize x.eval G fr=u
 cases u<;>first|rfl|skip
 rename_i cs
 cases cs<;>rfl
theorem zH5 (c:AV)(cs:List AV):ldX H (.vp (c::cs))=some (true,c,none):=id rfl
theorem zDe (id off:Nat):ldX H (.ptr id off)=match H[id]? with
  | some (.box cs)=>some (decide (off<cs.length),cs.getD off .undef,none)
  | _=>none:=rfl
section
variable {α:Type}[Inhabited α]{f:α->AV}{sz:Nat}[Elt f sz]{l:List α}
theorem zFR (i:Nat):vcR d fr H K (ldX H (.vp ((l.map f).drop i)))=(i<l.length/\K (fr.updo d (f (l.getD i default))) H):=by
 simp only[ldX,vcR,List.length_drop,List.length_map,Option.getD_none,eq_iff_iff,decide_eq_true_eq]
 have:∀h:i<l.length,((l.map f).drop i).getD 0 .undef=f (l.getD i default):=fun h=>by simp [List.getD,h]
 constructor
 ·rintro ⟨h1,h2⟩
  rw[this (by omega)]at h2
  exact ⟨by omega,h2⟩
 ·rintro ⟨h1,h2⟩
  rw[this (by omega)]
  exact ⟨by omega,h2⟩
theorem zoO (s:Nat)[Elt f s]:okE s (l.map f)=true:=by
 simp only[okE,List.all_eq_true,List.mem_map]
 rintro x ⟨y,_,rfl⟩
 have h1:=Elt.sca (f:=f) y
 simp only[Elt.len (f:=f) y,decide_true,Bool.true_and]
 exact h1
end
theorem sc_i (k:IntKind)(n:Int):zah (.int k n)=true:=rfl
theorem sc_b (b:Bool):zah (.bool b)=true:=rfl
theorem sc_s (s:List UInt8):zah (.str s)=true:=rfl
theorem zHj (p:Perm)(es:List AV):zah (.sl p es)=true:=rfl
theorem sc_l {α:Type}(f:α->AV)(p:Perm)(l:List α):zah (lst f p l)=true:=rfl
theorem zHC:zah .nilP=true:=rfl
theorem zGZ (cs:List AV):zah (.vp cs)=true:=rfl
theorem zC1 (i o:Nat):zah (.ptr i o)=true:=rfl
theorem zGq (f:Nat)(fs cs:List AV):zah (.clo f fs cs)=true:=rfl
theorem zCY (t:Nat)(v:AV):zah (.ifc t v)=true:=rfl
theorem zDP (i o n m z:Nat):zah (.rsl i o n m z)=true:=rfl
theorem nt_i (k:IntKind)(n:Int):za9 (.int k n)=true:=rfl
theorem nt_b (b:Bool):za9 (.bool b)=true:=rfl
theorem nt_s (s:List UInt8):za9 (.str s)=true:=rfl
theorem zId (p:Perm)(es:List AV):za9 (.sl p es)=true:=rfl
theorem nt_l {α:Type}(f:α->AV)(p:Perm)(l:List α):za9 (lst f p l)=true:=rfl
theorem zGM:za9 .nilP=true:=rfl
theorem zHk (cs:List AV):za9 (.vp cs)=true:=rfl
theorem zF5 (i o:Nat):za9 (.ptr i o)=true:=rfl
theorem zDX (f:Nat)(fs cs:List AV):za9 (.clo f fs cs)=true:=rfl
theorem zEk (t:Nat)(v:AV):za9 (.ifc t v)=true:=rfl
theorem zE7 (i o n m z:Nat):za9 (.rsl i o n m z)=true:=rfl
theorem zD1 (cs:List AV):za9 (.agg cs)=true:=rfl
theorem zHl (p:Perm)(es:List AV):AV.cells (.sl p es)=[.sl p es]:=rfl
theorem ce_l {α:Type}(f:α->AV)(p:Perm)(l:List α):AV.cells (lst f p l)=[lst f p l]:=rfl
theorem zGY:AV.cells .nilP=[.nilP]:=rfl
theorem zHg (cs:List AV):AV.cells (.vp cs)=[.vp cs]:=rfl
theorem zGm (i o:Nat):AV.cells (.ptr i o)=[.ptr i o]:=rfl
theorem zFO (f:Nat)(fs cs:List AV):AV.cells (.clo f fs cs)=[.clo f fs cs]:=rfl
theorem zFm (t:Nat)(v:AV):AV.cells (.ifc t v)=[.ifc t v]:=rfl
theorem zFL (i o n m z:Nat):AV.cells (.rsl i o n m z)=[.rsl i o n m z]:=rfl
theorem cs_n (cs:List AV)(i:Nat):setCells cs i []=cs:=rfl
theorem cs_c (cs:List AV)(i:Nat)(v:AV)(vs:List AV):setCells cs i (v::vs)=setCells (cs.set i v) (i+1) vs:=rfl
theorem fa_n (cs:List AV):ziX cs []=(true,cs):=rfl
theorem fa_c (cs:List AV)(off n:Nat)(v:AV)(r:List (Nat×Nat×AV)):ziX cs ((off,n,v)::r) =
  (decide (v.cells.length=n)&&decide (off+n<=cs.length)&&za9 v&&(ziX (setCells cs off v.cells) r).1,(ziX (setCells cs off v.cells) r).2):=rfl
theorem fe_n (sz:Nat)(es:List AV):zks sz es []=(true,es):=rfl
theorem fe_c (sz:Nat)(es:List AV)(i:Nat)(v:AV)(r:List (Nat×AV)):zks sz es ((i,v)::r) =
  (decide (v.cells.length=sz)&&decide (i<es.length)&&za9 v&&(zks sz (es.set i (dry v)) r).1,(zks sz (es.set i (dry v)) r).2):=rfl
end
end Go.Avm
namespace Go.Avm
open Go
section
variable {X:Cx}{N:Nat}
theorem zoD {g:Gh}{w:World}{H:Heap}(hwf:Wf X.G g w)(hhr:HR g w H){i l:Nat}{L L':Loop}{frc:Fr}(hH:H[i]?=some (.lp L frc))(hb:g.bx i=some l)(hL:w.heap[l]?=some (.loop L))(ht:L'.tmps=L.tmps) :
  Good X g w H g (w.putObj l (.loop L')) (H.set i (.lp L' frc)):=by
 have hlt:l<w.heap.size:=(Array.getElem?_eq_some_iff.1 hL).1
 have hne:∀b,b≠l->(w.putObj l (.loop L')).heap[b]?=w.heap[b]?:=fun b h=>World.putObj_heap_other h
 have hS:∀b o,g.S b o->b≠l:=fun b o h e=>by
  subst e
  obtain ⟨⟨vs,e',fz,h1,_⟩,_⟩:=hwf.S b o h
  rw[hL]at h1;cases h1
 have hcell:∀b o,b≠l->(w.putObj l (.loop L')).cell? ⟨b,o,none⟩=w.cell? ⟨b,o,none⟩:=fun b o h=>by simp only[World.cell?,hne b h]
 have hm:Mono g w g (w.putObj l (.loop L')):=⟨fun b o h=>⟨h,hcell b o (hS b o h)⟩,fun _ _ h=>h,fun i n h=>⟨n,h,.inl ⟨rfl,rfl⟩⟩⟩
 have hown:∀o,g.owns l o:=fun o=>.inl ⟨i,hb⟩
 have hsame:(w.putObj l (.loop L')).heap[l]?=some (.loop L'):=World.putObj_heap_same hlt
 refine ⟨⟨fun b o h=>?_,hwf.inj,hwf.tinj,hwf.apart,fun j b h=>?_,fun j b lo hi h=>?_,fun x cs hx=>Rel.mono _ hm (hwf.laid x cs hx),zcy hwf.ex fun b vs e fz h=>⟨vs,fz,(hne b (fun e'=>by subst e';rw[hL]at h;cases h)).trans h,rfl⟩⟩,⟨fun j x hx=>?_,fun j hj=>hhr.far j (by simpa using hj)⟩,hm,
  ⟨by rw[World.putObj_size];exact Nat.le_refl _,fun _ _ h=>h,fun _ _ h=>.inl h,fun b o hb' ho=>hcell b o fun e=>ho (e▸hown o),fun b hb' ho=>hne b fun e=>ho 0 (e▸hown 0),fun b vs e fz hv=>?_,fun _ _ h=>.inr h,rfl,rfl⟩⟩
 ·obtain ⟨⟨vs,e,fz,h1,h2⟩,h3⟩:=hwf.S b o h
  exact ⟨⟨vs,e,fz,(hne b (hS b o h)).trans h1,h2⟩,h3⟩
 ·obtain ⟨h1,h2⟩:=hwf.bx j b h
  refine ⟨by rw[World.putObj_size];exact h1,fun vs e lo hi h3=>?_⟩
  by_cases hbl:b=l
  ·subst hbl;rw[hsame]at h3;cases h3
  ·exact h2 vs e lo hi ((hne b hbl).symm.trans h3)
 ·obtain ⟨vs,e,fl,fh,h1,h2,h3⟩:=hwf.tk j b lo hi h
  have hbl:b≠l:=fun e=>hwf.apart i j b lo hi (e▸hb) h
  exact ⟨vs,e,fl,fh,(hne b hbl).trans h1,h2,h3⟩
 ·rw [List.getElem?_set]at hx
  split at hx
  ·rename_i hij
   subst hij
   split at hx
   ·cases hx
    obtain ⟨b,hb',_,hfr⟩:=hhr.blk i _ hH
    rw[hb]at hb'
    cases hb'
    exact ⟨l,hb,hsame,fun t=>by rw[ht];exact Rel.mono _ hm (hfr t)⟩
   ·cases hx
  ·rename_i hij
   refine (hhr.blk j x hx).mono hm (fun b hb'=>hne b fun e=>?_) (fun _ h=>h) (fun b lo hi h=>⟨h,hne b fun e=>hwf.apart i j b lo hi (e▸hb) h⟩)
   subst e
   exact hij (hwf.inj i j b hb hb')
 ·by_cases hbl:b=l
  ·subst hbl;rw[hL]at hv;cases hv
  ·exact ⟨vs,fz,(hne b hbl).trans hv,rfl,.inl rfl⟩
def Cx.in (X:Cx)(l:Nat):Cx:={ X with rd:=some l }
structure LoopIs (X:Cx) (N:Nat) (ps:List Nat) (A B:ACode) (L:Loop):Prop where
 st:L.state=.ready
 pe:L.pending=none
 ps:L.params.toList=ps
 A:∃hint,compile X.P N hint L.assign=some A
 B:∃hint,compile X.P N hint L.body=some B
 n:N<=L.tmps.size
def lto (L:Loop)(st:LoopState)(pe:Option Code):Loop:={ L with state:=st,pending:=pe }
def zkr (fr:Fr):List Nat->List AV->Fr
 | p::ps,v::vs=>zkr (fr.updo (some p) v) ps vs
 | _,_=>fr
theorem zro {g:Gh}{w:World}:∀(ps:List Nat) {args:List AV} {vs:List Value} {fr:Fr} {tmps:Array Value},RelL args g w vs->args.length=ps.length->(∀p∈ps,p<tmps.size)->(∀t,Rel (fr t) g w (tmps.getD t Go.undef)) ->
  (∀t,Rel (zkr fr ps args t) g w (((ps.zip vs).foldl (fun tmps (p:Nat×Value)=>tmps.setIfInBounds p.1 p.2) tmps).getD t Go.undef))/\((ps.zip vs).foldl (fun tmps (p:Nat×Value)=>tmps.setIfInBounds p.1 p.2) tmps).size=tmps.size
 | [],args,vs,fr,tmps,h,hl,hp,hf=>by
  cases args with
  | nil=>exact ⟨by simpa [zkr] using hf,rfl⟩
  | cons x xs=>simp at hl
 | p :: ps,args,vs,fr,tmps,h,hl,hp,hf=>by
  cases args with
  | nil=>simp at hl
  | cons x xs =>
   simp only[RelL]at h
   obtain ⟨v,rest,rfl,h1,h2⟩:=h
   have hpl:p<tmps.size:=hp p (by simp)
   have:=zro ps (fr:=fr.updo (some p) x) (tmps:=tmps.setIfInBounds p v) h2 (by simpa using hl) (fun q hq=>by simpa using hp q (by simp [hq])) (fun t=>by
    simp only[Fr.updo,Fr.upd]
    split
    ·rename_i e
     subst e
     simpa [Array.getD,hpl] using h1
    ·rename_i e
     have h3:(tmps.setIfInBounds p v).getD t Go.undef=tmps.getD t Go.undef:=by
      simp [Array.getElem?_setIfInBounds_ne (Ne.symm e)]
     rw[h3]
     exact hf t)
   refine ⟨by simpa [zkr] using this.1,?_⟩
   have h4:=this.2
   simpa using h4
def zni (i:Nat)(L:Loop)(frc:Fr)(dst:Option Nat)(fr:Fr)(K:Fr->Heap->Prop):Exit->Fr->Heap->Prop
 | .normal,_,H=>H[i]?=some (.lp (lto L .busy none) frc)/\K (fr.updo dst (.bool true)) (H.set i (.lp L frc))
 | .ret,_,H=>H[i]?=some (.lp (lto L .busy none) frc)/\K (fr.updo dst (.bool false)) (H.set i (.lp (lto L .done (some .ret)) frc))
 | .exit id,_,H=>H[i]?=some (.lp (lto L .busy none) frc)/\K (fr.updo dst (.bool false)) (H.set i (.lp (lto L .done (some (.exit id))) frc))
 | _,_,_=>False
theorem zyJ {ps:List Nat}{A B:ACode}{L:Loop}(hL:LoopIs X N ps A B L)(hps:∀p∈ps,p<N){i:Nat}{args:List AV}{dst:Option Nat}{fr frc:Fr}{H:Heap}{K:Fr->Heap->Prop}
  (hH:H[i]?=some (.lp L frc)) (hlen:args.length=ps.length)
  (round:∀l,XA (X.in l) N A (zkr frc ps args) H (zga (fun fr1 H1=>H1[i]?=some (.lp L frc)/\XA (X.in l) N B fr1 (H1.set i (.lp (lto L .busy none) frc)) (zni i L frc dst fr K)) fun _ _ _=>False)):zi7 X i args dst fr H K:=by
 intro g w vs l hwf hhr hvs hb
 obtain ⟨b,hb',hheap,hfr⟩:=hhr.blk i _ hH
 rw[hb]at hb'
 cases hb'
 obtain ⟨hA,hcA⟩:=hL.A
 obtain ⟨hB,hcB⟩:=hL.B
 have hpz:L.params.toList=ps:=hL.ps
 have hvl:vs.length=L.params.size:=by rw[hvs.length,hlen,<-hpz];simp
 refine ⟨L,hheap,hvl,roundIn_of_wpIn (F:=Fence.wide) trivial ?_⟩
 have hfold:(L.params.zip vs.toArray).foldl (fun tmps (t,a)=>tmps.setIfInBounds t a) L.tmps=(ps.zip vs).foldl (fun tmps (p:Nat×Value)=>tmps.setIfInBounds p.1 p.2) L.tmps:=by
  rw[<-Array.foldl_toList,Array.toList_zip,hpz]
 rw[hfold]
 have hset:=zro ps (fr:=frc) (tmps:=L.tmps) hvs hlen (fun p hp=>Nat.lt_of_lt_of_le (hps p hp) hL.n) hfr
 have hs0:StR ((X.in l).at 0) N g w (zkr frc ps args) H { tmps:=(ps.zip vs).foldl (fun tmps (p:Nat×Value)=>tmps.setIfInBounds p.1 p.2) L.tmps,defers:=[] }:=
  ⟨hwf,hhr,hset.1,by show N<=Array.size _;rw[hset.2];exact hL.n,DOk.nil,Nat.zero_le _⟩
 refine Code.wpIn_mono (fun e a1 w1 ⟨g1,fr1,H1,hs1,he1,hq1⟩=>?_) (round l L.assign hA hcA 0 g w _ hs0)
 cases e with
 | normal =>
  obtain ⟨hH1,hxb⟩:=hq1
  have hb1:g1.bx i=some l:=he1.mono.bx _ _ hb
  obtain ⟨b,hb',hheap1,hfr1⟩:=hs1.hr.blk i _ hH1
  rw[hb1]at hb'
  cases hb'
  refine ⟨_,run_beginRound hheap1 hL.st,?_⟩
  have hbusy:({ L with state:=.busy }:Loop)=lto L .busy none:=by
   have:=hL.pe
   cases L
   simp only[lto]at *
   simp_all
  rw[hbusy]
  have hg2:=zoD (X:=X) hs1.wf hs1.hr hH1 hb1 hheap1 (L':=lto L .busy none) rfl
  have hs2:StR ((X.in l).at 0) N g1 (w1.putObj l (.loop (lto L .busy none))) fr1 (H1.set i (.lp (lto L .busy none) frc)) a1:=
   ⟨hg2.wf,hg2.hr,fun t=>Rel.mono _ hg2.mono (hs1.fr t),hs1.size,hs1.defers.ext hg2.ext,Nat.zero_le _⟩
  refine Code.wpIn_mono (fun e a3 w3 ⟨g3,fr3,H3,hs3,he3,hq3⟩=>?_) (hxb L.body hB hcB 0 g1 _ _ hs2)
  have hchain:ExtM g w g3 w3:=(he1.trans hg2.xm).trans he3
  have hb3:g3.bx i=some l:=hchain.mono.bx _ _ hb
  have fin:∀(jump:Option Code) (L':Loop),H3[i]?=some (.lp (lto L .busy none) frc)->lto L (if jump.isNone then .ready else .done) jump=L'->K (fr.updo dst (.bool jump.isNone)) (H3.set i (.lp L' frc)) ->
    ∃v w',(Instr.endRound l jump).run X.P w3=.ok v w'/\∃v' r g' H',Ending.returned v=.returned v'/\Rel r g' w' v'/\Good X g w H g' w' H'/\K (fr.updo dst r) H':=fun jump L' hH3 hL' hK=>by
   obtain ⟨b,hb',hheap3,_⟩:=hs3.hr.blk i _ hH3
   rw[hb3]at hb'
   cases hb'
   have hg4:=zoD (X:=X) hs3.wf hs3.hr hH3 hb3 hheap3 (L':=L') (by rw[<-hL'];rfl)
   have hrun:=run_endRound (P:=X.P) jump hheap3
   rw[show ({ lto L .busy none with state:=if jump.isNone then .ready else .done,pending:=jump }:Loop)=L' from hL']at hrun
   have hx:=hchain.trans hg4.xm
   exact ⟨_,_,hrun,_,.bool jump.isNone,g3,_,rfl,by simp [Rel],⟨hg4.wf,hg4.hr,hx.mono,hx.ext⟩,hK⟩
  cases e with
  | normal =>
   obtain ⟨h1,h2⟩:=hq3
   refine fin none L h1 ?_ h2
   have h3:=hL.pe
   have h4:=hL.st
   cases L
   simp only[lto]at *
   simp_all
  | ret=>exact fin (some .ret) _ hq3.1 rfl hq3.2
  | exit id=>exact fin (some (.exit id)) _ hq3.1 rfl hq3.2
  | goto t=>exact hq3.elim
  | panic c=>exact hq3.elim
  | outgrown=>exact hq3.elim
 | exit id=>exact hq1.elim
 | goto l=>exact hq1.elim
 | ret=>exact hq1.elim
 | panic c=>exact hq1.elim
 | outgrown=>exact hq1.elim
def zyO (i:Nat)(L:Loop)(fr:Fr)(Q:Exit->Fr->Heap->Prop)(H:Heap):Prop:=
 (H[i]?=some (.lp L fr)/\Q .normal fr (H.set i .dead))∨(H[i]?=some (.lp (lto L .done (some .ret)) fr)/\Q .ret fr (H.set i .dead)) ∨
  ∃id,H[i]?=some (.lp (lto L .done (some (.exit id))) fr)/\Q (.exit id) fr (H.set i .dead)
theorem zwm (hrd:X.rd=none){gx:AX}{ps:List Nat}{A B:ACode}{f:FuncId}{fs caps:List AV}{fr:Fr}{H:Heap}{Q:Exit->Fr->Heap->Prop}(hg:gx.eval X.G fr=.clo f fs caps)
  (run:∀L,LoopIs X N ps A B L->(∀p∈ps,p<N)->EvM X f (fs++[.yv H.length]++caps) (H++[.lp L fr]) fun _ H'=>zyO H.length L fr Q H'):XA X N (.rangeF gx ps A B) fr H Q:=fun c hint hc n=>by
 cases c<;>simp only[compile]at hc<;>try (exfalso;(repeat' split at hc)<;>simp at hc;done)
 rename_i go psa ca cb
 split at hc
 ·rename_i gx' A' B' h1 h2 h3
  split at hc
  ·rename_i hall
   simp only[Option.some.injEq,ACode.rangeF.injEq]at hc
   obtain ⟨rfl,rfl,rfl,rfl⟩:=hc
   have hpn:∀p∈psa.toList,p<N:=fun p hp=>by simpa using List.all_eq_true.1 hall p hp
   intro g w a hs
   have hgv:=zad hs h1
   rw[show (X.at n).G=X.G from rfl,hg]at hgv
   simp only[Rel]at hgv
   obtain ⟨us,vs,hgv,hus,hvs⟩:=hgv
   refine wpIn_rangeFunc fun fn _=>?_
   have hro:(Fd (X.at n).rd).round=none:=hrd
   rw[hro]
   obtain ⟨L,hLd⟩:∃L:Loop,L={ state:=.ready,pending:=none,fn,tmps:=a.tmps,params:=psa,assign:=ca,body:=cb,defers:=w.heap.size }:=⟨_,rfl⟩
   have hL:LoopIs X N psa.toList A' B' L:=by subst hLd;exact ⟨rfl,rfl,rfl,⟨hint,h2⟩,⟨hint,h3⟩,hs.size⟩
   obtain ⟨hbody,hrun⟩:=run L hL hpn
   obtain ⟨w1,hw1⟩:∃w1,(w.alloc (.deferred (some []))).alloc (.loop L)=w1:=⟨_,rfl⟩
   have hheap1:w1.heap=(w.heap.push (.deferred (some []))).push (.loop L):=by rw[<-hw1];rfl
   have hold:∀b,b<w.heap.size->w1.heap[b]?=w.heap[b]?:=fun b hb=>by
    rw[hheap1,Array.getElem?_push,if_neg (by simp;omega),Array.getElem?_push,if_neg (by omega)]
   have hD1:w1.heap[w.heap.size]?=some (.deferred (some [])):=by
    rw[hheap1,Array.getElem?_push,if_neg (by simp)];simp
   have hL1:w1.heap[w.heap.size+1]?=some (.loop L):=by
    rw[hheap1,Array.getElem?_push,if_pos (by simp)]
   have hsz:w1.heap.size=w.heap.size+2:=by rw[hheap1];simp
   have hfar:=hs.hr.far H.length (Nat.le_refl _)
   let g1:Gh:={ g with bx:=fun k=>if k=H.length then some (w.heap.size+1) else g.bx k }
   have hcell:∀b o,b<w.heap.size->w1.cell? ⟨b,o,none⟩=w.cell? ⟨b,o,none⟩:=fun b o h=>by simp only[World.cell?,hold b h]
   have hm:Mono g w g1 w1:=by
    refine ⟨fun b o h=>⟨h,hcell b o (hs.wf.lt_S h)⟩,fun k b hk=>?_,fun k m hk=>⟨m,hk,.inl ⟨rfl,rfl⟩⟩⟩
    have:k≠H.length:=fun e=>by rw[e,hfar.1]at hk;cases hk
    show (if k=H.length then _ else g.bx k)=_
    rw[if_neg this];exact hk
   have hbx:∀k b,g1.bx k=some b->(k=H.length/\b=w.heap.size+1)∨(k≠H.length/\g.bx k=some b):=fun k b hk=>by
    change (if k=H.length then _ else g.bx k)=_ at hk
    split at hk
    ·rename_i e;cases hk;exact .inl ⟨e,rfl⟩
    ·rename_i e;exact .inr ⟨e,hk⟩
   have howns:∀b o,g1.owns b o->b=w.heap.size+1∨g.owns b o:=fun b o ho=>by
    rcases ho with ⟨k,hk⟩|h
    ·rcases hbx k b hk with ⟨_,h⟩|⟨_,h⟩
     ·exact .inl h
     ·exact .inr (.inl ⟨k,h⟩)
    ·exact .inr (.inr h)
   have hwf1:Wf X.G g1 w1:=by
    refine ⟨fun b o h=>?_,fun j k b hj hk=>?_,hs.wf.tinj,fun j k b lo hi hj hk=>?_,fun k b hk=>?_,fun k b lo hi hk=>?_,fun x cs hx=>Rel.mono _ hm (hs.wf.laid x cs hx),zcy hs.wf.ex fun b vs e fz h=>⟨vs,fz,(hold b (Array.getElem?_eq_some_iff.1 h).1).trans h,rfl⟩⟩
    ·obtain ⟨⟨vs,e,fz,h1,h2⟩,h3⟩:=hs.wf.S b o h
     have hlt:=hs.wf.lt_S h
     refine ⟨⟨vs,e,fz,(hold b hlt).trans h1,h2⟩,fun ho=>?_⟩
     rcases howns b o ho with h|h
     ·omega
     ·exact h3 h
    ·rcases hbx j b hj with ⟨e1,h1⟩|⟨e1,h1⟩<;>rcases hbx k b hk with ⟨e2,h2⟩|⟨e2,h2⟩
     ·omega
     ·have:=hs.wf.lt_bx h2;omega
     ·have:=hs.wf.lt_bx h1;omega
     ·exact hs.wf.inj j k b h1 h2
    ·rcases hbx j b hj with ⟨e1,h1⟩|⟨e1,h1⟩
     ·have:=hs.wf.lt_tk hk;omega
     ·exact hs.wf.apart j k b lo hi h1 hk
    ·rcases hbx k b hk with ⟨e1,h1⟩|⟨e1,h1⟩
     ·subst h1
      exact ⟨by omega,fun vs e lo hi h=>by rw[hL1]at h;cases h⟩
     ·obtain ⟨h2,h3⟩:=hs.wf.bx k b h1
      exact ⟨by omega,fun vs e lo hi h=>h3 vs e lo hi ((hold b h2).symm.trans h)⟩
    ·obtain ⟨vs,e,fl,fh,h1,h2⟩:=hs.wf.tk k b lo hi hk
     exact ⟨vs,e,fl,fh,(hold b (hs.wf.lt_tk hk)).trans h1,h2⟩
   have hLt:L.tmps=a.tmps:=by rw[hLd]
   have hhr1:HR g1 w1 (H++[.lp L fr]):=by
    refine ⟨fun k x hx=>?_,fun k hk=>?_⟩
    ·rw [List.getElem?_append]at hx
     split at hx
     ·exact (hs.hr.blk k x hx).mono hm (fun b hb=>hold b (hs.wf.lt_bx hb)) (fun _ h=>h) (fun b lo hi h=>⟨h,hold b (hs.wf.lt_tk h)⟩)
     ·rename_i hk
      have hk':k=H.length:=by
       rcases Nat.lt_or_ge (k-H.length) 1 with h'|h'
       ·omega
       ·simp [List.getElem?_eq_none (l:=[Blk.lp L fr]) (by simpa using h')]at hx
      subst hk'
      simp at hx
      subst hx
      exact ⟨w.heap.size+1,if_pos rfl,hL1,fun t=>by rw[hLt];exact Rel.mono _ hm (hs.fr t)⟩
    ·simp at hk
     obtain ⟨f1,f2,f3⟩:=hs.hr.far k (by omega)
     refine ⟨?_,f2,f3⟩
     show (if k=H.length then _ else g.bx k)=_
     rw[if_neg (by omega)];exact f1
   have hext:Ext g w g1 w1:=by
    refine ⟨by omega,fun _ _ h=>h,fun _ _ h=>.inl h,fun b o hb _=>hcell b o hb,fun b hb _=>hold b hb,fun b vs e fz h=>⟨vs,fz,(hold b (Array.getElem?_eq_some_iff.1 h).1).trans h,rfl,.inl rfl⟩,fun b o ho=>?_,by rw[<-hw1];exact ⟨rfl,rfl⟩⟩
    rcases howns b o ho with h|h
    ·exact .inl (by omega)
    ·exact .inr h
   have hargs:RelL (fs++[.yv H.length]++caps) g1 w1 (us++[.func (.yield (w.heap.size+1)) #[] #[]]++vs):=by
    refine ((RelL.mono _ hm hus).append ?_).append (RelL.mono _ hm hvs)
    simp only[RelL,Rel]
    exact ⟨_,[],rfl,⟨w.heap.size+1,rfl,if_pos rfl⟩,rfl⟩
   refine ⟨w.heap.size+1,[mkD w.heap.size],w1,{ target:=.fn (.func f) vs.toArray,args:=us.toArray++#[Value.func (.yield (w.heap.size+1)) #[] #[]] },w1,f,
    (us++[Value.func (.yield (w.heap.size+1)) #[] #[]]++vs).toArray,w1,?_,?_,fun _ _=>trivial,?_,(fun h=>by simp [Fd,Fence.wide]at h),?_⟩
   ·rw[<-hw1,hLd];exact run_enterLoop_outer _ _ _ _ _
   ·have hev:a.eval go=.func (.func f) us.toArray vs.toArray:=hgv
    simp only[resolve,hev,Deferred.ofValue,Sem.run_pure]
    simp [Act.eval]
   ·simp only[invoke]
    rw[zid (X:=X.at n) hbody]
    congr 2
    apply Array.ext';simp
   ·refine znf ((hrun g1 w1 _ hwf1 hhr1 hargs).mono fun e w3 ⟨v,r,g3,H3,he,hr3,hwf3,hhr3,hx3,hq⟩=>?_)
    subst he
    have hb3:g3.bx H.length=some (w.heap.size+1):=hx3.mono.bx _ _ (if_pos rfl)
    have hdo:∀o,¬g1.owns w.heap.size o:=fun o ho=>by
     rcases howns _ o ho with h|h
     ·omega
     ·have:=hs.wf.lt_owns h;omega
    have hD3:w3.heap[w.heap.size]?=some (.deferred (some [])):=(hx3.ext.obj _ (by omega) hdo).trans hD1
    have finish:∀(L':Loop) (e:Exit) (jump:Option Code),H3[H.length]?=some (.lp L' fr)->L'.pending=jump->L'.state≠.busy->Q e fr (H3.set H.length .dead) ->
      (∀a' w',Code.wpIn (Fd (X.at n).rd) 0 X.P .skip (fun e' a' w'=>True) a' w'∨True) ->
      ∃w4,(Instr.endLoop (w.heap.size+1)).run X.P w3=.ok jump w4/\∃g' fr' H',StR (X.at n) N g' w4 fr' H' { a with defers:=[mkD w.heap.size]++a.defers }/\ExtM g w g' w4/\Q e fr' H':=fun L' e jump hH3 hpe hst hqe _=>by
     obtain ⟨b,hb',hheap3,hfr3⟩:=hhr3.blk _ _ hH3
     rw[hb3]at hb'
     cases hb'
     have hput:=zoD (X:=X) hwf3 hhr3 hH3 hb3 hheap3 (L':={ L' with state:=.exhausted }) rfl
     have hrune:=run_endLoop (P:=X.P) hheap3 hst
     subst hpe
     have hx:=(hx3.trans hput.xm)
     have hxx:ExtM g w g3 (w3.putObj (w.heap.size+1) (.loop { L' with state:=.exhausted })):=(ExtM.mk hext hm).trans hx
     refine ⟨_,hrune,g3,fr,H3.set H.length .dead,⟨hput.wf,⟨fun k x hk=>?_,fun k hk=>hput.hr.far k (by simpa using hk)⟩,fun t=>Rel.mono _ hxx.mono (hs.fr t),hs.size,?_,Nat.le_trans hs.n0 hxx.ext.size⟩,hxx,hqe⟩
     ·by_cases hkk:k=H.length
      ·subst hkk
       rw[List.getElem?_set]at hk
       rw[if_pos rfl]at hk
       split at hk
       ·cases hk;trivial
       ·cases hk
      ·refine hput.hr.blk k x ?_
       rw[List.getElem?_set_ne (Ne.symm hkk)]at hk⊢
       exact hk
     ·obtain ⟨Ds,h1,h2,h3⟩:=hs.defers.ext hxx.ext
      refine ⟨w.heap.size::Ds,by simp [h1],List.nodup_cons.2 ⟨fun hm'=>?_,h2⟩,fun D hD=>?_⟩
      ·obtain ⟨Ds',h1',_,h3'⟩:=hs.defers
       have:w.heap.size∈Ds':=by
        have hmap:Ds.map mkD=Ds'.map mkD:=h1.symm.trans h1'
        have hinj:Ds=Ds':=by
         have:=congrArg (List.map fun d=>match d.target with|.collected D=>D|_=>0) hmap
         simpa [mkD,Function.comp_def] using this
        exact hinj▸hm'
       have:=(Array.getElem?_eq_some_iff.1 (h3' _ this).2.1).1
       omega
      ·rcases List.mem_cons.1 hD with rfl|hD
       ·have hdo3:∀o,¬g3.owns w.heap.size o:=fun o ho=>by
         rcases hx3.ext.own _ o ho with h|h
         ·omega
         ·exact hdo o h
        exact ⟨hs.n0,by rw[World.putObj_heap_other (by omega)];exact hD3,hdo3⟩
       ·exact h3 D hD
    rcases hq with ⟨hH3,hqe⟩|⟨hH3,hqe⟩|⟨id,hH3,hqe⟩
    ·obtain ⟨w4,h1,h2⟩:=finish L .normal none hH3 hL.pe (by rw[hL.st];decide) hqe fun _ _=>.inr trivial
     exact ⟨none,w4,h1,h2⟩
    ·obtain ⟨w4,h1,h2⟩:=finish _ .ret (some .ret) hH3 rfl (by simp [lto]) hqe fun _ _=>.inr trivial
     exact ⟨some .ret,w4,h1,wpIn_ret h2⟩
    ·obtain ⟨w4,h1,h2⟩:=finish _ (.exit id) (some (.exit id)) hH3 rfl (by simp [lto]) hqe fun _ _=>.inr trivial
     exact ⟨some (.exit id),w4,h1,wpIn_exit h2⟩
  ·cases hc
 ·cases hc
end
end Go.Avm
