/- The operations' soundness: all of them. -/
import Derived.Test.YtcldomkahgaplaaGreatDoorA4
set_option linter.all false
namespace Go.Avm
open Go
section
variable {X:Cx}{N:Nat}{g:Gh}{w:World}{fr:Fr}{H:Heap}{a:Act}
theorem zqR (hs:StR X N g w fr H a){o:Oper}{ao:AOp}{hint:Bool}(hc:zay X.P hint o.op=some ao){v:AV}{h:Option Heap}(hr:aop X.G fr H ao=some (true,v,h)) :
  OpOk X g w H ((execOp a.eval o).run X.P w) v (h.getD H):=by
 generalize ho:o.op=op at hc
 cases op<;>simp only[zay]at hc<;>try (cases hc;done)
 case move x =>
  simp only[Option.map_eq_some_iff]at hc
  obtain ⟨ax,h1,rfl⟩:=hc
  simp only[aop,Option.some.injEq,Prod.mk.injEq,true_and]at hr
  obtain ⟨rfl,rfl⟩:=hr
  exact zz6 hs (.inl ho) h1
 case assign x =>
  simp only[Option.map_eq_some_iff]at hc
  obtain ⟨ax,h1,rfl⟩:=hc
  simp only[aop,Option.some.injEq,Prod.mk.injEq,true_and]at hr
  obtain ⟨rfl,rfl⟩:=hr
  exact zz6 hs (.inr ho) h1
 case pick c x y =>
  split at hc
  ·rename_i ac ax ay h1 h2 h3
   cases hc
   simp only[aop]at hr
   split at hr
   ·rename_i t ht
    simp only[Option.some.injEq,Prod.mk.injEq,true_and]at hr
    obtain ⟨rfl,rfl⟩:=hr
    exact zAI hs ho h1 h2 h3 ht
   ·cases hr
  ·cases hc
 case alloc t =>
  split at hc
  ·rename_i e h1
   cases hc
   simp only[aop,Option.some.injEq,Prod.mk.injEq,true_and]at hr
   obtain ⟨rfl,rfl⟩:=hr
   exact zv3 hs ho h1
  ·simp only[Option.map_eq_some_iff]at hc
   obtain ⟨z,h1,rfl⟩:=hc
   simp only[aop,Option.some.injEq,Prod.mk.injEq,true_and]at hr
   obtain ⟨rfl,rfl⟩:=hr
   exact zzK hs ho h1
 case box t x =>
  simp only[Option.map_eq_some_iff]at hc
  obtain ⟨ax,h1,rfl⟩:=hc
  simp only[aop,Option.some.injEq,Prod.mk.injEq]at hr
  obtain ⟨h2,rfl,rfl⟩:=hr
  exact zDn hs ho h1 h2
 case build t parts =>
  split at hc
  ·rename_i fs z hu hz
   split at hc
   ·rename_i pl hp
    simp only[Option.map_eq_some_iff]at hc
    obtain ⟨as,h1,rfl⟩:=hc
    simp only[aop,Option.some.injEq,Prod.mk.injEq]at hr
    obtain ⟨h2,rfl,rfl⟩:=hr
    exact zlh hs ho hu hz hp h1 h2
   ·cases hc
  ·rename_i n e z hu hz
   split at hc
   ·rename_i d hd
    simp only[Option.map_eq_some_iff]at hc
    obtain ⟨as,h1,rfl⟩:=hc
    simp only[aop,Option.some.injEq,Prod.mk.injEq]at hr
    obtain ⟨h2,rfl,rfl⟩:=hr
    exact zmU hs ho hu hd hz h1 h2
   ·cases hc
  ·cases hc
 case buildSlice t len parts =>
  split at hc
  ·rename_i e hu
   split at hc
   ·rename_i d z ps hd hz hps
    split at hc
    ·rename_i hcond
     cases hc
     simp only[aop,Option.some.injEq,Prod.mk.injEq]at hr
     obtain ⟨h2,rfl,rfl⟩:=hr
     exact zC4 hs ho hu hd hz hcond.1 hcond.2.1 hcond.2.2 hps h2
    ·cases hc
   ·cases hc
  ·cases hc
 case range t x =>
  split at hc
  ·rename_i ax ht h1
   cases hc
   simp only[aop]at hr
   split at hr
   ·rename_i l e1
    simp only[Option.some.injEq,Prod.mk.injEq,true_and]at hr
    obtain ⟨rfl,rfl⟩:=hr
    exact zE2 hs ho ht h1 e1
   ·cases hr
  ·cases hc
 case next x b =>
  split at hc
  ·rename_i ax h1
   cases hc
   simp only[aop]at hr
   split at hr
   ·rename_i id e1
    split at hr
    ·rename_i l p hH
     simp only[Option.some.injEq,Prod.mk.injEq,true_and]at hr
     obtain ⟨rfl,rfl⟩:=hr
     exact zEA hs ho h1 e1 hH
    ·cases hr
   ·cases hr
  ·cases hc
 case makeMap t r =>
  split at hc
  ·rename_i kt et ht
   cases hc
   simp only[aop,Option.some.injEq,Prod.mk.injEq,true_and]at hr
   obtain ⟨rfl,rfl⟩:=hr
   exact zDK hs ho
  ·cases hc
 case lookup t x k ok =>
  split at hc
  ·rename_i kt et ax ak ht h1 h2
   split at hc
   ·rename_i hk hz
    cases hc
    simp only[Option.bind_eq_some_iff]at hz
    obtain ⟨d,hd,hz⟩:=hz
    simp only[aop]at hr
    split at hr
    ·rename_i id s e1 e2
     split at hr
     ·rename_i ks hH
      simp only[Option.some.injEq,Prod.mk.injEq,true_and]at hr
      obtain ⟨rfl,rfl⟩:=hr
      exact zB5 hs ho ht hk hd hz h1 h2 e1 e2 hH
     ·cases hr
    ·cases hr
   ·cases hc
  ·cases hc
 case mapUpdate t x k v =>
  split at hc
  ·rename_i kt et ax ak ht hv h1 h2
   split at hc
   ·rename_i hk
    cases hc
    have hv:=zux hv
    subst hv
    simp only[aop]at hr
    split at hr
    ·rename_i id s e1 e2
     split at hr
     ·rename_i ks hH
      split at hr
      ·cases hr
      ·rename_i hn
       simp only[Option.some.injEq,Prod.mk.injEq,true_and]at hr
       obtain ⟨rfl,rfl⟩:=hr
       exact zCy hs ho ht hk h1 h2 e1 e2 hH (by simpa using hn)
     ·cases hr
    ·cases hr
   ·cases hc
  ·cases hc
 case load t x =>
  split at hc
  ·rename_i n y hn h1
   cases hc
   cases n with
   | none =>
    simp only[aop]at hr
    split at hr
    ·rename_i c cs he
     simp only[Option.some.injEq,Prod.mk.injEq,true_and]at hr
     obtain ⟨rfl,rfl⟩:=hr
     exact zlX hs ho hn h1 he (by simp)
    ·cases hr
   | some n =>
    simp only[aop]at hr
    split at hr
    ·rename_i cs he
     simp only[Option.some.injEq,Prod.mk.injEq,decide_eq_true_eq]at hr
     obtain ⟨h2,rfl,rfl⟩:=hr
     exact zqe hs ho hn h1 he h2
    ·cases hr
  ·rename_i n ax _ hn h1
   cases hc
   cases n with
   | none =>
    simp only[aop]at hr
    split at hr
    ·rename_i c cs he
     simp only[Option.some.injEq,Prod.mk.injEq,true_and]at hr
     obtain ⟨rfl,rfl⟩:=hr
     exact zlX hs ho hn h1 he (by simp)
    ·rename_i cs hne he
     simp only[Option.some.injEq,Prod.mk.injEq,decide_eq_true_eq]at hr
     obtain ⟨h2,rfl,rfl⟩:=hr
     exact zlX hs ho hn h1 he h2
    ·rename_i id off he
     split at hr
     ·rename_i cs hH
      simp only[Option.some.injEq,Prod.mk.injEq,decide_eq_true_eq]at hr
      obtain ⟨h2,rfl,rfl⟩:=hr
      exact zuV hs ho hn h1 he hH h2
     ·cases hr
    ·cases hr
   | some n =>
    simp only[aop]at hr
    split at hr
    ·rename_i cs he
     simp only[Option.some.injEq,Prod.mk.injEq,decide_eq_true_eq]at hr
     obtain ⟨h2,rfl,rfl⟩:=hr
     exact zqe hs ho hn h1 he h2
    ·rename_i id off he
     split at hr
     ·rename_i cs hH
      simp only[Option.some.injEq,Prod.mk.injEq,decide_eq_true_eq]at hr
      obtain ⟨h2,rfl,rfl⟩:=hr
      exact zun hs ho hn h1 he hH h2
     ·cases hr
    ·cases hr
  ·cases hc
 case store t x v =>
  split at hc
  ·rename_i i ax av hi h1 h2
   cases hc
   simp only[aop]at hr
   split at hr
   ·rename_i id off he
    split at hr
    ·rename_i cs hH
     simp only[Option.some.injEq,Prod.mk.injEq,Bool.and_eq_true,decide_eq_true_eq]at hr
     obtain ⟨⟨⟨h3,h4⟩,h5⟩,rfl,rfl⟩:=hr
     exact zIk hs ho hi h1 h2 he hH h3 h4 h5
    ·cases hr
   ·cases hr
  ·cases hc
 case binOp op t x y yt =>
  have key:∀ax ay,cx x=some ax->cx y=some ay->ao=.bin op ax ay->OpOk X g w H ((execOp a.eval o).run X.P w) v (h.getD H):=fun ax ay h1 h2 e=>by
   subst e
   simp only[aop,Option.map_eq_some_iff]at hr
   obtain ⟨⟨c,u⟩,h3,h4⟩:=hr
   simp only[Prod.mk.injEq]at h4
   obtain ⟨rfl,rfl,rfl⟩:=h4
   exact zEv hs ho h1 h2 h3
  split at hc
  ·rename_i k ax ay _ h1 h2
   cases hc;exact key ax ay h1 h2 rfl
  ·rename_i ax ay _ h1 h2
   cases hc;exact key ax ay h1 h2 rfl
  ·rename_i ax ay ht h1 h2
   split at hc
   ·cases hc
    simp only[aop]at hr
    split at hr
    ·rename_i p q e1 e2
     simp only[Option.some.injEq,Prod.mk.injEq,true_and]at hr
     obtain ⟨rfl,rfl⟩:=hr
     exact zzM hs ho (.inl rfl) ht h1 h2 e1 e2
    ·cases hr
   ·cases hc
    simp only[aop]at hr
    split at hr
    ·rename_i p q e1 e2
     simp only[Option.some.injEq,Prod.mk.injEq,true_and]at hr
     obtain ⟨rfl,rfl⟩:=hr
     exact zzM hs ho (.inr rfl) ht h1 h2 e1 e2
    ·cases hr
   ·cases hc
  ·rename_i e ax ay ht h1 h2
   split at hc
   ·rename_i n hn
    cases hc
    simp only[aop]at hr
    split at hr
    ·rename_i e1 e2
     simp only[Option.some.injEq,Prod.mk.injEq,true_and]at hr
     obtain ⟨rfl,rfl⟩:=hr
     exact zwH hs ho hn ht h1 h2 e2 (.inl ⟨e1,rfl⟩)
    ·rename_i i p e1 e2
     simp only[Option.some.injEq,Prod.mk.injEq,true_and]at hr
     obtain ⟨rfl,rfl⟩:=hr
     exact zwH hs ho hn ht h1 h2 e2 (.inr ⟨.inl ⟨_,_,e1⟩,rfl⟩)
    ·rename_i cs e1 e2
     simp only[Option.some.injEq,Prod.mk.injEq,true_and]at hr
     obtain ⟨rfl,rfl⟩:=hr
     exact zwH hs ho hn ht h1 h2 e2 (.inr ⟨.inr ⟨_,e1⟩,rfl⟩)
    ·cases hr
   ·cases hc
  ·rename_i e ax ht h1 h2
   split at hc
   ·rename_i n hn
    split at hc
    ·cases hc
     simp only[aop]at hr
     split at hr
     ·rename_i p es e1
      simp only[Option.some.injEq,Prod.mk.injEq,Bool.not_eq_eq_eq_not,Bool.not_true]at hr
      obtain ⟨h3,rfl,rfl⟩:=hr
      exact zFn hs ho hn ht h1 e1 h3
     ·cases hr
    ·cases hc
   ·cases hc
  ·rename_i ms ax ht h1 h2
   split at hc
   ·rename_i n hn
    split at hc
    ·cases hc
     simp only[aop]at hr
     split at hr
     ·rename_i e1
      simp only[Option.some.injEq,Prod.mk.injEq,true_and]at hr
      obtain ⟨rfl,rfl⟩:=hr
      exact zz2 hs ho hn ht h1 (.inl ⟨e1,rfl⟩)
     ·rename_i d z e1
      simp only[Option.some.injEq,Prod.mk.injEq,true_and]at hr
      obtain ⟨rfl,rfl⟩:=hr
      exact zz2 hs ho hn ht h1 (.inr ⟨⟨_,_,e1⟩,rfl⟩)
     ·cases hr
    ·cases hc
   ·cases hc
  ·cases hc
   simp [aop,AX.eval]at hr
  ·rename_i m e ax ay ht h1 h2
   split at hc
   ·rename_i n ks hn hks
    cases hc
    simp only[aop]at hr
    split at hr
    ·rename_i xs ys e1 e2
     simp only[Option.map_eq_some_iff,Prod.mk.injEq,true_and]at hr
     obtain ⟨b,hb,rfl,rfl⟩:=hr
     exact zFo hs ho hn ht hks h1 h2 e1 e2 hb
    ·cases hr
   ·cases hc
  ·rename_i fs ax ay ht h1 h2
   split at hc
   ·rename_i n ks hn hks
    cases hc
    simp only[aop]at hr
    split at hr
    ·rename_i xs ys e1 e2
     simp only[Option.map_eq_some_iff,Prod.mk.injEq,true_and]at hr
     obtain ⟨b,hb,rfl,rfl⟩:=hr
     exact zDp hs ho hn ht hks h1 h2 e1 e2 hb
    ·cases hr
   ·cases hc
  ·cases hc
 case unOp op t x =>
  cases op<;>simp only[Option.map_eq_some_iff]at hc<;>try (cases hc;done)
  case not =>
   obtain ⟨ax,h1,rfl⟩:=hc
   simp only[aop]at hr
   split at hr
   ·rename_i p e1
    simp only[Option.some.injEq,Prod.mk.injEq,true_and]at hr
    obtain ⟨rfl,rfl⟩:=hr
    exact zFM hs ho h1 e1
   ·cases hr
  case neg =>
   obtain ⟨ax,h1,rfl⟩:=hc
   simp only[aop]at hr
   split at hr
   ·rename_i k n e1
    simp only[Option.some.injEq,Prod.mk.injEq,true_and]at hr
    obtain ⟨rfl,rfl⟩:=hr
    exact zFe hs ho h1 e1
   ·cases hr
 case convert s d x =>
  split at hc
  ·rename_i k k' ax hs1 hd h1
   cases hc
   simp only[aop]at hr
   split at hr
   ·rename_i n e1
    simp only[Option.some.injEq,Prod.mk.injEq,true_and]at hr
    obtain ⟨rfl,rfl⟩:=hr
    exact zAH hs ho h1 hs1 hd e1
   ·cases hr
  ·rename_i e ax hs1 hd h1
   split at hc
   ·rename_i he
    cases hc
    simp only[aop]at hr
    split at hr
    ·rename_i es e1
     simp only[Option.map_eq_some_iff,Prod.mk.injEq,true_and]at hr
     obtain ⟨l,h2,rfl,rfl⟩:=hr
     exact zBd hs ho hs1 he hd h1 e1 h2
    ·cases hr
   ·cases hc
  ·rename_i ax hs1 hd h1
   cases hc
   simp only[aop]at hr
   split at hr
   ·rename_i l e1
    simp only[Option.some.injEq,Prod.mk.injEq,true_and]at hr
    obtain ⟨rfl,rfl⟩:=hr
    exact zB0 hs ho h1 hs1 hd e1
   ·cases hr
  ·rename_i k' ax hs1 hd h1
   cases hc
   simp only[aop]at hr
   split at hr
   ·rename_i k n e1
    simp only[Option.some.injEq,Prod.mk.injEq,true_and]at hr
    obtain ⟨rfl,rfl⟩:=hr
    exact zF2 hs ho h1 hs1 hd e1
   ·cases hr
  ·rename_i e ax hs1 hd h1
   split at hc
   ·rename_i he
    cases hc
    cases hint with
    | false =>
     simp only[aop]at hr
     split at hr
     ·rename_i l e1
      simp only[Option.some.injEq,Prod.mk.injEq]at hr
      obtain ⟨_,rfl,rfl⟩:=hr
      exact zwu hs ho h1 hs1 hd he e1
     ·cases hr
    | true =>
     simp only[aop]at hr
     split at hr
     ·rename_i l e1
      simp only[Option.some.injEq,Prod.mk.injEq]at hr
      obtain ⟨_,rfl,rfl⟩:=hr
      exact zuB hs ho h1 hs1 hd he e1
     ·cases hr
   ·cases hc
  ·cases hc
 case makeInterface t x =>
  split at hc
  ·rename_i ht
   simp only[Option.map_eq_some_iff]at hc
   obtain ⟨ax,h1,rfl⟩:=hc
   simp only[aop,Option.some.injEq,Prod.mk.injEq,true_and]at hr
   obtain ⟨rfl,rfl⟩:=hr
   exact zEW hs ho ht h1
  ·cases hc
 case makeFunc f fs cs =>
  cases f<;>simp only at hc<;>try (cases hc;done)
  split at hc
  ·rename_i afs acs h1 h2
   cases hc
   simp only[aop,Option.some.injEq,Prod.mk.injEq,true_and]at hr
   obtain ⟨rfl,rfl⟩:=hr
   exact zFb hs ho h1 h2
  ·cases hc
 case makeSlice t l c =>
  split at hc
  ·rename_i e hu
   split at hc
   ·rename_i d z al ac hd hz h1 h2
    split at hc
    ·rename_i hcond
     split at hc
     ·cases hc
      simp only[aop]at hr
      split at hr
      ·rename_i m e2
       simp only[Option.some.injEq,Prod.mk.injEq,Bool.and_eq_true,decide_eq_true_eq]at hr
       obtain ⟨⟨⟨h3,h4⟩,h5⟩,rfl,rfl⟩:=hr
       exact zDc hs ho hu hd hz hcond.1 h1 h2 e2 h3 h4 h5
      ·cases hr
     ·cases hc
      simp only[aop]at hr
      split at hr
      ·rename_i n m e1 e2
       simp only[Option.some.injEq,Prod.mk.injEq,Bool.and_eq_true,decide_eq_true_eq]at hr
       obtain ⟨⟨⟨⟨h3,h4⟩,h5⟩,h6⟩,rfl,rfl⟩:=hr
       exact zF6 hs ho hu hd hz hcond.1 h1 h2 e1 e2 h3 h4 h5 h6
      ·cases hr
    ·cases hc
   ·cases hc
  ·cases hc
 case slice t x lo hi mx =>
  split at hc
  ·rename_i ax alo ahi hu h1 h2 h3 h4
   cases hc
   have hmx:mx=none:=by
    cases mx with
    | none=>rfl
    | some m=>simp [cxO]at h4
   subst hmx
   simp only[aop]at hr
   split at hr
   ·rename_i l e1
    split at hr
    ·rename_i p q e2 e3
     simp only[Option.some.injEq,Prod.mk.injEq,Bool.and_eq_true,decide_eq_true_eq]at hr
     obtain ⟨⟨⟨⟨_,h6⟩,h7⟩,h8⟩,rfl,rfl⟩:=hr
     exact zGb hs ho hu h1 h2 h3 e1 e2 e3 h6 h7 h8
    ·cases hr
   ·cases hr
  ·rename_i e ax alo ahi amx hu h1 h2 h3 h4
   simp only[Option.map_eq_some_iff]at hc
   obtain ⟨d,hd,rfl⟩:=hc
   cases mx with
   | none =>
    simp only[cxO,Option.some.injEq]at h4
    subst h4
    simp only[aop]at hr
    split at hr
    ·rename_i p es e1
     split at hr
     ·rename_i kl l kh h e2 e3
      simp only[Option.some.injEq,Prod.mk.injEq,Bool.and_eq_true,decide_eq_true_eq]at hr
      obtain ⟨⟨⟨⟨h5,h6⟩,h7⟩,h8⟩,rfl,rfl⟩:=hr
      exact zvP hs ho hu hd h1 h2 h3 e1 e2 e3 h5 h6 h7 h8
     ·cases hr
    ·rename_i id off n cap sz e1
     split at hr
     ·rename_i kl l kh h e2 e3
      simp only[Option.some.injEq,Prod.mk.injEq,Bool.and_eq_true,decide_eq_true_eq]at hr
      obtain ⟨⟨⟨⟨h5,h6⟩,h7⟩,h8⟩,rfl,rfl⟩:=hr
      subst h5
      exact zvh hs ho hu hd h1 h2 h3 e1 e2 e3 h6 h7 h8
     ·cases hr
    ·cases hr
   | some mx =>
    simp only[cxO,Option.map_eq_some_iff]at h4
    obtain ⟨amx,h4,rfl⟩:=h4
    cases hi with
    | none =>
     simp only[cxO,Option.some.injEq]at h3
     subst h3
     simp only[aop]at hr
     cases hr
    | some hi =>
     simp only[cxO,Option.map_eq_some_iff]at h3
     obtain ⟨ahi,h3,rfl⟩:=h3
     simp only[aop]at hr
     split at hr
     ·rename_i p es e1
      split at hr
      ·rename_i kl l kh h km m e2 e3 e4
       simp only[Option.some.injEq,Prod.mk.injEq,Bool.and_eq_true,decide_eq_true_eq]at hr
       obtain ⟨⟨⟨⟨⟨h5,h6⟩,h7⟩,h8⟩,h9⟩,rfl,rfl⟩:=hr
       exact zvo hs ho hu hd h1 h2 h3 h4 e1 e2 e3 e4 h5 h6 h7 h8 h9
      ·cases hr
     ·rename_i id off n cap sz e1
      split at hr
      ·rename_i kl l kh h km m e2 e3 e4
       simp only[Option.some.injEq,Prod.mk.injEq,Bool.and_eq_true,decide_eq_true_eq]at hr
       obtain ⟨⟨⟨⟨⟨h5,h6⟩,h7⟩,h8⟩,h9⟩,rfl,rfl⟩:=hr
       subst h5
       exact zsq hs ho hu hd h1 h2 h3 h4 e1 e2 e3 e4 h6 h7 h8 h9
      ·cases hr
     ·cases hr
  ·rename_i n e ax alo ahi amx hu h1 h2 h3 h4
   simp only[Option.map_eq_some_iff]at hc
   obtain ⟨d,hd,rfl⟩:=hc
   cases mx with
   | some mx =>
    simp only[cxO,Option.map_eq_some_iff]at h4
    obtain ⟨amx,h4,rfl⟩:=h4
    simp only[aop]at hr
    cases hr
   | none =>
    simp only[cxO,Option.some.injEq]at h4
    subst h4
    simp only[aop]at hr
    split at hr
    ·rename_i id off e1
     split at hr
     ·rename_i kl l kh h e2 e3
      simp only[Option.some.injEq,Prod.mk.injEq,Bool.and_eq_true,decide_eq_true_eq]at hr
      obtain ⟨⟨⟨h6,h7⟩,h8⟩,rfl,rfl⟩:=hr
      exact zuX hs ho hu hd h1 h2 h3 e1 e2 e3 h6 h7 h8
     ·cases hr
    ·rename_i cs e1
     split at hr
     ·rename_i kl l kh h e2 e3
      simp only[Option.some.injEq,Prod.mk.injEq,Bool.and_eq_true,decide_eq_true_eq]at hr
      obtain ⟨⟨⟨⟨⟨⟨h5,h6⟩,h7⟩,h8⟩,h9⟩,h10⟩,rfl,rfl⟩:=hr
      exact zwN hs ho hu hd h5 h1 h2 h3 e1 e2 e3 h6 h7 h8 h9 h10
     ·cases hr
    ·cases hr
  ·cases hc
 case fieldAddr s x f =>
  split at hc
  ·rename_i fs ax hu h1
   split at hc
   ·rename_i fd hf
    split at hc
    ·rename_i i hi
     split at hc
     ·cases hc
     ·rename_i hz
      cases hc
      simp only[aop]at hr
      split at hr
      ·rename_i id off e1
       simp only[Option.some.injEq,Prod.mk.injEq,true_and]at hr
       obtain ⟨rfl,rfl⟩:=hr
       exact zsz hs ho hu hf hi hz h1 e1
      ·rename_i cs e1
       simp only[Option.some.injEq,Prod.mk.injEq,true_and]at hr
       obtain ⟨rfl,rfl⟩:=hr
       exact zuU hs ho hu hf hi hz h1 e1
      ·cases hr
    ·cases hc
   ·cases hc
  ·cases hc
 case field s x f =>
  split at hc
  ·rename_i fs ax hu h1
   split at hc
   ·rename_i fd hf
    simp only[Option.map_eq_some_iff]at hc
    obtain ⟨n,hn,rfl⟩:=hc
    cases n with
    | none =>
     simp only[aop]at hr
     split at hr
     ·rename_i cs e1
      simp only[Option.some.injEq,Prod.mk.injEq,decide_eq_true_eq]at hr
      obtain ⟨h2,rfl,rfl⟩:=hr
      exact zzY hs ho hu hf hn h1 e1 (fun _=>h2)
     ·cases hr
    | some n =>
     simp only[aop]at hr
     split at hr
     ·rename_i cs e1
      simp only[Option.some.injEq,Prod.mk.injEq,true_and]at hr
      obtain ⟨rfl,rfl⟩:=hr
      exact zzY hs ho hu hf hn h1 e1 (fun h=>nomatch h)
     ·cases hr
   ·cases hc
  ·cases hc
 case indexAddr t x i =>
  split at hc
  ·rename_i e ax ai hu h1 h2
   simp only[Option.map_eq_some_iff]at hc
   obtain ⟨d,hd,rfl⟩:=hc
   simp only[aop]at hr
   split at hr
   ·rename_i p es k n e1 e2
    simp only[Option.some.injEq,Prod.mk.injEq,Bool.and_eq_true,decide_eq_true_eq]at hr
    obtain ⟨⟨⟨⟨h3,h4⟩,h5⟩,h6⟩,rfl,rfl⟩:=hr
    exact zu6 hs ho hu hd h1 h2 e1 e2 h3 h4 h5 h6
   ·rename_i id off m cap s k n e1 e2
    simp only[Option.some.injEq,Prod.mk.injEq,Bool.and_eq_true,decide_eq_true_eq]at hr
    obtain ⟨⟨⟨h3,h4⟩,h5⟩,rfl,rfl⟩:=hr
    subst h5
    exact zsN hs ho hu hd h1 h2 e1 e2 h3 h4
   ·cases hr
  ·rename_i m e ax ai hu h1 h2
   simp only[Option.map_eq_some_iff]at hc
   obtain ⟨d,hd,rfl⟩:=hc
   simp only[aop]at hr
   split at hr
   ·rename_i id off k n e1 e2
    simp only[Option.some.injEq,Prod.mk.injEq,Bool.and_eq_true,decide_eq_true_eq]at hr
    obtain ⟨⟨h3,h4⟩,rfl,rfl⟩:=hr
    exact zsg hs ho hu hd h1 h2 e1 e2 h3 h4
   ·rename_i cs k n e1 e2
    simp only[Option.some.injEq,Prod.mk.injEq,Bool.and_eq_true,decide_eq_true_eq]at hr
    obtain ⟨⟨h3,h4⟩,rfl,rfl⟩:=hr
    exact zuM hs ho hu hd h1 h2 e1 e2 h3 h4
   ·cases hr
  ·cases hc
 case index t x i =>
  split at hc
  ·rename_i ax ai hu h1 h2
   cases hc
   simp only[aop]at hr
   split at hr
   ·rename_i l k n e1 e2
    simp only[Option.some.injEq,Prod.mk.injEq,Bool.and_eq_true,decide_eq_true_eq]at hr
    obtain ⟨⟨h3,h4⟩,rfl,rfl⟩:=hr
    exact zAk hs ho hu h1 h2 e1 e2 h3 h4
   ·cases hr
  ·rename_i m e ax ai hu h1 h2
   split at hc
   ·rename_i d n hd hn
    cases hc
    cases n with
    | none =>
     simp only[aop]at hr
     split at hr
     ·rename_i cs k z e1 e2
      simp only[Option.some.injEq,Prod.mk.injEq,Bool.and_eq_true,decide_eq_true_eq]at hr
      obtain ⟨⟨⟨h3,h4⟩,h5⟩,rfl,rfl⟩:=hr
      exact zxe hs ho hu hd hn h1 h2 e1 e2 h3 h4 (fun _=>h5)
     ·cases hr
    | some n =>
     simp only[aop]at hr
     split at hr
     ·rename_i cs k z e1 e2
      simp only[Option.some.injEq,Prod.mk.injEq,Bool.and_eq_true,decide_eq_true_eq]at hr
      obtain ⟨⟨h3,h4⟩,rfl,rfl⟩:=hr
      exact zxe hs ho hu hd hn h1 h2 e1 e2 h3 h4 (fun h=>nomatch h)
     ·cases hr
   ·cases hc
  ·cases hc
 case extract x i =>
  simp only[Option.map_eq_some_iff]at hc
  obtain ⟨ax,h1,rfl⟩:=hc
  simp only[aop]at hr
  split at hr
  ·rename_i vs e1
   simp only[Option.some.injEq,Prod.mk.injEq,decide_eq_true_eq]at hr
   obtain ⟨h2,rfl,rfl⟩:=hr
   exact zCr hs ho h1 e1 h2
  ·cases hr
 case nilCheck x =>
  simp only[Option.map_eq_some_iff]at hc
  obtain ⟨ax,h1,rfl⟩:=hc
  simp only[aop]at hr
  split at hr
  ·rename_i i p e1
   simp only[Option.some.injEq,Prod.mk.injEq,true_and]at hr
   obtain ⟨rfl,rfl⟩:=hr
   exact zzS hs ho h1 e1 (.inl ⟨_,_,rfl⟩)
  ·rename_i cs e1
   simp only[Option.some.injEq,Prod.mk.injEq,true_and]at hr
   obtain ⟨rfl,rfl⟩:=hr
   exact zzS hs ho h1 e1 (.inr ⟨_,rfl⟩)
  ·cases hr
 case call c =>
  obtain ⟨callee,args,ts⟩:=c
  unfold zdw at hc
  cases callee with
  | invoke r m =>
   simp only at hc
   split at hc
   ·cases hc;simp only[aop]at hr;cases hr
   ·cases hc
  | value f =>
   cases f with
   | tmp t =>
    simp only[Option.map_eq_some_iff]at hc
    obtain ⟨as,_,rfl⟩:=hc
    simp only[aop]at hr
    cases hr
   | const v=>cases hc
   | global x=>cases hc
   | func f =>
    simp only at hc
    split at hc
    ·split at hc
     ·cases hc;simp only[aop]at hr;cases hr
     ·cases hc
    ·cases hc
  | builtin b =>
   simp only at hc
   unfold zbJ at hc
   split at hc
   ·rename_i x t h1 h2
    have e1:args = #[x]:=Array.ext' (by simpa using h1)
    have e2:ts = #[t]:=Array.ext' (by simpa using h2)
    subst e1 e2
    unfold ze1 at hc
    split at hc
    ·rename_i ax hu h3
     cases hc
     simp only[aop]at hr
     split at hr
     ·rename_i l e1
      simp only[Option.some.injEq,Prod.mk.injEq,true_and]at hr
      obtain ⟨rfl,rfl⟩:=hr
      exact zuK hs ho h3 hu e1
     ·cases hr
    ·rename_i e ax hu h3
     cases hc
     simp only[aop]at hr
     split at hr
     ·rename_i p es e1
      have r1:=zad hs h3
      rw[e1]at r1
      simp only[Rel]at r1
      obtain ⟨ad,cap,vs,sz,hx,_⟩:=r1
      simp only[Option.some.injEq,Prod.mk.injEq,true_and]at hr
      obtain ⟨rfl,rfl⟩:=hr
      exact zp7 hs ho hu hx
     ·rename_i id off n cap sz e1
      have r1:=zad hs h3
      rw[e1]at r1
      simp only[Rel]at r1
      obtain ⟨ad,b,hx,_⟩:=r1
      simp only[Option.some.injEq,Prod.mk.injEq,true_and]at hr
      obtain ⟨rfl,rfl⟩:=hr
      exact zp7 hs ho hu hx
     ·cases hr
    ·rename_i n e _ hu
     cases hc
     simp only[aop,AX.eval,Option.some.injEq,Prod.mk.injEq,true_and]at hr
     obtain ⟨rfl,rfl⟩:=hr
     exact zuH hs ho hu
    ·cases hc
   ·rename_i x y t u h1 h2
    have e1:args = #[x,y]:=Array.ext' (by simpa using h1)
    have e2:ts = #[t,u]:=Array.ext' (by simpa using h2)
    subst e1 e2
    unfold zeO at hc
    split at hc
    ·rename_i e ax ay hu h3 h4
     split at hc
     ·rename_i i hi
      split at hc
      ·rename_i z hz
       split at hc
       ·rename_i hcond
        cases hc
        have hdu:∃du,X.P.underlying u=some du/\SrcD du:=by
         have:=hcond.2.2
         unfold srcB at this
         split at this
         ·rename_i e' he;exact ⟨_,he,.inl ⟨e',rfl⟩⟩
         ·rename_i he;exact ⟨_,he,.inr rfl⟩
         ·cases this
        obtain ⟨du,hu',hdu⟩:=hdu
        simp only[aop]at hr
        split at hr
        ·rename_i ys e2
         split at hr
         ·rename_i es e1
          split at hr
          ·rename_i hne
           simp only[Option.some.injEq,Prod.mk.injEq,true_and]at hr
           obtain ⟨rfl,rfl⟩:=hr
           have hys:ys=[]:=by
            cases ys with
            | nil=>rfl
            | cons=>simp at hne
           subst hys
           exact zp0 hs ho hu hu' hdu hi h3 h4 e1 e2
          ·rename_i hne
           simp only[Option.some.injEq,Prod.mk.injEq,Bool.and_eq_true,decide_eq_true_eq]at hr
           obtain ⟨⟨⟨⟨h5,h6⟩,h7⟩,h8⟩,rfl,rfl⟩:=hr
           exact zw5 hs ho hu hu' hdu hi hz hcond.1 hcond.2.1 h3 h4 e1 e2 h5 h6 h7 h8 (by simpa using hne)
         ·rename_i id s es e1
          split at hr
          ·rename_i n hH
           simp only[Option.some.injEq,Prod.mk.injEq,Bool.and_eq_true,decide_eq_true_eq]at hr
           obtain ⟨⟨⟨⟨⟨h5,h6⟩,h7⟩,h8⟩,h9⟩,rfl,rfl⟩:=hr
           subst h5 h6
           exact zu3 hs ho hu hu' hdu hi hz hcond.1 h3 h4 e1 e2 hH h7 h8 h9
          ·cases hr
         ·cases hr
        ·cases hr
       ·cases hc
      ·cases hc
     ·cases hc
    ·cases hc
   ·rename_i x y t u h1 h2
    have e1:args = #[x,y]:=Array.ext' (by simpa using h1)
    have e2:ts = #[t,u]:=Array.ext' (by simpa using h2)
    subst e1 e2
    unfold zeN at hc
    split at hc
    ·rename_i e e' ax ay hu hu2 h3 h4
     split at hc
     ·rename_i hsz
      cases hc
      simp only[aop]at hr
      split at hr
      ·rename_i id off n cap s e1
       split at hr
       ·rename_i es cs hes hH
        simp only[Option.some.injEq,Prod.mk.injEq,Bool.and_eq_true,decide_eq_true_eq]at hr
        obtain ⟨⟨⟨h5,h6⟩,h7⟩,rfl,rfl⟩:=hr
        subst h5
        exact zEy hs ho hu hsz h3 h4 e1 hes hH h6 h7
       ·cases hr
      ·cases hr
     ·cases hc
    ·cases hc
   ·rename_i x y t u h1 h2
    have e1:args = #[x,y]:=Array.ext' (by simpa using h1)
    subst e1
    split at hc
    ·rename_i ax ay h3 h4
     cases hc
     simp only[aop]at hr
     split at hr
     ·rename_i k p k' q e1 e2
      simp only[Option.some.injEq,Prod.mk.injEq,true_and]at hr
      obtain ⟨rfl,rfl⟩:=hr
      exact zDI (mx:=false) hs ho h3 h4 e1 e2
     ·cases hr
    ·cases hc
   ·rename_i x y t u h1 h2
    have e1:args = #[x,y]:=Array.ext' (by simpa using h1)
    subst e1
    split at hc
    ·rename_i ax ay h3 h4
     cases hc
     simp only[aop]at hr
     split at hr
     ·rename_i k p k' q e1 e2
      simp only[Option.some.injEq,Prod.mk.injEq,true_and]at hr
      obtain ⟨rfl,rfl⟩:=hr
      exact zDI (mx:=true) hs ho h3 h4 e1 e2
     ·cases hr
    ·cases hc
   ·cases hc
end
end Go.Avm
namespace Go.Avm
open Go
def zuL (X:Cx)(f:FuncId)(args:List AV)(H:Heap)(r:AV):Prop:=
 zb7 X f/\∀g w vs,Wf X.G g w->HR g w H->RelL args g w vs->Calls X.P f vs.toArray w fun e w' =>
  ∃v g',e=.returned v/\Rel r g' w' v/\Good X g w H g' w' H
def zdT (X:Cx)(f:FuncId)(args:List AV)(dst:Option Nat)(fr:Fr)(H:Heap)(K:Fr->Heap->Prop):Prop:=
 zb7 X f/\∀g w vs,Wf X.G g w->HR g w H->RelL args g w vs->Calls X.P f vs.toArray w fun e w' =>
  ∃v r g' H',e=.returned v/\Rel r g' w' v/\Good X g w H g' w' H'/\K (fr.updo dst r) H'
theorem zdT.of_callV {X:Cx}{f:FuncId}{args:List AV}{dst:Option Nat}{fr:Fr}{H:Heap}{K:Fr->Heap->Prop}{r:AV}(h:zuL X f args H r)(hK:K (fr.updo dst r) H):zdT X f args dst fr H K:=
 ⟨h.1,fun g w vs h1 h2 h3=>(h.2 g w vs h1 h2 h3).mono fun _ _ ⟨v,g',k1,k2,k3⟩=>⟨v,r,g',H,k1,k2,k3,hK⟩⟩
def callee (G:za0)(fr:Fr):AOp->Option (FuncId×List AV)
 | .call f as=>some (f,as.map (·.eval G fr))
 | .callv x as=>match x.eval G fr with
  | .clo f fs cs=>some (f,fs++as.map (·.eval G fr)++cs)
  | _=>none
 | .inv tb x as=>match x.eval G fr with
  | .ifc t v=>match tb.lookup t with
   | some f=>some (f,v::as.map (·.eval G fr))
   | none=>none
  | _=>none
 | _=>none
def yieldOf (G:za0)(fr:Fr):AOp->Option (Nat×List AV)
 | .callv x as=>match x.eval G fr with
  | .yv i=>some (i,as.map (·.eval G fr))
  | _=>none
 | _=>none
def zi7 (X:Cx)(i:Nat)(args:List AV)(dst:Option Nat)(fr:Fr)(H:Heap)(K:Fr->Heap->Prop):Prop:=
 ∀ g w vs l,Wf X.G g w->HR g w H->RelL args g w vs->g.bx i=some l ->
  ∃ L,w.heap[l]?=some (.loop L)/\vs.length=L.params.size /\
   RoundIn Fence.wide 0 X.P l L.fn ((L.params.zip vs.toArray).foldl (fun tmps (t,a)=>tmps.setIfInBounds t a) L.tmps) L.assign L.body w fun e w' =>
    ∃v r g' H',e=.returned v/\Rel r g' w' v/\Good X g w H g' w' H'/\K (fr.updo dst r) H'
def vcDo (X:Cx)(op:AOp)(dst:Option Nat)(fr:Fr)(H:Heap)(K:Fr->Heap->Prop):Prop:=
 match callee X.G fr op with
 | some (f,args)=>zdT X f args dst fr H K
 | none=>match yieldOf X.G fr op with
  | some (i,args)=>zi7 X i args dst fr H K
  | none=>match aop X.G fr H op with
   | some (c,v,h)=>c=true/\K (fr.updo dst v) (h.getD H)
   | none=>False
def vcG (X:Cx)(t:Nat)(b:Bool)(op:AOp)(dst:Option Nat)(fr:Fr)(H:Heap)(K:Fr->Heap->Prop):AV->Prop
 | .bool e=>(e=true->match b with
   | true=>vcDo X op dst (fr.updo (some t) (.bool true)) H K
   | false=>K ((fr.updo (some t) (.bool true)).updo dst noV) H) /\
  (e=false->match b with
   | true=>K ((fr.updo (some t) (.bool false)).updo dst noV) H
   | false=>vcDo X op dst (fr.updo (some t) (.bool false)) H K)
 | .grd false _=>K (fr.updo dst noV) H
 | _=>False
def vcOp (X:Cx)(o:zal)(fr:Fr)(H:Heap)(K:Fr->Heap->Prop):Prop:=
 match o.g with
 | none=>vcDo X o.op o.dst fr H K
 | some (t,b)=>vcG X t b o.op o.dst fr H K (fr t)
def zh0 (X:Cx)(K:Fr->Heap->Prop):List zal->Fr->Heap->Prop
 | [],fr,H=>K fr H
 | o::r,fr,H=>vcOp X o fr H (zh0 X K r)
section
variable {X:Cx}{N:Nat}{g:Gh}{w:World}{fr:Fr}{H:Heap}{a:Act}
theorem StR.put (hs:StR X N g w fr H a){g':Gh}{w':World}{H':Heap}(hg:Good X g w H g' w' H'){d:Option Nat}(hd:∀t,d=some t->t<N){v:AV}{u:Value}(hr:Rel v g' w' u):StR X N g' w' (fr.updo d v) H' (a.put d u) where
 wf:=hg.wf
 hr:=hg.hr
 fr t := by
  cases d with
  | none=>exact Rel.mono _ hg.mono (hs.fr t)
  | some d =>
   have hlt:d<a.tmps.size:=Nat.lt_of_lt_of_le (hd d rfl) hs.size
   simp only[Fr.updo,Fr.upd,Act.put]
   by_cases ht:t=d
   ·subst ht
    rw[if_pos rfl]
    simpa [Array.getD,hlt] using hr
   ·rw [if_neg ht]
    have:(a.tmps.setIfInBounds d u).getD t Go.undef=a.tmps.getD t Go.undef:=by
     have hdt:d≠t:=fun e=>ht e.symm
     simp [Array.getElem?_setIfInBounds_ne hdt]
    rw[this]
    exact Rel.mono _ hg.mono (hs.fr t)
 size:=by cases d<;>simp [Act.put,hs.size]
 defers:=by cases d<;>exact hs.defers.ext hg.ext
 n0:=Nat.le_trans hs.n0 hg.ext.size
theorem StR.putU (hs:StR X N g w fr H a){d:Option Nat}(hd:∀t,d=some t->t<N){v:AV}{u:Value}(hr:Rel v g w u):StR X N g w (fr.updo d v) H (a.put d u):=
 hs.put (Good.refl hs) hd hr
theorem StR.weak (hs:StR X N g w fr H a){fr':Fr}(h:∀t v,Rel (fr t) g w v->Rel (fr' t) g w v):StR X N g w fr' H a:=
 ⟨hs.wf,hs.hr,fun t=>h t _ (hs.fr t),hs.size,hs.defers,hs.n0⟩
theorem upd_same {fr:Fr}{t:Nat}{v:AV}(h:fr t=v):fr.updo (some t) v=fr:=by
 funext u
 simp only[Fr.updo,Fr.upd]
 split
 ·rename_i e;rw[e,h]
 ·rfl
theorem zbN {hint:Nat->Bool}{ops:Array Oper}{o:Oper}{ao:zal}(h:zbt X.P N hint ops o=some ao) :
  (∃b,zay X.P b o.op=some ao.op)/\ao.dst=o.dst/\(∀t,o.dst=some t->t<N)/\((o.guard=none/\ao.g=none)∨∃j b t,o.guard=some (j,b)/\(ops[j]?).bind (·.dst)=some t/\ao.g=some (t,b)):=by
 unfold zbt at h
 split at h
 ·rename_i op gd hop hgd hd
  cases h
  refine ⟨⟨_,hop⟩,rfl,fun t ht=>by rw[ht]at hd;simpa [zFh] using hd,?_⟩
  cases hg:o.guard with
  | none=>rw[hg]at hgd;simp [zfP]at hgd;exact .inl ⟨rfl,hgd.symm⟩
  | some jb =>
   obtain ⟨j,b⟩:=jb
   rw[hg]at hgd
   simp only[zfP]at hgd
   split at hgd
   ·rename_i t ht
    cases hgd
    exact .inr ⟨j,b,t,rfl,ht,rfl⟩
   ·cases hgd
 ·cases h
theorem zid {f:FuncId}(hbody:zb7 X f)(vs:Array Value):(callFunc f vs).run X.P w=.ok (.enter f vs) w:=by
 obtain ⟨fn,h1,h2,h3⟩:=hbody
 have hn:fn.body.isNone=false:=by
  cases hb:fn.body with
  | none=>rw[hb]at h3;cases h3
  | some _=>rfl
 simp only[callFunc,Sem.run_bind,run_program,Result.andThen_ok,h1]
 rw[if_neg (by simpa using h2),if_neg (by rw[hn];decide)]
 rfl
theorem zlA {t f:Nat}:∀{l:List (Nat×Nat)},l.lookup t=some f->(t,f)∈l
 | [],h=>by simp at h
 | (a,b)::l,h=>by
  rw[List.lookup_cons]at h
  split at h
  ·rename_i e
   cases h
   rw[beq_iff_eq]at e
   subst e
   exact List.mem_cons_self
  ·exact List.mem_cons_of_mem _ (zlA h)
theorem zqt {P:Program}{name:String}{t f:Nat}(h:(zpo P name).lookup t=some f) :
  ∃i u m,P.info? t=some i/\P.underlying t=some u/\i.methods.find? (·.name==name)=some m/\m.path.isEmpty=true/\m.func=some (f,zvu u):=by
 have hm:=zlA h
 unfold zpo at hm
 obtain ⟨t0,_,h0⟩:=List.mem_filterMap.1 hm
 unfold zAb at h0
 split at h0
 ·rename_i i u hi hu
  split at h0
  ·rename_i m hm'
   split at h0
   ·rename_i hp
    split at h0
    ·rename_i f0 p hf
     split at h0
     ·rename_i hpe
      cases h0
      rw[beq_iff_eq]at hpe
      exact ⟨i,u,m,hi,hu,hm',hp,by rw[hf,hpe]⟩
     ·cases h0
    ·cases h0
   ·cases h0
  ·cases h0
 ·cases h0
theorem zsI {α:Type}(x:α)(l:List α):((x::l).toArray).extract 1 ((x::l).toArray).size=l.toArray:=by simp
theorem zy7 {α β:Type}(x:β)(f:α->β)(as:Array α):#[x]++as.map f=(x::as.toList.map f).toArray:=by apply Array.ext';simp
theorem zvj {name:String}{t f:Nat}(h:(zpo X.P name).lookup t=some f)(v:Value)(args:Array Value)(hbody:zb7 X f) :
  (callMethod (.iface t v) name args).run X.P w=.ok (.enter f (#[v]++args)) w:=by
 obtain ⟨i,u,m,hi,hu,hm,hp,hf⟩:=zqt h
 have hpl:m.path.toList=[]:=by simpa using hp
 obtain ⟨k,hk⟩:∃k,X.P.types.size+Made.depth=k+1:=⟨X.P.types.size+Made.depth-1,by have:Made.depth=100:=rfl;omega⟩
 have hmet:(method (X.P.types.size+Made.depth) t v name).run X.P w=.ok (f,v) w:=by
  have hti:(typeInfo t).run X.P w=.ok i w:=by simp [typeInfo,hi]
  rw[hk]
  cases u<;>simp [method,hti,hm,hpl,follow,hf,receiverAt,run_underlying hu,zvu,Place.get,Result.andThen_ok]
 simp only[callMethod,Sem.run_bind,run_program,Result.andThen_ok,hmet]
 exact zid hbody _
theorem zkB (hs:StR X N g w fr H a){o:Oper}{op:AOp}{b:Bool}(hc:zay X.P b o.op=some op){f:FuncId}{args:List AV}(hcal:callee X.G fr op=some (f,args))(hbody:zb7 X f) :
  ∃vs:List Value,RelL args g w vs/\(execOp a.eval o).run X.P w=.ok (.enter f vs.toArray) w:=by
 generalize ho:o.op=oop at hc
 have hcall:∃c,oop=.call c:=by
  unfold callee at hcal
  split at hcal
  ·cases oop<;>first|exact ⟨_,rfl⟩|(exfalso;simp only[zay]at hc;(repeat' split at hc)<;>simp at hc)
  ·cases oop<;>first|exact ⟨_,rfl⟩|(exfalso;simp only[zay]at hc;(repeat' split at hc)<;>simp at hc)
  ·cases oop<;>first|exact ⟨_,rfl⟩|(exfalso;simp only[zay]at hc;(repeat' split at hc)<;>simp at hc)
  ·cases hcal
 obtain ⟨c,rfl⟩:=hcall
 simp only[zay]at hc
 obtain ⟨cal,as,ts⟩:=c
 unfold zdw at hc
 cases cal with
 | invoke r m =>
  simp only at hc
  split at hc
  ·rename_i ax as' hx has
   cases hc
   simp only[callee]at hcal
   split at hcal
   ·rename_i t v hv
    split at hcal
    ·rename_i f0 hl
     simp only[Option.some.injEq,Prod.mk.injEq]at hcal
     obtain ⟨rfl,rfl⟩:=hcal
     have hr:=zad hs hx
     rw[hv]at hr
     simp only[Rel]at hr
     obtain ⟨u,hu,hru⟩:=hr
     refine ⟨u::as.toList.map a.eval,by simp only[RelL];exact ⟨_,_,rfl,hru,zhE hs has⟩,?_⟩
     have hrun:=zvj (w:=w) hl u (as.map a.eval) hbody
     simp only[execOp,ho,resolve,hu,Sem.run_bind,Sem.run_pure,Result.andThen_ok,invoke]
     rw[zy7]
     show (callMethod (Value.iface t u) m ((Value.iface t u::as.toList.map a.eval).toArray.extract 1 (Value.iface t u::as.toList.map a.eval).toArray.size)).run X.P w=_
     rw[zsI,show (as.toList.map a.eval).toArray=as.map a.eval by apply Array.ext';simp]
     rw[hrun]
     congr 2
     apply Array.ext';simp
    ·cases hcal
   ·cases hcal
  ·cases hc
 | builtin bi =>
  exfalso
  simp only at hc
  unfold zbJ at hc
  split at hc
  ·unfold ze1 at hc
   split at hc<;>first|(cases hc;done)|(cases hc;simp [callee]at hcal)
  ·unfold zeO at hc
   split at hc
   ·split at hc
    ·split at hc
     ·split at hc
      ·cases hc;simp [callee]at hcal
      ·cases hc
     ·cases hc
    ·cases hc
   ·cases hc
  ·unfold zeN at hc
   split at hc
   ·split at hc
    ·cases hc;simp [callee]at hcal
    ·cases hc
   ·cases hc
  ·split at hc
   ·cases hc;simp [callee]at hcal
   ·cases hc
  ·split at hc
   ·cases hc;simp [callee]at hcal
   ·cases hc
  ·cases hc
 | value fo =>
  cases fo with
  | const v=>cases hc
  | global x=>cases hc
  | func f0 =>
   simp only at hc
   split at hc
   ·rename_i fn as' hfn has
    split at hc
    ·cases hc
     simp only[callee,Option.some.injEq,Prod.mk.injEq]at hcal
     obtain ⟨rfl,rfl⟩:=hcal
     refine ⟨as.toList.map a.eval,zhE hs has,?_⟩
     simp only[execOp,ho,resolve,Act.eval,Deferred.ofValue,Sem.run_bind,Sem.run_pure,Result.andThen_ok,invoke]
     rw[zid hbody]
     congr 2
     apply Array.ext';simp
    ·cases hc
   ·cases hc
  | tmp t =>
   simp only[Option.map_eq_some_iff]at hc
   obtain ⟨as',has,rfl⟩:=hc
   simp only[callee,AX.eval]at hcal
   split at hcal
   ·rename_i f0 fs cs hft
    simp only[Option.some.injEq,Prod.mk.injEq]at hcal
    obtain ⟨rfl,rfl⟩:=hcal
    have hr:=hs.fr t
    rw[hft]at hr
    simp only[Rel]at hr
    obtain ⟨us,vs,hv,h1,h2⟩:=hr
    refine ⟨us++as.toList.map a.eval++vs,(h1.append (zhE hs has)).append h2,?_⟩
    have hev:a.eval (.tmp t)=.func (.func f0) us.toArray vs.toArray:=hv
    simp only[execOp,ho,resolve,hev,Deferred.ofValue,Sem.run_bind,Sem.run_pure,Result.andThen_ok,invoke]
    rw[zid hbody]
    congr 2
    apply Array.ext';simp
   ·cases hcal
theorem zy9 {op:Op}{ao:AOp}{b:Bool}(h:zay X.P b op=some ao):∀c,op≠.defer c:=fun c e=>by
 subst e;simp [zay]at h
theorem zuh {rd:Option Nat}{n:Nat}{P:Program}{l:Nat}{f:FuncId}{tmps:Array Value}{assign body:Code}{w:World}{R:Ending->World->Prop}(h:RoundIn Fence.wide 0 P l f tmps assign body w R) :
  RoundIn (Fd rd) n P l f tmps assign body w R:=
 ⟨trivial,fun c cs _=>h.2 c cs (room_wide _)⟩
theorem zr1 (hs:StR X N g w fr H a){o:Oper}{op:AOp}{b:Bool}(hc:zay X.P b o.op=some op){i:Nat}{args:List AV}(hcal:yieldOf X.G fr op=some (i,args)) :
  ∃(vs:List Value) (l:Nat),RelL args g w vs/\g.bx i=some l/\(execOp a.eval o).run X.P w=(Instr.yield l vs.toArray).run X.P w:=by
 generalize ho:o.op=oop at hc
 unfold yieldOf at hcal
 split at hcal
 ·rename_i x as
  have hcall:∃c,oop=.call c:=by
   cases oop<;>first|exact ⟨_,rfl⟩|(exfalso;simp only[zay]at hc;(repeat' split at hc)<;>simp at hc)
  obtain ⟨c,rfl⟩:=hcall
  simp only[zay]at hc
  obtain ⟨cal,as',ts⟩:=c
  unfold zdw at hc
  cases cal with
  | invoke r m =>
   exfalso
   simp only at hc
   split at hc<;>simp at hc
  | builtin bi =>
   exfalso
   simp only at hc
   unfold zbJ at hc
   split at hc
   ·unfold ze1 at hc
    split at hc<;>simp at hc
   ·unfold zeO at hc
    (repeat' split at hc)<;>simp at hc
   ·unfold zeN at hc
    (repeat' split at hc)<;>simp at hc
   ·split at hc<;>simp at hc
   ·split at hc<;>simp at hc
   ·cases hc
  | value fo =>
   cases fo with
   | const v=>cases hc
   | global x=>cases hc
   | func f0 =>
    simp only at hc
    split at hc
    ·split at hc
     ·cases hc
     ·cases hc
    ·cases hc
   | tmp t =>
    simp only[Option.map_eq_some_iff]at hc
    obtain ⟨as'',has,he⟩:=hc
    cases he
    simp only[AX.eval]at hcal
    split at hcal
    ·rename_i i' hft
     simp only[Option.some.injEq,Prod.mk.injEq]at hcal
     obtain ⟨rfl,rfl⟩:=hcal
     have hr:=hs.fr t
     rw[hft]at hr
     simp only[Rel]at hr
     obtain ⟨l,hv,hb⟩:=hr
     refine ⟨as'.toList.map a.eval,l,zhE hs has,hb,?_⟩
     have hev:a.eval (.tmp t)=.func (.yield l) #[] #[]:=hv
     simp only[execOp,ho,resolve,hev,Deferred.ofValue,Sem.run_bind,Sem.run_pure,Result.andThen_ok,invoke]
     congr 2
     apply Array.ext';simp
    ·cases hcal
 ·cases hcal
theorem zc2 {rd:Option Nat}{o:Oper}{next:Act->World->Prop}{Q:Exit->Act->World->Prop}{ao:AOp}{b:Bool}(hc:zay X.P b o.op=some ao){r:Result Next}(hr:(execOp a.eval o).run X.P w=r)
  (h:o.uponIn (Fd rd) 0 X.P a next Q r):o.wpIn (Fd rd) 0 X.P a w next Q:=
 ⟨fun _ _=>trivial,by rw[Oper.semAt_eq _ _ _ (zy9 hc),hr];exact h⟩
theorem upon_enter {rd:Option Nat}{o:Oper}{next:Act->World->Prop}{Q:Exit->Act->World->Prop}{f:FuncId}{args:Array Value}(h:Calls X.P f args w fun
  | .returned v,w''=>next (a.put o.dst v) w''
  | .panicked chain,w''=>Q (.panic chain) a w''
  | .outgrown,_=>LetsOut Q):o.uponIn (Fd rd) 0 X.P a next Q (.ok (.enter f args) w):=
 ⟨(fun h=>by simp [Fd,Fence.wide]at h),znf h⟩
theorem zob (hs:StR X N g w fr H a){o:Oper}{op:AOp}{b:Bool}(hc:zay X.P b o.op=some op)(hd:∀t,o.dst=some t->t<N){K:Fr->Heap->Prop}(h:vcDo X op o.dst fr H K)
  {Kc:Act->World->Prop} {Q:Exit->Act->World->Prop} (hK:∀g' w' fr' H' a',StR X N g' w' fr' H' a'->ExtM g w g' w'->K fr' H'->Kc a' w'):o.wpIn (Fd X.rd) 0 X.P a w Kc Q:=by
 unfold vcDo at h
 split at h
 ·rename_i f args hcal
  obtain ⟨vs,hvs,hrun⟩:=zkB hs hc hcal h.1
  refine zc2 hc hrun (upon_enter ?_)
  refine (h.2 g w vs hs.wf hs.hr hvs).mono fun e w' ⟨v,r,g',H',h1,h2,h3,h4⟩=>?_
  subst h1
  exact hK g' w' _ H' _ (hs.put h3 hd h2) h3.xm h4
 ·split at h
  ·rename_i i args hyl
   obtain ⟨vs,l,hvs,hb,hrun⟩:=zr1 hs hc hyl
   obtain ⟨L,hL,hlen,hR⟩:=h g w vs l hs.wf hs.hr hvs hb
   rw[run_yield hL (by simpa using hlen)]at hrun
   refine zc2 hc hrun ⟨(fun h=>by simp [Fd,Fence.wide]at h),(zuh hR).mono fun e w' ⟨v,r,g',H',h1,h2,h3,h4⟩=>?_⟩
   subst h1
   exact hK g' w' _ H' _ (hs.put h3 hd h2) h3.xm h4
  ·split at h
   ·rename_i c v hh hop
    obtain ⟨rfl,hk⟩:=h
    obtain ⟨u,w',g',hrun,hg,hr⟩:=zqR hs hc hop
    rcases hrun with hrun|⟨hrun,rfl⟩
    ·refine zc2 hc hrun ?_;exact hK g' w' _ _ _ (hs.put hg hd hr) hg.xm hk
    ·refine zc2 hc hrun ?_;exact hK g' w' _ _ _ (hs.put hg hd hr) hg.xm hk
   ·exact h.elim
theorem zxf {t:Nat}{b:Bool}{op:AOp}{dst:Option Nat}{K:Fr->Heap->Prop}(h:vcG X t b op dst fr H K (fr t)) :
  (gval b (fr t)=some true/\vcDo X op dst fr H K)∨(gval b (fr t)=some false/\K (fr.updo dst noV) H):=by
 generalize hv:fr t=v at h
 unfold vcG at h
 split at h
 ·rename_i e
  cases e with
  | true =>
   have h:=h.1 rfl
   rw[upd_same hv]at h
   cases b with
   | true=>exact .inl ⟨rfl,h⟩
   | false=>exact .inr ⟨rfl,h⟩
  | false =>
   have h:=h.2 rfl
   rw[upd_same hv]at h
   cases b with
   | true=>exact .inr ⟨rfl,h⟩
   | false=>exact .inl ⟨rfl,h⟩
 ·exact .inr ⟨by cases b<;>rfl,h⟩
 ·exact h.elim
theorem zuT {ops:Array Oper}{j t:Nat}{x:Bool}(ht:(ops[j]?).bind (·.dst)=some t){tmps:Array Value}(hv:tmps.getD t Go.undef=.bool x):yielded ops tmps j=some x:=by
 have hlt:t<tmps.size:=by
  rcases Nat.lt_or_ge t tmps.size with h|h
  ·exact h
  ·simp [Array.getD,show ¬t<tmps.size by omega,Go.undef]at hv
 have h2:tmps[t]?=some (.bool x):=by
  rw[Array.getElem?_eq_getElem hlt]
  simpa [Array.getD,hlt] using hv
 unfold yielded
 simp only[ht]
 simp [h2]
theorem zqr {ops:Array Oper}{j t:Nat}(ht:(ops[j]?).bind (·.dst)=some t){tmps:Array Value}(hv:tmps.getD t Go.undef=Go.undef):yielded ops tmps j=none:=by
 unfold yielded
 simp only[ht]
 cases h2:tmps[t]? with
 | none=>simp [h2]
 | some x =>
  simp [Array.getD_eq_getD_getElem?,h2]at hv
  subst hv
  simp [h2,Go.undef]
theorem zdC (hs:StR X N g w fr H a){ops:Array Oper}{o:Oper}{j t:Nat}{want c:Bool}(h:gval want (fr t)=some c)(hg:o.guard=some (j,want))(ht:(ops[j]?).bind (·.dst)=some t) :
  Region.wanted o (yielded ops a.tmps)=c:=by
 have hr:=hs.fr t
 cases hf:fr t<;>rw[hf]at h hr<;>simp only[gval]at h<;>try (cases h;done)
 ·rename_i b'
  rw[zgq]at hr
  have hy:=zuT ht hr
  simp only[Region.wanted,hg,hy]
  cases h
  cases want<;>cases b'<;>rfl
 ·rename_i c' v
  cases c' with
  | true=>cases h
  | false =>
   cases h
   simp only[Rel]at hr
   have hy:=zqr ht (hr.2 trivial)
   simp [Region.wanted,hg,hy]
theorem zuW (hs:StR X N g w fr H a){hint:Nat->Bool}{ops:Array Oper}{o:Oper}{ao:zal}(hc:zbt X.P N hint ops o=some ao){K:Fr->Heap->Prop}(h:vcOp X ao fr H K)
  {Kc:Act->World->Prop} {Q:Exit->Act->World->Prop} (hK:∀g' w' fr' H' a',StR X N g' w' fr' H' a'->ExtM g w g' w'->K fr' H'->Kc a' w') :
  if Region.wanted o (yielded ops a.tmps) then o.wpIn (Fd X.rd) 0 X.P a w Kc Q else (∀f,o.about X.P w a.eval=some f->(Fd X.rd).fn f)/\Kc (a.put o.dst Go.undef) w:=by
 obtain ⟨⟨b,hop⟩,hdst,hd,hg⟩:=zbN hc
 unfold vcOp at h
 rcases hg with ⟨hg1,hg2⟩|⟨j,want,t,hg1,ht,hg2⟩
 ·rw[hg2]at h
  simp only at h
  rw[hdst]at h
  rw[if_pos (by simp [Region.wanted,hg1])]
  exact (zob hs hop hd h hK)
 ·rw [hg2]at h
  simp only at h
  rw[hdst]at h
  rcases zxf h with ⟨hgv,h⟩|⟨hgv,h⟩
  ·rw[zdC hs hgv hg1 ht,if_pos rfl]
   exact (zob hs hop hd h hK)
  ·rw[zdC hs hgv hg1 ht,if_neg (by decide)]
   exact ⟨fun _ _=>trivial,hK g w _ H _ (hs.putU hd (by simp [noV,Rel])) (ExtM.refl g w) h⟩
theorem zlC {hint:Nat->Bool}{ops:Array Oper}{K:Fr->Heap->Prop}{Q:Exit->Act->World->Prop}:∀(l:List Oper) {al:List zal} {g:Gh} {w:World} {fr:Fr} {H:Heap} {a:Act},zaf X.P N hint ops l=some al->StR X N g w fr H a->zh0 X K al fr H ->
  (∀g' w' fr' H' a',StR X N g' w' fr' H' a'->ExtM g w g' w'->K fr' H'->Q .normal a' w')->wpListIn (Fd X.rd) 0 X.P ops Q l a w
 | [],al,g,w,fr,H,a,hc,hs,h,hK=>by
  simp [zaf]at hc;subst hc
  exact hK g w fr H a hs (ExtM.refl g w) h
 | o::l,al,g,w,fr,H,a,hc,hs,h,hK=>by
  simp only[zaf]at hc
  split at hc
  ·rename_i ao al' h1 h2
   cases hc
   simp only[wpListIn]
   exact zuW hs h1 h fun g' w' fr' H' a' hs' he hk=>zlC l h2 hs' hk fun g'' w'' fr'' H'' a'' hs'' he' hk'=>hK g'' w'' fr'' H'' a'' hs'' (he.trans he') hk'
  ·cases hc
theorem zxj {id:Nat}{ops:Array Oper}{hint:Nat->Bool}{al:List zal}{Q:Exit->Fr->Heap->Prop}(hc:zaf X.P N hint ops ops.toList=some al)(h:zh0 X (Q .normal) al fr H):Ex X N (.region id ops false) fr H Q:=
 fun _ _ _ hs=>wpIn_region_list (zlC _ hc hs h fun g' _ fr' H' _ hs' he hk=>⟨g',fr',H',hs',he,hk⟩)
end
end Go.Avm
namespace Go.Avm
open Go
def AX.looks:AX->List Nat
 | .t n=>[n]
 | .m _ n=>[n % 65536]
 | _=>[]
def zgs:Option AX->List Nat
 | none=>[]
 | some x=>x.looks
def AOp.looks:AOp->List Nat
 | .mov x|.not x|.neg x|.conv _ x|.b2s x|.s2b _ x|.r2s x|.smov x|.len x|.lenS x|.ld _ x|.fldA _ x|.fld _ _ x|.box x|.extr x _|.mki _ x|.mkT _ _ x|.nck x|.isn _ x|.ifn _ x|.boxS _ x|.lds _ x|.rng x|.nxt x=>x.looks
 | .pick c a b=>c.looks++a.looks++b.looks
 | .bin _ x y|.beq _ x y|.idxA _ x y|.idxP _ _ x y|.st _ x y|.idxS x y|.idxG _ _ _ x y|.app _ _ x y|.mkR _ _ _ x y|.peq _ x y|.aeq _ _ x y|.mm _ x y|.cpy x y|.mget x y|.mset x y=>x.looks++y.looks
 | .ssl x lo hi=>x.looks++zgs lo++zgs hi
 | .sls _ x lo hi mx|.slA _ _ x lo hi mx=>x.looks++zgs lo++zgs hi++zgs mx
 | .alloc _|.allocB _ _|.mkM=>[]
 | .build _ ps=>ps.flatMap fun p=>p.2.2.looks
 | .bsl _ _ _ ps=>ps.flatMap fun p=>p.2.looks
 | .mkf _ fs cs=>fs.flatMap AX.looks++cs.flatMap AX.looks
 | .call _ as=>as.flatMap AX.looks
 | .callv x as=>x.looks++as.flatMap AX.looks
 | .inv _ x as=>x.looks++as.flatMap AX.looks
def zal.looks (o:zal):List Nat:=o.op.looks++(match o.g with|some (t,_)=>[t]|none=>[])
theorem AX.eval_congr {G:za0}{fr fr':Fr}{x:AX}(h:∀t∈x.looks,fr t=fr' t):x.eval G fr=x.eval G fr':=by
 cases x with
 | t n=>exact h n (by simp [AX.looks])
 | m b n=>simp only[AX.eval];rw[h (n % 65536) (by simp [AX.looks])]
 | _=>rfl
theorem zbf {G:za0}{fr fr':Fr}{as:List AX}(h:∀t∈as.flatMap AX.looks,fr t=fr' t):as.map (·.eval G fr)=as.map (·.eval G fr'):=
 List.map_congr_left fun _ hx=>AX.eval_congr fun t ht=>h t (List.mem_flatMap.2 ⟨_,hx,ht⟩)
theorem zbA {G:za0}{fr fr':Fr}{x:Option AX}(h:∀t∈zgs x,fr t=fr' t):x.map (·.eval G fr)=x.map (·.eval G fr'):=by
 cases x with
 | none=>rfl
 | some x=>simp only[Option.map_some];rw[AX.eval_congr h]
theorem zwg {G:za0}{fr fr':Fr}{H:Heap}{op:AOp}(h:∀t∈op.looks,fr t=fr' t):aop G fr H op=aop G fr' H op:=by
 cases op with
 | mov x=>simp only[aop];rw[AX.eval_congr (fr':=fr') h]
 | not x=>simp only[aop];rw[AX.eval_congr (fr':=fr') h]
 | neg x=>simp only[aop];rw[AX.eval_congr (fr':=fr') h]
 | conv k x=>simp only[aop];rw[AX.eval_congr (fr':=fr') h]
 | b2s x=>simp only[aop];rw[AX.eval_congr (fr':=fr') h]
 | s2b b x=>cases b<;>simp only[aop]<;>rw[AX.eval_congr (fr':=fr') h]
 | r2s x=>simp only[aop];rw[AX.eval_congr (fr':=fr') h]
 | smov x=>simp only[aop];rw[AX.eval_congr (fr':=fr') h]
 | len x=>simp only[aop];rw[AX.eval_congr (fr':=fr') h]
 | lenS x=>simp only[aop];rw[AX.eval_congr (fr':=fr') h]
 | ld n x=>cases n<;>simp only[aop]<;>rw[AX.eval_congr (fr':=fr') h]
 | fldA off x=>simp only[aop];rw[AX.eval_congr (fr':=fr') h]
 | fld off n x=>cases n<;>simp only[aop]<;>rw[AX.eval_congr (fr':=fr') h]
 | box x=>simp only[aop];rw[AX.eval_congr (fr':=fr') h]
 | extr x i=>simp only[aop];rw[AX.eval_congr (fr':=fr') h]
 | mki t x=>simp only[aop];rw[AX.eval_congr (fr':=fr') h]
 | mkT a b x=>simp only[aop];rw[AX.eval_congr (fr':=fr') h]
 | nck x=>simp only[aop];rw[AX.eval_congr (fr':=fr') h]
 | mkM=>rfl
 | isn n x=>simp only[aop];rw[AX.eval_congr (fr':=fr') h]
 | ifn n x=>simp only[aop];rw[AX.eval_congr (fr':=fr') h]
 | boxS n x=>simp only[aop];rw[AX.eval_congr (fr':=fr') h]
 | lds n x=>cases n<;>simp only[aop]<;>rw[AX.eval_congr (fr':=fr') h]
 | rng x=>simp only[aop];rw[AX.eval_congr (fr':=fr') h]
 | nxt x=>simp only[aop];rw[AX.eval_congr (fr':=fr') h]
 | mget x y =>
  simp only[AOp.looks,List.mem_append]at h
  simp only[aop]
  rw[AX.eval_congr (fr':=fr') (x:=x) fun t ht=>h t (.inl ht),AX.eval_congr (fr':=fr') (x:=y) fun t ht=>h t (.inr ht)]
 | mset x y =>
  simp only[AOp.looks,List.mem_append]at h
  simp only[aop]
  rw[AX.eval_congr (fr':=fr') (x:=x) fun t ht=>h t (.inl ht),AX.eval_congr (fr':=fr') (x:=y) fun t ht=>h t (.inr ht)]
 | peq n x y =>
  simp only[AOp.looks,List.mem_append]at h
  simp only[aop]
  rw[AX.eval_congr (fr':=fr') (x:=x) fun t ht=>h t (.inl ht),AX.eval_congr (fr':=fr') (x:=y) fun t ht=>h t (.inr ht)]
 | aeq n ks x y =>
  simp only[AOp.looks,List.mem_append]at h
  simp only[aop]
  rw[AX.eval_congr (fr':=fr') (x:=x) fun t ht=>h t (.inl ht),AX.eval_congr (fr':=fr') (x:=y) fun t ht=>h t (.inr ht)]
 | mm n x y =>
  simp only[AOp.looks,List.mem_append]at h
  simp only[aop]
  rw[AX.eval_congr (fr':=fr') (x:=x) fun t ht=>h t (.inl ht),AX.eval_congr (fr':=fr') (x:=y) fun t ht=>h t (.inr ht)]
 | cpy x y =>
  simp only[AOp.looks,List.mem_append]at h
  simp only[aop]
  rw[AX.eval_congr (fr':=fr') (x:=x) fun t ht=>h t (.inl ht),AX.eval_congr (fr':=fr') (x:=y) fun t ht=>h t (.inr ht)]
 | pick c a b =>
  simp only[AOp.looks,List.mem_append]at h
  simp only[aop]
  rw[AX.eval_congr (fr':=fr') (x:=c) fun t ht=>h t (.inl (.inl ht)),AX.eval_congr (fr':=fr') (x:=a) fun t ht=>h t (.inl (.inr ht)),AX.eval_congr (fr':=fr') (x:=b) fun t ht=>h t (.inr ht)]
 | idxG m sz n x y =>
  simp only[AOp.looks,List.mem_append]at h
  cases n<;>simp only[aop]<;>rw[AX.eval_congr (fr':=fr') (x:=x) fun t ht=>h t (.inl ht),AX.eval_congr (fr':=fr') (x:=y) fun t ht=>h t (.inr ht)]
 | bin op x y =>
  simp only[AOp.looks,List.mem_append]at h
  simp only[aop]
  rw[AX.eval_congr (fr':=fr') (x:=x) fun t ht=>h t (.inl ht),AX.eval_congr (fr':=fr') (x:=y) fun t ht=>h t (.inr ht)]
 | beq n x y =>
  simp only[AOp.looks,List.mem_append]at h
  simp only[aop]
  rw[AX.eval_congr (fr':=fr') (x:=x) fun t ht=>h t (.inl ht),AX.eval_congr (fr':=fr') (x:=y) fun t ht=>h t (.inr ht)]
 | idxA s x y =>
  simp only[AOp.looks,List.mem_append]at h
  simp only[aop]
  rw[AX.eval_congr (fr':=fr') (x:=x) fun t ht=>h t (.inl ht),AX.eval_congr (fr':=fr') (x:=y) fun t ht=>h t (.inr ht)]
 | idxP m s x y =>
  simp only[AOp.looks,List.mem_append]at h
  simp only[aop]
  rw[AX.eval_congr (fr':=fr') (x:=x) fun t ht=>h t (.inl ht),AX.eval_congr (fr':=fr') (x:=y) fun t ht=>h t (.inr ht)]
 | st n x y =>
  simp only[AOp.looks,List.mem_append]at h
  simp only[aop]
  rw[AX.eval_congr (fr':=fr') (x:=x) fun t ht=>h t (.inl ht),AX.eval_congr (fr':=fr') (x:=y) fun t ht=>h t (.inr ht)]
 | idxS x y =>
  simp only[AOp.looks,List.mem_append]at h
  simp only[aop]
  rw[AX.eval_congr (fr':=fr') (x:=x) fun t ht=>h t (.inl ht),AX.eval_congr (fr':=fr') (x:=y) fun t ht=>h t (.inr ht)]
 | app s b x y =>
  simp only[AOp.looks,List.mem_append]at h
  simp only[aop]
  rw[AX.eval_congr (fr':=fr') (x:=x) fun t ht=>h t (.inl ht),AX.eval_congr (fr':=fr') (x:=y) fun t ht=>h t (.inr ht)]
 | mkR s b z x y =>
  simp only[AOp.looks,List.mem_append]at h
  simp only[aop]
  rw[AX.eval_congr (fr':=fr') (x:=x) fun t ht=>h t (.inl ht),AX.eval_congr (fr':=fr') (x:=y) fun t ht=>h t (.inr ht)]
 | ssl x lo hi =>
  simp only[AOp.looks,List.mem_append]at h
  simp only[aop]
  rw[AX.eval_congr (fr':=fr') (x:=x) fun t ht=>h t (.inl (.inl ht)),zbA (fr':=fr') (x:=lo) fun t ht=>h t (.inl (.inr ht)),zbA (fr':=fr') (x:=hi) fun t ht=>h t (.inr ht)]
 | sls s x lo hi mx =>
  simp only[AOp.looks,List.mem_append]at h
  have e1:=AX.eval_congr (G:=G) (fr':=fr') (x:=x) fun t ht=>h t (.inl (.inl (.inl ht)))
  have e2:=zbA (G:=G) (fr':=fr') (x:=lo) fun t ht=>h t (.inl (.inl (.inr ht)))
  cases mx with
  | none =>
   have e3:=zbA (G:=G) (fr':=fr') (x:=hi) fun t ht=>h t (.inl (.inr ht))
   simp only[aop];rw[e1,e2,e3]
  | some mx =>
   have e4:=AX.eval_congr (G:=G) (fr':=fr') (x:=mx) fun t ht=>h t (.inr ht)
   cases hi with
   | none=>simp only[aop]
   | some hi =>
    have e3:=AX.eval_congr (G:=G) (fr':=fr') (x:=hi) fun t ht=>h t (.inl (.inr ht))
    simp only[aop];rw[e1,e2,e3,e4]
 | slA m s x lo hi mx =>
  simp only[AOp.looks,List.mem_append]at h
  have e1:=AX.eval_congr (G:=G) (fr':=fr') (x:=x) fun t ht=>h t (.inl (.inl (.inl ht)))
  have e2:=zbA (G:=G) (fr':=fr') (x:=lo) fun t ht=>h t (.inl (.inl (.inr ht)))
  have e3:=zbA (G:=G) (fr':=fr') (x:=hi) fun t ht=>h t (.inl (.inr ht))
  cases mx with
  | none=>simp only[aop];rw[e1,e2,e3]
  | some mx=>simp only[aop]
 | alloc cs=>rfl
 | allocB T e=>rfl
 | build cs ps =>
  simp only[aop]
  have:ps.map (fun p=>(p.1,p.2.1,p.2.2.eval G fr))=ps.map (fun p=>(p.1,p.2.1,p.2.2.eval G fr')):=
   List.map_congr_left fun p hp=>by rw[AX.eval_congr (fr':=fr') fun t ht=>h t (by simp only[AOp.looks];exact List.mem_flatMap.2 ⟨p,hp,ht⟩)]
  rw[this]
 | bsl s z n ps =>
  simp only[aop]
  have:ps.map (fun p=>(p.1,p.2.eval G fr))=ps.map (fun p=>(p.1,p.2.eval G fr')):=
   List.map_congr_left fun p hp=>by rw[AX.eval_congr (fr':=fr') fun t ht=>h t (by simp only[AOp.looks];exact List.mem_flatMap.2 ⟨p,hp,ht⟩)]
  rw[this]
 | mkf f fs cs =>
  simp only[AOp.looks,List.mem_append]at h
  simp only[aop]
  rw[zbf (fr':=fr') (as:=fs) fun t ht=>h t (.inl ht),zbf (fr':=fr') (as:=cs) fun t ht=>h t (.inr ht)]
 | call f as=>rfl
 | callv x as=>rfl
 | inv tb x as=>rfl
theorem zqT {G:za0}{fr fr':Fr}{op:AOp}(h:∀t∈op.looks,fr t=fr' t):callee G fr op=callee G fr' op:=by
 cases op with
 | call f as=>simp only[callee];rw[zbf (fr':=fr') (as:=as) h]
 | callv x as =>
  simp only[AOp.looks,List.mem_append]at h
  simp only[callee]
  rw[AX.eval_congr (fr':=fr') (x:=x) fun t ht=>h t (.inl ht),zbf (fr':=fr') (as:=as) fun t ht=>h t (.inr ht)]
 | inv tb x as =>
  simp only[AOp.looks,List.mem_append]at h
  simp only[callee]
  rw[AX.eval_congr (fr':=fr') (x:=x) fun t ht=>h t (.inl ht),zbf (fr':=fr') (as:=as) fun t ht=>h t (.inr ht)]
 | _=>rfl
def zng:AOp->Bool
 | .alloc _|.allocB _ _|.box _|.boxS _ _|.st _ _ _|.app _ _ _ _|.mkT _ _ _|.mkR _ _ _ _ _|.s2b _ _|.cpy _ _|.call _ _|.callv _ _|.rng _|.nxt _|.mkM|.mset _ _|.inv _ _ _=>false
 | _=>true
theorem ztf {G:za0}{fr:Fr}{H:Heap}{op:AOp}{c:Bool}{v:AV}{h:Option Heap}(hp:zng op=true)(he:aop G fr H op=some (c,v,h)):h=none:=by
 cases op<;>first|(simp [zng]at hp;done)|skip
 case ld n x=>cases n<;>simp only[aop]at he<;>((repeat' split at he)<;>simp_all)
 case lds n x=>cases n<;>simp only[aop]at he<;>((repeat' split at he)<;>simp_all)
 case fld o n x=>cases n<;>simp only[aop]at he<;>((repeat' split at he)<;>simp_all)
 case idxG a b n x y=>cases n<;>simp only[aop]at he<;>((repeat' split at he)<;>simp_all)
 case sls n x a b m=>cases m<;>cases b<;>simp only[aop]at he<;>((repeat' split at he)<;>simp_all)
 case slA k n x a b m=>cases m<;>simp only[aop]at he<;>((repeat' split at he)<;>simp_all)
 case bin o x y =>
  simp only[aop,Option.map_eq_some_iff]at he
  obtain ⟨⟨a,b⟩,_,h2⟩:=he
  cases h2;rfl
 case b2s x =>
  simp only[aop]at he
  split at he
  ·simp only[Option.map_eq_some_iff]at he
   obtain ⟨a,_,h2⟩:=he
   cases h2;rfl
  ·cases he
 case aeq n ks x y =>
  simp only[aop]at he
  split at he
  ·simp only[Option.map_eq_some_iff]at he
   obtain ⟨a,_,h2⟩:=he
   cases h2;rfl
  ·cases he
 all_goals (simp only[aop]at he;(repeat' split at he)<;>simp_all)
def csOf:AOp->Option (FuncId×List AX)
 | .inv [(f,_)] (.m true _) as=>some (f,as)
 | _=>none
theorem zeP {op:AOp}{f:FuncId}{as:List AX}(h:csOf op=some (f,as)):∃z n,op=.inv [(f,z)] (.m true n) as:=by
 unfold csOf at h
 split at h
 ·cases h;exact ⟨_,_,rfl⟩
 ·cases h
def ziC (X:Cx)(f:FuncId)(args:List AV)(H:Heap)(r:AV)(H':Heap):Prop:=
 ∃ i T e l,args=[.ptr i 0]/\H[i]?=some (.bld T e l)/\r=.str l/\H'=H.set i .dead/\zb7 X f/\∀H2:Heap,H2[i]?=some (.bld T e l)->∀g w vs,Wf X.G g w->HR g w H2->RelL args g w vs ->
  Calls X.P f vs.toArray w fun en w'=>∃v g',en=.returned v/\Rel r g' w' v/\Good X g w H2 g' w' (H2.set i .dead)
theorem ziC.any {X:Cx}{f:FuncId}{args:List AV}{H:Heap}{r:AV}{H':Heap}(h:ziC X f args H r H'):∃i T e l,H[i]?=some (.bld T e l)/\H'=H.set i .dead/\∀H2:Heap,H2[i]?=some (.bld T e l)->ziC X f args H2 r (H2.set i .dead):=by
 obtain ⟨i,T,e,l,h1,h2,h3,h4,h5,h6⟩:=h
 exact ⟨i,T,e,l,h2,h4,fun H2 hh=>⟨i,T,e,l,h1,hh,h3,rfl,h5,h6⟩⟩
def cbOf:AOp->Option (FuncId×List AX)
 | .inv [(f,_)] (.m false _) as=>some (f,as)
 | _=>none
theorem zeZ {op:AOp}{f:FuncId}{as:List AX}(h:cbOf op=some (f,as)):∃z n,op=.inv [(f,z)] (.m false n) as:=by
 unfold cbOf at h
 split at h
 ·cases h;exact ⟨_,_,rfl⟩
 ·cases h
def zl9 (X:Cx)(f:FuncId)(args:List AV)(H:Heap)(r:AV)(H':Heap):Prop:=
 ∃ i cs b,oddM i=false/\H[i]?=some (.box cs)/\H'=H.set i (.box b)/\zb7 X f/\∀H2:Heap,H2[i]?=some (.box cs)->∀g w vs,Wf X.G g w->HR g w H2->RelL args g w vs ->
  Calls X.P f vs.toArray w fun en w'=>∃v g',en=.returned v/\Rel r g' w' v/\Good X g w H2 g' w' (H2.set i (.box b))
theorem zl9.any {X:Cx}{f:FuncId}{args:List AV}{H:Heap}{r:AV}{H':Heap}(h:zl9 X f args H r H'):∃i cs b,oddM i=false/\H[i]?=some (.box cs)/\H'=H.set i (.box b)/\∀H2:Heap,H2[i]?=some (.box cs)->zl9 X f args H2 r (H2.set i (.box b)):=by
 obtain ⟨i,cs,b,h1,h2,h4,h5,h6⟩:=h
 exact ⟨i,cs,b,h1,h2,h4,fun H2 hh=>⟨i,cs,b,h1,hh,rfl,h5,h6⟩⟩
def isSt:AOp->Bool
 | .inv [_] (.m _ _) _=>true
 | .st _ _ _|.cpy _ _|.alloc _|.allocB _ _|.box _|.boxS _ _|.mkT _ _ _|.mkR _ _ _ _ _|.s2b true _|.rng _|.nxt _|.mkM|.mset _ _=>true
 | _=>false
def isApp:AOp->Bool
 | .app _ _ _ _=>true
 | _=>false
def isW (op:AOp):Bool:=isSt op||isApp op
def zjN (b:Nat):AV->Bool
 | .sl (.tok i _) _=>i % 2 != b % 2
 | _=>false
def zbp (G:za0)(fr:Fr):AOp->Bool
 | .app _ b x _=>zjN b (x.eval G fr)
 | _=>true
theorem zom {G:za0}{fr fr':Fr}{op:AOp}(h:∀t∈op.looks,fr t=fr' t):zbp G fr op=zbp G fr' op:=by
 cases op with
 | app s b x y =>
  simp only[AOp.looks,List.mem_append]at h
  simp only[zbp]
  rw[AX.eval_congr (fr':=fr') (x:=x) fun t ht=>h t (.inl ht)]
 | _=>rfl
def zdh:AOp->Bool
 | .b2s _|.ld _ _|.idxG _ _ _ _ _|.fld _ _ _|.alloc _|.allocB _ _|.box _|.boxS _ _|.st _ _ _|.app _ _ _ _|.mkT _ _ _|.mkR _ _ _ _ _|.s2b _ _|.cpy _ _|.call _ _|.callv _ _|.sls _ _ _ _ _|.slA _ _ _ _ _ _|.rng _|.nxt _|.mkM|.mget _ _|.mset _ _|.inv _ _ _=>false
 | _=>true
theorem zzH {G:za0}{fr:Fr}{H H':Heap}{op:AOp}(hp:zdh op=true):aop G fr H op=aop G fr H' op:=by
 cases op<;>first|rfl|(simp [zdh]at hp;done)|skip
 case lds n x=>cases n<;>rfl
theorem zxC {op:AOp}(hp:zdh op=true):zng op=true:=by
 cases op<;>first|rfl|(simp [zdh]at hp;done)
theorem zl5 {G:za0}{fr:Fr}{op:AOp}(hp:zdh op=true):callee G fr op=none:=by
 cases op<;>first|rfl|(simp [zdh]at hp;done)
def DoV (X:Cx)(op:AOp)(fr:Fr)(H:Heap)(v:AV)(H':Heap):Prop:=
 match csOf op with
 | some (f,as)=>ziC X f (as.map (·.eval X.G fr)) H v H'
 | none=>match cbOf op with
 | some (f,as)=>zl9 X f (as.map (·.eval X.G fr)) H v H'
 | none=>match callee X.G fr op with
 | some (f,args)=>zuL X f args H v/\H'=H
 | none=>(aop X.G fr H op=some (true,v,none)/\H'=H)∨(isW op=true/\zbp X.G fr op=true/\aop X.G fr H op=some (true,v,some H'))
def Yld (X:Cx)(o:zal)(fr:Fr)(H:Heap)(v:AV)(H':Heap):Prop:=
 match o.g with
 | none=>DoV X o.op fr H v H'
 | some (t,b)=>∃c,gval b (fr t)=some c/\(c=true->DoV X o.op fr H v H')/\(c=false->v=noV/\H'=H)
def zan (X:Cx)(op:AOp)(fr:Fr)(H:Heap)(K:AV->Heap->Prop):Prop:=
 match csOf op with
 | some (f,as)=>∃r H',ziC X f (as.map (·.eval X.G fr)) H r H'/\K r H'
 | none=>match cbOf op with
 | some (f,as)=>∃r H',zl9 X f (as.map (·.eval X.G fr)) H r H'/\K r H'
 | none=>match callee X.G fr op with
  | some (f,args)=>∃r,zuL X f args H r/\K r H
  | none=>match aop X.G fr H op with
   | some (c,v,none)=>c=true/\K v H
   | some (c,v,some H')=>isW op=true/\zbp X.G fr op=true/\c=true/\K v H'
   | none=>False
def vcGQ (X:Cx)(t:Nat)(b:Bool)(op:AOp)(fr:Fr)(H:Heap)(K:Fr->AV->Heap->Prop):AV->Prop
 | .bool e=>(e=true->match b with
   | true=>zan X op (fr.updo (some t) (.bool true)) H (K (fr.updo (some t) (.bool true)))
   | false=>K (fr.updo (some t) (.bool true)) noV H) /\
  (e=false->match b with
   | true=>K (fr.updo (some t) (.bool false)) noV H
   | false=>zan X op (fr.updo (some t) (.bool false)) H (K (fr.updo (some t) (.bool false))))
 | .grd false _=>K fr noV H
 | _=>False
def zrM (X:Cx)(o:zal)(fr:Fr)(H:Heap)(K:Fr->AV->Heap->Prop):Prop:=
 match o.g with
 | none=>zan X o.op fr H (K fr)
 | some (t,b)=>vcGQ X t b o.op fr H K (fr t)
def zbx (X:Cx)(K:Fr->Heap->Prop):Heap->List zal->Fr->Prop
 | H,[],fr=>K fr H
 | H,o::r,fr=>zrM X o fr H fun fr v H=>zbx X K H r (fr.updo o.dst v)
def zcq:AOp->Bool
 | .ld _ _=>true
 | op=>zdh op
def zxS:AOp->AOp->Bool
 | .app _ b _ _,.app _ b' _ _=>b % 2 != b' % 2
 | _,_=>false
def stLd:AOp->AOp->Bool
 | .st _ (.m false t) _,.ld _ (.m true u)=>decide (t<65536)==decide (u<65536)
 | _,_=>false
def isS (op:AOp):Bool:=(csOf op).isSome
def isT:AOp->Bool
 | .st _ _ _=>true
 | _=>false
def csSt (x y:AOp):Bool:=(isS x&&isT y)||(isT x&&isS y)
def isB (op:AOp):Bool:=(cbOf op).isSome
def isLm:AOp->Bool
 | .ld _ (.m true u)=>decide (u<65536)
 | _=>false
def cbLd (x y:AOp):Bool:=isB x&&isLm y
def zlp (x y:AOp):Bool:=(if isSt x then zdh y||(stLd x y||(csSt x y||cbLd x y)) else true)&&(if isApp x then zcq y||zxS x y else true)
def zj9 (x y:zal):Bool:=
 (match x.dst with|some d=>!y.looks.contains d&&y.dst != some d|none=>true) &&
 (match y.dst with|some d=>!x.looks.contains d|none=>true) &&
 zlp x.op y.op&&zlp y.op x.op
def zdx (md:Region.Mode)(ops:Array Oper)(D:List Nat)(j:Nat):List Nat:=
 match ops[j]? with
 | some oj=>if oj.after.any (fun e=>Region.binds md e&&D.contains e.on) then j::D else D
 | none=>D
def zfG (md:Region.Mode)(ops:Array Oper)(i:Nat):List Nat:=(List.range ops.size).foldl (zdx md ops) [i]
def zA8 (md:Region.Mode)(ops:Array Oper)(al:List zal)(listed:Array Bool)(i:Nat):Bool:=
 let D:=zfG md ops i
 (List.range ops.size).all fun j=>if D.contains j then j==i||!listed.getD j true else
  listed.getD j true||(match al[i]?,al[j]? with|some x,some y=>zj9 x y|_,_=>false)
def zij (md:Region.Mode)(ops:Array Oper)(al:List zal):Nat->Nat->Array Bool->Bool
 | 0,_,listed=>(Region.ready md ops listed).isEmpty
 | fuel+1,k,listed=>(Region.ready md ops listed).contains k&&zA8 md ops al listed k&&zij md ops al fuel (k+1) (listed.setIfInBounds k true)
def lexA (ops:Array Oper)(al:List zal):Bool:=zij .any ops al ops.size 0 (Array.replicate ops.size false)
section
variable {X:Cx}{N:Nat}{H:Heap}{ops:Array Oper}{al:List zal}{md:Region.Mode}
theorem zGK {op:AOp}{x:FuncId×List AX}(h:csOf op=some x):isSt op=true:=by
 obtain ⟨z,n,rfl⟩:=zeP (f:=x.1) (as:=x.2) h
 rfl
theorem zHI {op:AOp}{x:FuncId×List AX}(h:cbOf op=some x):isSt op=true:=by
 obtain ⟨z,n,rfl⟩:=zeZ (f:=x.1) (as:=x.2) h
 rfl
theorem zAQ {op:AOp}(h:isSt op=false):cbOf op=none:=by
 cases hc:cbOf op with
 | none=>rfl
 | some x=>rw[zHI hc]at h;cases h
theorem zwd {op:AOp}(h:zdh op=true):cbOf op=none:=by
 cases hc:cbOf op with
 | none=>rfl
 | some x =>
  obtain ⟨z,n,rfl⟩:=zeZ (f:=x.1) (as:=x.2) hc
  cases h
theorem zCt {op:AOp}(h:zng op=true):cbOf op=none:=by
 cases hc:cbOf op with
 | none=>rfl
 | some x =>
  obtain ⟨z,n,rfl⟩:=zeZ (f:=x.1) (as:=x.2) hc
  cases h
theorem zAo {op:AOp}(h:isSt op=false):csOf op=none:=by
 cases hc:csOf op with
 | none=>rfl
 | some x=>rw[zGK hc]at h;cases h
theorem zwL {op:AOp}(h:zdh op=true):csOf op=none:=by
 cases hc:csOf op with
 | none=>rfl
 | some x =>
  obtain ⟨z,n,rfl⟩:=zeP (f:=x.1) (as:=x.2) hc
  cases h
theorem zCG {op:AOp}(h:zng op=true):csOf op=none:=by
 cases hc:csOf op with
 | none=>rfl
 | some x =>
  obtain ⟨z,n,rfl⟩:=zeP (f:=x.1) (as:=x.2) hc
  cases h
theorem DoV.congr {op:AOp}{fr fr':Fr}{v:AV}{H':Heap}(h:∀t∈op.looks,fr t=fr' t)(hd:DoV X op fr H v H'):DoV X op fr' H v H':=by
 unfold DoV at hd⊢
 cases hc:csOf op with
 | none =>
  rw[hc]at hd
  simp only at hd⊢
  cases hb:cbOf op with
  | none =>
   rw[hb]at hd
   rw[zqT h,zwg h,zom h]at hd
   exact hd
  | some x =>
   obtain ⟨f,as⟩:=x
   rw[hb]at hd
   obtain ⟨z,n,rfl⟩:=zeZ hb
   simp only[AOp.looks,List.mem_append]at h
   simp only at hd⊢
   rw[zbf (fr':=fr') (as:=as) fun t ht=>h t (.inr ht)]at hd
   exact hd
 | some x =>
  obtain ⟨f,as⟩:=x
  rw[hc]at hd
  obtain ⟨z,n,rfl⟩:=zeP hc
  simp only[AOp.looks,List.mem_append]at h
  simp only at hd⊢
  rw[zbf (fr':=fr') (as:=as) fun t ht=>h t (.inr ht)]at hd
  exact hd
theorem DoV.same {op:AOp}{fr:Fr}{v:AV}{H':Heap}(hp:isW op=false)(hd:DoV X op fr H v H'):H'=H:=by
 unfold DoV at hd
 rw[zAo (by unfold isW at hp;simp only[Bool.or_eq_false_iff]at hp;exact hp.1)]at hd
 simp only at hd
 rw[zAQ (by unfold isW at hp;simp only[Bool.or_eq_false_iff]at hp;exact hp.1)]at hd
 simp only at hd
 split at hd
 ·exact hd.2
 ·rcases hd with hd|⟨hd,_⟩
  ·exact hd.2
  ·rw[hp]at hd;cases hd
theorem DoV.free {op:AOp}{fr:Fr}{v:AV}{H' H2:Heap}(hp:zdh op=true)(hd:DoV X op fr H v H'):DoV X op fr H2 v H2:=by
 unfold DoV at hd⊢
 rw[zwL hp]at hd
 rw[zwL hp]
 simp only at hd⊢
 rw[zwd hp]at hd
 rw[zwd hp]
 simp only at hd⊢
 rw[zl5 hp]at hd
 rw[zl5 hp]
 simp only at hd⊢
 rcases hd with hd|⟨hd,he⟩
 ·rw[zzH hp (H':=H2)]at hd
  exact .inl ⟨hd.1,trivial⟩
 ·have:=ztf (zxC hp) he.2
  cases this
theorem Yld.congr {o:zal}{fr fr':Fr}{v:AV}{H':Heap}(h:∀t∈o.looks,fr t=fr' t)(hd:Yld X o fr H v H'):Yld X o fr' H v H':=by
 unfold Yld at hd⊢
 unfold zal.looks at h
 cases hg:o.g with
 | none =>
  rw[hg]at hd h
  simp only[List.append_nil]at h
  exact hd.congr h
 | some tb =>
  obtain ⟨t,b⟩:=tb
  rw[hg]at hd h
  simp only[List.mem_append]at h
  obtain ⟨c,h1,h2,h3⟩:=hd
  exact ⟨c,by rw[<-h t (.inr (by simp))];exact h1,fun hc=>(h2 hc).congr fun u hu=>h u (.inl hu),h3⟩
theorem Yld.same {o:zal}{fr:Fr}{v:AV}{H':Heap}(hp:isW o.op=false)(hd:Yld X o fr H v H'):H'=H:=by
 unfold Yld at hd
 split at hd
 ·exact hd.same hp
 ·obtain ⟨c,_,h2,h3⟩:=hd
  cases c with
  | true=>exact (h2 rfl).same hp
  | false=>exact (h3 rfl).2
theorem Yld.free {o:zal}{fr:Fr}{v:AV}{H' H2:Heap}(hp:zdh o.op=true)(hd:Yld X o fr H v H'):Yld X o fr H2 v H2:=by
 unfold Yld at hd⊢
 split at hd
 ·rename_i hg
  exact hd.free hp
 ·rename_i t b hg
  obtain ⟨c,h1,h2,h3⟩:=hd
  exact ⟨c,h1,fun hc=>(h2 hc).free hp,fun hc=>⟨(h3 hc).1,rfl⟩⟩
theorem zkS {op:AOp}(hp:zdh op=true):isW op=false:=by
 cases op<;>first|rfl|(simp [zdh]at hp;done)
theorem zpw {op:AOp}(hp:zcq op=true):isW op=false:=by
 cases op<;>first|rfl|(simp [zcq,zdh]at hp;done)
theorem DoV.zcq {op:AOp}{fr:Fr}{v:AV}{H':Heap}{i n m:Nat}(hp:zcq op=true)(hi:H[i]?=some (.tok n))(hd:DoV X op fr H v H'):DoV X op fr (H.set i (.tok m)) v (H.set i (.tok m)):=by
 cases op with
 | ld k x =>
  have e:aop X.G fr (H.set i (.tok m)) (.ld k x)=aop X.G fr H (.ld k x):=by
   have key:∀j:Nat,(H.set i (.tok m))[j]?=H[j]?∨((∃a,(H.set i (.tok m))[j]?=some (.tok a))/\∃a,H[j]?=some (.tok a)):=fun j=>by
    by_cases hji:i=j
    ·subst hji
     refine .inr ⟨⟨m,?_⟩,n,hi⟩
     have hl:i<H.length:=by
      rcases Nat.lt_or_ge i H.length with h'|h'
      ·exact h'
      ·rw[List.getElem?_eq_none h']at hi;cases hi
     rw[List.getElem?_set_self hl]
    ·exact .inl (List.getElem?_set_ne hji)
   cases hx:x.eval X.G fr with
   | ptr id off =>
    rcases key id with h|⟨⟨a,h⟩,b,h'⟩
    ·cases k<;>simp only[aop,hx,h]
    ·cases k<;>simp only[aop,hx,h,h']
   | vp cs=>cases k<;>cases cs<;>simp only[aop,hx]
   | _=>cases k<;>simp only[aop,hx]
  unfold DoV at hd⊢
  simp only[callee,csOf,cbOf]at hd⊢
  rw[e]
  rcases hd with hd|⟨hd,_⟩
  ·exact .inl ⟨hd.1,trivial⟩
  ·exact absurd hd (by simp [isW,isSt,isApp])
 | _=>exact hd.free (by simpa only[Avm.zcq] using hp)
theorem Yld.zcq {o:zal}{fr:Fr}{v:AV}{H':Heap}{i n m:Nat}(hp:zcq o.op=true)(hi:H[i]?=some (.tok n))(hd:Yld X o fr H v H'):Yld X o fr (H.set i (.tok m)) v (H.set i (.tok m)):=by
 unfold Yld at hd⊢
 split at hd
 ·exact hd.zcq hp hi
 ·obtain ⟨c,h1,h2,h3⟩:=hd
  exact ⟨c,h1,fun hc=>(h2 hc).zcq hp hi,fun hc=>⟨(h3 hc).1,rfl⟩⟩
theorem DoV.app {s b:Nat}{x y:AX}{fr:Fr}{v:AV}{H':Heap}(hd:DoV X (.app s b x y) fr H v H') :
  (H'=H/\∀H2,DoV X (.app s b x y) fr H2 v H2)∨∃i n m,i % 2≠b % 2/\H[i]?=some (.tok n)/\H'=H.set i (.tok m)/\∀H2:Heap,H2[i]?=some (.tok n)->DoV X (.app s b x y) fr H2 v (H2.set i (.tok m)):=by
 unfold DoV at hd⊢
 simp only[callee,csOf,cbOf,aop,zbp]at hd⊢
 rcases hd with ⟨hd,rfl⟩|⟨_,hp,hd⟩
 ·refine .inl ⟨rfl,fun H2=>.inl ⟨?_,trivial⟩⟩
  revert hd
  split
  ·split
   ·split
    ·exact id
    ·exact fun h=>absurd h (by simp)
   ·split
    ·exact fun h=>absurd h (by simp)
    ·exact fun h=>absurd h (by simp)
   ·exact fun h=>absurd h (by simp)
  ·exact fun h=>absurd h (by simp)
 ·revert hd
  split
  ·rename_i ys hys
   split
   ·rename_i es hes
    rw[hes]at hp
    simp [zjN]at hp
   ·rename_i i s' es hes
    rw[hes]at hp
    simp only[zjN,bne_iff_ne,ne_eq]at hp
    split
    ·rename_i n hn
     intro h
     simp only[Option.some.injEq,Prod.mk.injEq]at h
     obtain ⟨h1,h2,h3⟩:=h
     refine .inr ⟨i,n,_,hp,hn,h3.symm,fun H2 hn2=>.inr ⟨rfl,by rw[hes];simp only[zjN,bne_iff_ne,ne_eq];exact hp,?_⟩⟩
     simp only[hn2,h1,h2]
    ·intro h;cases h
   ·intro h;cases h
  ·intro h;cases h
theorem Yld.app {o:zal}{s b:Nat}{x y:AX}(ho:o.op=.app s b x y){fr:Fr}{v:AV}{H':Heap}(hd:Yld X o fr H v H') :
  (H'=H/\∀H2,Yld X o fr H2 v H2)∨∃i n m,i % 2≠b % 2/\H[i]?=some (.tok n)/\H'=H.set i (.tok m)/\∀H2:Heap,H2[i]?=some (.tok n)->Yld X o fr H2 v (H2.set i (.tok m)):=by
 unfold Yld at hd⊢
 rw[ho]at hd⊢
 cases hg:o.g with
 | none =>
  rw[hg]at hd
  exact hd.app
 | some tb =>
  obtain ⟨t,bb⟩:=tb
  rw[hg]at hd
  obtain ⟨c,h1,h2,h3⟩:=hd
  cases c with
  | false =>
   obtain ⟨rfl,rfl⟩:=h3 rfl
   exact .inl ⟨rfl,fun H2=>⟨false,h1,(fun e=>nomatch e),fun _=>⟨rfl,rfl⟩⟩⟩
  | true =>
   rcases (h2 rfl).app with ⟨e,h⟩|⟨i,n,m,k1,k2,k3,k4⟩
   ·exact .inl ⟨e,fun H2=>⟨true,h1,fun _=>h H2,(fun e=>nomatch e)⟩⟩
   ·exact .inr ⟨i,n,m,k1,k2,k3,fun H2 hn=>⟨true,h1,fun _=>k4 H2 hn,(fun e=>nomatch e)⟩⟩
theorem ztP {op:AOp}(h:isApp op=true):∃s b x y,op=.app s b x y:=by
 cases op<;>first|exact ⟨_,_,_,_,rfl⟩|(simp [isApp]at h;done)
theorem zrq {op op':AOp}(h:zxS op op'=true):∃s b x y s' b' x' y',op=.app s b x y/\op'=.app s' b' x' y'/\b % 2≠b' % 2:=by
 unfold zxS at h
 split at h
 ·rw[bne_iff_ne]at h
  exact ⟨_,_,_,_,_,_,_,_,rfl,rfl,h⟩
 ·cases h
theorem zz9 {H:Heap}{i n:Nat}(h:H[i]?=some (.tok n)):i<H.length:=by
 rcases Nat.lt_or_ge i H.length with h'|h'
 ·exact h'
 ·rw[List.getElem?_eq_none h']at h;cases h
theorem zzq {H:Heap}{i n m:Nat}(h:H[i]?=some (.tok n)):(H.set i (.tok m)).set i (.tok n)=H:=by
 rw[List.set_set]
 apply List.ext_getElem?
 intro j
 by_cases hji:i=j
 ·subst hji
  rw[List.getElem?_set_self (zz9 h),h]
 ·rw[List.getElem?_set_ne hji]
theorem zwn {op op':AOp}(h:stLd op op'=true):∃n t v k u,op=.st n (.m false t) v/\op'=.ld k (.m true u)/\decide (t<65536)=decide (u<65536):=by
 unfold stLd at h
 split at h
 ·exact ⟨_,_,_,_,_,rfl,rfl,by simpa using h⟩
 ·cases h
theorem zsY {G:za0}{fr:Fr}{b:Bool}{n:Nat}:(∃i o,(AX.m b n).eval G fr=.ptr i o/\fr (n % 65536)=.ptr i o/\parM n i=b)∨(AX.m b n).eval G fr=.undef:=by
 simp only[AX.eval]
 split
 ·split
  ·rename_i i o e h
   exact .inl ⟨_,_,rfl,e,h⟩
  ·exact .inr rfl
 ·exact .inr rfl
theorem DoV.stE {n t:Nat}{x:AX}{fr:Fr}{v:AV}{H':Heap}(hd:DoV X (.st n (.m false t) x) fr H v H'):∃i b,parM t i=false/\i<H.length/\H'=H.set i b:=by
 unfold DoV at hd
 simp only[callee,csOf,cbOf,aop]at hd
 rcases zsY (G:=X.G) (fr:=fr) (b:=false) (n:=t) with ⟨i,o,e,_,hb⟩|e
 ·rw [e]at hd
  simp only at hd
  have hi:parM t i=false:=hb
  cases hc:H[i]? with
  | none=>rw[hc]at hd;simp at hd
  | some b =>
   have hl:i<H.length:=by
    rcases Nat.lt_or_ge i H.length with h'|h'
    ·exact h'
    ·rw[List.getElem?_eq_none h']at hc;cases hc
   rw[hc]at hd
   cases b with
   | box cs =>
    simp only[Option.some.injEq,Prod.mk.injEq,reduceCtorEq,and_false,false_and,false_or]at hd
    exact ⟨i,_,hi,hl,hd.2.2.2.2.symm⟩
   | _=>simp at hd
 ·rw[e]at hd
  simp at hd
theorem DoV.ldO {k:Option Nat}{u:Nat}{fr:Fr}{v:AV}{H':Heap}{i:Nat}{b:Blk}(hi:parM u i=false)(hd:DoV X (.ld k (.m true u)) fr H v H'):DoV X (.ld k (.m true u)) fr (H.set i b) v (H.set i b):=by
 unfold DoV at hd⊢
 have hw:isW (.ld k (.m true u))=false:=rfl
 simp only[callee,csOf,cbOf,hw,Bool.false_eq_true,false_and,or_false]at hd⊢
 refine ⟨?_,trivial⟩
 rw[<-hd.1]
 rcases zsY (G:=X.G) (fr:=fr) (b:=true) (n:=u) with ⟨j,o,e,_,hb⟩|e
 ·have hj:parM u j=true:=hb
  have hij:i≠j:=fun h=>by rw[h,hj]at hi;cases hi
  cases k<;>simp only[aop,e,List.getElem?_set_ne hij]
 ·cases k<;>simp only[aop,e]
theorem Yld.stE {o:zal}{n t:Nat}{x:AX}(ho:o.op=.st n (.m false t) x){fr:Fr}{v:AV}{H':Heap}(hd:Yld X o fr H v H'):H'=H∨∃i b,parM t i=false/\i<H.length/\H'=H.set i b:=by
 unfold Yld at hd
 rw[ho]at hd
 split at hd
 ·exact .inr hd.stE
 ·obtain ⟨c,h1,h2,h3⟩:=hd
  cases c with
  | true=>exact .inr (h2 rfl).stE
  | false=>exact .inl (h3 rfl).2
theorem Yld.ldO {o:zal}{k:Option Nat}{u:Nat}(ho:o.op=.ld k (.m true u)){fr:Fr}{v:AV}{H':Heap}{i:Nat}{b:Blk}(hi:parM u i=false)(hd:Yld X o fr H v H'):Yld X o fr (H.set i b) v (H.set i b):=by
 unfold Yld at hd⊢
 rw[ho]at hd⊢
 split at hd
 ·exact hd.ldO hi
 ·obtain ⟨c,h1,h2,h3⟩:=hd
  exact ⟨c,h1,fun hc=>(h2 hc).ldO hi,fun hc=>⟨(h3 hc).1,rfl⟩⟩
theorem zzI {H:Heap}{i:Nat}{b:Blk}(h:i<H.length):∃c,(H.set i b).set i c=H:=by
 refine ⟨H[i],?_⟩
 rw[List.set_set]
 exact List.set_getElem_self h
theorem zEO {op:AOp}(h:isS op=true):∃f z n as,op=.inv [(f,z)] (.m true n) as:=by
 unfold isS at h
 cases hc:csOf op with
 | none=>rw[hc]at h;cases h
 | some x =>
  obtain ⟨z,n,e⟩:=zeP (f:=x.1) (as:=x.2) hc
  exact ⟨_,z,n,_,e⟩
theorem zEa {op:AOp}(h:isT op=true):∃k a x,op=.st k a x:=by
 unfold isT at h
 split at h
 ·exact ⟨_,_,_,rfl⟩
 ·cases h
theorem Yld.cs {o:zal}(ho:isS o.op=true){fr:Fr}{v:AV}{H':Heap}(hd:Yld X o fr H v H') :
  (H'=H/\∀H2,Yld X o fr H2 v H2)∨∃i T e l,H[i]?=some (.bld T e l)/\H'=H.set i .dead/\∀H2:Heap,H2[i]?=some (.bld T e l)->Yld X o fr H2 v (H2.set i .dead):=by
 obtain ⟨f,z,n,as,e⟩:=zEO ho
 unfold Yld at hd⊢
 rw[e]at hd⊢
 split at hd
 ·rename_i hg
  obtain ⟨i,T,e,l,h1,h2,h3⟩:=ziC.any (show ziC X f (as.map (·.eval X.G fr)) H v H' from hd)
  exact .inr ⟨i,T,e,l,h1,h2,fun H2 hh=>h3 H2 hh⟩
 ·rename_i t b hg
  obtain ⟨c,k1,k2,k3⟩:=hd
  cases c with
  | true =>
   obtain ⟨i,T,e,l,h1,h2,h3⟩:=ziC.any (show ziC X f (as.map (·.eval X.G fr)) H v H' from k2 rfl)
   exact .inr ⟨i,T,e,l,h1,h2,fun H2 hh=>⟨true,k1,fun _=>h3 H2 hh,fun e=>nomatch e⟩⟩
  | false =>
   obtain ⟨rfl,rfl⟩:=k3 rfl
   exact .inl ⟨rfl,fun H2=>⟨false,k1,(fun e=>nomatch e),fun _=>⟨rfl,rfl⟩⟩⟩
theorem DoV.st {n:Nat}{a x:AX}{fr:Fr}{v:AV}{H':Heap}(hd:DoV X (.st n a x) fr H v H') :
  ∃i cs b,H[i]?=some (.box cs)/\H'=H.set i (.box b)/\∀H2:Heap,H2[i]?=some (.box cs)->DoV X (.st n a x) fr H2 v (H2.set i (.box b)):=by
 unfold DoV at hd⊢
 simp only[callee,csOf,cbOf,aop,zbp]at hd⊢
 cases ha:a.eval X.G fr with
 | ptr i o =>
  rw[ha]at hd
  simp only at hd
  cases hc:H[i]? with
  | none=>rw[hc]at hd;simp at hd
  | some b =>
   rw[hc]at hd
   cases b with
   | box cs =>
    simp only[Option.some.injEq,Prod.mk.injEq,reduceCtorEq,and_false,false_and,false_or]at hd
    refine ⟨i,cs,_,hc,hd.2.2.2.2.symm,fun H2 h2=>?_⟩
    simp only[h2,Option.some.injEq,Prod.mk.injEq,reduceCtorEq,and_false,false_and,false_or,and_true]
    exact ⟨hd.1,trivial,hd.2.2.1,hd.2.2.2.1⟩
   | _=>simp at hd
 | _=>rw[ha]at hd;simp at hd
theorem Yld.st {o:zal}(ho:isT o.op=true){fr:Fr}{v:AV}{H':Heap}(hd:Yld X o fr H v H') :
  (H'=H/\∀H2,Yld X o fr H2 v H2)∨∃i cs b,H[i]?=some (.box cs)/\H'=H.set i (.box b)/\∀H2:Heap,H2[i]?=some (.box cs)->Yld X o fr H2 v (H2.set i (.box b)):=by
 obtain ⟨n,a,x,e⟩:=zEa ho
 unfold Yld at hd⊢
 rw[e]at hd⊢
 split at hd
 ·exact .inr hd.st
 ·rename_i t b hg
  obtain ⟨c,k1,k2,k3⟩:=hd
  cases c with
  | true =>
   obtain ⟨i,cs,b,h1,h2,h3⟩:=(k2 rfl).st
   exact .inr ⟨i,cs,b,h1,h2,fun H2 hh=>⟨true,k1,fun _=>h3 H2 hh,fun e=>nomatch e⟩⟩
  | false =>
   obtain ⟨rfl,rfl⟩:=k3 rfl
   exact .inl ⟨rfl,fun H2=>⟨false,k1,(fun e=>nomatch e),fun _=>⟨rfl,rfl⟩⟩⟩
theorem znK {H:Heap}{i j:Nat}{x y:Blk}(h:i≠j)(hj:(H.set i x)[j]?=some y):H[j]?=some y:=by
 rw[List.getElem?_set_ne h]at hj;exact hj
theorem zxO {oi oj:zal}(h1:isS oi.op=true)(h2:isT oj.op=true){fr:Fr}{v u:AV}{H1 H2:Heap}(hy:Yld X oi fr H v H1)(hu:Yld X oj fr H1 u H2) :
  ∃H3,Yld X oj fr H u H3/\Yld X oi fr H3 v H2:=by
 rcases hy.cs h1 with ⟨e,k⟩|⟨i,T,e,l,k1,k2,k3⟩
 ·subst e;exact ⟨H2,hu,k H2⟩
 ·rcases hu.st h2 with ⟨e,m⟩|⟨j,cs,b,m1,m2,m3⟩
  ·subst e;exact ⟨H,m H,hy⟩
  ·have hij:i≠j:=fun e=>by
    subst e
    rw[k2,List.getElem?_set_self (List.getElem?_eq_some_iff.1 k1).1]at m1
    cases m1
   have hj:H[j]?=some (.box cs):=by rw[k2]at m1;exact znK hij m1
   refine ⟨_,m3 H hj,?_⟩
   have:=k3 (H.set j (.box b)) (by rw[List.getElem?_set_ne (Ne.symm hij)];exact k1)
   rw[m2,k2,List.set_comm _ _ hij]
   exact this
theorem zwW {oi oj:zal}(h1:isT oi.op=true)(h2:isS oj.op=true){fr:Fr}{v u:AV}{H1 H2:Heap}(hy:Yld X oi fr H v H1)(hu:Yld X oj fr H1 u H2) :
  ∃H3,Yld X oj fr H u H3/\Yld X oi fr H3 v H2:=by
 rcases hy.st h1 with ⟨e,k⟩|⟨i,cs,b,k1,k2,k3⟩
 ·subst e;exact ⟨H2,hu,k H2⟩
 ·rcases hu.cs h2 with ⟨e,m⟩|⟨j,T,e,l,m1,m2,m3⟩
  ·subst e;exact ⟨H,m H,hy⟩
  ·by_cases hij:i=j
   ·subst hij
    exfalso
    rw[k2,List.getElem?_set_self (List.getElem?_eq_some_iff.1 k1).1]at m1
    cases m1
   ·have hj:H[j]?=some (.bld T e l):=by rw[k2]at m1;exact znK hij m1
    refine ⟨_,m3 H hj,?_⟩
    have:=k3 (H.set j .dead) (by rw[List.getElem?_set_ne (Ne.symm hij)];exact k1)
    rw[m2,k2,List.set_comm _ _ hij]
    exact this
theorem zEF {op:AOp}(h:isB op=true):∃f z n as,op=.inv [(f,z)] (.m false n) as:=by
 unfold isB at h
 cases hc:cbOf op with
 | none=>rw[hc]at h;cases h
 | some x =>
  obtain ⟨z,n,e⟩:=zeZ (f:=x.1) (as:=x.2) hc
  exact ⟨_,z,n,_,e⟩
theorem zwo {op:AOp}(h:isLm op=true):∃k u,op=.ld k (.m true u)/\u<65536:=by
 unfold isLm at h
 split at h
 ·exact ⟨_,_,rfl,by simpa using h⟩
 ·cases h
theorem Yld.cb {o:zal}(ho:isB o.op=true){fr:Fr}{v:AV}{H':Heap}(hd:Yld X o fr H v H') :
  (H'=H/\∀H2,Yld X o fr H2 v H2)∨∃i cs b,oddM i=false/\H[i]?=some (.box cs)/\H'=H.set i (.box b):=by
 obtain ⟨f,z,n,as,e⟩:=zEF ho
 unfold Yld at hd⊢
 rw[e]at hd⊢
 split at hd
 ·rename_i hg
  obtain ⟨i,cs,b,h0,h1,h2,h3⟩:=zl9.any (show zl9 X f (as.map (·.eval X.G fr)) H v H' from hd)
  exact .inr ⟨i,cs,b,h0,h1,h2⟩
 ·rename_i t b hg
  obtain ⟨c,k1,k2,k3⟩:=hd
  cases c with
  | true =>
   obtain ⟨i,cs,b,h0,h1,h2,h3⟩:=zl9.any (show zl9 X f (as.map (·.eval X.G fr)) H v H' from k2 rfl)
   exact .inr ⟨i,cs,b,h0,h1,h2⟩
  | false =>
   obtain ⟨rfl,rfl⟩:=k3 rfl
   exact .inl ⟨rfl,fun H2=>⟨false,k1,(fun e=>nomatch e),fun _=>⟨rfl,rfl⟩⟩⟩
theorem zB3 {oi oj:zal}(h1:isB oi.op=true)(h2:isLm oj.op=true){fr:Fr}{v u:AV}{H1 H2:Heap}(hy:Yld X oi fr H v H1)(hu:Yld X oj fr H1 u H2) :
  ∃H3,Yld X oj fr H u H3/\Yld X oi fr H3 v H2:=by
 obtain ⟨k,w,e2,e5⟩:=zwo h2
 have e:=hu.same (by rw[e2];rfl)
 subst e
 rcases hy.cb h1 with ⟨e,m⟩|⟨i,cs,b,m0,m1,m2⟩
 ·subst e;exact ⟨_,hu,hy⟩
 ·have:=hu.ldO e2 (i:=i) (b:=.box cs) (by rw[pm_a e5];exact m0)
  have e3:H2.set i (.box cs)=H:=by
   rw[m2,List.set_set]
   obtain ⟨hl,he⟩:=List.getElem?_eq_some_iff.1 m1
   rw[<-he,List.set_getElem_self]
  rw[e3]at this
  exact ⟨H,this,hy⟩
theorem zCp {oi oj:zal}(h1:isLm oi.op=true)(h2:isB oj.op=true){fr:Fr}{v u:AV}{H1 H2:Heap}(hy:Yld X oi fr H v H1)(hu:Yld X oj fr H1 u H2) :
  ∃H3,Yld X oj fr H u H3/\Yld X oi fr H3 v H2:=by
 obtain ⟨k,w,e2,e5⟩:=zwo h1
 have e:=hy.same (by rw[e2];rfl)
 subst e
 rcases hu.cb h2 with ⟨e,m⟩|⟨i,cs,b,m0,m1,m2⟩
 ·subst e;exact ⟨_,hu,hy⟩
 ·refine ⟨H2,hu,?_⟩
  rw[m2]
  exact hy.ldO e2 (by rw[pm_a e5];exact m0)
theorem zzf {oi oj:zal}(h1:zlp oi.op oj.op=true)(h2:zlp oj.op oi.op=true){fr:Fr}{v u:AV}{H1 H2:Heap}(hy:Yld X oi fr H v H1)(hu:Yld X oj fr H1 u H2) :
  ∃H3,Yld X oj fr H u H3/\Yld X oi fr H3 v H2:=by
 unfold zlp at h1 h2
 simp only[Bool.and_eq_true]at h1 h2
 cases hs:isSt oi.op with
 | true =>
  have hf:=h1.1
  rw[if_pos hs,Bool.or_eq_true]at hf
  rcases hf with hf|hf
  ·have e:=hu.same (zkS hf)
   subst e
   exact ⟨H,hu.free hf,hy⟩
  rw[Bool.or_eq_true]at hf
  rcases hf with hf|hf
  rotate_left
  ·simp only[csSt,cbLd,Bool.or_eq_true,Bool.and_eq_true]at hf
   rcases hf with (⟨a,b⟩|⟨a,b⟩)|⟨a,b⟩
   ·exact zxO a b hy hu
   ·exact zwW a b hy hu
   ·exact zB3 a b hy hu
  ·obtain ⟨n,t,x,k,w,e1,e2,e5⟩:=zwn hf
   have e:=hu.same (by rw[e2];rfl)
   subst e
   rcases hy.stE e1 with rfl|⟨i,b,hi,hl,rfl⟩
   ·exact ⟨_,hu,hy⟩
   ·obtain ⟨c,hc⟩:=zzI (b:=b) hl
    have:=hu.ldO e2 (i:=i) (b:=c) (by rw[<-zxD e5];exact hi)
    rw[hc]at this
    exact ⟨H,this,hy⟩
 | false =>
  cases hs2:isSt oj.op with
  | true =>
   have hf:=h2.1
   rw[if_pos hs2,Bool.or_eq_true]at hf
   rcases hf with hf|hf
   ·have e:=hy.same (zkS hf)
    subst e
    exact ⟨H2,hu,hy.free hf⟩
   rw[Bool.or_eq_true]at hf
   rcases hf with hf|hf
   rotate_left
   ·simp only[csSt,cbLd,Bool.or_eq_true,Bool.and_eq_true]at hf
    rcases hf with (⟨a,b⟩|⟨a,b⟩)|⟨a,b⟩
    ·exact zwW b a hy hu
    ·exact zxO b a hy hu
    ·exact zCp b a hy hu
   ·obtain ⟨n,t,x,k,w,e1,e2,e5⟩:=zwn hf
    have e:=hy.same (by rw[e2];rfl)
    subst e
    rcases hu.stE e1 with rfl|⟨i,b,hi,hl,rfl⟩
    ·exact ⟨_,hu,hy⟩
    ·exact ⟨_,hu,hy.ldO e2 (by rw[<-zxD e5];exact hi)⟩
  | false =>
   cases ha:isApp oi.op with
   | false =>
    have e:=hy.same (by simp only[isW,hs,ha,Bool.or_self])
    subst e
    cases ha2:isApp oj.op with
    | false =>
     have e:=hu.same (by simp only[isW,hs2,ha2,Bool.or_self])
     subst e
     exact ⟨_,hu,hy⟩
    | true =>
     have hf:=h2.2
     rw[if_pos ha2,Bool.or_eq_true]at hf
     have hf:zcq oi.op=true:=by
      rcases hf with hf|hf
      ·exact hf
      ·obtain ⟨_,_,_,_,_,_,_,_,_,e,_⟩:=zrq hf
       rw[e]at ha
       cases ha
     obtain ⟨s,b,x,y,hx⟩:=ztP ha2
     rcases hu.app hx with ⟨e,k⟩|⟨i,n,m,_,k2,k3,_⟩
     ·subst e;exact ⟨_,hu,hy⟩
     ·refine ⟨H2,hu,?_⟩
      rw[k3]
      exact hy.zcq hf k2
   | true =>
    have hf:=h1.2
    rw[if_pos ha,Bool.or_eq_true]at hf
    obtain ⟨s,b,x,y,hx⟩:=ztP ha
    rcases hf with hf|hf
    ·have e:=hu.same (zpw hf)
     subst e
     rcases hy.app hx with ⟨e,k⟩|⟨i,n,m,_,k2,k3,_⟩
     ·subst e;exact ⟨_,hu,hy⟩
     ·refine ⟨H,?_,hy⟩
      have:=hu.zcq (i:=i) (n:=m) (m:=n) hf (by rw[k3,List.getElem?_set_self (zz9 k2)])
      rw[k3,zzq k2]at this
      exact this
    ·obtain ⟨s',b',x',y',hx',hb⟩:∃s' b' x' y',oj.op=.app s' b' x' y'/\b % 2≠b' % 2:=by
      obtain ⟨_,_,_,_,s',b',x',y',e1,e2,e3⟩:=zrq hf
      rw[hx]at e1
      cases e1
      exact ⟨s',b',x',y',e2,e3⟩
     rcases hy.app hx with ⟨e,k⟩|⟨i,n,m,p1,k2,k3,k4⟩
     ·subst e;exact ⟨H2,hu,k H2⟩
     ·rcases hu.app hx' with ⟨e,k'⟩|⟨j,n',m',p1',k2',k3',k4'⟩
      ·subst e;exact ⟨H,k' H,hy⟩
      ·have hij:i≠j:=fun e=>by omega
       have hj:H[j]?=some (.tok n'):=by rw[k3,List.getElem?_set_ne hij]at k2';exact k2'
       refine ⟨_,k4' H hj,?_⟩
       have:=k4 (H.set j (.tok m')) (by rw[List.getElem?_set_ne (Ne.symm hij)];exact k2)
       rw[k3',k3,List.set_comm _ _ hij]
       exact this
theorem Fr.updo_comm {fr:Fr}{d e:Option Nat}{u v:AV}(h:∀x,d=some x->e≠some x):(fr.updo d u).updo e v=(fr.updo e v).updo d u:=by
 cases d with
 | none=>rfl
 | some d =>
  cases e with
  | none=>rfl
  | some e =>
   have hne:d≠e:=fun he=>h d rfl (by rw[he])
   funext t
   simp only[Fr.updo,Fr.upd]
   split
   ·rename_i h1;subst h1;rw[if_neg (fun he=>hne he.symm)]
   ·rfl
theorem Fr.updo_ne {fr:Fr}{d:Option Nat}{u:AV}{t:Nat}(h:d≠some t):fr.updo d u t=fr t:=by
 cases d with
 | none=>rfl
 | some d=>simp only[Fr.updo,Fr.upd];rw[if_neg (fun he=>h (by rw[he]))]
def qA (X:Cx)(al:List zal)(i:Nat)(K:Fr->Heap->Prop)(fr:Fr)(H:Heap):Prop:=
 match al[i]? with
 | none=>K fr H
 | some o=>∃v H',Yld X o fr H v H'/\K (fr.updo o.dst v) H'
def AnyA (X:Cx)(md:Region.Mode)(ops:Array Oper)(al:List zal)(Kf:Fr->Heap->Prop):Nat->Array Bool->Fr->Heap->Prop
 | 0,listed,fr,H=>Region.ready md ops listed=[]/\Kf fr H
 | fuel+1,listed,fr,H=>(Region.ready md ops listed=[]->Kf fr H)/\∀i∈Region.ready md ops listed,qA X al i (AnyA X md ops al Kf fuel (listed.setIfInBounds i true)) fr H
theorem zAE {i:Nat}{K K':Fr->Heap->Prop}{fr:Fr}(h:∀fr H,K fr H->K' fr H)(hq:qA X al i K fr H):qA X al i K' fr H:=by
 unfold qA at hq⊢
 split
 ·rename_i ho;rw[ho]at hq;exact h _ _ hq
 ·rename_i o ho;rw[ho]at hq;obtain ⟨v,H',h1,h2⟩:=hq;exact ⟨v,H',h1,h _ _ h2⟩
theorem zGn {j:Nat}{oi oj:zal}{v:AV}{H1:Heap}(hj:al[j]?=some oj)(hap:zj9 oi oj=true){K:Fr->Heap->Prop}{fr:Fr}(hy:Yld X oi fr H v H1)(h:qA X al j K (fr.updo oi.dst v) H1) :
  qA X al j (fun fr' H'=>∃H2,Yld X oi fr' H' v H2/\K (fr'.updo oi.dst v) H2) fr H:=by
 have hm:zlp oi.op oj.op=true/\zlp oj.op oi.op=true:=by
  unfold zj9 at hap
  simp only[Bool.and_eq_true]at hap
  exact ⟨hap.1.2,hap.2⟩
 have hap1:∀d,oi.dst=some d->d∉oj.looks/\oj.dst≠some d:=fun d hd=>by
  unfold zj9 at hap
  rw[hd]at hap
  simp only[Bool.and_eq_true,Bool.not_eq_true',bne_iff_ne,ne_eq]at hap
  exact ⟨by simpa using hap.1.1.1.1,hap.1.1.1.2⟩
 have hap2:∀d,oj.dst=some d->d∉oi.looks:=fun d hd=>by
  unfold zj9 at hap
  rw[hd]at hap
  simp only[Bool.and_eq_true,Bool.not_eq_true']at hap
  simpa using hap.1.1.2
 unfold qA at h⊢
 rw[hj]at h⊢
 obtain ⟨u,H2,h1,h2⟩:=h
 have h1':=h1.congr (fr':=fr) fun t ht=>Fr.updo_ne fun hd=>(hap1 t hd).1 ht
 rw[Fr.updo_comm (fun x hx=>(hap1 x hx).2)]at h2
 obtain ⟨H3,k1,k2⟩:=zzf hm.1 hm.2 hy h1'
 exact ⟨u,H3,k1,H2,k2.congr fun t ht=>(Fr.updo_ne fun hd=>hap2 t hd ht).symm,h2⟩
theorem znT {i:Nat}:∀(l:List Nat) (D:List Nat),i∈D->(∀d∈D,d≠i->∃od,ops[d]?=some od/\∃e∈od.after,Region.binds md e=true/\e.on∈D) ->
  i∈l.foldl (zdx md ops) D/\∀d∈l.foldl (zdx md ops) D,d≠i->∃od,ops[d]?=some od/\∃e∈od.after,Region.binds md e=true/\e.on∈l.foldl (zdx md ops) D
 | [],D,h1,h2=>⟨h1,h2⟩
 | j :: l,D,h1,h2=>by
  simp only[List.foldl_cons]
  refine znT l (zdx md ops D j) ?_ ?_
  ·unfold zdx
   split
   ·split
    ·exact List.mem_cons_of_mem _ h1
    ·exact h1
   ·exact h1
  ·unfold zdx
   split
   ·rename_i oj hj
    split
    ·rename_i ha
     intro d hd hne
     rcases List.mem_cons.1 hd with rfl|hd
     ·simp only[Array.any_eq_true,Bool.and_eq_true,List.contains_iff_mem]at ha
      obtain ⟨k,hk,h3,h4⟩:=ha
      exact ⟨oj,hj,_,Array.getElem_mem hk,h3,List.mem_cons_of_mem _ h4⟩
     ·obtain ⟨od,h3,e,h4,h5,h6⟩:=h2 d hd hne
      exact ⟨od,h3,e,h4,h5,List.mem_cons_of_mem _ h6⟩
    ·exact h2
   ·exact h2
theorem znz (i:Nat):i∈zfG md ops i/\∀d∈zfG md ops i,d≠i->∃od,ops[d]?=some od/\∃e∈od.after,Region.binds md e=true/\e.on∈zfG md ops i:=
 znT _ _ (by simp) (by intro d hd hne;simp at hd;exact absurd hd hne)
theorem zuY {Kf:Fr->Heap->Prop}{i:Nat}{oi:zal}{v:AV}(hi:al[i]?=some oi) :
  ∀ (fuel:Nat) (listed:Array Bool) (fr:Fr) (H H1:Heap),
   (∀d∈zfG md ops i,d≠i->listed.getD d true=false) ->
   (∀j oj,ops[j]?=some oj->j∉zfG md ops i->listed.getD j true=false->∃aj,al[j]?=some aj/\zj9 oi aj=true) ->
   i∈Region.ready md ops listed->Yld X oi fr H v H1 ->
   AnyA X md ops al Kf fuel (listed.setIfInBounds i true) (fr.updo oi.dst v) H1->AnyA X md ops al Kf (fuel+1) listed fr H:=by
 intro fuel
 induction fuel with
 | zero =>
  intro listed fr H H1 _ _ hr hy HH
  refine ⟨fun h=>(by rw[h]at hr;cases hr),fun j hj=>?_⟩
  by_cases hji:j=i
  ·subst hji;unfold qA;rw[hi];exact ⟨v,H1,hy,HH⟩
  ·have:=ready_mono hj hji
   rw[HH.1]at this
   cases this
 | succ fuel ih =>
  intro listed fr H H1 hun hfree hr hy HH
  refine ⟨fun h=>(by rw[h]at hr;cases hr),fun j hj=>?_⟩
  by_cases hji:j=i
  ·subst hji;unfold qA;rw[hi];exact ⟨v,H1,hy,HH⟩
  ·have h1:=HH.2 j (ready_mono hj hji)
   obtain ⟨hjun,oj,hoj,hall⟩:=mem_ready.1 hj
   have hnd:j∉zfG md ops i:=fun hd=>by
    obtain ⟨od,h3,e,h4,h5,h6⟩:=(znz (md:=md) (ops:=ops) i).2 j hd hji
    rw[hoj]at h3
    cases h3
    have h7:=hall e h4 h5
    have h0:listed.getD e.on true=false:=by
     by_cases he:e.on=i
     ·rw[he];exact (mem_ready.1 hr).1
     ·exact hun _ h6 he
    rcases Nat.lt_or_ge e.on listed.size with h'|h'
    ·simp [h']at h0 h7;rw[h0]at h7;cases h7
    ·simp [Array.getElem?_eq_none h']at h7
   obtain ⟨aj,haj,hap⟩:=hfree j oj hoj hnd hjun
   have h2:=zGn haj hap hy h1
   have hun':∀d∈zfG md ops i,d≠i->(listed.setIfInBounds j true).getD d true=false:=fun d hd hdi=>by
    rw[getD_set_ne true (fun e=>hnd (by rw[e];exact hd))]
    exact hun d hd hdi
   have hfree':∀k ok,ops[k]?=some ok->k∉zfG md ops i->(listed.setIfInBounds j true).getD k true=false->∃ak,al[k]?=some ak/\zj9 oi ak=true:=fun k ok hk hki hun2=>by
    refine hfree k ok hk hki ?_
    by_cases hjk:j=k
    ·subst hjk;exact hjun
    ·rw[getD_set_ne true hjk]at hun2;exact hun2
   refine zAE (fun a' H' ⟨H2,h3,h4⟩=>ih (listed.setIfInBounds j true) a' H' H2 hun' hfree' (ready_mono hr (Ne.symm hji)) h3 ?_) h2
   rw[Array.setIfInBounds_comm _ _ hji]
   exact h4
theorem zuN {listed:Array Bool}{i:Nat}{oi:zal}(hi:al[i]?=some oi)(h:zA8 md ops al listed i=true) :
  (∀d∈zfG md ops i,d≠i->listed.getD d true=false)/\∀j oj,ops[j]?=some oj->j∉zfG md ops i->listed.getD j true=false->∃aj,al[j]?=some aj/\zj9 oi aj=true:=by
 unfold zA8 at h
 simp only[List.all_eq_true,List.mem_range]at h
 have hlt:∀{j:Nat} {oj:Oper},ops[j]?=some oj->j<ops.size:=fun {j oj} hj=>by
  rcases Nat.lt_or_ge j ops.size with h'|h'
  ·exact h'
  ·simp [Array.getElem?_eq_none h']at hj
 refine ⟨fun d hd hdi=>?_,fun j oj hj hnd hl=>?_⟩
 ·obtain ⟨od,h3,_⟩:=(znz (md:=md) (ops:=ops) i).2 d hd hdi
  have:=h d (hlt h3)
  rw[if_pos (List.contains_iff_mem.2 hd)]at this
  simp only[Bool.or_eq_true,beq_iff_eq,Bool.not_eq_true']at this
  rcases this with h4|h4
  ·exact absurd h4 hdi
  ·exact h4
 ·have:=h j (hlt hj)
  rw[if_neg (fun hc=>hnd (List.contains_iff_mem.1 hc)),hl,hi]at this
  simp only[Bool.false_or]at this
  split at this
  ·rename_i x y hx hy
   cases hx
   exact ⟨y,hy,this⟩
  ·cases this
theorem zqW {op:AOp}{fr:Fr}{K:AV->Heap->Prop}(h:zan X op fr H K):∃v H',DoV X op fr H v H'/\K v H':=by
 unfold zan at h
 unfold DoV
 split at h
 ·obtain ⟨r,H',h1,h2⟩:=h
  exact ⟨r,H',h1,h2⟩
 split at h
 ·obtain ⟨r,H',h1,h2⟩:=h
  exact ⟨r,H',h1,h2⟩
 split at h
 ·obtain ⟨r,h1,h2⟩:=h
  exact ⟨r,H,⟨h1,rfl⟩,h2⟩
 ·split at h
  ·rename_i c v ha
   obtain ⟨rfl,h2⟩:=h
   exact ⟨v,H,.inl ⟨ha,rfl⟩,h2⟩
  ·rename_i c v H' ha
   obtain ⟨h1,h1',rfl,h2⟩:=h
   exact ⟨v,H',.inr ⟨h1,h1',ha⟩,h2⟩
  ·exact h.elim
theorem zuP {t:Nat}{b:Bool}{op:AOp}{fr:Fr}{K:Fr->AV->Heap->Prop}(h:vcGQ X t b op fr H K (fr t)) :
  (gval b (fr t)=some true/\zan X op fr H (K fr))∨(gval b (fr t)=some false/\K fr noV H):=by
 generalize hv:fr t=v at h
 unfold vcGQ at h
 split at h
 ·rename_i e
  cases e with
  | true =>
   have h:=h.1 rfl
   rw[upd_same hv]at h
   cases b with
   | true=>exact .inl ⟨rfl,h⟩
   | false=>exact .inr ⟨rfl,h⟩
  | false =>
   have h:=h.2 rfl
   rw[upd_same hv]at h
   cases b with
   | true=>exact .inr ⟨rfl,h⟩
   | false=>exact .inl ⟨rfl,h⟩
 ·exact .inr ⟨by cases b<;>rfl,h⟩
 ·exact h.elim
theorem zw3 {o:zal}{fr:Fr}{K:Fr->AV->Heap->Prop}(h:zrM X o fr H K):∃v H',Yld X o fr H v H'/\K fr v H':=by
 unfold zrM at h
 unfold Yld
 cases hg:o.g with
 | none =>
  rw[hg]at h
  exact zqW h
 | some tb =>
  obtain ⟨t,b⟩:=tb
  rw[hg]at h
  rcases zuP h with ⟨h1,h2⟩|⟨h1,h2⟩
  ·obtain ⟨v,H',h3,h4⟩:=zqW h2
   exact ⟨v,H',⟨true,h1,fun _=>h3,(fun e=>nomatch e)⟩,h4⟩
  ·exact ⟨noV,H,⟨false,h1,(fun e=>nomatch e),fun _=>⟨rfl,rfl⟩⟩,h2⟩
theorem zgG {K:Fr->Heap->Prop}:∀(l:List zal) (k:Nat) (listed:Array Bool) (fr:Fr) (H:Heap),(∀j:Nat,l[j]?=al[k+j]?)->zij md ops al l.length k listed=true->zbx X K H l fr->AnyA X md ops al K l.length listed fr H
 | [],_,_,_,_,_,hB,h=>⟨by simpa [zij] using hB,h⟩
 | o::l,k,listed,fr,H,hl,hB,h=>by
  have h0:al[k]?=some o:=by simpa using (hl 0).symm
  simp only[List.length_cons,zij,Bool.and_eq_true]at hB
  obtain ⟨⟨hr,hf⟩,hB'⟩:=hB
  obtain ⟨v,H',hy,hK⟩:=zw3 h
  obtain ⟨f1,f2⟩:=zuN h0 hf
  exact zuY h0 l.length listed fr H H' f1 f2 (by simpa using hr) hy
   (zgG l (k+1) _ _ _ (fun j=>by have:=hl (j+1);simpa [Nat.add_assoc,Nat.add_comm 1 j] using this) hB' hK)
theorem cx_m {o:Operand}{b:Bool}{n:Nat}:cx o≠some (.m b n):=by
 intro h
 cases o<;>simp [cx]at h
theorem zlj {P:Program}{b:Bool}{op:Op}{f z n:Nat}{m:Bool}{as2:List AX}(h:zay P b op=some (.inv [(f,z)] (.m m n) as2)):False:=by
 cases op<;>simp only[zay]at h
 case call c =>
  obtain ⟨cal,as,ts⟩:=c
  unfold zdw at h
  split at h
  ·(repeat' split at h)<;>first|(simp at h;done)|(rename_i hx _;simp only[Option.some.injEq,AOp.inv.injEq]at h;rw[h.2.1]at hx;exact cx_m hx)
  ·unfold zbJ at h
   split at h
   ·unfold ze1 at h;split at h<;>simp at h
   ·unfold zeO at h;(repeat' split at h)<;>simp at h
   ·unfold zeN at h;(repeat' split at h)<;>simp at h
   all_goals ((repeat' split at h)<;>simp at h)
  ·(repeat' split at h)<;>first|(simp at h;done)|(rename_i hx _;simp only[Option.some.injEq,AOp.inv.injEq]at h;rw[h.2.1]at hx;exact cx_m hx)
  ·simp only[Option.map_eq_some_iff]at h;obtain ⟨_,_,h⟩:=h;cases h
  ·cases h
 all_goals ((repeat' split at h)<;>first|(cases h;done)|(simp only[Option.map_eq_some_iff]at h;obtain ⟨_,_,h⟩:=h;cases h))
theorem zrF {P:Program}{b:Bool}{op:Op}{ao:AOp}(h:zay P b op=some ao):csOf ao=none:=by
 cases hc:csOf ao with
 | none=>rfl
 | some y =>
  obtain ⟨z,n,rfl⟩:=zeP (f:=y.1) (as:=y.2) hc
  exact (zlj h).elim
theorem zrg {P:Program}{b:Bool}{op:Op}{ao:AOp}(h:zay P b op=some ao):cbOf ao=none:=by
 cases hc:cbOf ao with
 | none=>rfl
 | some y =>
  obtain ⟨z,n,rfl⟩:=zeZ (f:=y.1) (as:=y.2) hc
  exact (zlj h).elim
theorem zl8 {g:Gh}{w:World}{fr:Fr}{a:Act}(hs:StR X N g w fr H a){hint:Nat->Bool}{o:Oper}{ao:zal}(hc:zbt X.P N hint ops o=some ao){v:AV}{H1:Heap}(h:Yld X ao fr H v H1)
  {Kc:Act->World->Prop} {Q:Exit->Act->World->Prop} (hK:∀g' w' a',StR X N g' w' (fr.updo ao.dst v) H1 a'->ExtM g w g' w'->Kc a' w') :
  if Region.wanted o (yielded ops a.tmps) then o.wpIn (Fd X.rd) 0 X.P a w Kc Q else (∀f,o.about X.P w a.eval=some f->(Fd X.rd).fn f)/\Kc (a.put o.dst Go.undef) w:=by
 obtain ⟨⟨b,hop⟩,hdst,hd,hg⟩:=zbN hc
 have key:∀v0,DoV X ao.op fr H v0 H1->(∀g' w' a',StR X N g' w' (fr.updo ao.dst v0) H1 a'->ExtM g w g' w'->Kc a' w')->o.wpIn (Fd X.rd) 0 X.P a w Kc Q:=fun v0 hdo hK=>by
  have hs0:=hs
  unfold DoV at hdo
  rw[zrF hop]at hdo
  rw[hdst]at hK
  simp only at hdo
  rw[zrg hop]at hdo
  simp only at hdo
  split at hdo
  ·rename_i f args hcal
   obtain ⟨hdo,rfl⟩:=hdo
   obtain ⟨vs,hvs,hrun⟩:=zkB hs0 hop hcal hdo.1
   refine zc2 hop hrun (upon_enter ?_)
   refine (hdo.2 g w vs hs.wf hs.hr hvs).mono fun e w' ⟨v,g',h1,h2,h3⟩=>?_
   subst h1
   exact hK g' w' _ (hs.put h3 hd h2) h3.xm
  ·have hdo:∃h',aop X.G fr H ao.op=some (true,v0,h')/\h'.getD H=H1:=by
    rcases hdo with ⟨h1,h2⟩|⟨_,_,h1⟩
    ·exact ⟨none,h1,h2.symm⟩
    ·exact ⟨some H1,h1,rfl⟩
   obtain ⟨h',hdo,hH⟩:=hdo
   obtain ⟨u,w',g',hrun,hgd,hr⟩:=zqR hs0 hop hdo
   rw[hH]at hgd
   rcases hrun with hrun|⟨hrun,rfl⟩
   ·refine zc2 hop hrun ?_;exact hK g' w' _ (hs.put hgd hd hr) hgd.xm
   ·refine zc2 hop hrun ?_;exact hK g' w' _ (hs.put hgd hd hr) hgd.xm
 unfold Yld at h
 rcases hg with ⟨hg1,hg2⟩|⟨j,want,t,hg1,ht,hg2⟩
 ·rw[hg2]at h
  rw[if_pos (by simp [Region.wanted,hg1])]
  exact (key v h hK)
 ·rw [hg2]at h
  obtain ⟨c,hfb,h1,h2⟩:=h
  have hw:=zdC hs hfb hg1 ht
  rw[hw]
  cases c with
  | true =>
   rw[if_pos rfl]
   exact (key v (h1 rfl) hK)
  | false =>
   rw[if_neg (by decide)]
   rw[hdst]at hK
   obtain ⟨h2,h3⟩:=h2 rfl
   subst h2
   subst h3
   exact ⟨fun _ _=>trivial,hK g w _ (hs.putU hd (by simp [noV,Rel])) (ExtM.refl g w)⟩
theorem zcE {hint:Nat->Bool}:∀{l:List Oper} {al:List zal},zaf X.P N hint ops l=some al->∀i:Nat,(l[i]?=none/\al[i]?=none)∨∃o ao,l[i]?=some o/\al[i]?=some ao/\zbt X.P N hint ops o=some ao
 | [],al,h,i=>by simp [zaf]at h;subst h;exact .inl ⟨by simp,by simp⟩
 | o::l,al,h,i=>by
  simp only[zaf]at h
  split at h
  ·rename_i ao al' h1 h2
   cases h
   cases i with
   | zero=>exact .inr ⟨o,ao,rfl,rfl,h1⟩
   | succ i=>simpa using zcE h2 i
  ·cases h
theorem ze0 {hint:Nat->Bool}(hc:zaf X.P N hint ops ops.toList=some al){Kf:Fr->Heap->Prop}{Q:Exit->Act->World->Prop}:∀(fuel:Nat) (listed:Array Bool) {g:Gh} {w:World} {fr:Fr} {H:Heap} {a:Act},StR X N g w fr H a->AnyA X md ops al Kf fuel listed fr H ->
  (∀g' w' fr' H' a',StR X N g' w' fr' H' a'->ExtM g w g' w'->Kf fr' H'->Q .normal a' w')->wpAnyIn (Fd X.rd) 0 X.P md ops Q fuel listed a w
 | 0,_,g,w,fr,H,a,hs,h,hK=>⟨h.1,hK g w fr H a hs (ExtM.refl g w) h.2⟩
 | fuel+1,listed,g,w,fr,H,a,hs,h,hK=>by
  refine ⟨fun h0=>hK g w fr H a hs (ExtM.refl g w) (h.1 h0),fun i hi=>?_⟩
  have h1:=h.2 i hi
  unfold qA at h1
  unfold wpOpIn
  rcases zcE hc i with ⟨h2,h3⟩|⟨o,ao,h2,h3,h4⟩
  ·rw[h3]at h1
   rw[show ops[i]?=none by simpa using h2]
   exact ze0 hc fuel _ hs h1 hK
  ·rw[h3]at h1
   obtain ⟨v,H1,hy,h5⟩:=h1
   rw[show ops[i]?=some o by simpa using h2]
   exact zl8 hs h4 hy fun g' w' a' hs' he=>ze0 hc fuel _ hs' h5 fun g'' w'' fr'' H'' a'' hs'' he' hk=>hK g'' w'' fr'' H'' a'' hs'' (he.trans he') hk
theorem StR.drew {g:Gh}{w:World}{fr:Fr}{a:Act}(hs:StR X N g w fr H a):StR X N g { w with drawn:=w.drawn+1 } fr H a:=by
 have hm:Mono g w g { w with drawn:=w.drawn+1 }:=⟨fun _ _ h=>⟨h,rfl⟩,fun _ _ h=>h,fun _ n h=>⟨n,h,.inl ⟨rfl,rfl⟩⟩⟩
 exact ⟨⟨hs.wf.S,hs.wf.inj,hs.wf.tinj,hs.wf.apart,hs.wf.bx,hs.wf.tk,fun x cs hx=>Rel.mono _ hm (hs.wf.laid x cs hx),hs.wf.ex⟩,
  ⟨fun i x hx=>(hs.hr.blk i x hx).mono hm (fun _ _=>rfl) (fun _ h=>h) (fun _ _ _ h=>⟨h,rfl⟩),hs.hr.far⟩,fun t=>Rel.mono _ hm (hs.fr t),hs.size,hs.defers,hs.n0⟩
theorem Ext.drew {g:Gh}{w:World}:Ext g w g { w with drawn:=w.drawn+1 }:=
 ⟨Nat.le_refl _,fun _ _ h=>h,fun _ _ h=>.inl h,fun _ _ _ _=>rfl,fun _ _ _=>rfl,fun _ vs _ fz h=>⟨vs,fz,h,rfl,.inl rfl⟩,fun _ _ h=>.inr h,rfl,rfl⟩
def mkN (alt:Bool)(n:Nat):Nat:=if alt then n+65536 else n
theorem zv8 {alt:Bool}{n:Nat}(h:n<65536):mkN alt n % 65536=n:=by
 unfold mkN
 cases alt
 ·simp;omega
 ·simp;omega
def znJ (alt:Bool):AOp->AOp
 | .ld k (.t n)=>if n<65536 then .ld k (.m true (mkN alt n)) else .ld k (.t n)
 | .st k (.t n) v=>if n<65536 then .st k (.m false (mkN alt n)) v else .st k (.t n) v
 | op=>op
def mark (alt:Bool)(o:zal):zal:={ o with op:=znJ alt o.op }
theorem zn5 {alt:Bool}{op:AOp}{fr:Fr}{v:AV}{H':Heap}(h:DoV X (znJ alt op) fr H v H'):DoV X op fr H v H':=by
 unfold znJ at h
 split at h
 ·rename_i k n
  split at h
  rotate_left
  ·exact h
  rename_i hn
  unfold DoV at h⊢
  have hw:∀x,isW (.ld k x)=false:=fun _=>rfl
  simp only[callee,csOf,cbOf,hw,Bool.false_eq_true,false_and,or_false]at h⊢
  refine ⟨?_,h.2⟩
  rcases zsY (G:=X.G) (fr:=fr) (b:=true) (n:=mkN alt n) with ⟨j,o,e,e2,hb⟩|e
  ·rw[zv8 hn]at e2
   have e3:(AX.t n).eval X.G fr=.ptr j o:=e2
   rw[<-h.1]
   cases k<;>simp only[aop,e,e3]
  ·have h:=h.1
   cases k<;>simp [aop,e]at h
 ·rename_i k n x
  split at h
  rotate_left
  ·exact h
  rename_i hn
  unfold DoV at h⊢
  simp only[callee,csOf,cbOf,zbp]at h⊢
  have:aop X.G fr H (.st k (.m false (mkN alt n)) x)=aop X.G fr H (.st k (.t n) x)∨aop X.G fr H (.st k (.m false (mkN alt n)) x)=none:=by
   rcases zsY (G:=X.G) (fr:=fr) (b:=false) (n:=mkN alt n) with ⟨j,o,e,e2,hb⟩|e
   ·refine .inl ?_
    rw[zv8 hn]at e2
    have e3:(AX.t n).eval X.G fr=.ptr j o:=e2
    simp only[aop,e,e3]
   ·exact .inr (by simp only[aop,e])
  rcases this with e|e
  ·rw[e]at h;exact h
  ·rw[e]at h;simp at h
 ·exact h
theorem znV {alt:Bool}{o:zal}{fr:Fr}{v:AV}{H':Heap}(h:Yld X (mark alt o) fr H v H'):Yld X o fr H v H':=by
 unfold Yld mark at h
 unfold Yld
 split
 ·rename_i hg
  rw[hg]at h
  exact zn5 h
 ·rename_i t b hg
  rw[hg]at h
  obtain ⟨c,h1,h2,h3⟩:=h
  exact ⟨c,h1,fun hc=>zn5 (h2 hc),h3⟩
theorem zhf {alt:Bool}{Kf:Fr->Heap->Prop}:∀(fuel:Nat) (listed:Array Bool) (fr:Fr) (H:Heap),AnyA X md ops (al.map (mark alt)) Kf fuel listed fr H->AnyA X md ops al Kf fuel listed fr H
 | 0,_,_,_,h=>h
 | fuel+1,listed,fr,H,h=>⟨h.1,fun i hi=>by
  have h2:=h.2 i hi
  unfold qA at h2⊢
  rw[List.getElem?_map]at h2
  cases ho:al[i]? with
  | none =>
   rw[ho]at h2
   exact zhf fuel _ _ _ h2
  | some o =>
   rw[ho]at h2
   obtain ⟨v,H',k1,k2⟩:=h2
   exact ⟨v,H',znV k1,zhf fuel _ _ _ k2⟩⟩
theorem zmP {id:Nat}{fr:Fr}{hint:Nat->Bool}{Q:Exit->Fr->Heap->Prop}(hm:X.P.follows .mixedOrders=true)(hc:zaf X.P N hint ops ops.toList=some al)(hB:lexA ops al=true)(h:zbx X (Q .normal) H al fr) :
  Ex X N (.region id ops true) fr H Q:=fun g w a hs=>by
 have hlen:al.length=ops.size:=by
  have:∀{l:List Oper} {al:List zal},zaf X.P N hint ops l=some al->al.length=l.length:=by
   intro l
   induction l with
   | nil=>intro al h;simp [zaf]at h;subst h;rfl
   | cons o l ih =>
    intro al h
    simp only[zaf]at h
    split at h
    ·rename_i ao al' h1 h2
     cases h
     simp [ih h2]
    ·cases h
  rw[this hc];simp
 refine wpIn_region_any hm ?_
 have h1:=zgG (X:=X) (ops:=ops) (al:=al) (md:=.any) al 0 (Array.replicate ops.size false) fr H (fun j=>by rw[Nat.zero_add]) (by rw[hlen];exact hB) h
 rw[hlen]at h1
 exact ze0 hc _ _ hs.drew h1 fun g' w' fr' H' a' hs' he hk=>⟨g',fr',H',hs',ExtM.trans ⟨Ext.drew,fun _ _ h=>⟨h,rfl⟩,fun _ _ h=>h,fun _ n h=>⟨n,h,.inl ⟨rfl,rfl⟩⟩⟩ he,hk⟩
theorem zmI {id:Nat}{alt:Bool}{fr:Fr}{hint:Nat->Bool}{Q:Exit->Fr->Heap->Prop}(hm:X.P.follows .mixedOrders=true)(hc:zaf X.P N hint ops ops.toList=some al)(hB:lexA ops (al.map (mark alt))=true)(h:zbx X (Q .normal) H (al.map (mark alt)) fr) :
  Ex X N (.region id ops true) fr H Q:=fun g w a hs=>by
 have hlen:(al.map (mark alt)).length=ops.size:=by
  have:∀{l:List Oper} {al:List zal},zaf X.P N hint ops l=some al->al.length=l.length:=by
   intro l
   induction l with
   | nil=>intro al h;simp [zaf]at h;subst h;rfl
   | cons o l ih =>
    intro al h
    simp only[zaf]at h
    split at h
    ·rename_i ao al' h1 h2
     cases h
     simp [ih h2]
    ·cases h
  rw[List.length_map,this hc];simp
 refine wpIn_region_any hm ?_
 have h1:=zgG (X:=X) (ops:=ops) (al:=al.map (mark alt)) (md:=.any) (al.map (mark alt)) 0 (Array.replicate ops.size false) fr H (fun j=>by rw[Nat.zero_add]) (by rw[hlen];exact hB) h
 rw[hlen]at h1
 exact ze0 hc _ _ hs.drew (zhf _ _ _ _ h1) fun g' w' fr' H' a' hs' he hk=>⟨g',fr',H',hs',ExtM.trans ⟨Ext.drew,fun _ _ h=>⟨h,rfl⟩,fun _ _ h=>h,fun _ n h=>⟨n,h,.inl ⟨rfl,rfl⟩⟩⟩ he,hk⟩
def znv:AOp->AOp
 | .ld k x=>.lds k x
 | op=>op
def stab (o:zal):zal:={ o with op:=znv o.op }
theorem znc {op:AOp}{fr:Fr}{v:AV}{H':Heap}(h:DoV X (znv op) fr H v H'):DoV X op fr H v H':=by
 unfold znv at h
 split at h
 ·rename_i k x
  unfold DoV at h⊢
  have hw:∀x,isW (.ld k x)=false:=fun _=>rfl
  have hw':∀x,isW (.lds k x)=false:=fun _=>rfl
  simp only[callee,csOf,cbOf,hw,hw',Bool.false_eq_true,false_and,or_false]at h⊢
  refine ⟨?_,h.2⟩
  have h:=h.1
  cases k<;>simp only[aop]at h⊢<;>split at h<;>first|(cases h;done)|skip
  ·rename_i e;rw[e];exact h
  ·rename_i e;rw[e];exact h
 ·exact h
theorem znD {o:zal}{fr:Fr}{v:AV}{H':Heap}(h:Yld X (stab o) fr H v H'):Yld X o fr H v H':=by
 unfold Yld stab at h
 unfold Yld
 split
 ·rename_i hg
  rw[hg]at h
  exact znc h
 ·rename_i t b hg
  rw[hg]at h
  obtain ⟨c,h1,h2,h3⟩:=h
  exact ⟨c,h1,fun hc=>znc (h2 hc),h3⟩
theorem zhh {Kf:Fr->Heap->Prop}:∀(fuel:Nat) (listed:Array Bool) (fr:Fr) (H:Heap),AnyA X md ops (al.map stab) Kf fuel listed fr H->AnyA X md ops al Kf fuel listed fr H
 | 0,_,_,_,h=>h
 | fuel+1,listed,fr,H,h=>⟨h.1,fun i hi=>by
  have h2:=h.2 i hi
  unfold qA at h2⊢
  rw[List.getElem?_map]at h2
  cases ho:al[i]? with
  | none =>
   rw[ho]at h2
   exact zhh fuel _ _ _ h2
  | some o =>
   rw[ho]at h2
   obtain ⟨v,H',k1,k2⟩:=h2
   exact ⟨v,H',znD k1,zhh fuel _ _ _ k2⟩⟩
theorem zmZ {id:Nat}{fr:Fr}{hint:Nat->Bool}{Q:Exit->Fr->Heap->Prop}(hm:X.P.follows .mixedOrders=true)(hc:zaf X.P N hint ops ops.toList=some al)(hB:lexA ops (al.map stab)=true)(h:zbx X (Q .normal) H (al.map stab) fr) :
  Ex X N (.region id ops true) fr H Q:=fun g w a hs=>by
 have hlen:(al.map stab).length=ops.size:=by
  have:∀{l:List Oper} {al:List zal},zaf X.P N hint ops l=some al->al.length=l.length:=by
   intro l
   induction l with
   | nil=>intro al h;simp [zaf]at h;subst h;rfl
   | cons o l ih =>
    intro al h
    simp only[zaf]at h
    split at h
    ·rename_i ao al' h1 h2
     cases h
     simp [ih h2]
    ·cases h
  rw[List.length_map,this hc];simp
 refine wpIn_region_any hm ?_
 have h1:=zgG (X:=X) (ops:=ops) (al:=al.map stab) (md:=.any) (al.map stab) 0 (Array.replicate ops.size false) fr H (fun j=>by rw[Nat.zero_add]) (by rw[hlen];exact hB) h
 rw[hlen]at h1
 exact ze0 hc _ _ hs.drew (zhh _ _ _ _ h1) fun g' w' fr' H' a' hs' he hk=>⟨g',fr',H',hs',ExtM.trans ⟨Ext.drew,fun _ _ h=>⟨h,rfl⟩,fun _ _ h=>h,fun _ n h=>⟨n,h,.inl ⟨rfl,rfl⟩⟩⟩ he,hk⟩
def zzN (P:Program)(f:FuncId):Bool:=(P.funcs[f]?).map (·.name)==some "(*strings.Builder).String"
def zyf (P:Program):AOp->AOp
 | .call f [.t n]=>if zzN P f then .inv [(f,0)] (.m true n) [.t n] else .call f [.t n]
 | op=>op
def strB (P:Program)(o:zal):zal:={ o with op:=zyf P (znv o.op) }
def zGi (P:Program)(al:List zal):Bool:=al.any fun o=>match o.op with
 | .call f [.t _]=>zzN P f
 | _=>false
theorem zrY (P:Program)(op:AOp):zyf P op=op∨∃f n,op=.call f [.t n]/\zyf P op=.inv [(f,0)] (.m true n) [.t n]:=by
 unfold zyf
 split
 ·split
  ·exact .inr ⟨_,_,rfl,rfl⟩
  ·exact .inl rfl
 ·exact .inl rfl
theorem zvc {g:Gh}{w:World}{fr:Fr}{a:Act}(hs:StR X N g w fr H a){hint:Nat->Bool}{o:Oper}{ao:zal}(hc:zbt X.P N hint ops o=some ao){v:AV}{H1:Heap}(h:Yld X (strB X.P ao) fr H v H1)
  {Kc:Act->World->Prop} {Q:Exit->Act->World->Prop} (hK:∀g' w' a',StR X N g' w' (fr.updo ao.dst v) H1 a'->ExtM g w g' w'->Kc a' w') :
  if Region.wanted o (yielded ops a.tmps) then o.wpIn (Fd X.rd) 0 X.P a w Kc Q else (∀f,o.about X.P w a.eval=some f->(Fd X.rd).fn f)/\Kc (a.put o.dst Go.undef) w:=by
 rcases zrY X.P (znv ao.op) with e|⟨f,n,e1,e2⟩
 ·refine zl8 hs hc (znD (?_:Yld X (stab ao) fr H v H1)) hK
  unfold strB at h
  rw[e]at h
  exact h
 ·have e3:ao.op=.call f [.t n]:=by
   unfold znv at e1
   split at e1
   ·cases e1
   ·exact e1
  obtain ⟨⟨b,hop⟩,hdst,hd,hg⟩:=zbN hc
  have key:∀v0,ziC X f [fr n] H v0 H1->(∀g' w' a',StR X N g' w' (fr.updo ao.dst v0) H1 a'->ExtM g w g' w'->Kc a' w')->o.wpIn (Fd X.rd) 0 X.P a w Kc Q:=fun v0 hdo hK=>by
   have hs0:=hs
   rw[hdst]at hK
   obtain ⟨i,T,e,l,k1,k2,k3,k4,k5,k6⟩:=hdo
   have hcal:callee X.G fr ao.op=some (f,[fr n]):=by rw[e3];rfl
   obtain ⟨vs,hvs,hrun⟩:=zkB hs0 hop hcal k5
   refine zc2 hop hrun (upon_enter ?_)
   refine (k6 H k2 g w vs hs.wf hs.hr hvs).mono fun e w' ⟨v,g',h1,h2,h3⟩=>?_
   subst h1
   rw[<-k4]at h3
   exact hK g' w' _ (hs.put h3 hd h2) h3.xm
  unfold Yld strB at h
  rw[e2]at h
  rcases hg with ⟨hg1,hg2⟩|⟨j,want,t,hg1,ht,hg2⟩
  ·rw[hg2]at h
   rw[if_pos (by simp [Region.wanted,hg1])]
   exact (key v h hK)
  ·rw [hg2]at h
   obtain ⟨c,hfb,h1,h2⟩:=h
   have hw:=zdC hs hfb hg1 ht
   rw[hw]
   cases c with
   | true =>
    rw[if_pos rfl]
    exact (key v (h1 rfl) hK)
   | false =>
    rw[if_neg (by decide)]
    rw[hdst]at hK
    obtain ⟨h2,h3⟩:=h2 rfl
    subst h2
    subst h3
    exact ⟨fun _ _=>trivial,hK g w _ (hs.putU hd (by simp [noV,Rel])) (ExtM.refl g w)⟩
theorem ziP {hint:Nat->Bool}(hc:zaf X.P N hint ops ops.toList=some al){Kf:Fr->Heap->Prop}{Q:Exit->Act->World->Prop}:∀(fuel:Nat) (listed:Array Bool) {g:Gh} {w:World} {fr:Fr} {H:Heap} {a:Act},StR X N g w fr H a->AnyA X md ops (al.map (strB X.P)) Kf fuel listed fr H ->
  (∀g' w' fr' H' a',StR X N g' w' fr' H' a'->ExtM g w g' w'->Kf fr' H'->Q .normal a' w')->wpAnyIn (Fd X.rd) 0 X.P md ops Q fuel listed a w
 | 0,_,g,w,fr,H,a,hs,h,hK=>⟨h.1,hK g w fr H a hs (ExtM.refl g w) h.2⟩
 | fuel+1,listed,g,w,fr,H,a,hs,h,hK=>by
  refine ⟨fun h0=>hK g w fr H a hs (ExtM.refl g w) (h.1 h0),fun i hi=>?_⟩
  have h1:=h.2 i hi
  unfold qA at h1
  unfold wpOpIn
  rw[List.getElem?_map]at h1
  rcases zcE hc i with ⟨h2,h3⟩|⟨o,ao,h2,h3,h4⟩
  ·rw[h3]at h1
   rw[show ops[i]?=none by simpa using h2]
   exact ziP hc fuel _ hs h1 hK
  ·rw[h3]at h1
   obtain ⟨v,H1,hy,h5⟩:=h1
   rw[show ops[i]?=some o by simpa using h2]
   exact zvc hs h4 hy fun g' w' a' hs' he=>ziP hc fuel _ hs' h5 fun g'' w'' fr'' H'' a'' hs'' he' hk=>hK g'' w'' fr'' H'' a'' hs'' (he.trans he') hk
theorem zol {id:Nat}{fr:Fr}{hint:Nat->Bool}{Q:Exit->Fr->Heap->Prop}(hm:X.P.follows .mixedOrders=true)(hc:zaf X.P N hint ops ops.toList=some al)(hB:lexA ops (al.map (strB X.P))=true)(h:zbx X (Q .normal) H (al.map (strB X.P)) fr) :
  Ex X N (.region id ops true) fr H Q:=fun g w a hs=>by
 have hlen:(al.map (strB X.P)).length=ops.size:=by
  have:∀{l:List Oper} {al:List zal},zaf X.P N hint ops l=some al->al.length=l.length:=by
   intro l
   induction l with
   | nil=>intro al h;simp [zaf]at h;subst h;rfl
   | cons o l ih =>
    intro al h
    simp only[zaf]at h
    split at h
    ·rename_i ao al' h1 h2
     cases h
     simp [ih h2]
    ·cases h
  rw[List.length_map,this hc];simp
 refine wpIn_region_any hm ?_
 have h1:=zgG (X:=X) (ops:=ops) (al:=al.map (strB X.P)) (md:=.any) (al.map (strB X.P)) 0 (Array.replicate ops.size false) fr H (fun j=>by rw[Nat.zero_add]) (by rw[hlen];exact hB) h
 rw[hlen]at h1
 exact ziP hc _ _ hs.drew h1 fun g' w' fr' H' a' hs' he hk=>⟨g',fr',H',hs',ExtM.trans ⟨Ext.drew,fun _ _ h=>⟨h,rfl⟩,fun _ _ h=>h,fun _ n h=>⟨n,h,.inl ⟨rfl,rfl⟩⟩⟩ he,hk⟩
def wrOp (hint:Nat->Bool)(d:Option Nat):AOp->AOp
 | .call f (.t n::as)=>match d with
  | some d=>if hint d then .inv [(f,1)] (.m false n) (.t n::as) else .call f (.t n::as)
  | none=>.call f (.t n::as)
 | op=>op
def wrB (hint:Nat->Bool)(o:zal):zal:={ o with op:=wrOp hint o.dst (znJ false o.op) }
def hasB (hint:Nat->Bool)(al:List zal):Bool:=al.any fun o=>match o.dst,o.op with
 | some d,.call _ (.t _::_)=>hint d
 | _,_=>false
theorem zva (hint:Nat->Bool)(d:Option Nat)(op:AOp):wrOp hint d op=op∨∃f n as,op=.call f (.t n::as)/\wrOp hint d op=.inv [(f,1)] (.m false n) (.t n::as):=by
 unfold wrOp
 split
 ·split
  ·split
   ·exact .inr ⟨_,_,_,rfl,rfl⟩
   ·exact .inl rfl
  ·exact .inl rfl
 ·exact .inl rfl
theorem zup {g:Gh}{w:World}{fr:Fr}{a:Act}(hs:StR X N g w fr H a){hint:Nat->Bool}{o:Oper}{ao:zal}(hc:zbt X.P N hint ops o=some ao){v:AV}{H1:Heap}(h:Yld X (wrB hint ao) fr H v H1)
  {Kc:Act->World->Prop} {Q:Exit->Act->World->Prop} (hK:∀g' w' a',StR X N g' w' (fr.updo ao.dst v) H1 a'->ExtM g w g' w'->Kc a' w') :
  if Region.wanted o (yielded ops a.tmps) then o.wpIn (Fd X.rd) 0 X.P a w Kc Q else (∀f,o.about X.P w a.eval=some f->(Fd X.rd).fn f)/\Kc (a.put o.dst Go.undef) w:=by
 rcases zva hint ao.dst (znJ false ao.op) with e|⟨f,n,as,e1,e2⟩
 ·refine zl8 hs hc (znV (?_:Yld X (mark false ao) fr H v H1)) hK
  unfold wrB at h
  rw[e]at h
  exact h
 ·have e3:ao.op=.call f (.t n::as):=by
   unfold znJ at e1
   split at e1
   ·split at e1<;>cases e1
   ·split at e1<;>cases e1
   ·exact e1
  obtain ⟨⟨b,hop⟩,hdst,hd,hg⟩:=zbN hc
  have key:∀v0,zl9 X f ((AX.t n::as).map (·.eval X.G fr)) H v0 H1->(∀g' w' a',StR X N g' w' (fr.updo ao.dst v0) H1 a'->ExtM g w g' w'->Kc a' w')->o.wpIn (Fd X.rd) 0 X.P a w Kc Q:=fun v0 hdo hK=>by
   have hs0:=hs
   rw[hdst]at hK
   obtain ⟨i,cs,bb,k1,k2,k4,k5,k6⟩:=hdo
   have hcal:callee X.G fr ao.op=some (f,(AX.t n::as).map (·.eval X.G fr)):=by rw[e3];rfl
   obtain ⟨vs,hvs,hrun⟩:=zkB hs0 hop hcal k5
   refine zc2 hop hrun (upon_enter ?_)
   refine (k6 H k2 g w vs hs.wf hs.hr hvs).mono fun e w' ⟨v,g',h1,h2,h3⟩=>?_
   subst h1
   rw[<-k4]at h3
   exact hK g' w' _ (hs.put h3 hd h2) h3.xm
  unfold Yld wrB at h
  rw[e2]at h
  rcases hg with ⟨hg1,hg2⟩|⟨j,want,t,hg1,ht,hg2⟩
  ·rw[hg2]at h
   rw[if_pos (by simp [Region.wanted,hg1])]
   exact (key v h hK)
  ·rw [hg2]at h
   obtain ⟨c,hfb,h1,h2⟩:=h
   have hw:=zdC hs hfb hg1 ht
   rw[hw]
   cases c with
   | true =>
    rw[if_pos rfl]
    exact (key v (h1 rfl) hK)
   | false =>
    rw[if_neg (by decide)]
    rw[hdst]at hK
    obtain ⟨h2,h3⟩:=h2 rfl
    subst h2
    subst h3
    exact ⟨fun _ _=>trivial,hK g w _ (hs.putU hd (by simp [noV,Rel])) (ExtM.refl g w)⟩
theorem zg6 {hint:Nat->Bool}(hc:zaf X.P N hint ops ops.toList=some al){Kf:Fr->Heap->Prop}{Q:Exit->Act->World->Prop}:∀(fuel:Nat) (listed:Array Bool) {g:Gh} {w:World} {fr:Fr} {H:Heap} {a:Act},StR X N g w fr H a->AnyA X md ops (al.map (wrB hint)) Kf fuel listed fr H ->
  (∀g' w' fr' H' a',StR X N g' w' fr' H' a'->ExtM g w g' w'->Kf fr' H'->Q .normal a' w')->wpAnyIn (Fd X.rd) 0 X.P md ops Q fuel listed a w
 | 0,_,g,w,fr,H,a,hs,h,hK=>⟨h.1,hK g w fr H a hs (ExtM.refl g w) h.2⟩
 | fuel+1,listed,g,w,fr,H,a,hs,h,hK=>by
  refine ⟨fun h0=>hK g w fr H a hs (ExtM.refl g w) (h.1 h0),fun i hi=>?_⟩
  have h1:=h.2 i hi
  unfold qA at h1
  unfold wpOpIn
  rw[List.getElem?_map]at h1
  rcases zcE hc i with ⟨h2,h3⟩|⟨o,ao,h2,h3,h4⟩
  ·rw[h3]at h1
   rw[show ops[i]?=none by simpa using h2]
   exact zg6 hc fuel _ hs h1 hK
  ·rw[h3]at h1
   obtain ⟨v,H1,hy,h5⟩:=h1
   rw[show ops[i]?=some o by simpa using h2]
   exact zup hs h4 hy fun g' w' a' hs' he=>zg6 hc fuel _ hs' h5 fun g'' w'' fr'' H'' a'' hs'' he' hk=>hK g'' w'' fr'' H'' a'' hs'' (he.trans he') hk
theorem zq9 {id:Nat}{fr:Fr}{hint:Nat->Bool}{Q:Exit->Fr->Heap->Prop}(hm:X.P.follows .mixedOrders=true)(hc:zaf X.P N hint ops ops.toList=some al)(hB:lexA ops (al.map (wrB hint))=true)(h:zbx X (Q .normal) H (al.map (wrB hint)) fr) :
  Ex X N (.region id ops true) fr H Q:=fun g w a hs=>by
 have hlen:(al.map (wrB hint)).length=ops.size:=by
  have:∀{l:List Oper} {al:List zal},zaf X.P N hint ops l=some al->al.length=l.length:=by
   intro l
   induction l with
   | nil=>intro al h;simp [zaf]at h;subst h;rfl
   | cons o l ih =>
    intro al h
    simp only[zaf]at h
    split at h
    ·rename_i ao al' h1 h2
     cases h
     simp [ih h2]
    ·cases h
  rw[List.length_map,this hc];simp
 refine wpIn_region_any hm ?_
 have h1:=zgG (X:=X) (ops:=ops) (al:=al.map (wrB hint)) (md:=.any) (al.map (wrB hint)) 0 (Array.replicate ops.size false) fr H (fun j=>by rw[Nat.zero_add]) (by rw[hlen];exact hB) h
 rw[hlen]at h1
 exact zg6 hc _ _ hs.drew h1 fun g' w' fr' H' a' hs' he hk=>⟨g',fr',H',hs',ExtM.trans ⟨Ext.drew,fun _ _ h=>⟨h,rfl⟩,fun _ _ h=>h,fun _ n h=>⟨n,h,.inl ⟨rfl,rfl⟩⟩⟩ he,hk⟩
end
end Go.Avm
namespace Go.Avm
open Go
def zyK:ACode->Bool
  | .goto _=>true
  | .seq a b|.cond _ a b|.rangeF _ _ a b=>zyK a||zyK b
  | .block _ c|.loop c|.scope c|.scopeJ c=>zyK c
  | _=>false
def compile (P:Program)(N:Nat)(hint:Nat->Bool):Code->Option ACode
  | .skip=>some .skip
  | .region _ ops draw=>match zaf P N hint ops ops.toList with
    | some al=>if draw&&zGi P al&&lexA ops (al.map (strB P)) then some (.region draw (al.map (strB P))) else if draw&&hasB hint al&&lexA ops (al.map (wrB hint)) then some (.region draw (al.map (wrB hint))) else if !draw||lexA ops al then some (.region draw al) else if lexA ops (al.map (mark (hint 100000))) then some (.region draw (al.map (mark (hint 100000)))) else if lexA ops (al.map stab) then some (.region draw (al.map stab)) else some .bad
    | none=>some .bad
  | .seq a b=>match compile P N hint a,compile P N hint b with
    | some a,some b=>some (.seq a b)
    | _,_=>none
  | .cond c a b=>match cx c,compile P N hint a,compile P N hint b with
    | some c,some a,some b=>some (.cond c a b)
    | _,_,_=>none
  | .block id c=>(compile P N hint c).map (.block id)
  | .loop c=>(compile P N hint c).map .loop
  | .exit id=>some (.exit id)
  | .ret=>some .ret
  | .rangeFunc g ps a b=>match cx g,compile P N hint a,compile P N hint b with
    | some g,some a,some b=>if ps.toList.all fun t=>decide (t<N) then some (.rangeF g ps.toList a b) else none
    | _,_,_=>none
  | .scope c=>match compile P N hint c with
    | some a=>if zyK a then some (.scopeJ a) else some (.scope a)
    | none=>none
  | .label l=>some (.label l)
  | .goto l=>some (.goto l)
  | .refuse _=>some .bad
end Go.Avm
