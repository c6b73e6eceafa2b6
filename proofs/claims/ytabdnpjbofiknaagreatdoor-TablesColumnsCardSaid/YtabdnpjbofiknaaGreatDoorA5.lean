/- The operations' soundness: all of them. -/
import Derived.Test.YtabdnpjbofiknaaGreatDoorA4
set_option linter.all false
/-
  The operations' soundness: all of them.
-/
namespace Go.Avm
open Go

section
variable {X : Cx} {N : Nat} {g : Gh} {w : World} {fr : Fr} {H : Heap} {a : Act}

theorem aop_sound (hs : StR X N g w fr H a) {o : Oper} {ao : AOp} {hint : Bool} (hc : compileOp X.P hint o.op = some ao) {v : AV} {h : Option Heap} (hr : aop X.G fr H ao = some (true, v, h)) :
    OpOk X g w H ((execOp a.eval o).run X.P w) v (h.getD H) := by
  generalize ho : o.op = op at hc
  cases op <;> simp only [compileOp] at hc <;> try (cases hc; done)
  case move x =>
    simp only [Option.map_eq_some_iff] at hc
    obtain ⟨ax, h1, rfl⟩ := hc
    simp only [aop, Option.some.injEq, Prod.mk.injEq, true_and] at hr
    obtain ⟨rfl, rfl⟩ := hr
    exact op_mov hs (.inl ho) h1
  case assign x =>
    simp only [Option.map_eq_some_iff] at hc
    obtain ⟨ax, h1, rfl⟩ := hc
    simp only [aop, Option.some.injEq, Prod.mk.injEq, true_and] at hr
    obtain ⟨rfl, rfl⟩ := hr
    exact op_mov hs (.inr ho) h1
  case pick c x y =>
    split at hc
    · rename_i ac ax ay h1 h2 h3
      cases hc
      simp only [aop] at hr
      split at hr
      · rename_i t ht
        simp only [Option.some.injEq, Prod.mk.injEq, true_and] at hr
        obtain ⟨rfl, rfl⟩ := hr
        exact op_pick hs ho h1 h2 h3 ht
      · cases hr
    · cases hc
  case alloc t =>
    split at hc
    · rename_i e h1
      cases hc
      simp only [aop, Option.some.injEq, Prod.mk.injEq, true_and] at hr
      obtain ⟨rfl, rfl⟩ := hr
      exact op_allocB hs ho h1
    · simp only [Option.map_eq_some_iff] at hc
      obtain ⟨z, h1, rfl⟩ := hc
      simp only [aop, Option.some.injEq, Prod.mk.injEq, true_and] at hr
      obtain ⟨rfl, rfl⟩ := hr
      exact op_alloc hs ho h1
  case box t x =>
    simp only [Option.map_eq_some_iff] at hc
    obtain ⟨ax, h1, rfl⟩ := hc
    simp only [aop, Option.some.injEq, Prod.mk.injEq] at hr
    obtain ⟨h2, rfl, rfl⟩ := hr
    exact op_box hs ho h1 h2
  case build t parts =>
    split at hc
    · rename_i fs z hu hz
      split at hc
      · rename_i pl hp
        simp only [Option.map_eq_some_iff] at hc
        obtain ⟨as, h1, rfl⟩ := hc
        simp only [aop, Option.some.injEq, Prod.mk.injEq] at hr
        obtain ⟨h2, rfl, rfl⟩ := hr
        exact op_build_struct hs ho hu hz hp h1 h2
      · cases hc
    · rename_i n e z hu hz
      split at hc
      · rename_i d hd
        simp only [Option.map_eq_some_iff] at hc
        obtain ⟨as, h1, rfl⟩ := hc
        simp only [aop, Option.some.injEq, Prod.mk.injEq] at hr
        obtain ⟨h2, rfl, rfl⟩ := hr
        exact op_build_array hs ho hu hd hz h1 h2
      · cases hc
    · cases hc
  case buildSlice t len parts =>
    split at hc
    · rename_i e hu
      split at hc
      · rename_i d z ps hd hz hps
        split at hc
        · rename_i hcond
          cases hc
          simp only [aop, Option.some.injEq, Prod.mk.injEq] at hr
          obtain ⟨h2, rfl, rfl⟩ := hr
          exact op_bsl hs ho hu hd hz hcond.1 hcond.2.1 hcond.2.2 hps h2
        · cases hc
      · cases hc
    · cases hc
  case range t x =>
    split at hc
    · rename_i ax ht h1
      cases hc
      simp only [aop] at hr
      split at hr
      · rename_i l e1
        simp only [Option.some.injEq, Prod.mk.injEq, true_and] at hr
        obtain ⟨rfl, rfl⟩ := hr
        exact op_rng hs ho ht h1 e1
      · cases hr
    · cases hc
  case next x b =>
    split at hc
    · rename_i ax h1
      cases hc
      simp only [aop] at hr
      split at hr
      · rename_i id e1
        split at hr
        · rename_i l p hH
          simp only [Option.some.injEq, Prod.mk.injEq, true_and] at hr
          obtain ⟨rfl, rfl⟩ := hr
          exact op_nxt hs ho h1 e1 hH
        · cases hr
      · cases hr
    · cases hc
  case makeMap t r =>
    split at hc
    · rename_i kt et ht
      cases hc
      simp only [aop, Option.some.injEq, Prod.mk.injEq, true_and] at hr
      obtain ⟨rfl, rfl⟩ := hr
      exact op_mkM hs ho
    · cases hc
  case lookup t x k ok =>
    split at hc
    · rename_i kt et ax ak ht h1 h2
      split at hc
      · rename_i hk hz
        cases hc
        simp only [Option.bind_eq_some_iff] at hz
        obtain ⟨d, hd, hz⟩ := hz
        simp only [aop] at hr
        split at hr
        · rename_i id s e1 e2
          split at hr
          · rename_i ks hH
            simp only [Option.some.injEq, Prod.mk.injEq, true_and] at hr
            obtain ⟨rfl, rfl⟩ := hr
            exact op_mget hs ho ht hk hd hz h1 h2 e1 e2 hH
          · cases hr
        · cases hr
      · cases hc
    · cases hc
  case mapUpdate t x k v =>
    split at hc
    · rename_i kt et ax ak ht hv h1 h2
      split at hc
      · rename_i hk
        cases hc
        have hv := isTrueC_eq hv
        subst hv
        simp only [aop] at hr
        split at hr
        · rename_i id s e1 e2
          split at hr
          · rename_i ks hH
            split at hr
            · cases hr
            · rename_i hn
              simp only [Option.some.injEq, Prod.mk.injEq, true_and] at hr
              obtain ⟨rfl, rfl⟩ := hr
              exact op_mset hs ho ht hk h1 h2 e1 e2 hH (by simpa using hn)
          · cases hr
        · cases hr
      · cases hc
    · cases hc
  case load t x =>
    split at hc
    · rename_i n y hn h1
      cases hc
      cases n with
      | none =>
        simp only [aop] at hr
        split at hr
        · rename_i c cs he
          simp only [Option.some.injEq, Prod.mk.injEq, true_and] at hr
          obtain ⟨rfl, rfl⟩ := hr
          exact op_ld1_vp hs ho hn h1 he (by simp)
        · cases hr
      | some n =>
        simp only [aop] at hr
        split at hr
        · rename_i cs he
          simp only [Option.some.injEq, Prod.mk.injEq, decide_eq_true_eq] at hr
          obtain ⟨h2, rfl, rfl⟩ := hr
          exact op_ldn_vp hs ho hn h1 he h2
        · cases hr
    · rename_i n ax _ hn h1
      cases hc
      cases n with
      | none =>
        simp only [aop] at hr
        split at hr
        · rename_i c cs he
          simp only [Option.some.injEq, Prod.mk.injEq, true_and] at hr
          obtain ⟨rfl, rfl⟩ := hr
          exact op_ld1_vp hs ho hn h1 he (by simp)
        · rename_i cs hne he
          simp only [Option.some.injEq, Prod.mk.injEq, decide_eq_true_eq] at hr
          obtain ⟨h2, rfl, rfl⟩ := hr
          exact op_ld1_vp hs ho hn h1 he h2
        · rename_i id off he
          split at hr
          · rename_i cs hH
            simp only [Option.some.injEq, Prod.mk.injEq, decide_eq_true_eq] at hr
            obtain ⟨h2, rfl, rfl⟩ := hr
            exact op_ld1_ptr hs ho hn h1 he hH h2
          · cases hr
        · cases hr
      | some n =>
        simp only [aop] at hr
        split at hr
        · rename_i cs he
          simp only [Option.some.injEq, Prod.mk.injEq, decide_eq_true_eq] at hr
          obtain ⟨h2, rfl, rfl⟩ := hr
          exact op_ldn_vp hs ho hn h1 he h2
        · rename_i id off he
          split at hr
          · rename_i cs hH
            simp only [Option.some.injEq, Prod.mk.injEq, decide_eq_true_eq] at hr
            obtain ⟨h2, rfl, rfl⟩ := hr
            exact op_ldn_ptr hs ho hn h1 he hH h2
          · cases hr
        · cases hr
    · cases hc
  case store t x v =>
    split at hc
    · rename_i i ax av hi h1 h2
      cases hc
      simp only [aop] at hr
      split at hr
      · rename_i id off he
        split at hr
        · rename_i cs hH
          simp only [Option.some.injEq, Prod.mk.injEq, Bool.and_eq_true, decide_eq_true_eq] at hr
          obtain ⟨⟨⟨h3, h4⟩, h5⟩, rfl, rfl⟩ := hr
          exact op_st hs ho hi h1 h2 he hH h3 h4 h5
        · cases hr
      · cases hr
    · cases hc
  case binOp op t x y yt =>
    have key : ∀ ax ay, cx x = some ax → cx y = some ay → ao = .bin op ax ay → OpOk X g w H ((execOp a.eval o).run X.P w) v (h.getD H) := fun ax ay h1 h2 e => by
      subst e
      simp only [aop, Option.map_eq_some_iff] at hr
      obtain ⟨⟨c, u⟩, h3, h4⟩ := hr
      simp only [Prod.mk.injEq] at h4
      obtain ⟨rfl, rfl, rfl⟩ := h4
      exact op_bin hs ho h1 h2 h3
    split at hc
    · rename_i k ax ay _ h1 h2
      cases hc; exact key ax ay h1 h2 rfl
    · rename_i ax ay _ h1 h2
      cases hc; exact key ax ay h1 h2 rfl
    · rename_i ax ay ht h1 h2
      split at hc
      · cases hc
        simp only [aop] at hr
        split at hr
        · rename_i p q e1 e2
          simp only [Option.some.injEq, Prod.mk.injEq, true_and] at hr
          obtain ⟨rfl, rfl⟩ := hr
          exact op_beq hs ho (.inl rfl) ht h1 h2 e1 e2
        · cases hr
      · cases hc
        simp only [aop] at hr
        split at hr
        · rename_i p q e1 e2
          simp only [Option.some.injEq, Prod.mk.injEq, true_and] at hr
          obtain ⟨rfl, rfl⟩ := hr
          exact op_beq hs ho (.inr rfl) ht h1 h2 e1 e2
        · cases hr
      · cases hc
    · rename_i e ax ay ht h1 h2
      split at hc
      · rename_i n hn
        cases hc
        simp only [aop] at hr
        split at hr
        · rename_i e1 e2
          simp only [Option.some.injEq, Prod.mk.injEq, true_and] at hr
          obtain ⟨rfl, rfl⟩ := hr
          exact op_peq hs ho hn ht h1 h2 e2 (.inl ⟨e1, rfl⟩)
        · rename_i i p e1 e2
          simp only [Option.some.injEq, Prod.mk.injEq, true_and] at hr
          obtain ⟨rfl, rfl⟩ := hr
          exact op_peq hs ho hn ht h1 h2 e2 (.inr ⟨.inl ⟨_, _, e1⟩, rfl⟩)
        · rename_i cs e1 e2
          simp only [Option.some.injEq, Prod.mk.injEq, true_and] at hr
          obtain ⟨rfl, rfl⟩ := hr
          exact op_peq hs ho hn ht h1 h2 e2 (.inr ⟨.inr ⟨_, e1⟩, rfl⟩)
        · cases hr
      · cases hc
    · rename_i e ax ht h1 h2
      split at hc
      · rename_i n hn
        split at hc
        · cases hc
          simp only [aop] at hr
          split at hr
          · rename_i p es e1
            simp only [Option.some.injEq, Prod.mk.injEq, Bool.not_eq_eq_eq_not, Bool.not_true] at hr
            obtain ⟨h3, rfl, rfl⟩ := hr
            exact op_isn hs ho hn ht h1 e1 h3
          · cases hr
        · cases hc
      · cases hc
    · rename_i ms ax ht h1 h2
      split at hc
      · rename_i n hn
        split at hc
        · cases hc
          simp only [aop] at hr
          split at hr
          · rename_i e1
            simp only [Option.some.injEq, Prod.mk.injEq, true_and] at hr
            obtain ⟨rfl, rfl⟩ := hr
            exact op_ifn hs ho hn ht h1 (.inl ⟨e1, rfl⟩)
          · rename_i d z e1
            simp only [Option.some.injEq, Prod.mk.injEq, true_and] at hr
            obtain ⟨rfl, rfl⟩ := hr
            exact op_ifn hs ho hn ht h1 (.inr ⟨⟨_, _, e1⟩, rfl⟩)
          · cases hr
        · cases hc
      · cases hc
    · cases hc
      simp [aop, AX.eval] at hr
    · rename_i m e ax ay ht h1 h2
      split at hc
      · rename_i n ks hn hks
        cases hc
        simp only [aop] at hr
        split at hr
        · rename_i xs ys e1 e2
          simp only [Option.map_eq_some_iff, Prod.mk.injEq, true_and] at hr
          obtain ⟨b, hb, rfl, rfl⟩ := hr
          exact op_aeq hs ho hn ht hks h1 h2 e1 e2 hb
        · cases hr
      · cases hc
    · rename_i fs ax ay ht h1 h2
      split at hc
      · rename_i n ks hn hks
        cases hc
        simp only [aop] at hr
        split at hr
        · rename_i xs ys e1 e2
          simp only [Option.map_eq_some_iff, Prod.mk.injEq, true_and] at hr
          obtain ⟨b, hb, rfl, rfl⟩ := hr
          exact op_seq hs ho hn ht hks h1 h2 e1 e2 hb
        · cases hr
      · cases hc
    · cases hc
  case unOp op t x =>
    cases op <;> simp only [Option.map_eq_some_iff] at hc <;> try (cases hc; done)
    case not =>
      obtain ⟨ax, h1, rfl⟩ := hc
      simp only [aop] at hr
      split at hr
      · rename_i p e1
        simp only [Option.some.injEq, Prod.mk.injEq, true_and] at hr
        obtain ⟨rfl, rfl⟩ := hr
        exact op_not hs ho h1 e1
      · cases hr
    case neg =>
      obtain ⟨ax, h1, rfl⟩ := hc
      simp only [aop] at hr
      split at hr
      · rename_i k n e1
        simp only [Option.some.injEq, Prod.mk.injEq, true_and] at hr
        obtain ⟨rfl, rfl⟩ := hr
        exact op_neg hs ho h1 e1
      · cases hr
  case convert s d x =>
    split at hc
    · rename_i k k' ax hs1 hd h1
      cases hc
      simp only [aop] at hr
      split at hr
      · rename_i n e1
        simp only [Option.some.injEq, Prod.mk.injEq, true_and] at hr
        obtain ⟨rfl, rfl⟩ := hr
        exact op_conv hs ho h1 hs1 hd e1
      · cases hr
    · rename_i e ax hs1 hd h1
      split at hc
      · rename_i he
        cases hc
        simp only [aop] at hr
        split at hr
        · rename_i es e1
          simp only [Option.map_eq_some_iff, Prod.mk.injEq, true_and] at hr
          obtain ⟨l, h2, rfl, rfl⟩ := hr
          exact op_b2sc hs ho hs1 he hd h1 e1 h2
        · cases hr
      · cases hc
    · rename_i ax hs1 hd h1
      cases hc
      simp only [aop] at hr
      split at hr
      · rename_i l e1
        simp only [Option.some.injEq, Prod.mk.injEq, true_and] at hr
        obtain ⟨rfl, rfl⟩ := hr
        exact op_smov hs ho h1 hs1 hd e1
      · cases hr
    · rename_i k' ax hs1 hd h1
      cases hc
      simp only [aop] at hr
      split at hr
      · rename_i k n e1
        simp only [Option.some.injEq, Prod.mk.injEq, true_and] at hr
        obtain ⟨rfl, rfl⟩ := hr
        exact op_r2s hs ho h1 hs1 hd e1
      · cases hr
    · rename_i e ax hs1 hd h1
      split at hc
      · rename_i he
        cases hc
        cases hint with
        | false =>
          simp only [aop] at hr
          split at hr
          · rename_i l e1
            simp only [Option.some.injEq, Prod.mk.injEq] at hr
            obtain ⟨_, rfl, rfl⟩ := hr
            exact op_s2b_ro hs ho h1 hs1 hd he e1
          · cases hr
        | true =>
          simp only [aop] at hr
          split at hr
          · rename_i l e1
            simp only [Option.some.injEq, Prod.mk.injEq] at hr
            obtain ⟨_, rfl, rfl⟩ := hr
            exact op_s2b_tok hs ho h1 hs1 hd he e1
          · cases hr
      · cases hc
    · cases hc
  case makeInterface t x =>
    split at hc
    · rename_i ht
      simp only [Option.map_eq_some_iff] at hc
      obtain ⟨ax, h1, rfl⟩ := hc
      simp only [aop, Option.some.injEq, Prod.mk.injEq, true_and] at hr
      obtain ⟨rfl, rfl⟩ := hr
      exact op_mki hs ho ht h1
    · cases hc
  case makeFunc f fs cs =>
    cases f <;> simp only at hc <;> try (cases hc; done)
    split at hc
    · rename_i afs acs h1 h2
      cases hc
      simp only [aop, Option.some.injEq, Prod.mk.injEq, true_and] at hr
      obtain ⟨rfl, rfl⟩ := hr
      exact op_mkf hs ho h1 h2
    · cases hc
  case makeSlice t l c =>
    split at hc
    · rename_i e hu
      split at hc
      · rename_i d z al ac hd hz h1 h2
        split at hc
        · rename_i hcond
          split at hc
          · cases hc
            simp only [aop] at hr
            split at hr
            · rename_i m e2
              simp only [Option.some.injEq, Prod.mk.injEq, Bool.and_eq_true, decide_eq_true_eq] at hr
              obtain ⟨⟨⟨h3, h4⟩, h5⟩, rfl, rfl⟩ := hr
              exact op_mkT hs ho hu hd hz hcond.1 h1 h2 e2 h3 h4 h5
            · cases hr
          · cases hc
            simp only [aop] at hr
            split at hr
            · rename_i n m e1 e2
              simp only [Option.some.injEq, Prod.mk.injEq, Bool.and_eq_true, decide_eq_true_eq] at hr
              obtain ⟨⟨⟨⟨h3, h4⟩, h5⟩, h6⟩, rfl, rfl⟩ := hr
              exact op_mkR hs ho hu hd hz hcond.1 h1 h2 e1 e2 h3 h4 h5 h6
            · cases hr
        · cases hc
      · cases hc
    · cases hc
  case slice t x lo hi mx =>
    split at hc
    · rename_i ax alo ahi hu h1 h2 h3 h4
      cases hc
      have hmx : mx = none := by
        cases mx with
        | none => rfl
        | some m => simp [cxO] at h4
      subst hmx
      simp only [aop] at hr
      split at hr
      · rename_i l e1
        split at hr
        · rename_i p q e2 e3
          simp only [Option.some.injEq, Prod.mk.injEq, Bool.and_eq_true, decide_eq_true_eq] at hr
          obtain ⟨⟨⟨⟨_, h6⟩, h7⟩, h8⟩, rfl, rfl⟩ := hr
          exact op_ssl hs ho hu h1 h2 h3 e1 e2 e3 h6 h7 h8
        · cases hr
      · cases hr
    · rename_i e ax alo ahi amx hu h1 h2 h3 h4
      simp only [Option.map_eq_some_iff] at hc
      obtain ⟨d, hd, rfl⟩ := hc
      cases mx with
      | none =>
        simp only [cxO, Option.some.injEq] at h4
        subst h4
        simp only [aop] at hr
        split at hr
        · rename_i p es e1
          split at hr
          · rename_i kl l kh h e2 e3
            simp only [Option.some.injEq, Prod.mk.injEq, Bool.and_eq_true, decide_eq_true_eq] at hr
            obtain ⟨⟨⟨⟨h5, h6⟩, h7⟩, h8⟩, rfl, rfl⟩ := hr
            exact op_sls_sl hs ho hu hd h1 h2 h3 e1 e2 e3 h5 h6 h7 h8
          · cases hr
        · rename_i id off n cap sz e1
          split at hr
          · rename_i kl l kh h e2 e3
            simp only [Option.some.injEq, Prod.mk.injEq, Bool.and_eq_true, decide_eq_true_eq] at hr
            obtain ⟨⟨⟨⟨h5, h6⟩, h7⟩, h8⟩, rfl, rfl⟩ := hr
            subst h5
            exact op_sls_rsl hs ho hu hd h1 h2 h3 e1 e2 e3 h6 h7 h8
          · cases hr
        · cases hr
      | some mx =>
        simp only [cxO, Option.map_eq_some_iff] at h4
        obtain ⟨amx, h4, rfl⟩ := h4
        cases hi with
        | none =>
          simp only [cxO, Option.some.injEq] at h3
          subst h3
          simp only [aop] at hr
          cases hr
        | some hi =>
          simp only [cxO, Option.map_eq_some_iff] at h3
          obtain ⟨ahi, h3, rfl⟩ := h3
          simp only [aop] at hr
          split at hr
          · rename_i p es e1
            split at hr
            · rename_i kl l kh h km m e2 e3 e4
              simp only [Option.some.injEq, Prod.mk.injEq, Bool.and_eq_true, decide_eq_true_eq] at hr
              obtain ⟨⟨⟨⟨⟨h5, h6⟩, h7⟩, h8⟩, h9⟩, rfl, rfl⟩ := hr
              exact op_sls3_sl hs ho hu hd h1 h2 h3 h4 e1 e2 e3 e4 h5 h6 h7 h8 h9
            · cases hr
          · rename_i id off n cap sz e1
            split at hr
            · rename_i kl l kh h km m e2 e3 e4
              simp only [Option.some.injEq, Prod.mk.injEq, Bool.and_eq_true, decide_eq_true_eq] at hr
              obtain ⟨⟨⟨⟨⟨h5, h6⟩, h7⟩, h8⟩, h9⟩, rfl, rfl⟩ := hr
              subst h5
              exact op_sls3_rsl hs ho hu hd h1 h2 h3 h4 e1 e2 e3 e4 h6 h7 h8 h9
            · cases hr
          · cases hr
    · rename_i n e ax alo ahi amx hu h1 h2 h3 h4
      simp only [Option.map_eq_some_iff] at hc
      obtain ⟨d, hd, rfl⟩ := hc
      cases mx with
      | some mx =>
        simp only [cxO, Option.map_eq_some_iff] at h4
        obtain ⟨amx, h4, rfl⟩ := h4
        simp only [aop] at hr
        cases hr
      | none =>
        simp only [cxO, Option.some.injEq] at h4
        subst h4
        simp only [aop] at hr
        split at hr
        · rename_i id off e1
          split at hr
          · rename_i kl l kh h e2 e3
            simp only [Option.some.injEq, Prod.mk.injEq, Bool.and_eq_true, decide_eq_true_eq] at hr
            obtain ⟨⟨⟨h6, h7⟩, h8⟩, rfl, rfl⟩ := hr
            exact op_slA_ptr hs ho hu hd h1 h2 h3 e1 e2 e3 h6 h7 h8
          · cases hr
        · rename_i cs e1
          split at hr
          · rename_i kl l kh h e2 e3
            simp only [Option.some.injEq, Prod.mk.injEq, Bool.and_eq_true, decide_eq_true_eq] at hr
            obtain ⟨⟨⟨⟨⟨⟨h5, h6⟩, h7⟩, h8⟩, h9⟩, h10⟩, rfl, rfl⟩ := hr
            exact op_slA_vp hs ho hu hd h5 h1 h2 h3 e1 e2 e3 h6 h7 h8 h9 h10
          · cases hr
        · cases hr
    · cases hc
  case fieldAddr s x f =>
    split at hc
    · rename_i fs ax hu h1
      split at hc
      · rename_i fd hf
        split at hc
        · rename_i i hi
          split at hc
          · cases hc
          · rename_i hz
            cases hc
            simp only [aop] at hr
            split at hr
            · rename_i id off e1
              simp only [Option.some.injEq, Prod.mk.injEq, true_and] at hr
              obtain ⟨rfl, rfl⟩ := hr
              exact op_fldA_ptr hs ho hu hf hi hz h1 e1
            · rename_i cs e1
              simp only [Option.some.injEq, Prod.mk.injEq, true_and] at hr
              obtain ⟨rfl, rfl⟩ := hr
              exact op_fldA_vp hs ho hu hf hi hz h1 e1
            · cases hr
        · cases hc
      · cases hc
    · cases hc
  case field s x f =>
    split at hc
    · rename_i fs ax hu h1
      split at hc
      · rename_i fd hf
        simp only [Option.map_eq_some_iff] at hc
        obtain ⟨n, hn, rfl⟩ := hc
        cases n with
        | none =>
          simp only [aop] at hr
          split at hr
          · rename_i cs e1
            simp only [Option.some.injEq, Prod.mk.injEq, decide_eq_true_eq] at hr
            obtain ⟨h2, rfl, rfl⟩ := hr
            exact op_fld hs ho hu hf hn h1 e1 (fun _ => h2)
          · cases hr
        | some n =>
          simp only [aop] at hr
          split at hr
          · rename_i cs e1
            simp only [Option.some.injEq, Prod.mk.injEq, true_and] at hr
            obtain ⟨rfl, rfl⟩ := hr
            exact op_fld hs ho hu hf hn h1 e1 (fun h => nomatch h)
          · cases hr
      · cases hc
    · cases hc
  case indexAddr t x i =>
    split at hc
    · rename_i e ax ai hu h1 h2
      simp only [Option.map_eq_some_iff] at hc
      obtain ⟨d, hd, rfl⟩ := hc
      simp only [aop] at hr
      split at hr
      · rename_i p es k n e1 e2
        simp only [Option.some.injEq, Prod.mk.injEq, Bool.and_eq_true, decide_eq_true_eq] at hr
        obtain ⟨⟨⟨⟨h3, h4⟩, h5⟩, h6⟩, rfl, rfl⟩ := hr
        exact op_idxA_sl hs ho hu hd h1 h2 e1 e2 h3 h4 h5 h6
      · rename_i id off m cap s k n e1 e2
        simp only [Option.some.injEq, Prod.mk.injEq, Bool.and_eq_true, decide_eq_true_eq] at hr
        obtain ⟨⟨⟨h3, h4⟩, h5⟩, rfl, rfl⟩ := hr
        subst h5
        exact op_idxA_rsl hs ho hu hd h1 h2 e1 e2 h3 h4
      · cases hr
    · rename_i m e ax ai hu h1 h2
      simp only [Option.map_eq_some_iff] at hc
      obtain ⟨d, hd, rfl⟩ := hc
      simp only [aop] at hr
      split at hr
      · rename_i id off k n e1 e2
        simp only [Option.some.injEq, Prod.mk.injEq, Bool.and_eq_true, decide_eq_true_eq] at hr
        obtain ⟨⟨h3, h4⟩, rfl, rfl⟩ := hr
        exact op_idxP_ptr hs ho hu hd h1 h2 e1 e2 h3 h4
      · rename_i cs k n e1 e2
        simp only [Option.some.injEq, Prod.mk.injEq, Bool.and_eq_true, decide_eq_true_eq] at hr
        obtain ⟨⟨h3, h4⟩, rfl, rfl⟩ := hr
        exact op_idxP_vp hs ho hu hd h1 h2 e1 e2 h3 h4
      · cases hr
    · cases hc
  case index t x i =>
    split at hc
    · rename_i ax ai hu h1 h2
      cases hc
      simp only [aop] at hr
      split at hr
      · rename_i l k n e1 e2
        simp only [Option.some.injEq, Prod.mk.injEq, Bool.and_eq_true, decide_eq_true_eq] at hr
        obtain ⟨⟨h3, h4⟩, rfl, rfl⟩ := hr
        exact op_idxS hs ho hu h1 h2 e1 e2 h3 h4
      · cases hr
    · rename_i m e ax ai hu h1 h2
      split at hc
      · rename_i d n hd hn
        cases hc
        cases n with
        | none =>
          simp only [aop] at hr
          split at hr
          · rename_i cs k z e1 e2
            simp only [Option.some.injEq, Prod.mk.injEq, Bool.and_eq_true, decide_eq_true_eq] at hr
            obtain ⟨⟨⟨h3, h4⟩, h5⟩, rfl, rfl⟩ := hr
            exact op_idxG hs ho hu hd hn h1 h2 e1 e2 h3 h4 (fun _ => h5)
          · cases hr
        | some n =>
          simp only [aop] at hr
          split at hr
          · rename_i cs k z e1 e2
            simp only [Option.some.injEq, Prod.mk.injEq, Bool.and_eq_true, decide_eq_true_eq] at hr
            obtain ⟨⟨h3, h4⟩, rfl, rfl⟩ := hr
            exact op_idxG hs ho hu hd hn h1 h2 e1 e2 h3 h4 (fun h => nomatch h)
          · cases hr
      · cases hc
    · cases hc
  case extract x i =>
    simp only [Option.map_eq_some_iff] at hc
    obtain ⟨ax, h1, rfl⟩ := hc
    simp only [aop] at hr
    split at hr
    · rename_i vs e1
      simp only [Option.some.injEq, Prod.mk.injEq, decide_eq_true_eq] at hr
      obtain ⟨h2, rfl, rfl⟩ := hr
      exact op_extr hs ho h1 e1 h2
    · cases hr
  case nilCheck x =>
    simp only [Option.map_eq_some_iff] at hc
    obtain ⟨ax, h1, rfl⟩ := hc
    simp only [aop] at hr
    split at hr
    · rename_i i p e1
      simp only [Option.some.injEq, Prod.mk.injEq, true_and] at hr
      obtain ⟨rfl, rfl⟩ := hr
      exact op_nck hs ho h1 e1 (.inl ⟨_, _, rfl⟩)
    · rename_i cs e1
      simp only [Option.some.injEq, Prod.mk.injEq, true_and] at hr
      obtain ⟨rfl, rfl⟩ := hr
      exact op_nck hs ho h1 e1 (.inr ⟨_, rfl⟩)
    · cases hr
  case call c =>
    obtain ⟨callee, args, ts⟩ := c
    unfold compileCall at hc
    cases callee with
    | invoke r m =>
      simp only at hc
      split at hc
      · cases hc; simp only [aop] at hr; cases hr
      · cases hc
    | value f =>
      cases f with
      | tmp t =>
        simp only [Option.map_eq_some_iff] at hc
        obtain ⟨as, _, rfl⟩ := hc
        simp only [aop] at hr
        cases hr
      | const v => cases hc
      | global x => cases hc
      | func f =>
        simp only at hc
        split at hc
        · split at hc
          · cases hc; simp only [aop] at hr; cases hr
          · cases hc
        · cases hc
    | builtin b =>
      simp only at hc
      unfold compileBuiltin at hc
      split at hc
      · rename_i x t h1 h2
        have e1 : args = #[x] := Array.ext' (by simpa using h1)
        have e2 : ts = #[t] := Array.ext' (by simpa using h2)
        subst e1 e2
        unfold compileLen at hc
        split at hc
        · rename_i ax hu h3
          cases hc
          simp only [aop] at hr
          split at hr
          · rename_i l e1
            simp only [Option.some.injEq, Prod.mk.injEq, true_and] at hr
            obtain ⟨rfl, rfl⟩ := hr
            exact op_len_str hs ho h3 hu e1
          · cases hr
        · rename_i e ax hu h3
          cases hc
          simp only [aop] at hr
          split at hr
          · rename_i p es e1
            have r1 := cx_rel hs h3
            rw [e1] at r1
            simp only [Rel] at r1
            obtain ⟨ad, cap, vs, sz, hx, _⟩ := r1
            simp only [Option.some.injEq, Prod.mk.injEq, true_and] at hr
            obtain ⟨rfl, rfl⟩ := hr
            exact op_len_sl hs ho hu hx
          · rename_i id off n cap sz e1
            have r1 := cx_rel hs h3
            rw [e1] at r1
            simp only [Rel] at r1
            obtain ⟨ad, b, hx, _⟩ := r1
            simp only [Option.some.injEq, Prod.mk.injEq, true_and] at hr
            obtain ⟨rfl, rfl⟩ := hr
            exact op_len_sl hs ho hu hx
          · cases hr
        · rename_i n e _ hu
          cases hc
          simp only [aop, AX.eval, Option.some.injEq, Prod.mk.injEq, true_and] at hr
          obtain ⟨rfl, rfl⟩ := hr
          exact op_len_arr hs ho hu
        · cases hc
      · rename_i x y t u h1 h2
        have e1 : args = #[x, y] := Array.ext' (by simpa using h1)
        have e2 : ts = #[t, u] := Array.ext' (by simpa using h2)
        subst e1 e2
        unfold compileApp at hc
        split at hc
        · rename_i e ax ay hu h3 h4
          split at hc
          · rename_i i hi
            split at hc
            · rename_i z hz
              split at hc
              · rename_i hcond
                cases hc
                have hdu : ∃ du, X.P.underlying u = some du ∧ SrcD du := by
                  have := hcond.2.2
                  unfold srcB at this
                  split at this
                  · rename_i e' he; exact ⟨_, he, .inl ⟨e', rfl⟩⟩
                  · rename_i he; exact ⟨_, he, .inr rfl⟩
                  · cases this
                obtain ⟨du, hu', hdu⟩ := hdu
                simp only [aop] at hr
                split at hr
                · rename_i ys e2
                  split at hr
                  · rename_i es e1
                    split at hr
                    · rename_i hne
                      simp only [Option.some.injEq, Prod.mk.injEq, true_and] at hr
                      obtain ⟨rfl, rfl⟩ := hr
                      have hys : ys = [] := by
                        cases ys with
                        | nil => rfl
                        | cons => simp at hne
                      subst hys
                      exact op_app_exnil hs ho hu hu' hdu hi h3 h4 e1 e2
                    · rename_i hne
                      simp only [Option.some.injEq, Prod.mk.injEq, Bool.and_eq_true, decide_eq_true_eq] at hr
                      obtain ⟨⟨⟨⟨h5, h6⟩, h7⟩, h8⟩, rfl, rfl⟩ := hr
                      exact op_app_ex hs ho hu hu' hdu hi hz hcond.1 hcond.2.1 h3 h4 e1 e2 h5 h6 h7 h8 (by simpa using hne)
                  · rename_i id s es e1
                    split at hr
                    · rename_i n hH
                      simp only [Option.some.injEq, Prod.mk.injEq, Bool.and_eq_true, decide_eq_true_eq] at hr
                      obtain ⟨⟨⟨⟨⟨h5, h6⟩, h7⟩, h8⟩, h9⟩, rfl, rfl⟩ := hr
                      subst h5 h6
                      exact op_app_tok hs ho hu hu' hdu hi hz hcond.1 h3 h4 e1 e2 hH h7 h8 h9
                    · cases hr
                  · cases hr
                · cases hr
              · cases hc
            · cases hc
          · cases hc
        · cases hc
      · rename_i x y t u h1 h2
        have e1 : args = #[x, y] := Array.ext' (by simpa using h1)
        have e2 : ts = #[t, u] := Array.ext' (by simpa using h2)
        subst e1 e2
        unfold compileCpy at hc
        split at hc
        · rename_i e e' ax ay hu hu2 h3 h4
          split at hc
          · rename_i hsz
            cases hc
            simp only [aop] at hr
            split at hr
            · rename_i id off n cap s e1
              split at hr
              · rename_i es cs hes hH
                simp only [Option.some.injEq, Prod.mk.injEq, Bool.and_eq_true, decide_eq_true_eq] at hr
                obtain ⟨⟨⟨h5, h6⟩, h7⟩, rfl, rfl⟩ := hr
                subst h5
                exact op_cpy hs ho hu hsz h3 h4 e1 hes hH h6 h7
              · cases hr
            · cases hr
          · cases hc
        · cases hc
      · rename_i x y t u h1 h2
        have e1 : args = #[x, y] := Array.ext' (by simpa using h1)
        subst e1
        split at hc
        · rename_i ax ay h3 h4
          cases hc
          simp only [aop] at hr
          split at hr
          · rename_i k p k' q e1 e2
            simp only [Option.some.injEq, Prod.mk.injEq, true_and] at hr
            obtain ⟨rfl, rfl⟩ := hr
            exact op_mm (mx := false) hs ho h3 h4 e1 e2
          · cases hr
        · cases hc
      · rename_i x y t u h1 h2
        have e1 : args = #[x, y] := Array.ext' (by simpa using h1)
        subst e1
        split at hc
        · rename_i ax ay h3 h4
          cases hc
          simp only [aop] at hr
          split at hr
          · rename_i k p k' q e1 e2
            simp only [Option.some.injEq, Prod.mk.injEq, true_and] at hr
            obtain ⟨rfl, rfl⟩ := hr
            exact op_mm (mx := true) hs ho h3 h4 e1 e2
          · cases hr
        · cases hc
      · cases hc

end
end Go.Avm

/-
  Regions: one operation after the other; calls by contract.
-/
namespace Go.Avm
open Go

/-- A call at these values, in this memory: it leaves the memory as it is, and yields r. -/
def CallV (X : Cx) (f : FuncId) (args : List AV) (H : Heap) (r : AV) : Prop :=
  HasBody X f ∧ ∀ g w vs, Wf X.G g w → HR g w H → RelL args g w vs → Calls X.P f vs.toArray w fun e w' =>
    ∃ v g', e = .returned v ∧ Rel r g' w' v ∧ Good X g w H g' w' H

/-- A call at these values, in this memory. -/
def CallOk (X : Cx) (f : FuncId) (args : List AV) (dst : Option Nat) (fr : Fr) (H : Heap) (K : Fr → Heap → Prop) : Prop :=
  HasBody X f ∧ ∀ g w vs, Wf X.G g w → HR g w H → RelL args g w vs → Calls X.P f vs.toArray w fun e w' =>
    ∃ v r g' H', e = .returned v ∧ Rel r g' w' v ∧ Good X g w H g' w' H' ∧ K (fr.updo dst r) H'

theorem CallOk.of_callV {X : Cx} {f : FuncId} {args : List AV} {dst : Option Nat} {fr : Fr} {H : Heap} {K : Fr → Heap → Prop} {r : AV} (h : CallV X f args H r) (hK : K (fr.updo dst r) H) : CallOk X f args dst fr H K :=
  ⟨h.1, fun g w vs h1 h2 h3 => (h.2 g w vs h1 h2 h3).mono fun _ _ ⟨v, g', k1, k2, k3⟩ => ⟨v, r, g', H, k1, k2, k3, hK⟩⟩

/-- The function and the arguments of a call. -/
def callee (G : Consts) (fr : Fr) : AOp → Option (FuncId × List AV)
  | .call f as => some (f, as.map (·.eval G fr))
  | .callv x as => match x.eval G fr with
    | .clo f fs cs => some (f, fs ++ as.map (·.eval G fr) ++ cs)
    | _ => none
  | .inv tb x as => match x.eval G fr with
    | .ifc t v => match tb.lookup t with
      | some f => some (f, v :: as.map (·.eval G fr))
      | none => none
    | _ => none
  | _ => none

/-- The loop's number and the arguments of a call of a yield function. -/
def yieldOf (G : Consts) (fr : Fr) : AOp → Option (Nat × List AV)
  | .callv x as => match x.eval G fr with
    | .yv i => some (i, as.map (·.eval G fr))
    | _ => none
  | _ => none

/-- A call of a yield function: the round that it runs leads on. -/
def YieldOk (X : Cx) (i : Nat) (args : List AV) (dst : Option Nat) (fr : Fr) (H : Heap) (K : Fr → Heap → Prop) : Prop :=
  ∀ g w vs l, Wf X.G g w → HR g w H → RelL args g w vs → g.bx i = some l →
    ∃ L, w.heap[l]? = some (.loop L) ∧ vs.length = L.params.size ∧
      RoundIn Fence.wide 0 X.P l L.fn ((L.params.zip vs.toArray).foldl (fun tmps (t, a) => tmps.setIfInBounds t a) L.tmps) L.assign L.body w fun e w' =>
        ∃ v r g' H', e = .returned v ∧ Rel r g' w' v ∧ Good X g w H g' w' H' ∧ K (fr.updo dst r) H'

/-- One operation that surely runs. -/
def vcDo (X : Cx) (op : AOp) (dst : Option Nat) (fr : Fr) (H : Heap) (K : Fr → Heap → Prop) : Prop :=
  match callee X.G fr op with
  | some (f, args) => CallOk X f args dst fr H K
  | none => match yieldOf X.G fr op with
    | some (i, args) => YieldOk X i args dst fr H K
    | none => match aop X.G fr H op with
      | some (c, v, h) => c = true ∧ K (fr.updo dst v) (h.getD H)
      | none => False

/-- One operation under a guard: the guard's slot is known from here on. -/
def vcG (X : Cx) (t : Nat) (b : Bool) (op : AOp) (dst : Option Nat) (fr : Fr) (H : Heap) (K : Fr → Heap → Prop) : AV → Prop
  | .bool e => (e = true → match b with
      | true => vcDo X op dst (fr.updo (some t) (.bool true)) H K
      | false => K ((fr.updo (some t) (.bool true)).updo dst noV) H) ∧
    (e = false → match b with
      | true => K ((fr.updo (some t) (.bool false)).updo dst noV) H
      | false => vcDo X op dst (fr.updo (some t) (.bool false)) H K)
  | .grd false _ => K (fr.updo dst noV) H
  | _ => False

def vcOp (X : Cx) (o : AOper) (fr : Fr) (H : Heap) (K : Fr → Heap → Prop) : Prop :=
  match o.g with
  | none => vcDo X o.op o.dst fr H K
  | some (t, b) => vcG X t b o.op o.dst fr H K (fr t)

def vcOps (X : Cx) (K : Fr → Heap → Prop) : List AOper → Fr → Heap → Prop
  | [], fr, H => K fr H
  | o :: r, fr, H => vcOp X o fr H (vcOps X K r)

section
variable {X : Cx} {N : Nat} {g : Gh} {w : World} {fr : Fr} {H : Heap} {a : Act}

theorem StR.put (hs : StR X N g w fr H a) {g' : Gh} {w' : World} {H' : Heap} (hg : Good X g w H g' w' H') {d : Option Nat} (hd : ∀ t, d = some t → t < N) {v : AV} {u : Value} (hr : Rel v g' w' u) : StR X N g' w' (fr.updo d v) H' (a.put d u) where
  wf := hg.wf
  hr := hg.hr
  fr t := by
    cases d with
    | none => exact Rel.mono _ hg.mono (hs.fr t)
    | some d =>
      have hlt : d < a.tmps.size := Nat.lt_of_lt_of_le (hd d rfl) hs.size
      simp only [Fr.updo, Fr.upd, Act.put]
      by_cases ht : t = d
      · subst ht
        rw [if_pos rfl]
        simpa [Array.getD, hlt] using hr
      · rw [if_neg ht]
        have : (a.tmps.setIfInBounds d u).getD t Go.undef = a.tmps.getD t Go.undef := by
          have hdt : d ≠ t := fun e => ht e.symm
          simp [Array.getElem?_setIfInBounds_ne hdt]
        rw [this]
        exact Rel.mono _ hg.mono (hs.fr t)
  size := by cases d <;> simp [Act.put, hs.size]
  defers := by cases d <;> exact hs.defers.ext hg.ext
  n0 := Nat.le_trans hs.n0 hg.ext.size

theorem StR.putU (hs : StR X N g w fr H a) {d : Option Nat} (hd : ∀ t, d = some t → t < N) {v : AV} {u : Value} (hr : Rel v g w u) : StR X N g w (fr.updo d v) H (a.put d u) :=
  hs.put (Good.refl hs) hd hr

theorem StR.weak (hs : StR X N g w fr H a) {fr' : Fr} (h : ∀ t v, Rel (fr t) g w v → Rel (fr' t) g w v) : StR X N g w fr' H a :=
  ⟨hs.wf, hs.hr, fun t => h t _ (hs.fr t), hs.size, hs.defers, hs.n0⟩

theorem upd_same {fr : Fr} {t : Nat} {v : AV} (h : fr t = v) : fr.updo (some t) v = fr := by
  funext u
  simp only [Fr.updo, Fr.upd]
  split
  · rename_i e; rw [e, h]
  · rfl

theorem compileOper_spec {hint : Nat → Bool} {ops : Array Oper} {o : Oper} {ao : AOper} (h : compileOper X.P N hint ops o = some ao) :
    (∃ b, compileOp X.P b o.op = some ao.op) ∧ ao.dst = o.dst ∧ (∀ t, o.dst = some t → t < N) ∧ ((o.guard = none ∧ ao.g = none) ∨ ∃ j b t, o.guard = some (j, b) ∧ (ops[j]?).bind (·.dst) = some t ∧ ao.g = some (t, b)) := by
  unfold compileOper at h
  split at h
  · rename_i op gd hop hgd hd
    cases h
    refine ⟨⟨_, hop⟩, rfl, fun t ht => by rw [ht] at hd; simpa [dstOk] using hd, ?_⟩
    cases hg : o.guard with
    | none => rw [hg] at hgd; simp [compileGuard] at hgd; exact .inl ⟨rfl, hgd.symm⟩
    | some jb =>
      obtain ⟨j, b⟩ := jb
      rw [hg] at hgd
      simp only [compileGuard] at hgd
      split at hgd
      · rename_i t ht
        cases hgd
        exact .inr ⟨j, b, t, rfl, ht, rfl⟩
      · cases hgd
  · cases h

theorem run_enter {f : FuncId} (hbody : HasBody X f) (vs : Array Value) : (callFunc f vs).run X.P w = .ok (.enter f vs) w := by
  obtain ⟨fn, h1, h2, h3⟩ := hbody
  have hn : fn.body.isNone = false := by
    cases hb : fn.body with
    | none => rw [hb] at h3; cases h3
    | some _ => rfl
  simp only [callFunc, Sem.run_bind, run_program, Result.andThen_ok, h1]
  rw [if_neg (by simpa using h2), if_neg (by rw [hn]; decide)]
  rfl

theorem lookup_memT {t f : Nat} : ∀ {l : List (Nat × Nat)}, l.lookup t = some f → (t, f) ∈ l
  | [], h => by simp at h
  | (a, b) :: l, h => by
    rw [List.lookup_cons] at h
    split at h
    · rename_i e
      cases h
      rw [beq_iff_eq] at e
      subst e
      exact List.mem_cons_self
    · exact List.mem_cons_of_mem _ (lookup_memT h)

theorem methTab_spec {P : Program} {name : String} {t f : Nat} (h : (methTab P name).lookup t = some f) :
    ∃ i u m, P.info? t = some i ∧ P.underlying t = some u ∧ i.methods.find? (·.name == name) = some m ∧ m.path.isEmpty = true ∧ m.func = some (f, isPtrD u) := by
  have hm := lookup_memT h
  unfold methTab at hm
  obtain ⟨t0, _, h0⟩ := List.mem_filterMap.1 hm
  unfold methOf at h0
  split at h0
  · rename_i i u hi hu
    split at h0
    · rename_i m hm'
      split at h0
      · rename_i hp
        split at h0
        · rename_i f0 p hf
          split at h0
          · rename_i hpe
            cases h0
            rw [beq_iff_eq] at hpe
            exact ⟨i, u, m, hi, hu, hm', hp, by rw [hf, hpe]⟩
          · cases h0
        · cases h0
      · cases h0
    · cases h0
  · cases h0

theorem arr_extract {α : Type} (x : α) (l : List α) : ((x :: l).toArray).extract 1 ((x :: l).toArray).size = l.toArray := by simp
theorem arr_cons {α β : Type} (x : β) (f : α → β) (as : Array α) : #[x] ++ as.map f = (x :: as.toList.map f).toArray := by apply Array.ext'; simp

/-- A method of an interface's value is found. -/
theorem run_method {name : String} {t f : Nat} (h : (methTab X.P name).lookup t = some f) (v : Value) (args : Array Value) (hbody : HasBody X f) :
    (callMethod (.iface t v) name args).run X.P w = .ok (.enter f (#[v] ++ args)) w := by
  obtain ⟨i, u, m, hi, hu, hm, hp, hf⟩ := methTab_spec h
  have hpl : m.path.toList = [] := by simpa using hp
  obtain ⟨k, hk⟩ : ∃ k, X.P.types.size + Made.depth = k + 1 := ⟨X.P.types.size + Made.depth - 1, by have : Made.depth = 100 := rfl; omega⟩
  have hmet : (method (X.P.types.size + Made.depth) t v name).run X.P w = .ok (f, v) w := by
    have hti : (typeInfo t).run X.P w = .ok i w := by simp [typeInfo, hi]
    rw [hk]
    cases u <;> simp [method, hti, hm, hpl, follow, hf, receiverAt, run_underlying hu, isPtrD, Place.get, Result.andThen_ok]
  simp only [callMethod, Sem.run_bind, run_program, Result.andThen_ok, hmet]
  exact run_enter hbody _

/-- A call of a Go function with a body. -/
theorem run_call (hs : StR X N g w fr H a) {o : Oper} {op : AOp} {b : Bool} (hc : compileOp X.P b o.op = some op) {f : FuncId} {args : List AV} (hcal : callee X.G fr op = some (f, args)) (hbody : HasBody X f) :
    ∃ vs : List Value, RelL args g w vs ∧ (execOp a.eval o).run X.P w = .ok (.enter f vs.toArray) w := by
  generalize ho : o.op = oop at hc
  have hcall : ∃ c, oop = .call c := by
    unfold callee at hcal
    split at hcal
    · cases oop <;> first | exact ⟨_, rfl⟩ | (exfalso; simp only [compileOp] at hc; (repeat' split at hc) <;> simp at hc)
    · cases oop <;> first | exact ⟨_, rfl⟩ | (exfalso; simp only [compileOp] at hc; (repeat' split at hc) <;> simp at hc)
    · cases oop <;> first | exact ⟨_, rfl⟩ | (exfalso; simp only [compileOp] at hc; (repeat' split at hc) <;> simp at hc)
    · cases hcal
  obtain ⟨c, rfl⟩ := hcall
  simp only [compileOp] at hc
  obtain ⟨cal, as, ts⟩ := c
  unfold compileCall at hc
  cases cal with
  | invoke r m =>
    simp only at hc
    split at hc
    · rename_i ax as' hx has
      cases hc
      simp only [callee] at hcal
      split at hcal
      · rename_i t v hv
        split at hcal
        · rename_i f0 hl
          simp only [Option.some.injEq, Prod.mk.injEq] at hcal
          obtain ⟨rfl, rfl⟩ := hcal
          have hr := cx_rel hs hx
          rw [hv] at hr
          simp only [Rel] at hr
          obtain ⟨u, hu, hru⟩ := hr
          refine ⟨u :: as.toList.map a.eval, by simp only [RelL]; exact ⟨_, _, rfl, hru, cxL_rel hs has⟩, ?_⟩
          have hrun := run_method (w := w) hl u (as.map a.eval) hbody
          simp only [execOp, ho, resolve, hu, Sem.run_bind, Sem.run_pure, Result.andThen_ok, invoke]
          rw [arr_cons]
          show (callMethod (Value.iface t u) m ((Value.iface t u :: as.toList.map a.eval).toArray.extract 1 (Value.iface t u :: as.toList.map a.eval).toArray.size)).run X.P w = _
          rw [arr_extract, show (as.toList.map a.eval).toArray = as.map a.eval by apply Array.ext'; simp]
          rw [hrun]
          congr 2
          apply Array.ext'; simp
        · cases hcal
      · cases hcal
    · cases hc
  | builtin bi =>
    exfalso
    simp only at hc
    unfold compileBuiltin at hc
    split at hc
    · unfold compileLen at hc
      split at hc <;> first | (cases hc; done) | (cases hc; simp [callee] at hcal)
    · unfold compileApp at hc
      split at hc
      · split at hc
        · split at hc
          · split at hc
            · cases hc; simp [callee] at hcal
            · cases hc
          · cases hc
        · cases hc
      · cases hc
    · unfold compileCpy at hc
      split at hc
      · split at hc
        · cases hc; simp [callee] at hcal
        · cases hc
      · cases hc
    · split at hc
      · cases hc; simp [callee] at hcal
      · cases hc
    · split at hc
      · cases hc; simp [callee] at hcal
      · cases hc
    · cases hc
  | value fo =>
    cases fo with
    | const v => cases hc
    | global x => cases hc
    | func f0 =>
      simp only at hc
      split at hc
      · rename_i fn as' hfn has
        split at hc
        · cases hc
          simp only [callee, Option.some.injEq, Prod.mk.injEq] at hcal
          obtain ⟨rfl, rfl⟩ := hcal
          refine ⟨as.toList.map a.eval, cxL_rel hs has, ?_⟩
          simp only [execOp, ho, resolve, Act.eval, Deferred.ofValue, Sem.run_bind, Sem.run_pure, Result.andThen_ok, invoke]
          rw [run_enter hbody]
          congr 2
          apply Array.ext'; simp
        · cases hc
      · cases hc
    | tmp t =>
      simp only [Option.map_eq_some_iff] at hc
      obtain ⟨as', has, rfl⟩ := hc
      simp only [callee, AX.eval] at hcal
      split at hcal
      · rename_i f0 fs cs hft
        simp only [Option.some.injEq, Prod.mk.injEq] at hcal
        obtain ⟨rfl, rfl⟩ := hcal
        have hr := hs.fr t
        rw [hft] at hr
        simp only [Rel] at hr
        obtain ⟨us, vs, hv, h1, h2⟩ := hr
        refine ⟨us ++ as.toList.map a.eval ++ vs, (h1.append (cxL_rel hs has)).append h2, ?_⟩
        have hev : a.eval (.tmp t) = .func (.func f0) us.toArray vs.toArray := hv
        simp only [execOp, ho, resolve, hev, Deferred.ofValue, Sem.run_bind, Sem.run_pure, Result.andThen_ok, invoke]
        rw [run_enter hbody]
        congr 2
        apply Array.ext'; simp
      · cases hcal

theorem no_defer {op : Op} {ao : AOp} {b : Bool} (h : compileOp X.P b op = some ao) : ∀ c, op ≠ .defer c := fun c e => by
  subst e; simp [compileOp] at h

theorem roundIn_fd {rd : Option Nat} {n : Nat} {P : Program} {l : Nat} {f : FuncId} {tmps : Array Value} {assign body : Code} {w : World} {R : Ending → World → Prop} (h : RoundIn Fence.wide 0 P l f tmps assign body w R) :
    RoundIn (Fd rd) n P l f tmps assign body w R :=
  ⟨trivial, fun c cs _ => h.2 c cs (room_wide _)⟩

/-- A call of a yield function asks for a round. -/
theorem run_yieldOp (hs : StR X N g w fr H a) {o : Oper} {op : AOp} {b : Bool} (hc : compileOp X.P b o.op = some op) {i : Nat} {args : List AV} (hcal : yieldOf X.G fr op = some (i, args)) :
    ∃ (vs : List Value) (l : Nat), RelL args g w vs ∧ g.bx i = some l ∧ (execOp a.eval o).run X.P w = (Instr.yield l vs.toArray).run X.P w := by
  generalize ho : o.op = oop at hc
  unfold yieldOf at hcal
  split at hcal
  · rename_i x as
    have hcall : ∃ c, oop = .call c := by
      cases oop <;> first | exact ⟨_, rfl⟩ | (exfalso; simp only [compileOp] at hc; (repeat' split at hc) <;> simp at hc)
    obtain ⟨c, rfl⟩ := hcall
    simp only [compileOp] at hc
    obtain ⟨cal, as', ts⟩ := c
    unfold compileCall at hc
    cases cal with
    | invoke r m =>
      exfalso
      simp only at hc
      split at hc <;> simp at hc
    | builtin bi =>
      exfalso
      simp only at hc
      unfold compileBuiltin at hc
      split at hc
      · unfold compileLen at hc
        split at hc <;> simp at hc
      · unfold compileApp at hc
        (repeat' split at hc) <;> simp at hc
      · unfold compileCpy at hc
        (repeat' split at hc) <;> simp at hc
      · split at hc <;> simp at hc
      · split at hc <;> simp at hc
      · cases hc
    | value fo =>
      cases fo with
      | const v => cases hc
      | global x => cases hc
      | func f0 =>
        simp only at hc
        split at hc
        · split at hc
          · cases hc
          · cases hc
        · cases hc
      | tmp t =>
        simp only [Option.map_eq_some_iff] at hc
        obtain ⟨as'', has, he⟩ := hc
        cases he
        simp only [AX.eval] at hcal
        split at hcal
        · rename_i i' hft
          simp only [Option.some.injEq, Prod.mk.injEq] at hcal
          obtain ⟨rfl, rfl⟩ := hcal
          have hr := hs.fr t
          rw [hft] at hr
          simp only [Rel] at hr
          obtain ⟨l, hv, hb⟩ := hr
          refine ⟨as'.toList.map a.eval, l, cxL_rel hs has, hb, ?_⟩
          have hev : a.eval (.tmp t) = .func (.yield l) #[] #[] := hv
          simp only [execOp, ho, resolve, hev, Deferred.ofValue, Sem.run_bind, Sem.run_pure, Result.andThen_ok, invoke]
          congr 2
          apply Array.ext'; simp
        · cases hcal
  · cases hcal

theorem wpIn_run {rd : Option Nat} {o : Oper} {next : Act → World → Prop} {Q : Exit → Act → World → Prop} {ao : AOp} {b : Bool} (hc : compileOp X.P b o.op = some ao) {r : Result Next} (hr : (execOp a.eval o).run X.P w = r)
    (h : o.uponIn (Fd rd) 0 X.P a next Q r) : o.wpIn (Fd rd) 0 X.P a w next Q :=
  ⟨fun _ _ => trivial, by rw [Oper.semAt_eq _ _ _ (no_defer hc), hr]; exact h⟩

theorem upon_enter {rd : Option Nat} {o : Oper} {next : Act → World → Prop} {Q : Exit → Act → World → Prop} {f : FuncId} {args : Array Value} (h : Calls X.P f args w fun
    | .returned v, w'' => next (a.put o.dst v) w''
    | .panicked chain, w'' => Q (.panic chain) a w''
    | .outgrown, _ => LetsOut Q) : o.uponIn (Fd rd) 0 X.P a next Q (.ok (.enter f args) w) :=
  ⟨(fun h => by simp [Fd, Fence.wide] at h), callsIn_fd h⟩

/-- What is to be shown of an operation, shows it. -/
theorem vcDo_sound (hs : StR X N g w fr H a) {o : Oper} {op : AOp} {b : Bool} (hc : compileOp X.P b o.op = some op) (hd : ∀ t, o.dst = some t → t < N) {K : Fr → Heap → Prop} (h : vcDo X op o.dst fr H K)
    {Kc : Act → World → Prop} {Q : Exit → Act → World → Prop} (hK : ∀ g' w' fr' H' a', StR X N g' w' fr' H' a' → ExtM g w g' w' → K fr' H' → Kc a' w') : o.wpIn (Fd X.rd) 0 X.P a w Kc Q := by
  unfold vcDo at h
  split at h
  · rename_i f args hcal
    obtain ⟨vs, hvs, hrun⟩ := run_call hs hc hcal h.1
    refine wpIn_run hc hrun (upon_enter ?_)
    refine (h.2 g w vs hs.wf hs.hr hvs).mono fun e w' ⟨v, r, g', H', h1, h2, h3, h4⟩ => ?_
    subst h1
    exact hK g' w' _ H' _ (hs.put h3 hd h2) h3.xm h4
  · split at h
    · rename_i i args hyl
      obtain ⟨vs, l, hvs, hb, hrun⟩ := run_yieldOp hs hc hyl
      obtain ⟨L, hL, hlen, hR⟩ := h g w vs l hs.wf hs.hr hvs hb
      rw [run_yield hL (by simpa using hlen)] at hrun
      refine wpIn_run hc hrun ⟨(fun h => by simp [Fd, Fence.wide] at h), (roundIn_fd hR).mono fun e w' ⟨v, r, g', H', h1, h2, h3, h4⟩ => ?_⟩
      subst h1
      exact hK g' w' _ H' _ (hs.put h3 hd h2) h3.xm h4
    · split at h
      · rename_i c v hh hop
        obtain ⟨rfl, hk⟩ := h
        obtain ⟨u, w', g', hrun, hg, hr⟩ := aop_sound hs hc hop
        rcases hrun with hrun | ⟨hrun, rfl⟩
        · refine wpIn_run hc hrun ?_; exact hK g' w' _ _ _ (hs.put hg hd hr) hg.xm hk
        · refine wpIn_run hc hrun ?_; exact hK g' w' _ _ _ (hs.put hg hd hr) hg.xm hk
      · exact h.elim

/-- What is to be shown of an operation under a guard. -/
theorem vcG_cases {t : Nat} {b : Bool} {op : AOp} {dst : Option Nat} {K : Fr → Heap → Prop} (h : vcG X t b op dst fr H K (fr t)) :
    (gval b (fr t) = some true ∧ vcDo X op dst fr H K) ∨ (gval b (fr t) = some false ∧ K (fr.updo dst noV) H) := by
  generalize hv : fr t = v at h
  unfold vcG at h
  split at h
  · rename_i e
    cases e with
    | true =>
      have h := h.1 rfl
      rw [upd_same hv] at h
      cases b with
      | true => exact .inl ⟨rfl, h⟩
      | false => exact .inr ⟨rfl, h⟩
    | false =>
      have h := h.2 rfl
      rw [upd_same hv] at h
      cases b with
      | true => exact .inr ⟨rfl, h⟩
      | false => exact .inl ⟨rfl, h⟩
  · exact .inr ⟨by cases b <;> rfl, h⟩
  · exact h.elim

theorem yielded_of {ops : Array Oper} {j t : Nat} {x : Bool} (ht : (ops[j]?).bind (·.dst) = some t) {tmps : Array Value} (hv : tmps.getD t Go.undef = .bool x) : yielded ops tmps j = some x := by
  have hlt : t < tmps.size := by
    rcases Nat.lt_or_ge t tmps.size with h | h
    · exact h
    · simp [Array.getD, show ¬ t < tmps.size by omega, Go.undef] at hv
  have h2 : tmps[t]? = some (.bool x) := by
    rw [Array.getElem?_eq_getElem hlt]
    simpa [Array.getD, hlt] using hv
  unfold yielded
  simp only [ht]
  simp [h2]

theorem yielded_none {ops : Array Oper} {j t : Nat} (ht : (ops[j]?).bind (·.dst) = some t) {tmps : Array Value} (hv : tmps.getD t Go.undef = Go.undef) : yielded ops tmps j = none := by
  unfold yielded
  simp only [ht]
  cases h2 : tmps[t]? with
  | none => simp [h2]
  | some x =>
    simp [Array.getD_eq_getD_getElem?, h2] at hv
    subst hv
    simp [h2, Go.undef]

theorem gval_wanted (hs : StR X N g w fr H a) {ops : Array Oper} {o : Oper} {j t : Nat} {want c : Bool} (h : gval want (fr t) = some c) (hg : o.guard = some (j, want)) (ht : (ops[j]?).bind (·.dst) = some t) :
    Region.wanted o (yielded ops a.tmps) = c := by
  have hr := hs.fr t
  cases hf : fr t <;> rw [hf] at h hr <;> simp only [gval] at h <;> try (cases h; done)
  · rename_i b'
    rw [rel_bool] at hr
    have hy := yielded_of ht hr
    simp only [Region.wanted, hg, hy]
    cases h
    cases want <;> cases b' <;> rfl
  · rename_i c' v
    cases c' with
    | true => cases h
    | false =>
      cases h
      simp only [Rel] at hr
      have hy := yielded_none ht (hr.2 trivial)
      simp [Region.wanted, hg, hy]

theorem vcOp_sound (hs : StR X N g w fr H a) {hint : Nat → Bool} {ops : Array Oper} {o : Oper} {ao : AOper} (hc : compileOper X.P N hint ops o = some ao) {K : Fr → Heap → Prop} (h : vcOp X ao fr H K)
    {Kc : Act → World → Prop} {Q : Exit → Act → World → Prop} (hK : ∀ g' w' fr' H' a', StR X N g' w' fr' H' a' → ExtM g w g' w' → K fr' H' → Kc a' w') :
    if Region.wanted o (yielded ops a.tmps) then o.wpIn (Fd X.rd) 0 X.P a w Kc Q else (∀ f, o.about X.P w a.eval = some f → (Fd X.rd).fn f) ∧ Kc (a.put o.dst Go.undef) w := by
  obtain ⟨⟨b, hop⟩, hdst, hd, hg⟩ := compileOper_spec hc
  unfold vcOp at h
  rcases hg with ⟨hg1, hg2⟩ | ⟨j, want, t, hg1, ht, hg2⟩
  · rw [hg2] at h
    simp only at h
    rw [hdst] at h
    rw [if_pos (by simp [Region.wanted, hg1])]
    exact (vcDo_sound hs hop hd h hK)
  · rw [hg2] at h
    simp only at h
    rw [hdst] at h
    rcases vcG_cases h with ⟨hgv, h⟩ | ⟨hgv, h⟩
    · rw [gval_wanted hs hgv hg1 ht, if_pos rfl]
      exact (vcDo_sound hs hop hd h hK)
    · rw [gval_wanted hs hgv hg1 ht, if_neg (by decide)]
      exact ⟨fun _ _ => trivial, hK g w _ H _ (hs.putU hd (by simp [noV, Rel])) (ExtM.refl g w) h⟩

theorem vcOps_sound {hint : Nat → Bool} {ops : Array Oper} {K : Fr → Heap → Prop} {Q : Exit → Act → World → Prop} : ∀ (l : List Oper) {al : List AOper} {g : Gh} {w : World} {fr : Fr} {H : Heap} {a : Act}, compileOps X.P N hint ops l = some al → StR X N g w fr H a → vcOps X K al fr H →
    (∀ g' w' fr' H' a', StR X N g' w' fr' H' a' → ExtM g w g' w' → K fr' H' → Q .normal a' w') → wpListIn (Fd X.rd) 0 X.P ops Q l a w
  | [], al, g, w, fr, H, a, hc, hs, h, hK => by
    simp [compileOps] at hc; subst hc
    exact hK g w fr H a hs (ExtM.refl g w) h
  | o :: l, al, g, w, fr, H, a, hc, hs, h, hK => by
    simp only [compileOps] at hc
    split at hc
    · rename_i ao al' h1 h2
      cases hc
      simp only [wpListIn]
      exact vcOp_sound hs h1 h fun g' w' fr' H' a' hs' he hk => vcOps_sound l h2 hs' hk fun g'' w'' fr'' H'' a'' hs'' he' hk' => hK g'' w'' fr'' H'' a'' hs'' (he.trans he') hk'
    · cases hc

/-- A region in the order of its text. -/
theorem ex_region {id : Nat} {ops : Array Oper} {hint : Nat → Bool} {al : List AOper} {Q : Exit → Fr → Heap → Prop} (hc : compileOps X.P N hint ops ops.toList = some al) (h : vcOps X (Q .normal) al fr H) : Ex X N (.region id ops false) fr H Q :=
  fun _ _ _ hs => wpIn_region_list (vcOps_sound _ hc hs h fun g' _ fr' H' _ hs' he hk => ⟨g', fr', H', hs', he, hk⟩)

end
end Go.Avm

/-
  Regions that draw their order: the text's order serves for every order, where no operation changes the memory.
-/
namespace Go.Avm
open Go

def AX.looks : AX → List Nat
  | .t n => [n]
  | .m _ n => [n % 65536]
  | _ => []

def optLooks : Option AX → List Nat
  | none => []
  | some x => x.looks

def AOp.looks : AOp → List Nat
  | .mov x | .not x | .neg x | .conv _ x | .b2s x | .s2b _ x | .r2s x | .smov x | .len x | .lenS x | .ld _ x | .fldA _ x | .fld _ _ x | .box x | .extr x _ | .mki _ x | .mkT _ _ x | .nck x | .isn _ x | .ifn _ x | .boxS _ x | .lds _ x | .rng x | .nxt x => x.looks
  | .pick c a b => c.looks ++ a.looks ++ b.looks
  | .bin _ x y | .beq _ x y | .idxA _ x y | .idxP _ _ x y | .st _ x y | .idxS x y | .idxG _ _ _ x y | .app _ _ x y | .mkR _ _ _ x y | .peq _ x y | .aeq _ _ x y | .mm _ x y | .cpy x y | .mget x y | .mset x y => x.looks ++ y.looks
  | .ssl x lo hi => x.looks ++ optLooks lo ++ optLooks hi
  | .sls _ x lo hi mx | .slA _ _ x lo hi mx => x.looks ++ optLooks lo ++ optLooks hi ++ optLooks mx
  | .alloc _ | .allocB _ _ | .mkM => []
  | .build _ ps => ps.flatMap fun p => p.2.2.looks
  | .bsl _ _ _ ps => ps.flatMap fun p => p.2.looks
  | .mkf _ fs cs => fs.flatMap AX.looks ++ cs.flatMap AX.looks
  | .call _ as => as.flatMap AX.looks
  | .callv x as => x.looks ++ as.flatMap AX.looks
  | .inv _ x as => x.looks ++ as.flatMap AX.looks

def AOper.looks (o : AOper) : List Nat := o.op.looks ++ (match o.g with | some (t, _) => [t] | none => [])

theorem AX.eval_congr {G : Consts} {fr fr' : Fr} {x : AX} (h : ∀ t ∈ x.looks, fr t = fr' t) : x.eval G fr = x.eval G fr' := by
  cases x with
  | t n => exact h n (by simp [AX.looks])
  | m b n => simp only [AX.eval]; rw [h (n % 65536) (by simp [AX.looks])]
  | _ => rfl

theorem mapEval_congr {G : Consts} {fr fr' : Fr} {as : List AX} (h : ∀ t ∈ as.flatMap AX.looks, fr t = fr' t) : as.map (·.eval G fr) = as.map (·.eval G fr') :=
  List.map_congr_left fun _ hx => AX.eval_congr fun t ht => h t (List.mem_flatMap.2 ⟨_, hx, ht⟩)

theorem optEval_congr {G : Consts} {fr fr' : Fr} {x : Option AX} (h : ∀ t ∈ optLooks x, fr t = fr' t) : x.map (·.eval G fr) = x.map (·.eval G fr') := by
  cases x with
  | none => rfl
  | some x => simp only [Option.map_some]; rw [AX.eval_congr h]

theorem aop_congr {G : Consts} {fr fr' : Fr} {H : Heap} {op : AOp} (h : ∀ t ∈ op.looks, fr t = fr' t) : aop G fr H op = aop G fr' H op := by
  cases op with
  | mov x => simp only [aop]; rw [AX.eval_congr (fr' := fr') h]
  | not x => simp only [aop]; rw [AX.eval_congr (fr' := fr') h]
  | neg x => simp only [aop]; rw [AX.eval_congr (fr' := fr') h]
  | conv k x => simp only [aop]; rw [AX.eval_congr (fr' := fr') h]
  | b2s x => simp only [aop]; rw [AX.eval_congr (fr' := fr') h]
  | s2b b x => cases b <;> simp only [aop] <;> rw [AX.eval_congr (fr' := fr') h]
  | r2s x => simp only [aop]; rw [AX.eval_congr (fr' := fr') h]
  | smov x => simp only [aop]; rw [AX.eval_congr (fr' := fr') h]
  | len x => simp only [aop]; rw [AX.eval_congr (fr' := fr') h]
  | lenS x => simp only [aop]; rw [AX.eval_congr (fr' := fr') h]
  | ld n x => cases n <;> simp only [aop] <;> rw [AX.eval_congr (fr' := fr') h]
  | fldA off x => simp only [aop]; rw [AX.eval_congr (fr' := fr') h]
  | fld off n x => cases n <;> simp only [aop] <;> rw [AX.eval_congr (fr' := fr') h]
  | box x => simp only [aop]; rw [AX.eval_congr (fr' := fr') h]
  | extr x i => simp only [aop]; rw [AX.eval_congr (fr' := fr') h]
  | mki t x => simp only [aop]; rw [AX.eval_congr (fr' := fr') h]
  | mkT a b x => simp only [aop]; rw [AX.eval_congr (fr' := fr') h]
  | nck x => simp only [aop]; rw [AX.eval_congr (fr' := fr') h]
  | mkM => rfl
  | isn n x => simp only [aop]; rw [AX.eval_congr (fr' := fr') h]
  | ifn n x => simp only [aop]; rw [AX.eval_congr (fr' := fr') h]
  | boxS n x => simp only [aop]; rw [AX.eval_congr (fr' := fr') h]
  | lds n x => cases n <;> simp only [aop] <;> rw [AX.eval_congr (fr' := fr') h]
  | rng x => simp only [aop]; rw [AX.eval_congr (fr' := fr') h]
  | nxt x => simp only [aop]; rw [AX.eval_congr (fr' := fr') h]
  | mget x y =>
    simp only [AOp.looks, List.mem_append] at h
    simp only [aop]
    rw [AX.eval_congr (fr' := fr') (x := x) fun t ht => h t (.inl ht), AX.eval_congr (fr' := fr') (x := y) fun t ht => h t (.inr ht)]
  | mset x y =>
    simp only [AOp.looks, List.mem_append] at h
    simp only [aop]
    rw [AX.eval_congr (fr' := fr') (x := x) fun t ht => h t (.inl ht), AX.eval_congr (fr' := fr') (x := y) fun t ht => h t (.inr ht)]
  | peq n x y =>
    simp only [AOp.looks, List.mem_append] at h
    simp only [aop]
    rw [AX.eval_congr (fr' := fr') (x := x) fun t ht => h t (.inl ht), AX.eval_congr (fr' := fr') (x := y) fun t ht => h t (.inr ht)]
  | aeq n ks x y =>
    simp only [AOp.looks, List.mem_append] at h
    simp only [aop]
    rw [AX.eval_congr (fr' := fr') (x := x) fun t ht => h t (.inl ht), AX.eval_congr (fr' := fr') (x := y) fun t ht => h t (.inr ht)]
  | mm n x y =>
    simp only [AOp.looks, List.mem_append] at h
    simp only [aop]
    rw [AX.eval_congr (fr' := fr') (x := x) fun t ht => h t (.inl ht), AX.eval_congr (fr' := fr') (x := y) fun t ht => h t (.inr ht)]
  | cpy x y =>
    simp only [AOp.looks, List.mem_append] at h
    simp only [aop]
    rw [AX.eval_congr (fr' := fr') (x := x) fun t ht => h t (.inl ht), AX.eval_congr (fr' := fr') (x := y) fun t ht => h t (.inr ht)]
  | pick c a b =>
    simp only [AOp.looks, List.mem_append] at h
    simp only [aop]
    rw [AX.eval_congr (fr' := fr') (x := c) fun t ht => h t (.inl (.inl ht)), AX.eval_congr (fr' := fr') (x := a) fun t ht => h t (.inl (.inr ht)), AX.eval_congr (fr' := fr') (x := b) fun t ht => h t (.inr ht)]
  | idxG m sz n x y =>
    simp only [AOp.looks, List.mem_append] at h
    cases n <;> simp only [aop] <;> rw [AX.eval_congr (fr' := fr') (x := x) fun t ht => h t (.inl ht), AX.eval_congr (fr' := fr') (x := y) fun t ht => h t (.inr ht)]
  | bin op x y =>
    simp only [AOp.looks, List.mem_append] at h
    simp only [aop]
    rw [AX.eval_congr (fr' := fr') (x := x) fun t ht => h t (.inl ht), AX.eval_congr (fr' := fr') (x := y) fun t ht => h t (.inr ht)]
  | beq n x y =>
    simp only [AOp.looks, List.mem_append] at h
    simp only [aop]
    rw [AX.eval_congr (fr' := fr') (x := x) fun t ht => h t (.inl ht), AX.eval_congr (fr' := fr') (x := y) fun t ht => h t (.inr ht)]
  | idxA s x y =>
    simp only [AOp.looks, List.mem_append] at h
    simp only [aop]
    rw [AX.eval_congr (fr' := fr') (x := x) fun t ht => h t (.inl ht), AX.eval_congr (fr' := fr') (x := y) fun t ht => h t (.inr ht)]
  | idxP m s x y =>
    simp only [AOp.looks, List.mem_append] at h
    simp only [aop]
    rw [AX.eval_congr (fr' := fr') (x := x) fun t ht => h t (.inl ht), AX.eval_congr (fr' := fr') (x := y) fun t ht => h t (.inr ht)]
  | st n x y =>
    simp only [AOp.looks, List.mem_append] at h
    simp only [aop]
    rw [AX.eval_congr (fr' := fr') (x := x) fun t ht => h t (.inl ht), AX.eval_congr (fr' := fr') (x := y) fun t ht => h t (.inr ht)]
  | idxS x y =>
    simp only [AOp.looks, List.mem_append] at h
    simp only [aop]
    rw [AX.eval_congr (fr' := fr') (x := x) fun t ht => h t (.inl ht), AX.eval_congr (fr' := fr') (x := y) fun t ht => h t (.inr ht)]
  | app s b x y =>
    simp only [AOp.looks, List.mem_append] at h
    simp only [aop]
    rw [AX.eval_congr (fr' := fr') (x := x) fun t ht => h t (.inl ht), AX.eval_congr (fr' := fr') (x := y) fun t ht => h t (.inr ht)]
  | mkR s b z x y =>
    simp only [AOp.looks, List.mem_append] at h
    simp only [aop]
    rw [AX.eval_congr (fr' := fr') (x := x) fun t ht => h t (.inl ht), AX.eval_congr (fr' := fr') (x := y) fun t ht => h t (.inr ht)]
  | ssl x lo hi =>
    simp only [AOp.looks, List.mem_append] at h
    simp only [aop]
    rw [AX.eval_congr (fr' := fr') (x := x) fun t ht => h t (.inl (.inl ht)), optEval_congr (fr' := fr') (x := lo) fun t ht => h t (.inl (.inr ht)), optEval_congr (fr' := fr') (x := hi) fun t ht => h t (.inr ht)]
  | sls s x lo hi mx =>
    simp only [AOp.looks, List.mem_append] at h
    have e1 := AX.eval_congr (G := G) (fr' := fr') (x := x) fun t ht => h t (.inl (.inl (.inl ht)))
    have e2 := optEval_congr (G := G) (fr' := fr') (x := lo) fun t ht => h t (.inl (.inl (.inr ht)))
    cases mx with
    | none =>
      have e3 := optEval_congr (G := G) (fr' := fr') (x := hi) fun t ht => h t (.inl (.inr ht))
      simp only [aop]; rw [e1, e2, e3]
    | some mx =>
      have e4 := AX.eval_congr (G := G) (fr' := fr') (x := mx) fun t ht => h t (.inr ht)
      cases hi with
      | none => simp only [aop]
      | some hi =>
        have e3 := AX.eval_congr (G := G) (fr' := fr') (x := hi) fun t ht => h t (.inl (.inr ht))
        simp only [aop]; rw [e1, e2, e3, e4]
  | slA m s x lo hi mx =>
    simp only [AOp.looks, List.mem_append] at h
    have e1 := AX.eval_congr (G := G) (fr' := fr') (x := x) fun t ht => h t (.inl (.inl (.inl ht)))
    have e2 := optEval_congr (G := G) (fr' := fr') (x := lo) fun t ht => h t (.inl (.inl (.inr ht)))
    have e3 := optEval_congr (G := G) (fr' := fr') (x := hi) fun t ht => h t (.inl (.inr ht))
    cases mx with
    | none => simp only [aop]; rw [e1, e2, e3]
    | some mx => simp only [aop]
  | alloc cs => rfl
  | allocB T e => rfl
  | build cs ps =>
    simp only [aop]
    have : ps.map (fun p => (p.1, p.2.1, p.2.2.eval G fr)) = ps.map (fun p => (p.1, p.2.1, p.2.2.eval G fr')) :=
      List.map_congr_left fun p hp => by rw [AX.eval_congr (fr' := fr') fun t ht => h t (by simp only [AOp.looks]; exact List.mem_flatMap.2 ⟨p, hp, ht⟩)]
    rw [this]
  | bsl s z n ps =>
    simp only [aop]
    have : ps.map (fun p => (p.1, p.2.eval G fr)) = ps.map (fun p => (p.1, p.2.eval G fr')) :=
      List.map_congr_left fun p hp => by rw [AX.eval_congr (fr' := fr') fun t ht => h t (by simp only [AOp.looks]; exact List.mem_flatMap.2 ⟨p, hp, ht⟩)]
    rw [this]
  | mkf f fs cs =>
    simp only [AOp.looks, List.mem_append] at h
    simp only [aop]
    rw [mapEval_congr (fr' := fr') (as := fs) fun t ht => h t (.inl ht), mapEval_congr (fr' := fr') (as := cs) fun t ht => h t (.inr ht)]
  | call f as => rfl
  | callv x as => rfl
  | inv tb x as => rfl

theorem callee_congr {G : Consts} {fr fr' : Fr} {op : AOp} (h : ∀ t ∈ op.looks, fr t = fr' t) : callee G fr op = callee G fr' op := by
  cases op with
  | call f as => simp only [callee]; rw [mapEval_congr (fr' := fr') (as := as) h]
  | callv x as =>
    simp only [AOp.looks, List.mem_append] at h
    simp only [callee]
    rw [AX.eval_congr (fr' := fr') (x := x) fun t ht => h t (.inl ht), mapEval_congr (fr' := fr') (as := as) fun t ht => h t (.inr ht)]
  | inv tb x as =>
    simp only [AOp.looks, List.mem_append] at h
    simp only [callee]
    rw [AX.eval_congr (fr' := fr') (x := x) fun t ht => h t (.inl ht), mapEval_congr (fr' := fr') (as := as) fun t ht => h t (.inr ht)]
  | _ => rfl

/-- Operations that leave the memory as it is. -/
def pureOp : AOp → Bool
  | .alloc _ | .allocB _ _ | .box _ | .boxS _ _ | .st _ _ _ | .app _ _ _ _ | .mkT _ _ _ | .mkR _ _ _ _ _ | .s2b _ _ | .cpy _ _ | .call _ _ | .callv _ _ | .rng _ | .nxt _ | .mkM | .mset _ _ | .inv _ _ _ => false
  | _ => true

theorem aop_pure {G : Consts} {fr : Fr} {H : Heap} {op : AOp} {c : Bool} {v : AV} {h : Option Heap} (hp : pureOp op = true) (he : aop G fr H op = some (c, v, h)) : h = none := by
  cases op <;> first | (simp [pureOp] at hp; done) | skip
  case ld n x => cases n <;> simp only [aop] at he <;> ((repeat' split at he) <;> simp_all)
  case lds n x => cases n <;> simp only [aop] at he <;> ((repeat' split at he) <;> simp_all)
  case fld o n x => cases n <;> simp only [aop] at he <;> ((repeat' split at he) <;> simp_all)
  case idxG a b n x y => cases n <;> simp only [aop] at he <;> ((repeat' split at he) <;> simp_all)
  case sls n x a b m => cases m <;> cases b <;> simp only [aop] at he <;> ((repeat' split at he) <;> simp_all)
  case slA k n x a b m => cases m <;> simp only [aop] at he <;> ((repeat' split at he) <;> simp_all)
  case bin o x y =>
    simp only [aop, Option.map_eq_some_iff] at he
    obtain ⟨⟨a, b⟩, _, h2⟩ := he
    cases h2; rfl
  case b2s x =>
    simp only [aop] at he
    split at he
    · simp only [Option.map_eq_some_iff] at he
      obtain ⟨a, _, h2⟩ := he
      cases h2; rfl
    · cases he
  case aeq n ks x y =>
    simp only [aop] at he
    split at he
    · simp only [Option.map_eq_some_iff] at he
      obtain ⟨a, _, h2⟩ := he
      cases h2; rfl
    · cases he
  all_goals (simp only [aop] at he; (repeat' split at he) <;> simp_all)


/-- A call that turns a builder into its string (in regions that draw their order). -/
def csOf : AOp → Option (FuncId × List AX)
  | .inv [(f, _)] (.m true _) as => some (f, as)
  | _ => none
theorem csOf_spec {op : AOp} {f : FuncId} {as : List AX} (h : csOf op = some (f, as)) : ∃ z n, op = .inv [(f, z)] (.m true n) as := by
  unfold csOf at h
  split at h
  · cases h; exact ⟨_, _, rfl⟩
  · cases h
/-- What such a call does. -/
def CallS (X : Cx) (f : FuncId) (args : List AV) (H : Heap) (r : AV) (H' : Heap) : Prop :=
  ∃ i T e l, args = [.ptr i 0] ∧ H[i]? = some (.bld T e l) ∧ r = .str l ∧ H' = H.set i .dead ∧ HasBody X f ∧ ∀ H2 : Heap, H2[i]? = some (.bld T e l) → ∀ g w vs, Wf X.G g w → HR g w H2 → RelL args g w vs →
    Calls X.P f vs.toArray w fun en w' => ∃ v g', en = .returned v ∧ Rel r g' w' v ∧ Good X g w H2 g' w' (H2.set i .dead)
theorem CallS.any {X : Cx} {f : FuncId} {args : List AV} {H : Heap} {r : AV} {H' : Heap} (h : CallS X f args H r H') : ∃ i T e l, H[i]? = some (.bld T e l) ∧ H' = H.set i .dead ∧ ∀ H2 : Heap, H2[i]? = some (.bld T e l) → CallS X f args H2 r (H2.set i .dead) := by
  obtain ⟨i, T, e, l, h1, h2, h3, h4, h5, h6⟩ := h
  exact ⟨i, T, e, l, h2, h4, fun H2 hh => ⟨i, T, e, l, h1, hh, h3, rfl, h5, h6⟩⟩

/-- A call that writes the box of its first argument alone (in regions that draw their order). -/
def cbOf : AOp → Option (FuncId × List AX)
  | .inv [(f, _)] (.m false _) as => some (f, as)
  | _ => none
theorem cbOf_spec {op : AOp} {f : FuncId} {as : List AX} (h : cbOf op = some (f, as)) : ∃ z n, op = .inv [(f, z)] (.m false n) as := by
  unfold cbOf at h
  split at h
  · cases h; exact ⟨_, _, rfl⟩
  · cases h
/-- What such a call does. -/
def CallB (X : Cx) (f : FuncId) (args : List AV) (H : Heap) (r : AV) (H' : Heap) : Prop :=
  ∃ i cs b, oddM i = false ∧ H[i]? = some (.box cs) ∧ H' = H.set i (.box b) ∧ HasBody X f ∧ ∀ H2 : Heap, H2[i]? = some (.box cs) → ∀ g w vs, Wf X.G g w → HR g w H2 → RelL args g w vs →
    Calls X.P f vs.toArray w fun en w' => ∃ v g', en = .returned v ∧ Rel r g' w' v ∧ Good X g w H2 g' w' (H2.set i (.box b))
theorem CallB.any {X : Cx} {f : FuncId} {args : List AV} {H : Heap} {r : AV} {H' : Heap} (h : CallB X f args H r H') : ∃ i cs b, oddM i = false ∧ H[i]? = some (.box cs) ∧ H' = H.set i (.box b) ∧ ∀ H2 : Heap, H2[i]? = some (.box cs) → CallB X f args H2 r (H2.set i (.box b)) := by
  obtain ⟨i, cs, b, h1, h2, h4, h5, h6⟩ := h
  exact ⟨i, cs, b, h1, h2, h4, fun H2 hh => ⟨i, cs, b, h1, hh, rfl, h5, h6⟩⟩

/-- (What makes new blocks is among them: the order of what looks at the memory is fixed to it.) -/
def isSt : AOp → Bool
  | .inv [_] (.m _ _) _ => true
  | .st _ _ _ | .cpy _ _ | .alloc _ | .allocB _ _ | .box _ | .boxS _ _ | .mkT _ _ _ | .mkR _ _ _ _ _ | .s2b true _ | .rng _ | .nxt _ | .mkM | .mset _ _ => true
  | _ => false

def isApp : AOp → Bool
  | .app _ _ _ _ => true
  | _ => false

/-- Operations that may write. -/
def isW (op : AOp) : Bool := isSt op || isApp op

/-- In a region that draws its order, lists of elements with an odd number of bytes have tokens with even numbers, and the other way. -/
def tokPar (b : Nat) : AV → Bool
  | .sl .ex _ => true
  | .sl (.tok _ _) _ => true
  | _ => false

def drawnOk (G : Consts) (fr : Fr) : AOp → Bool
  | .app _ b x _ => tokPar b (x.eval G fr)
  | _ => true

theorem drawnOk_congr {G : Consts} {fr fr' : Fr} {op : AOp} (h : ∀ t ∈ op.looks, fr t = fr' t) : drawnOk G fr op = drawnOk G fr' op := by
  cases op with
  | app s b x y =>
    simp only [AOp.looks, List.mem_append] at h
    simp only [drawnOk]
    rw [AX.eval_congr (fr' := fr') (x := x) fun t ht => h t (.inl ht)]
  | _ => rfl

/-- Operations that do not look at the memory. -/
def freeOp : AOp → Bool
  | .b2s _ | .ld _ _ | .idxG _ _ _ _ _ | .fld _ _ _ | .alloc _ | .allocB _ _ | .box _ | .boxS _ _ | .st _ _ _ | .app _ _ _ _ | .mkT _ _ _ | .mkR _ _ _ _ _ | .s2b _ _ | .cpy _ _ | .call _ _ | .callv _ _ | .slA _ _ _ _ _ _ | .rng _ | .nxt _ | .mkM | .mget _ _ | .mset _ _ | .inv _ _ _ => false
  | _ => true

theorem aop_free {G : Consts} {fr : Fr} {H H' : Heap} {op : AOp} (hp : freeOp op = true) : aop G fr H op = aop G fr H' op := by
  cases op <;> first | rfl | (simp [freeOp] at hp; done) | skip
  case lds n x => cases n <;> rfl
  case sls n x lo hi mx => cases mx <;> cases hi <;> rfl

theorem free_pure {op : AOp} (hp : freeOp op = true) : pureOp op = true := by
  cases op <;> first | rfl | (simp [freeOp] at hp; done)

theorem free_callee {G : Consts} {fr : Fr} {op : AOp} (hp : freeOp op = true) : callee G fr op = none := by
  cases op <;> first | rfl | (simp [freeOp] at hp; done)

/-- An operation yields this value, and leaves the memory so. -/
def DoV (X : Cx) (op : AOp) (fr : Fr) (H : Heap) (v : AV) (H' : Heap) : Prop :=
  match csOf op with
  | some (f, as) => CallS X f (as.map (·.eval X.G fr)) H v H'
  | none => match cbOf op with
  | some (f, as) => CallB X f (as.map (·.eval X.G fr)) H v H'
  | none => match callee X.G fr op with
  | some (f, args) => CallV X f args H v ∧ H' = H
  | none => (aop X.G fr H op = some (true, v, none) ∧ H' = H) ∨ (isW op = true ∧ drawnOk X.G fr op = true ∧ aop X.G fr H op = some (true, v, some H'))

def Yld (X : Cx) (o : AOper) (fr : Fr) (H : Heap) (v : AV) (H' : Heap) : Prop :=
  match o.g with
  | none => DoV X o.op fr H v H'
  | some (t, b) => ∃ c, gval b (fr t) = some c ∧ (c = true → DoV X o.op fr H v H') ∧ (c = false → v = noV ∧ H' = H)

def vcDoQ (X : Cx) (op : AOp) (fr : Fr) (H : Heap) (K : AV → Heap → Prop) : Prop :=
  match csOf op with
  | some (f, as) => ∃ r H', CallS X f (as.map (·.eval X.G fr)) H r H' ∧ K r H'
  | none => match cbOf op with
  | some (f, as) => ∃ r H', CallB X f (as.map (·.eval X.G fr)) H r H' ∧ K r H'
  | none => match callee X.G fr op with
    | some (f, args) => ∃ r, CallV X f args H r ∧ K r H
    | none => match aop X.G fr H op with
      | some (c, v, none) => c = true ∧ K v H
      | some (c, v, some H') => isW op = true ∧ drawnOk X.G fr op = true ∧ c = true ∧ K v H'
      | none => False

def vcGQ (X : Cx) (t : Nat) (b : Bool) (op : AOp) (fr : Fr) (H : Heap) (K : Fr → AV → Heap → Prop) : AV → Prop
  | .bool e => (e = true → match b with
      | true => vcDoQ X op (fr.updo (some t) (.bool true)) H (K (fr.updo (some t) (.bool true)))
      | false => K (fr.updo (some t) (.bool true)) noV H) ∧
    (e = false → match b with
      | true => K (fr.updo (some t) (.bool false)) noV H
      | false => vcDoQ X op (fr.updo (some t) (.bool false)) H (K (fr.updo (some t) (.bool false))))
  | .grd false _ => K fr noV H
  | _ => False

def vcOpQ (X : Cx) (o : AOper) (fr : Fr) (H : Heap) (K : Fr → AV → Heap → Prop) : Prop :=
  match o.g with
  | none => vcDoQ X o.op fr H (K fr)
  | some (t, b) => vcGQ X t b o.op fr H K (fr t)

/-- The operations of a region that draws its order, in the text's order. -/
def vcOpsQ (X : Cx) (K : Fr → Heap → Prop) : Heap → List AOper → Fr → Prop
  | H, [], fr => K fr H
  | H, o :: r, fr => vcOpQ X o fr H fun fr v H => vcOpsQ X K H r (fr.updo o.dst v)

/-- Operations that do not look at tokens. -/
def tokFree : AOp → Bool
  | .ld _ _ => true
  | op => freeOp op

/-- A store into one of the boxes with even numbers, and a load from one of the others. -/
def stLd : AOp → AOp → Bool
  | .st _ (.m false t) _, .ld _ (.m true u) => decide (t < 65536) == decide (u < 65536)
  | _, _ => false

def isS (op : AOp) : Bool := (csOf op).isSome
def isT : AOp → Bool
  | .st _ _ _ => true
  | _ => false
/-- A builder's string, and a store into a box. -/
def csSt (x y : AOp) : Bool := (isS x && isT y) || (isT x && isS y)

def isB (op : AOp) : Bool := (cbOf op).isSome
def isLm : AOp → Bool
  | .ld _ (.m true u) => decide (u < 65536)
  | _ => false
/-- A call that writes one box, and a load from the other. -/
def cbLd (x y : AOp) : Bool := isB x && isLm y

def okWith (x y : AOp) : Bool := (if isSt x then freeOp y || (stLd x y || (csSt x y || cbLd x y)) else true) && (if isApp x then tokFree y else true)

def apartA (x y : AOper) : Bool :=
  (match x.dst with | some d => !y.looks.contains d && y.dst != some d | none => true) &&
  (match y.dst with | some d => !x.looks.contains d | none => true) &&
  okWith x.op y.op && okWith y.op x.op

/-- What waits for i, directly or through others. -/
def reachStep (md : Region.Mode) (ops : Array Oper) (D : List Nat) (j : Nat) : List Nat :=
  match ops[j]? with
  | some oj => if oj.after.any (fun e => Region.binds md e && D.contains e.on) then j :: D else D
  | none => D

def reachA (md : Region.Mode) (ops : Array Oper) (i : Nat) : List Nat := (List.range ops.size).foldl (reachStep md ops) [i]

def freeA (md : Region.Mode) (ops : Array Oper) (al : List AOper) (listed : Array Bool) (i : Nat) : Bool :=
  let D := reachA md ops i
  (List.range ops.size).all fun j => if D.contains j then j == i || !listed.getD j true else
    listed.getD j true || (match al[i]?, al[j]? with | some x, some y => apartA x y | _, _ => false)

def lexFromA (md : Region.Mode) (ops : Array Oper) (al : List AOper) : Nat → Nat → Array Bool → Bool
  | 0, _, listed => (Region.ready md ops listed).isEmpty
  | fuel + 1, k, listed => (Region.ready md ops listed).contains k && freeA md ops al listed k && lexFromA md ops al fuel (k + 1) (listed.setIfInBounds k true)

def lexA (ops : Array Oper) (al : List AOper) : Bool := lexFromA .any ops al ops.size 0 (Array.replicate ops.size false)

section
variable {X : Cx} {N : Nat} {H : Heap} {ops : Array Oper} {al : List AOper} {md : Region.Mode}

theorem cs_st {op : AOp} {x : FuncId × List AX} (h : csOf op = some x) : isSt op = true := by
  obtain ⟨z, n, rfl⟩ := csOf_spec (f := x.1) (as := x.2) h
  rfl
theorem cb_st {op : AOp} {x : FuncId × List AX} (h : cbOf op = some x) : isSt op = true := by
  obtain ⟨z, n, rfl⟩ := cbOf_spec (f := x.1) (as := x.2) h
  rfl
theorem cb_none {op : AOp} (h : isSt op = false) : cbOf op = none := by
  cases hc : cbOf op with
  | none => rfl
  | some x => rw [cb_st hc] at h; cases h
theorem cb_free {op : AOp} (h : freeOp op = true) : cbOf op = none := by
  cases hc : cbOf op with
  | none => rfl
  | some x =>
    obtain ⟨z, n, rfl⟩ := cbOf_spec (f := x.1) (as := x.2) hc
    cases h
theorem cb_pure {op : AOp} (h : pureOp op = true) : cbOf op = none := by
  cases hc : cbOf op with
  | none => rfl
  | some x =>
    obtain ⟨z, n, rfl⟩ := cbOf_spec (f := x.1) (as := x.2) hc
    cases h
theorem cs_none {op : AOp} (h : isSt op = false) : csOf op = none := by
  cases hc : csOf op with
  | none => rfl
  | some x => rw [cs_st hc] at h; cases h
theorem cs_free {op : AOp} (h : freeOp op = true) : csOf op = none := by
  cases hc : csOf op with
  | none => rfl
  | some x =>
    obtain ⟨z, n, rfl⟩ := csOf_spec (f := x.1) (as := x.2) hc
    cases h
theorem cs_pure {op : AOp} (h : pureOp op = true) : csOf op = none := by
  cases hc : csOf op with
  | none => rfl
  | some x =>
    obtain ⟨z, n, rfl⟩ := csOf_spec (f := x.1) (as := x.2) hc
    cases h
theorem DoV.congr {op : AOp} {fr fr' : Fr} {v : AV} {H' : Heap} (h : ∀ t ∈ op.looks, fr t = fr' t) (hd : DoV X op fr H v H') : DoV X op fr' H v H' := by
  unfold DoV at hd ⊢
  cases hc : csOf op with
  | none =>
    rw [hc] at hd
    simp only at hd ⊢
    cases hb : cbOf op with
    | none =>
      rw [hb] at hd
      rw [callee_congr h, aop_congr h, drawnOk_congr h] at hd
      exact hd
    | some x =>
      obtain ⟨f, as⟩ := x
      rw [hb] at hd
      obtain ⟨z, n, rfl⟩ := cbOf_spec hb
      simp only [AOp.looks, List.mem_append] at h
      simp only at hd ⊢
      rw [mapEval_congr (fr' := fr') (as := as) fun t ht => h t (.inr ht)] at hd
      exact hd
  | some x =>
    obtain ⟨f, as⟩ := x
    rw [hc] at hd
    obtain ⟨z, n, rfl⟩ := csOf_spec hc
    simp only [AOp.looks, List.mem_append] at h
    simp only at hd ⊢
    rw [mapEval_congr (fr' := fr') (as := as) fun t ht => h t (.inr ht)] at hd
    exact hd

theorem DoV.same {op : AOp} {fr : Fr} {v : AV} {H' : Heap} (hp : isW op = false) (hd : DoV X op fr H v H') : H' = H := by
  unfold DoV at hd
  rw [cs_none (by unfold isW at hp; simp only [Bool.or_eq_false_iff] at hp; exact hp.1)] at hd
  simp only at hd
  rw [cb_none (by unfold isW at hp; simp only [Bool.or_eq_false_iff] at hp; exact hp.1)] at hd
  simp only at hd
  split at hd
  · exact hd.2
  · rcases hd with hd | ⟨hd, _⟩
    · exact hd.2
    · rw [hp] at hd; cases hd

theorem DoV.free {op : AOp} {fr : Fr} {v : AV} {H' H2 : Heap} (hp : freeOp op = true) (hd : DoV X op fr H v H') : DoV X op fr H2 v H2 := by
  unfold DoV at hd ⊢
  rw [cs_free hp] at hd
  rw [cs_free hp]
  simp only at hd ⊢
  rw [cb_free hp] at hd
  rw [cb_free hp]
  simp only at hd ⊢
  rw [free_callee hp] at hd
  rw [free_callee hp]
  simp only at hd ⊢
  rcases hd with hd | ⟨hd, he⟩
  · rw [aop_free hp (H' := H2)] at hd
    exact .inl ⟨hd.1, trivial⟩
  · have := aop_pure (free_pure hp) he.2
    cases this

theorem Yld.congr {o : AOper} {fr fr' : Fr} {v : AV} {H' : Heap} (h : ∀ t ∈ o.looks, fr t = fr' t) (hd : Yld X o fr H v H') : Yld X o fr' H v H' := by
  unfold Yld at hd ⊢
  unfold AOper.looks at h
  cases hg : o.g with
  | none =>
    rw [hg] at hd h
    simp only [List.append_nil] at h
    exact hd.congr h
  | some tb =>
    obtain ⟨t, b⟩ := tb
    rw [hg] at hd h
    simp only [List.mem_append] at h
    obtain ⟨c, h1, h2, h3⟩ := hd
    exact ⟨c, by rw [← h t (.inr (by simp))]; exact h1, fun hc => (h2 hc).congr fun u hu => h u (.inl hu), h3⟩

theorem Yld.same {o : AOper} {fr : Fr} {v : AV} {H' : Heap} (hp : isW o.op = false) (hd : Yld X o fr H v H') : H' = H := by
  unfold Yld at hd
  split at hd
  · exact hd.same hp
  · obtain ⟨c, _, h2, h3⟩ := hd
    cases c with
    | true => exact (h2 rfl).same hp
    | false => exact (h3 rfl).2

theorem Yld.free {o : AOper} {fr : Fr} {v : AV} {H' H2 : Heap} (hp : freeOp o.op = true) (hd : Yld X o fr H v H') : Yld X o fr H2 v H2 := by
  unfold Yld at hd ⊢
  split at hd
  · rename_i hg
    exact hd.free hp
  · rename_i t b hg
    obtain ⟨c, h1, h2, h3⟩ := hd
    exact ⟨c, h1, fun hc => (h2 hc).free hp, fun hc => ⟨(h3 hc).1, rfl⟩⟩

theorem free_not_st {op : AOp} (hp : freeOp op = true) : isW op = false := by
  cases op <;> first | rfl | (simp [freeOp] at hp; done)

theorem tokFree_not_w {op : AOp} (hp : tokFree op = true) : isW op = false := by
  cases op <;> first | rfl | (simp [tokFree, freeOp] at hp; done)

/-- What does not look at tokens yields the same where one of them has changed. -/
theorem DoV.tokFree {op : AOp} {fr : Fr} {v : AV} {H' : Heap} {i n m : Nat} (hp : tokFree op = true) (hi : H[i]? = some (.tok n)) (hd : DoV X op fr H v H') : DoV X op fr (H.set i (.tok m)) v (H.set i (.tok m)) := by
  cases op with
  | ld k x =>
    have e : aop X.G fr (H.set i (.tok m)) (.ld k x) = aop X.G fr H (.ld k x) := by
      have key : ∀ j : Nat, (H.set i (.tok m))[j]? = H[j]? ∨ ((∃ a, (H.set i (.tok m))[j]? = some (.tok a)) ∧ ∃ a, H[j]? = some (.tok a)) := fun j => by
        by_cases hji : i = j
        · subst hji
          refine .inr ⟨⟨m, ?_⟩, n, hi⟩
          have hl : i < H.length := by
            rcases Nat.lt_or_ge i H.length with h' | h'
            · exact h'
            · rw [List.getElem?_eq_none h'] at hi; cases hi
          rw [List.getElem?_set_self hl]
        · exact .inl (List.getElem?_set_ne hji)
      cases hx : x.eval X.G fr with
      | ptr id off =>
        rcases key id with h | ⟨⟨a, h⟩, b, h'⟩
        · cases k <;> simp only [aop, hx, h]
        · cases k <;> simp only [aop, hx, h, h']
      | vp cs => cases k <;> cases cs <;> simp only [aop, hx]
      | _ => cases k <;> simp only [aop, hx]
    unfold DoV at hd ⊢
    simp only [callee, csOf, cbOf] at hd ⊢
    rw [e]
    rcases hd with hd | ⟨hd, _⟩
    · exact .inl ⟨hd.1, trivial⟩
    · exact absurd hd (by simp [isW, isSt, isApp])
  | _ => exact hd.free (by simpa only [Avm.tokFree] using hp)

theorem Yld.tokFree {o : AOper} {fr : Fr} {v : AV} {H' : Heap} {i n m : Nat} (hp : tokFree o.op = true) (hi : H[i]? = some (.tok n)) (hd : Yld X o fr H v H') : Yld X o fr (H.set i (.tok m)) v (H.set i (.tok m)) := by
  unfold Yld at hd ⊢
  split at hd
  · exact hd.tokFree hp hi
  · obtain ⟨c, h1, h2, h3⟩ := hd
    exact ⟨c, h1, fun hc => (h2 hc).tokFree hp hi, fun hc => ⟨(h3 hc).1, rfl⟩⟩

/-- What does not look at tokens yields the same where one more has come. -/
theorem DoV.tokNew {op : AOp} {fr : Fr} {v : AV} {m : Nat} (hp : Avm.tokFree op = true) : (∀ H', DoV X op fr H v H' → DoV X op fr (H ++ [.tok m]) v (H ++ [.tok m])) ∧ ∀ H', DoV X op fr (H ++ [.tok m]) v H' → DoV X op fr H v H := by
  cases op with
  | ld k x =>
    have key : ∀ j : Nat, (H ++ [Blk.tok m])[j]? = H[j]? ∨ ((H ++ [Blk.tok m])[j]? = some (.tok m) ∧ H[j]? = none) := fun j => by
      rcases Nat.lt_trichotomy j H.length with h | h | h
      · exact .inl (List.getElem?_append_left h)
      · subst h
        exact .inr ⟨by simp, by simp⟩
      · refine .inl ?_
        rw [List.getElem?_eq_none (by rw [List.length_append, List.length_singleton]; omega), List.getElem?_eq_none (by omega)]
    have e : aop X.G fr (H ++ [.tok m]) (.ld k x) = aop X.G fr H (.ld k x) := by
      cases hx : x.eval X.G fr with
      | ptr id off =>
        rcases key id with h | ⟨h, h'⟩
        · cases k <;> simp only [aop, hx, h]
        · cases k <;> simp only [aop, hx, h, h']
      | vp cs => cases k <;> cases cs <;> simp only [aop, hx]
      | _ => cases k <;> simp only [aop, hx]
    constructor
    · intro H' hd
      unfold DoV at hd ⊢
      simp only [callee, csOf, cbOf] at hd ⊢
      rw [e]
      rcases hd with hd | ⟨hd, _⟩
      · exact .inl ⟨hd.1, trivial⟩
      · exact absurd hd (by simp [isW, isSt, isApp])
    · intro H' hd
      unfold DoV at hd ⊢
      simp only [callee, csOf, cbOf] at hd ⊢
      rw [e] at hd
      rcases hd with hd | ⟨hd, _⟩
      · exact .inl ⟨hd.1, trivial⟩
      · exact absurd hd (by simp [isW, isSt, isApp])
  | _ => exact ⟨fun _ hd => hd.free (by simpa only [Avm.tokFree] using hp), fun _ hd => hd.free (by simpa only [Avm.tokFree] using hp)⟩

theorem Yld.tokNew {o : AOper} {fr : Fr} {v : AV} {m : Nat} (hp : Avm.tokFree o.op = true) : (∀ H', Yld X o fr H v H' → Yld X o fr (H ++ [.tok m]) v (H ++ [.tok m])) ∧ ∀ H', Yld X o fr (H ++ [.tok m]) v H' → Yld X o fr H v H := by
  unfold Yld
  constructor
  · intro H' hd
    split at hd
    · exact (DoV.tokNew hp).1 _ hd
    · obtain ⟨c, h1, h2, h3⟩ := hd
      exact ⟨c, h1, fun hc => (DoV.tokNew hp).1 _ (h2 hc), fun hc => ⟨(h3 hc).1, rfl⟩⟩
  · intro H' hd
    split at hd
    · exact (DoV.tokNew hp).2 _ hd
    · obtain ⟨c, h1, h2, h3⟩ := hd
      exact ⟨c, h1, fun hc => (DoV.tokNew hp).2 _ (h2 hc), fun hc => ⟨(h3 hc).1, rfl⟩⟩

/-- What an append does to the memory. -/
theorem DoV.app {s b : Nat} {x y : AX} {fr : Fr} {v : AV} {H' : Heap} (hd : DoV X (.app s b x y) fr H v H') :
    (H' = H ∧ ∀ H2, DoV X (.app s b x y) fr H2 v H2) ∨ (∃ i n m, True ∧ H[i]? = some (.tok n) ∧ H' = H.set i (.tok m) ∧ ∀ H2 : Heap, H2[i]? = some (.tok n) → DoV X (.app s b x y) fr H2 v (H2.set i (.tok m))) ∨ ∃ m, H' = H ++ [.tok m] := by
  unfold DoV at hd ⊢
  simp only [callee, csOf, cbOf, aop, drawnOk] at hd ⊢
  rcases hd with ⟨hd, rfl⟩ | ⟨_, hp, hd⟩
  · refine .inl ⟨rfl, fun H2 => .inl ⟨?_, trivial⟩⟩
    revert hd
    split
    · split
      · split
        · exact id
        · exact fun h => absurd h (by simp)
      · split
        · exact fun h => absurd h (by simp)
        · exact fun h => absurd h (by simp)
      · exact fun h => absurd h (by simp)
    · exact fun h => absurd h (by simp)
  · revert hd
    split
    · rename_i ys hys
      split
      · rename_i es hes
        split
        · intro h; cases h
        · intro h
          simp only [Option.some.injEq, Prod.mk.injEq] at h
          exact .inr (.inr ⟨_, h.2.2.symm⟩)
      · rename_i i s' es hes
        split
        · rename_i n hn
          intro h
          simp only [Option.some.injEq, Prod.mk.injEq] at h
          obtain ⟨h1, h2, h3⟩ := h
          refine .inr (.inl ⟨i, n, _, trivial, hn, h3.symm, fun H2 hn2 => .inr ⟨rfl, by rw [hes]; rfl, ?_⟩⟩)
          simp only [hn2, h1, h2]
        · intro h; cases h
      · intro h; cases h
    · intro h; cases h

theorem Yld.app {o : AOper} {s b : Nat} {x y : AX} (ho : o.op = .app s b x y) {fr : Fr} {v : AV} {H' : Heap} (hd : Yld X o fr H v H') :
    (H' = H ∧ ∀ H2, Yld X o fr H2 v H2) ∨ (∃ i n m, True ∧ H[i]? = some (.tok n) ∧ H' = H.set i (.tok m) ∧ ∀ H2 : Heap, H2[i]? = some (.tok n) → Yld X o fr H2 v (H2.set i (.tok m))) ∨ ∃ m, H' = H ++ [.tok m] := by
  unfold Yld at hd ⊢
  rw [ho] at hd ⊢
  cases hg : o.g with
  | none =>
    rw [hg] at hd
    exact hd.app
  | some tb =>
    obtain ⟨t, bb⟩ := tb
    rw [hg] at hd
    obtain ⟨c, h1, h2, h3⟩ := hd
    cases c with
    | false =>
      obtain ⟨rfl, rfl⟩ := h3 rfl
      exact .inl ⟨rfl, fun H2 => ⟨false, h1, (fun e => nomatch e), fun _ => ⟨rfl, rfl⟩⟩⟩
    | true =>
      rcases (h2 rfl).app with ⟨e, h⟩ | ⟨i, n, m, k1, k2, k3, k4⟩ | ⟨m, e⟩
      · exact .inl ⟨e, fun H2 => ⟨true, h1, fun _ => h H2, (fun e => nomatch e)⟩⟩
      · exact .inr (.inl ⟨i, n, m, k1, k2, k3, fun H2 hn => ⟨true, h1, fun _ => k4 H2 hn, (fun e => nomatch e)⟩⟩)
      · exact .inr (.inr ⟨m, e⟩)

theorem isApp_ex {op : AOp} (h : isApp op = true) : ∃ s b x y, op = .app s b x y := by
  cases op <;> first | exact ⟨_, _, _, _, rfl⟩ | (simp [isApp] at h; done)

theorem tok_lt {H : Heap} {i n : Nat} (h : H[i]? = some (.tok n)) : i < H.length := by
  rcases Nat.lt_or_ge i H.length with h' | h'
  · exact h'
  · rw [List.getElem?_eq_none h'] at h; cases h

theorem tok_back {H : Heap} {i n m : Nat} (h : H[i]? = some (.tok n)) : (H.set i (.tok m)).set i (.tok n) = H := by
  rw [List.set_set]
  apply List.ext_getElem?
  intro j
  by_cases hji : i = j
  · subst hji
    rw [List.getElem?_set_self (tok_lt h), h]
  · rw [List.getElem?_set_ne hji]

theorem stLd_ex {op op' : AOp} (h : stLd op op' = true) : ∃ n t v k u, op = .st n (.m false t) v ∧ op' = .ld k (.m true u) ∧ decide (t < 65536) = decide (u < 65536) := by
  unfold stLd at h
  split at h
  · exact ⟨_, _, _, _, _, rfl, rfl, by simpa using h⟩
  · cases h

theorem eval_m {G : Consts} {fr : Fr} {b : Bool} {n : Nat} : (∃ i o, (AX.m b n).eval G fr = .ptr i o ∧ fr (n % 65536) = .ptr i o ∧ parM n i = b) ∨ (AX.m b n).eval G fr = .undef := by
  simp only [AX.eval]
  split
  · split
    · rename_i i o e h
      exact .inl ⟨_, _, rfl, e, h⟩
    · exact .inr rfl
  · exact .inr rfl

/-- What a store into an even box does. -/
theorem DoV.stE {n t : Nat} {x : AX} {fr : Fr} {v : AV} {H' : Heap} (hd : DoV X (.st n (.m false t) x) fr H v H') : ∃ i b, parM t i = false ∧ i < H.length ∧ H' = H.set i b := by
  unfold DoV at hd
  simp only [callee, csOf, cbOf, aop] at hd
  rcases eval_m (G := X.G) (fr := fr) (b := false) (n := t) with ⟨i, o, e, _, hb⟩ | e
  · rw [e] at hd
    simp only at hd
    have hi : parM t i = false := hb
    cases hc : H[i]? with
    | none => rw [hc] at hd; simp at hd
    | some b =>
      have hl : i < H.length := by
        rcases Nat.lt_or_ge i H.length with h' | h'
        · exact h'
        · rw [List.getElem?_eq_none h'] at hc; cases hc
      rw [hc] at hd
      cases b with
      | box cs =>
        simp only [Option.some.injEq, Prod.mk.injEq, reduceCtorEq, and_false, false_and, false_or] at hd
        exact ⟨i, _, hi, hl, hd.2.2.2.2.symm⟩
      | _ => simp at hd
  · rw [e] at hd
    simp at hd

theorem DoV.ldO {k : Option Nat} {u : Nat} {fr : Fr} {v : AV} {H' : Heap} {i : Nat} {b : Blk} (hi : parM u i = false) (hd : DoV X (.ld k (.m true u)) fr H v H') : DoV X (.ld k (.m true u)) fr (H.set i b) v (H.set i b) := by
  unfold DoV at hd ⊢
  have hw : isW (.ld k (.m true u)) = false := rfl
  simp only [callee, csOf, cbOf, hw, Bool.false_eq_true, false_and, or_false] at hd ⊢
  refine ⟨?_, trivial⟩
  rw [← hd.1]
  rcases eval_m (G := X.G) (fr := fr) (b := true) (n := u) with ⟨j, o, e, _, hb⟩ | e
  · have hj : parM u j = true := hb
    have hij : i ≠ j := fun h => by rw [h, hj] at hi; cases hi
    cases k <;> simp only [aop, e, List.getElem?_set_ne hij]
  · cases k <;> simp only [aop, e]

theorem Yld.stE {o : AOper} {n t : Nat} {x : AX} (ho : o.op = .st n (.m false t) x) {fr : Fr} {v : AV} {H' : Heap} (hd : Yld X o fr H v H') : H' = H ∨ ∃ i b, parM t i = false ∧ i < H.length ∧ H' = H.set i b := by
  unfold Yld at hd
  rw [ho] at hd
  split at hd
  · exact .inr hd.stE
  · obtain ⟨c, h1, h2, h3⟩ := hd
    cases c with
    | true => exact .inr (h2 rfl).stE
    | false => exact .inl (h3 rfl).2

theorem Yld.ldO {o : AOper} {k : Option Nat} {u : Nat} (ho : o.op = .ld k (.m true u)) {fr : Fr} {v : AV} {H' : Heap} {i : Nat} {b : Blk} (hi : parM u i = false) (hd : Yld X o fr H v H') : Yld X o fr (H.set i b) v (H.set i b) := by
  unfold Yld at hd ⊢
  rw [ho] at hd ⊢
  split at hd
  · exact hd.ldO hi
  · obtain ⟨c, h1, h2, h3⟩ := hd
    exact ⟨c, h1, fun hc => (h2 hc).ldO hi, fun hc => ⟨(h3 hc).1, rfl⟩⟩

theorem set_back {H : Heap} {i : Nat} {b : Blk} (h : i < H.length) : ∃ c, (H.set i b).set i c = H := by
  refine ⟨H[i], ?_⟩
  rw [List.set_set]
  exact List.set_getElem_self h

theorem isS_ex {op : AOp} (h : isS op = true) : ∃ f z n as, op = .inv [(f, z)] (.m true n) as := by
  unfold isS at h
  cases hc : csOf op with
  | none => rw [hc] at h; cases h
  | some x =>
    obtain ⟨z, n, e⟩ := csOf_spec (f := x.1) (as := x.2) hc
    exact ⟨_, z, n, _, e⟩
theorem isT_ex {op : AOp} (h : isT op = true) : ∃ k a x, op = .st k a x := by
  unfold isT at h
  split at h
  · exact ⟨_, _, _, rfl⟩
  · cases h
theorem Yld.cs {o : AOper} (ho : isS o.op = true) {fr : Fr} {v : AV} {H' : Heap} (hd : Yld X o fr H v H') :
    (H' = H ∧ ∀ H2, Yld X o fr H2 v H2) ∨ ∃ i T e l, H[i]? = some (.bld T e l) ∧ H' = H.set i .dead ∧ ∀ H2 : Heap, H2[i]? = some (.bld T e l) → Yld X o fr H2 v (H2.set i .dead) := by
  obtain ⟨f, z, n, as, e⟩ := isS_ex ho
  unfold Yld at hd ⊢
  rw [e] at hd ⊢
  split at hd
  · rename_i hg
    obtain ⟨i, T, e, l, h1, h2, h3⟩ := CallS.any (show CallS X f (as.map (·.eval X.G fr)) H v H' from hd)
    exact .inr ⟨i, T, e, l, h1, h2, fun H2 hh => h3 H2 hh⟩
  · rename_i t b hg
    obtain ⟨c, k1, k2, k3⟩ := hd
    cases c with
    | true =>
      obtain ⟨i, T, e, l, h1, h2, h3⟩ := CallS.any (show CallS X f (as.map (·.eval X.G fr)) H v H' from k2 rfl)
      exact .inr ⟨i, T, e, l, h1, h2, fun H2 hh => ⟨true, k1, fun _ => h3 H2 hh, fun e => nomatch e⟩⟩
    | false =>
      obtain ⟨rfl, rfl⟩ := k3 rfl
      exact .inl ⟨rfl, fun H2 => ⟨false, k1, (fun e => nomatch e), fun _ => ⟨rfl, rfl⟩⟩⟩
theorem DoV.st {n : Nat} {a x : AX} {fr : Fr} {v : AV} {H' : Heap} (hd : DoV X (.st n a x) fr H v H') :
    ∃ i cs b, H[i]? = some (.box cs) ∧ H' = H.set i (.box b) ∧ ∀ H2 : Heap, H2[i]? = some (.box cs) → DoV X (.st n a x) fr H2 v (H2.set i (.box b)) := by
  unfold DoV at hd ⊢
  simp only [callee, csOf, cbOf, aop, drawnOk] at hd ⊢
  cases ha : a.eval X.G fr with
  | ptr i o =>
    rw [ha] at hd
    simp only at hd
    cases hc : H[i]? with
    | none => rw [hc] at hd; simp at hd
    | some b =>
      rw [hc] at hd
      cases b with
      | box cs =>
        simp only [Option.some.injEq, Prod.mk.injEq, reduceCtorEq, and_false, false_and, false_or] at hd
        refine ⟨i, cs, _, hc, hd.2.2.2.2.symm, fun H2 h2 => ?_⟩
        simp only [h2, Option.some.injEq, Prod.mk.injEq, reduceCtorEq, and_false, false_and, false_or, and_true]
        exact ⟨hd.1, trivial, hd.2.2.1, hd.2.2.2.1⟩
      | _ => simp at hd
  | _ => rw [ha] at hd; simp at hd
theorem Yld.st {o : AOper} (ho : isT o.op = true) {fr : Fr} {v : AV} {H' : Heap} (hd : Yld X o fr H v H') :
    (H' = H ∧ ∀ H2, Yld X o fr H2 v H2) ∨ ∃ i cs b, H[i]? = some (.box cs) ∧ H' = H.set i (.box b) ∧ ∀ H2 : Heap, H2[i]? = some (.box cs) → Yld X o fr H2 v (H2.set i (.box b)) := by
  obtain ⟨n, a, x, e⟩ := isT_ex ho
  unfold Yld at hd ⊢
  rw [e] at hd ⊢
  split at hd
  · exact .inr hd.st
  · rename_i t b hg
    obtain ⟨c, k1, k2, k3⟩ := hd
    cases c with
    | true =>
      obtain ⟨i, cs, b, h1, h2, h3⟩ := (k2 rfl).st
      exact .inr ⟨i, cs, b, h1, h2, fun H2 hh => ⟨true, k1, fun _ => h3 H2 hh, fun e => nomatch e⟩⟩
    | false =>
      obtain ⟨rfl, rfl⟩ := k3 rfl
      exact .inl ⟨rfl, fun H2 => ⟨false, k1, (fun e => nomatch e), fun _ => ⟨rfl, rfl⟩⟩⟩
theorem get_ne_set {H : Heap} {i j : Nat} {x y : Blk} (h : i ≠ j) (hj : (H.set i x)[j]? = some y) : H[j]? = some y := by
  rw [List.getElem?_set_ne h] at hj; exact hj
theorem comm_cs {oi oj : AOper} (h1 : isS oi.op = true) (h2 : isT oj.op = true) {fr : Fr} {v u : AV} {H1 H2 : Heap} (hy : Yld X oi fr H v H1) (hu : Yld X oj fr H1 u H2) :
    ∃ H3, Yld X oj fr H u H3 ∧ Yld X oi fr H3 v H2 := by
  rcases hy.cs h1 with ⟨e, k⟩ | ⟨i, T, e, l, k1, k2, k3⟩
  · subst e; exact ⟨H2, hu, k H2⟩
  · rcases hu.st h2 with ⟨e, m⟩ | ⟨j, cs, b, m1, m2, m3⟩
    · subst e; exact ⟨H, m H, hy⟩
    · have hij : i ≠ j := fun e => by
        subst e
        rw [k2, List.getElem?_set_self (List.getElem?_eq_some_iff.1 k1).1] at m1
        cases m1
      have hj : H[j]? = some (.box cs) := by rw [k2] at m1; exact get_ne_set hij m1
      refine ⟨_, m3 H hj, ?_⟩
      have := k3 (H.set j (.box b)) (by rw [List.getElem?_set_ne (Ne.symm hij)]; exact k1)
      rw [m2, k2, List.set_comm _ _ hij]
      exact this
theorem comm_sc {oi oj : AOper} (h1 : isT oi.op = true) (h2 : isS oj.op = true) {fr : Fr} {v u : AV} {H1 H2 : Heap} (hy : Yld X oi fr H v H1) (hu : Yld X oj fr H1 u H2) :
    ∃ H3, Yld X oj fr H u H3 ∧ Yld X oi fr H3 v H2 := by
  rcases hy.st h1 with ⟨e, k⟩ | ⟨i, cs, b, k1, k2, k3⟩
  · subst e; exact ⟨H2, hu, k H2⟩
  · rcases hu.cs h2 with ⟨e, m⟩ | ⟨j, T, e, l, m1, m2, m3⟩
    · subst e; exact ⟨H, m H, hy⟩
    · by_cases hij : i = j
      · subst hij
        exfalso
        rw [k2, List.getElem?_set_self (List.getElem?_eq_some_iff.1 k1).1] at m1
        cases m1
      · have hj : H[j]? = some (.bld T e l) := by rw [k2] at m1; exact get_ne_set hij m1
        refine ⟨_, m3 H hj, ?_⟩
        have := k3 (H.set j .dead) (by rw [List.getElem?_set_ne (Ne.symm hij)]; exact k1)
        rw [m2, k2, List.set_comm _ _ hij]
        exact this
theorem isB_ex {op : AOp} (h : isB op = true) : ∃ f z n as, op = .inv [(f, z)] (.m false n) as := by
  unfold isB at h
  cases hc : cbOf op with
  | none => rw [hc] at h; cases h
  | some x =>
    obtain ⟨z, n, e⟩ := cbOf_spec (f := x.1) (as := x.2) hc
    exact ⟨_, z, n, _, e⟩
theorem isLm_ex {op : AOp} (h : isLm op = true) : ∃ k u, op = .ld k (.m true u) ∧ u < 65536 := by
  unfold isLm at h
  split at h
  · exact ⟨_, _, rfl, by simpa using h⟩
  · cases h
theorem Yld.cb {o : AOper} (ho : isB o.op = true) {fr : Fr} {v : AV} {H' : Heap} (hd : Yld X o fr H v H') :
    (H' = H ∧ ∀ H2, Yld X o fr H2 v H2) ∨ ∃ i cs b, oddM i = false ∧ H[i]? = some (.box cs) ∧ H' = H.set i (.box b) := by
  obtain ⟨f, z, n, as, e⟩ := isB_ex ho
  unfold Yld at hd ⊢
  rw [e] at hd ⊢
  split at hd
  · rename_i hg
    obtain ⟨i, cs, b, h0, h1, h2, h3⟩ := CallB.any (show CallB X f (as.map (·.eval X.G fr)) H v H' from hd)
    exact .inr ⟨i, cs, b, h0, h1, h2⟩
  · rename_i t b hg
    obtain ⟨c, k1, k2, k3⟩ := hd
    cases c with
    | true =>
      obtain ⟨i, cs, b, h0, h1, h2, h3⟩ := CallB.any (show CallB X f (as.map (·.eval X.G fr)) H v H' from k2 rfl)
      exact .inr ⟨i, cs, b, h0, h1, h2⟩
    | false =>
      obtain ⟨rfl, rfl⟩ := k3 rfl
      exact .inl ⟨rfl, fun H2 => ⟨false, k1, (fun e => nomatch e), fun _ => ⟨rfl, rfl⟩⟩⟩
theorem comm_cb {oi oj : AOper} (h1 : isB oi.op = true) (h2 : isLm oj.op = true) {fr : Fr} {v u : AV} {H1 H2 : Heap} (hy : Yld X oi fr H v H1) (hu : Yld X oj fr H1 u H2) :
    ∃ H3, Yld X oj fr H u H3 ∧ Yld X oi fr H3 v H2 := by
  obtain ⟨k, w, e2, e5⟩ := isLm_ex h2
  have e := hu.same (by rw [e2]; rfl)
  subst e
  rcases hy.cb h1 with ⟨e, m⟩ | ⟨i, cs, b, m0, m1, m2⟩
  · subst e; exact ⟨_, hu, hy⟩
  · have := hu.ldO e2 (i := i) (b := .box cs) (by rw [pm_a e5]; exact m0)
    have e3 : H2.set i (.box cs) = H := by
      rw [m2, List.set_set]
      obtain ⟨hl, he⟩ := List.getElem?_eq_some_iff.1 m1
      rw [← he, List.set_getElem_self]
    rw [e3] at this
    exact ⟨H, this, hy⟩
theorem comm_bc {oi oj : AOper} (h1 : isLm oi.op = true) (h2 : isB oj.op = true) {fr : Fr} {v u : AV} {H1 H2 : Heap} (hy : Yld X oi fr H v H1) (hu : Yld X oj fr H1 u H2) :
    ∃ H3, Yld X oj fr H u H3 ∧ Yld X oi fr H3 v H2 := by
  obtain ⟨k, w, e2, e5⟩ := isLm_ex h1
  have e := hy.same (by rw [e2]; rfl)
  subst e
  rcases hu.cb h2 with ⟨e, m⟩ | ⟨i, cs, b, m0, m1, m2⟩
  · subst e; exact ⟨_, hu, hy⟩
  · refine ⟨H2, hu, ?_⟩
    rw [m2]
    exact hy.ldO e2 (by rw [pm_a e5]; exact m0)
/-- Two operations that are apart, in the other order. -/
theorem yld_comm {oi oj : AOper} (h1 : okWith oi.op oj.op = true) (h2 : okWith oj.op oi.op = true) {fr : Fr} {v u : AV} {H1 H2 : Heap} (hy : Yld X oi fr H v H1) (hu : Yld X oj fr H1 u H2) :
    ∃ H3, Yld X oj fr H u H3 ∧ Yld X oi fr H3 v H2 := by
  unfold okWith at h1 h2
  simp only [Bool.and_eq_true] at h1 h2
  cases hs : isSt oi.op with
  | true =>
    have hf := h1.1
    rw [if_pos hs, Bool.or_eq_true] at hf
    rcases hf with hf | hf
    · have e := hu.same (free_not_st hf)
      subst e
      exact ⟨H, hu.free hf, hy⟩
    rw [Bool.or_eq_true] at hf
    rcases hf with hf | hf
    rotate_left
    · simp only [csSt, cbLd, Bool.or_eq_true, Bool.and_eq_true] at hf
      rcases hf with (⟨a, b⟩ | ⟨a, b⟩) | ⟨a, b⟩
      · exact comm_cs a b hy hu
      · exact comm_sc a b hy hu
      · exact comm_cb a b hy hu
    · obtain ⟨n, t, x, k, w, e1, e2, e5⟩ := stLd_ex hf
      have e := hu.same (by rw [e2]; rfl)
      subst e
      rcases hy.stE e1 with rfl | ⟨i, b, hi, hl, rfl⟩
      · exact ⟨_, hu, hy⟩
      · obtain ⟨c, hc⟩ := set_back (b := b) hl
        have := hu.ldO e2 (i := i) (b := c) (by rw [← parM_eq e5]; exact hi)
        rw [hc] at this
        exact ⟨H, this, hy⟩
  | false =>
    cases hs2 : isSt oj.op with
    | true =>
      have hf := h2.1
      rw [if_pos hs2, Bool.or_eq_true] at hf
      rcases hf with hf | hf
      · have e := hy.same (free_not_st hf)
        subst e
        exact ⟨H2, hu, hy.free hf⟩
      rw [Bool.or_eq_true] at hf
      rcases hf with hf | hf
      rotate_left
      · simp only [csSt, cbLd, Bool.or_eq_true, Bool.and_eq_true] at hf
        rcases hf with (⟨a, b⟩ | ⟨a, b⟩) | ⟨a, b⟩
        · exact comm_sc b a hy hu
        · exact comm_cs b a hy hu
        · exact comm_bc b a hy hu
      · obtain ⟨n, t, x, k, w, e1, e2, e5⟩ := stLd_ex hf
        have e := hy.same (by rw [e2]; rfl)
        subst e
        rcases hu.stE e1 with rfl | ⟨i, b, hi, hl, rfl⟩
        · exact ⟨_, hu, hy⟩
        · exact ⟨_, hu, hy.ldO e2 (by rw [← parM_eq e5]; exact hi)⟩
    | false =>
      cases ha : isApp oi.op with
      | false =>
        have e := hy.same (by simp only [isW, hs, ha, Bool.or_self])
        subst e
        cases ha2 : isApp oj.op with
        | false =>
          have e := hu.same (by simp only [isW, hs2, ha2, Bool.or_self])
          subst e
          exact ⟨_, hu, hy⟩
        | true =>
          have hf := h2.2
          rw [if_pos ha2] at hf
          obtain ⟨s, b, x, y, hx⟩ := isApp_ex ha2
          rcases hu.app hx with ⟨e, k⟩ | ⟨i, n, m, _, k2, k3, _⟩ | ⟨m, k3⟩
          · subst e; exact ⟨_, hu, hy⟩
          · refine ⟨H2, hu, ?_⟩
            rw [k3]
            exact hy.tokFree hf k2
          · refine ⟨H2, hu, ?_⟩
            rw [k3]
            exact (Yld.tokNew hf).1 _ hy
      | true =>
        have hf := h1.2
        rw [if_pos ha] at hf
        obtain ⟨s, b, x, y, hx⟩ := isApp_ex ha
        have e := hu.same (tokFree_not_w hf)
        subst e
        rcases hy.app hx with ⟨e, k⟩ | ⟨i, n, m, _, k2, k3, _⟩ | ⟨m, k3⟩
        · subst e; exact ⟨_, hu, hy⟩
        · refine ⟨H, ?_, hy⟩
          have := hu.tokFree (i := i) (n := m) (m := n) hf (by rw [k3, List.getElem?_set_self (tok_lt k2)])
          rw [k3, tok_back k2] at this
          exact this
        · refine ⟨H, ?_, hy⟩
          rw [k3] at hu
          exact (Yld.tokNew hf).2 _ hu

theorem Fr.updo_comm {fr : Fr} {d e : Option Nat} {u v : AV} (h : ∀ x, d = some x → e ≠ some x) : (fr.updo d u).updo e v = (fr.updo e v).updo d u := by
  cases d with
  | none => rfl
  | some d =>
    cases e with
    | none => rfl
    | some e =>
      have hne : d ≠ e := fun he => h d rfl (by rw [he])
      funext t
      simp only [Fr.updo, Fr.upd]
      split
      · rename_i h1; subst h1; rw [if_neg (fun he => hne he.symm)]
      · rfl

theorem Fr.updo_ne {fr : Fr} {d : Option Nat} {u : AV} {t : Nat} (h : d ≠ some t) : fr.updo d u t = fr t := by
  cases d with
  | none => rfl
  | some d => simp only [Fr.updo, Fr.upd]; rw [if_neg (fun he => h (by rw [he]))]

def qA (X : Cx) (al : List AOper) (i : Nat) (K : Fr → Heap → Prop) (fr : Fr) (H : Heap) : Prop :=
  match al[i]? with
  | none => K fr H
  | some o => ∃ v H', Yld X o fr H v H' ∧ K (fr.updo o.dst v) H'

def AnyA (X : Cx) (md : Region.Mode) (ops : Array Oper) (al : List AOper) (Kf : Fr → Heap → Prop) : Nat → Array Bool → Fr → Heap → Prop
  | 0, listed, fr, H => Region.ready md ops listed = [] ∧ Kf fr H
  | fuel + 1, listed, fr, H => (Region.ready md ops listed = [] → Kf fr H) ∧ ∀ i ∈ Region.ready md ops listed, qA X al i (AnyA X md ops al Kf fuel (listed.setIfInBounds i true)) fr H

theorem qA_mono {i : Nat} {K K' : Fr → Heap → Prop} {fr : Fr} (h : ∀ fr H, K fr H → K' fr H) (hq : qA X al i K fr H) : qA X al i K' fr H := by
  unfold qA at hq ⊢
  split
  · rename_i ho; rw [ho] at hq; exact h _ _ hq
  · rename_i o ho; rw [ho] at hq; obtain ⟨v, H', h1, h2⟩ := hq; exact ⟨v, H', h1, h _ _ h2⟩

theorem qA_put {j : Nat} {oi oj : AOper} {v : AV} {H1 : Heap} (hj : al[j]? = some oj) (hap : apartA oi oj = true) {K : Fr → Heap → Prop} {fr : Fr} (hy : Yld X oi fr H v H1) (h : qA X al j K (fr.updo oi.dst v) H1) :
    qA X al j (fun fr' H' => ∃ H2, Yld X oi fr' H' v H2 ∧ K (fr'.updo oi.dst v) H2) fr H := by
  have hm : okWith oi.op oj.op = true ∧ okWith oj.op oi.op = true := by
    unfold apartA at hap
    simp only [Bool.and_eq_true] at hap
    exact ⟨hap.1.2, hap.2⟩
  have hap1 : ∀ d, oi.dst = some d → d ∉ oj.looks ∧ oj.dst ≠ some d := fun d hd => by
    unfold apartA at hap
    rw [hd] at hap
    simp only [Bool.and_eq_true, Bool.not_eq_true', bne_iff_ne, ne_eq] at hap
    exact ⟨by simpa using hap.1.1.1.1, hap.1.1.1.2⟩
  have hap2 : ∀ d, oj.dst = some d → d ∉ oi.looks := fun d hd => by
    unfold apartA at hap
    rw [hd] at hap
    simp only [Bool.and_eq_true, Bool.not_eq_true'] at hap
    simpa using hap.1.1.2
  unfold qA at h ⊢
  rw [hj] at h ⊢
  obtain ⟨u, H2, h1, h2⟩ := h
  have h1' := h1.congr (fr' := fr) fun t ht => Fr.updo_ne fun hd => (hap1 t hd).1 ht
  rw [Fr.updo_comm (fun x hx => (hap1 x hx).2)] at h2
  obtain ⟨H3, k1, k2⟩ := yld_comm hm.1 hm.2 hy h1'
  exact ⟨u, H3, k1, H2, k2.congr fun t ht => (Fr.updo_ne fun hd => hap2 t hd ht).symm, h2⟩

theorem reach_step {i : Nat} : ∀ (l : List Nat) (D : List Nat), i ∈ D → (∀ d ∈ D, d ≠ i → ∃ od, ops[d]? = some od ∧ ∃ e ∈ od.after, Region.binds md e = true ∧ e.on ∈ D) →
    i ∈ l.foldl (reachStep md ops) D ∧ ∀ d ∈ l.foldl (reachStep md ops) D, d ≠ i → ∃ od, ops[d]? = some od ∧ ∃ e ∈ od.after, Region.binds md e = true ∧ e.on ∈ l.foldl (reachStep md ops) D
  | [], D, h1, h2 => ⟨h1, h2⟩
  | j :: l, D, h1, h2 => by
    simp only [List.foldl_cons]
    refine reach_step l (reachStep md ops D j) ?_ ?_
    · unfold reachStep
      split
      · split
        · exact List.mem_cons_of_mem _ h1
        · exact h1
      · exact h1
    · unfold reachStep
      split
      · rename_i oj hj
        split
        · rename_i ha
          intro d hd hne
          rcases List.mem_cons.1 hd with rfl | hd
          · simp only [Array.any_eq_true, Bool.and_eq_true, List.contains_iff_mem] at ha
            obtain ⟨k, hk, h3, h4⟩ := ha
            exact ⟨oj, hj, _, Array.getElem_mem hk, h3, List.mem_cons_of_mem _ h4⟩
          · obtain ⟨od, h3, e, h4, h5, h6⟩ := h2 d hd hne
            exact ⟨od, h3, e, h4, h5, List.mem_cons_of_mem _ h6⟩
        · exact h2
      · exact h2

theorem reach_spec (i : Nat) : i ∈ reachA md ops i ∧ ∀ d ∈ reachA md ops i, d ≠ i → ∃ od, ops[d]? = some od ∧ ∃ e ∈ od.after, Region.binds md e = true ∧ e.on ∈ reachA md ops i :=
  reach_step _ _ (by simp) (by intro d hd hne; simp at hd; exact absurd hd hne)

theorem anyA_first {Kf : Fr → Heap → Prop} {i : Nat} {oi : AOper} {v : AV} (hi : al[i]? = some oi) :
    ∀ (fuel : Nat) (listed : Array Bool) (fr : Fr) (H H1 : Heap),
      (∀ d ∈ reachA md ops i, d ≠ i → listed.getD d true = false) →
      (∀ j oj, ops[j]? = some oj → j ∉ reachA md ops i → listed.getD j true = false → ∃ aj, al[j]? = some aj ∧ apartA oi aj = true) →
      i ∈ Region.ready md ops listed → Yld X oi fr H v H1 →
      AnyA X md ops al Kf fuel (listed.setIfInBounds i true) (fr.updo oi.dst v) H1 → AnyA X md ops al Kf (fuel + 1) listed fr H := by
  intro fuel
  induction fuel with
  | zero =>
    intro listed fr H H1 _ _ hr hy HH
    refine ⟨fun h => (by rw [h] at hr; cases hr), fun j hj => ?_⟩
    by_cases hji : j = i
    · subst hji; unfold qA; rw [hi]; exact ⟨v, H1, hy, HH⟩
    · have := ready_mono hj hji
      rw [HH.1] at this
      cases this
  | succ fuel ih =>
    intro listed fr H H1 hun hfree hr hy HH
    refine ⟨fun h => (by rw [h] at hr; cases hr), fun j hj => ?_⟩
    by_cases hji : j = i
    · subst hji; unfold qA; rw [hi]; exact ⟨v, H1, hy, HH⟩
    · have h1 := HH.2 j (ready_mono hj hji)
      obtain ⟨hjun, oj, hoj, hall⟩ := mem_ready.1 hj
      have hnd : j ∉ reachA md ops i := fun hd => by
        obtain ⟨od, h3, e, h4, h5, h6⟩ := (reach_spec (md := md) (ops := ops) i).2 j hd hji
        rw [hoj] at h3
        cases h3
        have h7 := hall e h4 h5
        have h0 : listed.getD e.on true = false := by
          by_cases he : e.on = i
          · rw [he]; exact (mem_ready.1 hr).1
          · exact hun _ h6 he
        rcases Nat.lt_or_ge e.on listed.size with h' | h'
        · simp [h'] at h0 h7; rw [h0] at h7; cases h7
        · simp [Array.getElem?_eq_none h'] at h7
      obtain ⟨aj, haj, hap⟩ := hfree j oj hoj hnd hjun
      have h2 := qA_put haj hap hy h1
      have hun' : ∀ d ∈ reachA md ops i, d ≠ i → (listed.setIfInBounds j true).getD d true = false := fun d hd hdi => by
        rw [getD_set_ne true (fun e => hnd (by rw [e]; exact hd))]
        exact hun d hd hdi
      have hfree' : ∀ k ok, ops[k]? = some ok → k ∉ reachA md ops i → (listed.setIfInBounds j true).getD k true = false → ∃ ak, al[k]? = some ak ∧ apartA oi ak = true := fun k ok hk hki hun2 => by
        refine hfree k ok hk hki ?_
        by_cases hjk : j = k
        · subst hjk; exact hjun
        · rw [getD_set_ne true hjk] at hun2; exact hun2
      refine qA_mono (fun a' H' ⟨H2, h3, h4⟩ => ih (listed.setIfInBounds j true) a' H' H2 hun' hfree' (ready_mono hr (Ne.symm hji)) h3 ?_) h2
      rw [Array.setIfInBounds_comm _ _ hji]
      exact h4

theorem freeA_spec {listed : Array Bool} {i : Nat} {oi : AOper} (hi : al[i]? = some oi) (h : freeA md ops al listed i = true) :
    (∀ d ∈ reachA md ops i, d ≠ i → listed.getD d true = false) ∧ ∀ j oj, ops[j]? = some oj → j ∉ reachA md ops i → listed.getD j true = false → ∃ aj, al[j]? = some aj ∧ apartA oi aj = true := by
  unfold freeA at h
  simp only [List.all_eq_true, List.mem_range] at h
  have hlt : ∀ {j : Nat} {oj : Oper}, ops[j]? = some oj → j < ops.size := fun {j oj} hj => by
    rcases Nat.lt_or_ge j ops.size with h' | h'
    · exact h'
    · simp [Array.getElem?_eq_none h'] at hj
  refine ⟨fun d hd hdi => ?_, fun j oj hj hnd hl => ?_⟩
  · obtain ⟨od, h3, _⟩ := (reach_spec (md := md) (ops := ops) i).2 d hd hdi
    have := h d (hlt h3)
    rw [if_pos (List.contains_iff_mem.2 hd)] at this
    simp only [Bool.or_eq_true, beq_iff_eq, Bool.not_eq_true'] at this
    rcases this with h4 | h4
    · exact absurd h4 hdi
    · exact h4
  · have := h j (hlt hj)
    rw [if_neg (fun hc => hnd (List.contains_iff_mem.1 hc)), hl, hi] at this
    simp only [Bool.false_or] at this
    split at this
    · rename_i x y hx hy
      cases hx
      exact ⟨y, hy, this⟩
    · cases this

theorem doV_of_vc {op : AOp} {fr : Fr} {K : AV → Heap → Prop} (h : vcDoQ X op fr H K) : ∃ v H', DoV X op fr H v H' ∧ K v H' := by
  unfold vcDoQ at h
  unfold DoV
  split at h
  · obtain ⟨r, H', h1, h2⟩ := h
    exact ⟨r, H', h1, h2⟩
  split at h
  · obtain ⟨r, H', h1, h2⟩ := h
    exact ⟨r, H', h1, h2⟩
  split at h
  · obtain ⟨r, h1, h2⟩ := h
    exact ⟨r, H, ⟨h1, rfl⟩, h2⟩
  · split at h
    · rename_i c v ha
      obtain ⟨rfl, h2⟩ := h
      exact ⟨v, H, .inl ⟨ha, rfl⟩, h2⟩
    · rename_i c v H' ha
      obtain ⟨h1, h1', rfl, h2⟩ := h
      exact ⟨v, H', .inr ⟨h1, h1', ha⟩, h2⟩
    · exact h.elim

theorem vcGQ_cases {t : Nat} {b : Bool} {op : AOp} {fr : Fr} {K : Fr → AV → Heap → Prop} (h : vcGQ X t b op fr H K (fr t)) :
    (gval b (fr t) = some true ∧ vcDoQ X op fr H (K fr)) ∨ (gval b (fr t) = some false ∧ K fr noV H) := by
  generalize hv : fr t = v at h
  unfold vcGQ at h
  split at h
  · rename_i e
    cases e with
    | true =>
      have h := h.1 rfl
      rw [upd_same hv] at h
      cases b with
      | true => exact .inl ⟨rfl, h⟩
      | false => exact .inr ⟨rfl, h⟩
    | false =>
      have h := h.2 rfl
      rw [upd_same hv] at h
      cases b with
      | true => exact .inr ⟨rfl, h⟩
      | false => exact .inl ⟨rfl, h⟩
  · exact .inr ⟨by cases b <;> rfl, h⟩
  · exact h.elim

theorem yld_of_vc {o : AOper} {fr : Fr} {K : Fr → AV → Heap → Prop} (h : vcOpQ X o fr H K) : ∃ v H', Yld X o fr H v H' ∧ K fr v H' := by
  unfold vcOpQ at h
  unfold Yld
  cases hg : o.g with
  | none =>
    rw [hg] at h
    exact doV_of_vc h
  | some tb =>
    obtain ⟨t, b⟩ := tb
    rw [hg] at h
    rcases vcGQ_cases h with ⟨h1, h2⟩ | ⟨h1, h2⟩
    · obtain ⟨v, H', h3, h4⟩ := doV_of_vc h2
      exact ⟨v, H', ⟨true, h1, fun _ => h3, (fun e => nomatch e)⟩, h4⟩
    · exact ⟨noV, H, ⟨false, h1, (fun e => nomatch e), fun _ => ⟨rfl, rfl⟩⟩, h2⟩

theorem anyA_lex {K : Fr → Heap → Prop} : ∀ (l : List AOper) (k : Nat) (listed : Array Bool) (fr : Fr) (H : Heap), (∀ j : Nat, l[j]? = al[k + j]?) → lexFromA md ops al l.length k listed = true → vcOpsQ X K H l fr → AnyA X md ops al K l.length listed fr H
  | [], _, _, _, _, _, hB, h => ⟨by simpa [lexFromA] using hB, h⟩
  | o :: l, k, listed, fr, H, hl, hB, h => by
    have h0 : al[k]? = some o := by simpa using (hl 0).symm
    simp only [List.length_cons, lexFromA, Bool.and_eq_true] at hB
    obtain ⟨⟨hr, hf⟩, hB'⟩ := hB
    obtain ⟨v, H', hy, hK⟩ := yld_of_vc h
    obtain ⟨f1, f2⟩ := freeA_spec h0 hf
    exact anyA_first h0 l.length listed fr H H' f1 f2 (by simpa using hr) hy
      (anyA_lex l (k + 1) _ _ _ (fun j => by have := hl (j + 1); simpa [Nat.add_assoc, Nat.add_comm 1 j] using this) hB' hK)

theorem cx_m {o : Operand} {b : Bool} {n : Nat} : cx o ≠ some (.m b n) := by
  intro h
  cases o <;> simp [cx] at h
theorem compileOp_m {P : Program} {b : Bool} {op : Op} {f z n : Nat} {m : Bool} {as2 : List AX} (h : compileOp P b op = some (.inv [(f, z)] (.m m n) as2)) : False := by
  cases op <;> simp only [compileOp] at h
  case call c =>
    obtain ⟨cal, as, ts⟩ := c
    unfold compileCall at h
    split at h
    · (repeat' split at h) <;> first | (simp at h; done) | (rename_i hx _; simp only [Option.some.injEq, AOp.inv.injEq] at h; rw [h.2.1] at hx; exact cx_m hx)
    · unfold compileBuiltin at h
      split at h
      · unfold compileLen at h; split at h <;> simp at h
      · unfold compileApp at h; (repeat' split at h) <;> simp at h
      · unfold compileCpy at h; (repeat' split at h) <;> simp at h
      all_goals ((repeat' split at h) <;> simp at h)
    · (repeat' split at h) <;> first | (simp at h; done) | (rename_i hx _; simp only [Option.some.injEq, AOp.inv.injEq] at h; rw [h.2.1] at hx; exact cx_m hx)
    · simp only [Option.map_eq_some_iff] at h; obtain ⟨_, _, h⟩ := h; cases h
    · cases h
  all_goals ((repeat' split at h) <;> first | (cases h; done) | (simp only [Option.map_eq_some_iff] at h; obtain ⟨_, _, h⟩ := h; cases h))
theorem compileOp_cs {P : Program} {b : Bool} {op : Op} {ao : AOp} (h : compileOp P b op = some ao) : csOf ao = none := by
  cases hc : csOf ao with
  | none => rfl
  | some y =>
    obtain ⟨z, n, rfl⟩ := csOf_spec (f := y.1) (as := y.2) hc
    exact (compileOp_m h).elim
theorem compileOp_cb {P : Program} {b : Bool} {op : Op} {ao : AOp} (h : compileOp P b op = some ao) : cbOf ao = none := by
  cases hc : cbOf ao with
  | none => rfl
  | some y =>
    obtain ⟨z, n, rfl⟩ := cbOf_spec (f := y.1) (as := y.2) hc
    exact (compileOp_m h).elim
theorem yld_sound {g : Gh} {w : World} {fr : Fr} {a : Act} (hs : StR X N g w fr H a) {hint : Nat → Bool} {o : Oper} {ao : AOper} (hc : compileOper X.P N hint ops o = some ao) {v : AV} {H1 : Heap} (h : Yld X ao fr H v H1)
    {Kc : Act → World → Prop} {Q : Exit → Act → World → Prop} (hK : ∀ g' w' a', StR X N g' w' (fr.updo ao.dst v) H1 a' → ExtM g w g' w' → Kc a' w') :
    if Region.wanted o (yielded ops a.tmps) then o.wpIn (Fd X.rd) 0 X.P a w Kc Q else (∀ f, o.about X.P w a.eval = some f → (Fd X.rd).fn f) ∧ Kc (a.put o.dst Go.undef) w := by
  obtain ⟨⟨b, hop⟩, hdst, hd, hg⟩ := compileOper_spec hc
  have key : ∀ v0, DoV X ao.op fr H v0 H1 → (∀ g' w' a', StR X N g' w' (fr.updo ao.dst v0) H1 a' → ExtM g w g' w' → Kc a' w') → o.wpIn (Fd X.rd) 0 X.P a w Kc Q := fun v0 hdo hK => by
    have hs0 := hs
    unfold DoV at hdo
    rw [compileOp_cs hop] at hdo
    rw [hdst] at hK
    simp only at hdo
    rw [compileOp_cb hop] at hdo
    simp only at hdo
    split at hdo
    · rename_i f args hcal
      obtain ⟨hdo, rfl⟩ := hdo
      obtain ⟨vs, hvs, hrun⟩ := run_call hs0 hop hcal hdo.1
      refine wpIn_run hop hrun (upon_enter ?_)
      refine (hdo.2 g w vs hs.wf hs.hr hvs).mono fun e w' ⟨v, g', h1, h2, h3⟩ => ?_
      subst h1
      exact hK g' w' _ (hs.put h3 hd h2) h3.xm
    · have hdo : ∃ h', aop X.G fr H ao.op = some (true, v0, h') ∧ h'.getD H = H1 := by
        rcases hdo with ⟨h1, h2⟩ | ⟨_, _, h1⟩
        · exact ⟨none, h1, h2.symm⟩
        · exact ⟨some H1, h1, rfl⟩
      obtain ⟨h', hdo, hH⟩ := hdo
      obtain ⟨u, w', g', hrun, hgd, hr⟩ := aop_sound hs0 hop hdo
      rw [hH] at hgd
      rcases hrun with hrun | ⟨hrun, rfl⟩
      · refine wpIn_run hop hrun ?_; exact hK g' w' _ (hs.put hgd hd hr) hgd.xm
      · refine wpIn_run hop hrun ?_; exact hK g' w' _ (hs.put hgd hd hr) hgd.xm
  unfold Yld at h
  rcases hg with ⟨hg1, hg2⟩ | ⟨j, want, t, hg1, ht, hg2⟩
  · rw [hg2] at h
    rw [if_pos (by simp [Region.wanted, hg1])]
    exact (key v h hK)
  · rw [hg2] at h
    obtain ⟨c, hfb, h1, h2⟩ := h
    have hw := gval_wanted hs hfb hg1 ht
    rw [hw]
    cases c with
    | true =>
      rw [if_pos rfl]
      exact (key v (h1 rfl) hK)
    | false =>
      rw [if_neg (by decide)]
      rw [hdst] at hK
      obtain ⟨h2, h3⟩ := h2 rfl
      subst h2
      subst h3
      exact ⟨fun _ _ => trivial, hK g w _ (hs.putU hd (by simp [noV, Rel])) (ExtM.refl g w)⟩

theorem compileOps_get {hint : Nat → Bool} : ∀ {l : List Oper} {al : List AOper}, compileOps X.P N hint ops l = some al → ∀ i : Nat, (l[i]? = none ∧ al[i]? = none) ∨ ∃ o ao, l[i]? = some o ∧ al[i]? = some ao ∧ compileOper X.P N hint ops o = some ao
  | [], al, h, i => by simp [compileOps] at h; subst h; exact .inl ⟨by simp, by simp⟩
  | o :: l, al, h, i => by
    simp only [compileOps] at h
    split at h
    · rename_i ao al' h1 h2
      cases h
      cases i with
      | zero => exact .inr ⟨o, ao, rfl, rfl, h1⟩
      | succ i => simpa using compileOps_get h2 i
    · cases h

theorem anyA_sound {hint : Nat → Bool} (hc : compileOps X.P N hint ops ops.toList = some al) {Kf : Fr → Heap → Prop} {Q : Exit → Act → World → Prop} : ∀ (fuel : Nat) (listed : Array Bool) {g : Gh} {w : World} {fr : Fr} {H : Heap} {a : Act}, StR X N g w fr H a → AnyA X md ops al Kf fuel listed fr H →
    (∀ g' w' fr' H' a', StR X N g' w' fr' H' a' → ExtM g w g' w' → Kf fr' H' → Q .normal a' w') → wpAnyIn (Fd X.rd) 0 X.P md ops Q fuel listed a w
  | 0, _, g, w, fr, H, a, hs, h, hK => ⟨h.1, hK g w fr H a hs (ExtM.refl g w) h.2⟩
  | fuel + 1, listed, g, w, fr, H, a, hs, h, hK => by
    refine ⟨fun h0 => hK g w fr H a hs (ExtM.refl g w) (h.1 h0), fun i hi => ?_⟩
    have h1 := h.2 i hi
    unfold qA at h1
    unfold wpOpIn
    rcases compileOps_get hc i with ⟨h2, h3⟩ | ⟨o, ao, h2, h3, h4⟩
    · rw [h3] at h1
      rw [show ops[i]? = none by simpa using h2]
      exact anyA_sound hc fuel _ hs h1 hK
    · rw [h3] at h1
      obtain ⟨v, H1, hy, h5⟩ := h1
      rw [show ops[i]? = some o by simpa using h2]
      exact yld_sound hs h4 hy fun g' w' a' hs' he => anyA_sound hc fuel _ hs' h5 fun g'' w'' fr'' H'' a'' hs'' he' hk => hK g'' w'' fr'' H'' a'' hs'' (he.trans he') hk

theorem StR.drew {g : Gh} {w : World} {fr : Fr} {a : Act} (hs : StR X N g w fr H a) : StR X N g { w with drawn := w.drawn + 1 } fr H a := by
  have hm : Mono g w g { w with drawn := w.drawn + 1 } := ⟨fun _ _ h => ⟨h, rfl⟩, fun _ _ h => h, fun _ n h => ⟨n, h, .inl ⟨rfl, rfl⟩⟩⟩
  exact ⟨⟨hs.wf.S, hs.wf.inj, hs.wf.tinj, hs.wf.apart, hs.wf.bx, hs.wf.tk, fun x cs hx => Rel.mono _ hm (hs.wf.laid x cs hx), hs.wf.ex⟩,
    ⟨fun i x hx => (hs.hr.blk i x hx).mono hm (fun _ _ => rfl) (fun _ h => h) (fun _ _ _ h => ⟨h, rfl⟩), hs.hr.far⟩, fun t => Rel.mono _ hm (hs.fr t), hs.size, hs.defers, hs.n0⟩

theorem Ext.drew {g : Gh} {w : World} : Ext g w g { w with drawn := w.drawn + 1 } :=
  ⟨Nat.le_refl _, fun _ _ h => h, fun _ _ h => .inl h, fun _ _ _ _ => rfl, fun _ _ _ => rfl, fun _ vs _ fz h => ⟨vs, fz, h, rfl, .inl rfl⟩, fun _ _ h => .inr h, rfl, rfl⟩

/-- Loads and stores with marks. -/
def mkN (alt : Bool) (n : Nat) : Nat := if alt then n + 65536 else n
theorem mkN_mod {alt : Bool} {n : Nat} (h : n < 65536) : mkN alt n % 65536 = n := by
  unfold mkN
  cases alt
  · simp; omega
  · simp; omega
def markOp (alt : Bool) : AOp → AOp
  | .ld k (.t n) => if n < 65536 then .ld k (.m true (mkN alt n)) else .ld k (.t n)
  | .st k (.t n) v => if n < 65536 then .st k (.m false (mkN alt n)) v else .st k (.t n) v
  | op => op
def mark (alt : Bool) (o : AOper) : AOper := { o with op := markOp alt o.op }

theorem doV_unmark {alt : Bool} {op : AOp} {fr : Fr} {v : AV} {H' : Heap} (h : DoV X (markOp alt op) fr H v H') : DoV X op fr H v H' := by
  unfold markOp at h
  split at h
  · rename_i k n
    split at h
    rotate_left
    · exact h
    rename_i hn
    unfold DoV at h ⊢
    have hw : ∀ x, isW (.ld k x) = false := fun _ => rfl
    simp only [callee, csOf, cbOf, hw, Bool.false_eq_true, false_and, or_false] at h ⊢
    refine ⟨?_, h.2⟩
    rcases eval_m (G := X.G) (fr := fr) (b := true) (n := mkN alt n) with ⟨j, o, e, e2, hb⟩ | e
    · rw [mkN_mod hn] at e2
      have e3 : (AX.t n).eval X.G fr = .ptr j o := e2
      rw [← h.1]
      cases k <;> simp only [aop, e, e3]
    · have h := h.1
      cases k <;> simp [aop, e] at h
  · rename_i k n x
    split at h
    rotate_left
    · exact h
    rename_i hn
    unfold DoV at h ⊢
    simp only [callee, csOf, cbOf, drawnOk] at h ⊢
    have : aop X.G fr H (.st k (.m false (mkN alt n)) x) = aop X.G fr H (.st k (.t n) x) ∨ aop X.G fr H (.st k (.m false (mkN alt n)) x) = none := by
      rcases eval_m (G := X.G) (fr := fr) (b := false) (n := mkN alt n) with ⟨j, o, e, e2, hb⟩ | e
      · refine .inl ?_
        rw [mkN_mod hn] at e2
        have e3 : (AX.t n).eval X.G fr = .ptr j o := e2
        simp only [aop, e, e3]
      · exact .inr (by simp only [aop, e])
    rcases this with e | e
    · rw [e] at h; exact h
    · rw [e] at h; simp at h
  · exact h

theorem yld_unmark {alt : Bool} {o : AOper} {fr : Fr} {v : AV} {H' : Heap} (h : Yld X (mark alt o) fr H v H') : Yld X o fr H v H' := by
  unfold Yld mark at h
  unfold Yld
  split
  · rename_i hg
    rw [hg] at h
    exact doV_unmark h
  · rename_i t b hg
    rw [hg] at h
    obtain ⟨c, h1, h2, h3⟩ := h
    exact ⟨c, h1, fun hc => doV_unmark (h2 hc), h3⟩

theorem anyA_unmark {alt : Bool} {Kf : Fr → Heap → Prop} : ∀ (fuel : Nat) (listed : Array Bool) (fr : Fr) (H : Heap), AnyA X md ops (al.map (mark alt)) Kf fuel listed fr H → AnyA X md ops al Kf fuel listed fr H
  | 0, _, _, _, h => h
  | fuel + 1, listed, fr, H, h => ⟨h.1, fun i hi => by
    have h2 := h.2 i hi
    unfold qA at h2 ⊢
    rw [List.getElem?_map] at h2
    cases ho : al[i]? with
    | none =>
      rw [ho] at h2
      exact anyA_unmark fuel _ _ _ h2
    | some o =>
      rw [ho] at h2
      obtain ⟨v, H', k1, k2⟩ := h2
      exact ⟨v, H', yld_unmark k1, anyA_unmark fuel _ _ _ k2⟩⟩

/-- A region that draws its order. -/
theorem ex_region_draw {id : Nat} {fr : Fr} {hint : Nat → Bool} {Q : Exit → Fr → Heap → Prop} (hm : X.P.follows .mixedOrders = true) (hc : compileOps X.P N hint ops ops.toList = some al) (hB : lexA ops al = true) (h : vcOpsQ X (Q .normal) H al fr) :
    Ex X N (.region id ops true) fr H Q := fun g w a hs => by
  have hlen : al.length = ops.size := by
    have : ∀ {l : List Oper} {al : List AOper}, compileOps X.P N hint ops l = some al → al.length = l.length := by
      intro l
      induction l with
      | nil => intro al h; simp [compileOps] at h; subst h; rfl
      | cons o l ih =>
        intro al h
        simp only [compileOps] at h
        split at h
        · rename_i ao al' h1 h2
          cases h
          simp [ih h2]
        · cases h
    rw [this hc]; simp
  refine wpIn_region_any hm ?_
  have h1 := anyA_lex (X := X) (ops := ops) (al := al) (md := .any) al 0 (Array.replicate ops.size false) fr H (fun j => by rw [Nat.zero_add]) (by rw [hlen]; exact hB) h
  rw [hlen] at h1
  exact anyA_sound hc _ _ hs.drew h1 fun g' w' fr' H' a' hs' he hk => ⟨g', fr', H', hs', ExtM.trans ⟨Ext.drew, fun _ _ h => ⟨h, rfl⟩, fun _ _ h => h, fun _ n h => ⟨n, h, .inl ⟨rfl, rfl⟩⟩⟩ he, hk⟩

/-- The same, with marks. -/
theorem ex_region_mark {id : Nat} {alt : Bool} {fr : Fr} {hint : Nat → Bool} {Q : Exit → Fr → Heap → Prop} (hm : X.P.follows .mixedOrders = true) (hc : compileOps X.P N hint ops ops.toList = some al) (hB : lexA ops (al.map (mark alt)) = true) (h : vcOpsQ X (Q .normal) H (al.map (mark alt)) fr) :
    Ex X N (.region id ops true) fr H Q := fun g w a hs => by
  have hlen : (al.map (mark alt)).length = ops.size := by
    have : ∀ {l : List Oper} {al : List AOper}, compileOps X.P N hint ops l = some al → al.length = l.length := by
      intro l
      induction l with
      | nil => intro al h; simp [compileOps] at h; subst h; rfl
      | cons o l ih =>
        intro al h
        simp only [compileOps] at h
        split at h
        · rename_i ao al' h1 h2
          cases h
          simp [ih h2]
        · cases h
    rw [List.length_map, this hc]; simp
  refine wpIn_region_any hm ?_
  have h1 := anyA_lex (X := X) (ops := ops) (al := al.map (mark alt)) (md := .any) (al.map (mark alt)) 0 (Array.replicate ops.size false) fr H (fun j => by rw [Nat.zero_add]) (by rw [hlen]; exact hB) h
  rw [hlen] at h1
  exact anyA_sound hc _ _ hs.drew (anyA_unmark _ _ _ _ h1) fun g' w' fr' H' a' hs' he hk => ⟨g', fr', H', hs', ExtM.trans ⟨Ext.drew, fun _ _ h => ⟨h, rfl⟩, fun _ _ h => h, fun _ n h => ⟨n, h, .inl ⟨rfl, rfl⟩⟩⟩ he, hk⟩

/-- Loads from what stays. -/
def stabOp : AOp → AOp
  | .ld k x => .lds k x
  | op => op
def stab (o : AOper) : AOper := { o with op := stabOp o.op }

theorem doV_unstab {op : AOp} {fr : Fr} {v : AV} {H' : Heap} (h : DoV X (stabOp op) fr H v H') : DoV X op fr H v H' := by
  unfold stabOp at h
  split at h
  · rename_i k x
    unfold DoV at h ⊢
    have hw : ∀ x, isW (.ld k x) = false := fun _ => rfl
    have hw' : ∀ x, isW (.lds k x) = false := fun _ => rfl
    simp only [callee, csOf, cbOf, hw, hw', Bool.false_eq_true, false_and, or_false] at h ⊢
    refine ⟨?_, h.2⟩
    have h := h.1
    cases k <;> simp only [aop] at h ⊢ <;> split at h <;> first | (cases h; done) | skip
    · rename_i e; rw [e]; exact h
    · rename_i e; rw [e]; exact h
  · exact h

theorem yld_unstab {o : AOper} {fr : Fr} {v : AV} {H' : Heap} (h : Yld X (stab o) fr H v H') : Yld X o fr H v H' := by
  unfold Yld stab at h
  unfold Yld
  split
  · rename_i hg
    rw [hg] at h
    exact doV_unstab h
  · rename_i t b hg
    rw [hg] at h
    obtain ⟨c, h1, h2, h3⟩ := h
    exact ⟨c, h1, fun hc => doV_unstab (h2 hc), h3⟩

theorem anyA_unstab {Kf : Fr → Heap → Prop} : ∀ (fuel : Nat) (listed : Array Bool) (fr : Fr) (H : Heap), AnyA X md ops (al.map stab) Kf fuel listed fr H → AnyA X md ops al Kf fuel listed fr H
  | 0, _, _, _, h => h
  | fuel + 1, listed, fr, H, h => ⟨h.1, fun i hi => by
    have h2 := h.2 i hi
    unfold qA at h2 ⊢
    rw [List.getElem?_map] at h2
    cases ho : al[i]? with
    | none =>
      rw [ho] at h2
      exact anyA_unstab fuel _ _ _ h2
    | some o =>
      rw [ho] at h2
      obtain ⟨v, H', k1, k2⟩ := h2
      exact ⟨v, H', yld_unstab k1, anyA_unstab fuel _ _ _ k2⟩⟩

/-- The same, with loads from what stays. -/
theorem ex_region_stab {id : Nat} {fr : Fr} {hint : Nat → Bool} {Q : Exit → Fr → Heap → Prop} (hm : X.P.follows .mixedOrders = true) (hc : compileOps X.P N hint ops ops.toList = some al) (hB : lexA ops (al.map stab) = true) (h : vcOpsQ X (Q .normal) H (al.map stab) fr) :
    Ex X N (.region id ops true) fr H Q := fun g w a hs => by
  have hlen : (al.map stab).length = ops.size := by
    have : ∀ {l : List Oper} {al : List AOper}, compileOps X.P N hint ops l = some al → al.length = l.length := by
      intro l
      induction l with
      | nil => intro al h; simp [compileOps] at h; subst h; rfl
      | cons o l ih =>
        intro al h
        simp only [compileOps] at h
        split at h
        · rename_i ao al' h1 h2
          cases h
          simp [ih h2]
        · cases h
    rw [List.length_map, this hc]; simp
  refine wpIn_region_any hm ?_
  have h1 := anyA_lex (X := X) (ops := ops) (al := al.map stab) (md := .any) (al.map stab) 0 (Array.replicate ops.size false) fr H (fun j => by rw [Nat.zero_add]) (by rw [hlen]; exact hB) h
  rw [hlen] at h1
  exact anyA_sound hc _ _ hs.drew (anyA_unstab _ _ _ _ h1) fun g' w' fr' H' a' hs' he hk => ⟨g', fr', H', hs', ExtM.trans ⟨Ext.drew, fun _ _ h => ⟨h, rfl⟩, fun _ _ h => h, fun _ n h => ⟨n, h, .inl ⟨rfl, rfl⟩⟩⟩ he, hk⟩

/-- The call of a builder's String, marked. -/
def isStrF (P : Program) (f : FuncId) : Bool := (P.funcs[f]?).map (·.name) == some "(*strings.Builder).String"
def strOp (P : Program) : AOp → AOp
  | .call f [.t n] => if isStrF P f then .inv [(f, 0)] (.m true n) [.t n] else .call f [.t n]
  | op => op
def strB (P : Program) (o : AOper) : AOper := { o with op := strOp P (stabOp o.op) }
def hasStr (P : Program) (al : List AOper) : Bool := al.any fun o => match o.op with
  | .call f [.t _] => isStrF P f
  | _ => false
theorem strOp_cases (P : Program) (op : AOp) : strOp P op = op ∨ ∃ f n, op = .call f [.t n] ∧ strOp P op = .inv [(f, 0)] (.m true n) [.t n] := by
  unfold strOp
  split
  · split
    · exact .inr ⟨_, _, rfl, rfl⟩
    · exact .inl rfl
  · exact .inl rfl
theorem yld_soundS {g : Gh} {w : World} {fr : Fr} {a : Act} (hs : StR X N g w fr H a) {hint : Nat → Bool} {o : Oper} {ao : AOper} (hc : compileOper X.P N hint ops o = some ao) {v : AV} {H1 : Heap} (h : Yld X (strB X.P ao) fr H v H1)
    {Kc : Act → World → Prop} {Q : Exit → Act → World → Prop} (hK : ∀ g' w' a', StR X N g' w' (fr.updo ao.dst v) H1 a' → ExtM g w g' w' → Kc a' w') :
    if Region.wanted o (yielded ops a.tmps) then o.wpIn (Fd X.rd) 0 X.P a w Kc Q else (∀ f, o.about X.P w a.eval = some f → (Fd X.rd).fn f) ∧ Kc (a.put o.dst Go.undef) w := by
  rcases strOp_cases X.P (stabOp ao.op) with e | ⟨f, n, e1, e2⟩
  · refine yld_sound hs hc (yld_unstab (?_ : Yld X (stab ao) fr H v H1)) hK
    unfold strB at h
    rw [e] at h
    exact h
  · have e3 : ao.op = .call f [.t n] := by
      unfold stabOp at e1
      split at e1
      · cases e1
      · exact e1
    obtain ⟨⟨b, hop⟩, hdst, hd, hg⟩ := compileOper_spec hc
    have key : ∀ v0, CallS X f [fr n] H v0 H1 → (∀ g' w' a', StR X N g' w' (fr.updo ao.dst v0) H1 a' → ExtM g w g' w' → Kc a' w') → o.wpIn (Fd X.rd) 0 X.P a w Kc Q := fun v0 hdo hK => by
      have hs0 := hs
      rw [hdst] at hK
      obtain ⟨i, T, e, l, k1, k2, k3, k4, k5, k6⟩ := hdo
      have hcal : callee X.G fr ao.op = some (f, [fr n]) := by rw [e3]; rfl
      obtain ⟨vs, hvs, hrun⟩ := run_call hs0 hop hcal k5
      refine wpIn_run hop hrun (upon_enter ?_)
      refine (k6 H k2 g w vs hs.wf hs.hr hvs).mono fun e w' ⟨v, g', h1, h2, h3⟩ => ?_
      subst h1
      rw [← k4] at h3
      exact hK g' w' _ (hs.put h3 hd h2) h3.xm
    unfold Yld strB at h
    rw [e2] at h
    rcases hg with ⟨hg1, hg2⟩ | ⟨j, want, t, hg1, ht, hg2⟩
    · rw [hg2] at h
      rw [if_pos (by simp [Region.wanted, hg1])]
      exact (key v h hK)
    · rw [hg2] at h
      obtain ⟨c, hfb, h1, h2⟩ := h
      have hw := gval_wanted hs hfb hg1 ht
      rw [hw]
      cases c with
      | true =>
        rw [if_pos rfl]
        exact (key v (h1 rfl) hK)
      | false =>
        rw [if_neg (by decide)]
        rw [hdst] at hK
        obtain ⟨h2, h3⟩ := h2 rfl
        subst h2
        subst h3
        exact ⟨fun _ _ => trivial, hK g w _ (hs.putU hd (by simp [noV, Rel])) (ExtM.refl g w)⟩
theorem anyS_sound {hint : Nat → Bool} (hc : compileOps X.P N hint ops ops.toList = some al) {Kf : Fr → Heap → Prop} {Q : Exit → Act → World → Prop} : ∀ (fuel : Nat) (listed : Array Bool) {g : Gh} {w : World} {fr : Fr} {H : Heap} {a : Act}, StR X N g w fr H a → AnyA X md ops (al.map (strB X.P)) Kf fuel listed fr H →
    (∀ g' w' fr' H' a', StR X N g' w' fr' H' a' → ExtM g w g' w' → Kf fr' H' → Q .normal a' w') → wpAnyIn (Fd X.rd) 0 X.P md ops Q fuel listed a w
  | 0, _, g, w, fr, H, a, hs, h, hK => ⟨h.1, hK g w fr H a hs (ExtM.refl g w) h.2⟩
  | fuel + 1, listed, g, w, fr, H, a, hs, h, hK => by
    refine ⟨fun h0 => hK g w fr H a hs (ExtM.refl g w) (h.1 h0), fun i hi => ?_⟩
    have h1 := h.2 i hi
    unfold qA at h1
    unfold wpOpIn
    rw [List.getElem?_map] at h1
    rcases compileOps_get hc i with ⟨h2, h3⟩ | ⟨o, ao, h2, h3, h4⟩
    · rw [h3] at h1
      rw [show ops[i]? = none by simpa using h2]
      exact anyS_sound hc fuel _ hs h1 hK
    · rw [h3] at h1
      obtain ⟨v, H1, hy, h5⟩ := h1
      rw [show ops[i]? = some o by simpa using h2]
      exact yld_soundS hs h4 hy fun g' w' a' hs' he => anyS_sound hc fuel _ hs' h5 fun g'' w'' fr'' H'' a'' hs'' he' hk => hK g'' w'' fr'' H'' a'' hs'' (he.trans he') hk
/-- The same, with a builder's string. -/
theorem ex_region_str {id : Nat} {fr : Fr} {hint : Nat → Bool} {Q : Exit → Fr → Heap → Prop} (hm : X.P.follows .mixedOrders = true) (hc : compileOps X.P N hint ops ops.toList = some al) (hB : lexA ops (al.map (strB X.P)) = true) (h : vcOpsQ X (Q .normal) H (al.map (strB X.P)) fr) :
    Ex X N (.region id ops true) fr H Q := fun g w a hs => by
  have hlen : (al.map (strB X.P)).length = ops.size := by
    have : ∀ {l : List Oper} {al : List AOper}, compileOps X.P N hint ops l = some al → al.length = l.length := by
      intro l
      induction l with
      | nil => intro al h; simp [compileOps] at h; subst h; rfl
      | cons o l ih =>
        intro al h
        simp only [compileOps] at h
        split at h
        · rename_i ao al' h1 h2
          cases h
          simp [ih h2]
        · cases h
    rw [List.length_map, this hc]; simp
  refine wpIn_region_any hm ?_
  have h1 := anyA_lex (X := X) (ops := ops) (al := al.map (strB X.P)) (md := .any) (al.map (strB X.P)) 0 (Array.replicate ops.size false) fr H (fun j => by rw [Nat.zero_add]) (by rw [hlen]; exact hB) h
  rw [hlen] at h1
  exact anyS_sound hc _ _ hs.drew h1 fun g' w' fr' H' a' hs' he hk => ⟨g', fr', H', hs', ExtM.trans ⟨Ext.drew, fun _ _ h => ⟨h, rfl⟩, fun _ _ h => h, fun _ n h => ⟨n, h, .inl ⟨rfl, rfl⟩⟩⟩ he, hk⟩

/-- A call that writes one box, marked; loads from the other. -/
def wrOp (hint : Nat → Bool) (d : Option Nat) : AOp → AOp
  | .call f (.t n :: as) => match d with
    | some d => if hint d then .inv [(f, 1)] (.m false n) (.t n :: as) else .call f (.t n :: as)
    | none => .call f (.t n :: as)
  | op => op
def wrB (hint : Nat → Bool) (o : AOper) : AOper := { o with op := wrOp hint o.dst (markOp false o.op) }
def hasB (hint : Nat → Bool) (al : List AOper) : Bool := al.any fun o => match o.dst, o.op with
  | some d, .call _ (.t _ :: _) => hint d
  | _, _ => false
theorem wrOp_cases (hint : Nat → Bool) (d : Option Nat) (op : AOp) : wrOp hint d op = op ∨ ∃ f n as, op = .call f (.t n :: as) ∧ wrOp hint d op = .inv [(f, 1)] (.m false n) (.t n :: as) := by
  unfold wrOp
  split
  · split
    · split
      · exact .inr ⟨_, _, _, rfl, rfl⟩
      · exact .inl rfl
    · exact .inl rfl
  · exact .inl rfl
theorem yld_soundB {g : Gh} {w : World} {fr : Fr} {a : Act} (hs : StR X N g w fr H a) {hint : Nat → Bool} {o : Oper} {ao : AOper} (hc : compileOper X.P N hint ops o = some ao) {v : AV} {H1 : Heap} (h : Yld X (wrB hint ao) fr H v H1)
    {Kc : Act → World → Prop} {Q : Exit → Act → World → Prop} (hK : ∀ g' w' a', StR X N g' w' (fr.updo ao.dst v) H1 a' → ExtM g w g' w' → Kc a' w') :
    if Region.wanted o (yielded ops a.tmps) then o.wpIn (Fd X.rd) 0 X.P a w Kc Q else (∀ f, o.about X.P w a.eval = some f → (Fd X.rd).fn f) ∧ Kc (a.put o.dst Go.undef) w := by
  rcases wrOp_cases hint ao.dst (markOp false ao.op) with e | ⟨f, n, as, e1, e2⟩
  · refine yld_sound hs hc (yld_unmark (?_ : Yld X (mark false ao) fr H v H1)) hK
    unfold wrB at h
    rw [e] at h
    exact h
  · have e3 : ao.op = .call f (.t n :: as) := by
      unfold markOp at e1
      split at e1
      · split at e1 <;> cases e1
      · split at e1 <;> cases e1
      · exact e1
    obtain ⟨⟨b, hop⟩, hdst, hd, hg⟩ := compileOper_spec hc
    have key : ∀ v0, CallB X f ((AX.t n :: as).map (·.eval X.G fr)) H v0 H1 → (∀ g' w' a', StR X N g' w' (fr.updo ao.dst v0) H1 a' → ExtM g w g' w' → Kc a' w') → o.wpIn (Fd X.rd) 0 X.P a w Kc Q := fun v0 hdo hK => by
      have hs0 := hs
      rw [hdst] at hK
      obtain ⟨i, cs, bb, k1, k2, k4, k5, k6⟩ := hdo
      have hcal : callee X.G fr ao.op = some (f, (AX.t n :: as).map (·.eval X.G fr)) := by rw [e3]; rfl
      obtain ⟨vs, hvs, hrun⟩ := run_call hs0 hop hcal k5
      refine wpIn_run hop hrun (upon_enter ?_)
      refine (k6 H k2 g w vs hs.wf hs.hr hvs).mono fun e w' ⟨v, g', h1, h2, h3⟩ => ?_
      subst h1
      rw [← k4] at h3
      exact hK g' w' _ (hs.put h3 hd h2) h3.xm
    unfold Yld wrB at h
    rw [e2] at h
    rcases hg with ⟨hg1, hg2⟩ | ⟨j, want, t, hg1, ht, hg2⟩
    · rw [hg2] at h
      rw [if_pos (by simp [Region.wanted, hg1])]
      exact (key v h hK)
    · rw [hg2] at h
      obtain ⟨c, hfb, h1, h2⟩ := h
      have hw := gval_wanted hs hfb hg1 ht
      rw [hw]
      cases c with
      | true =>
        rw [if_pos rfl]
        exact (key v (h1 rfl) hK)
      | false =>
        rw [if_neg (by decide)]
        rw [hdst] at hK
        obtain ⟨h2, h3⟩ := h2 rfl
        subst h2
        subst h3
        exact ⟨fun _ _ => trivial, hK g w _ (hs.putU hd (by simp [noV, Rel])) (ExtM.refl g w)⟩
theorem anyB2_sound {hint : Nat → Bool} (hc : compileOps X.P N hint ops ops.toList = some al) {Kf : Fr → Heap → Prop} {Q : Exit → Act → World → Prop} : ∀ (fuel : Nat) (listed : Array Bool) {g : Gh} {w : World} {fr : Fr} {H : Heap} {a : Act}, StR X N g w fr H a → AnyA X md ops (al.map (wrB hint)) Kf fuel listed fr H →
    (∀ g' w' fr' H' a', StR X N g' w' fr' H' a' → ExtM g w g' w' → Kf fr' H' → Q .normal a' w') → wpAnyIn (Fd X.rd) 0 X.P md ops Q fuel listed a w
  | 0, _, g, w, fr, H, a, hs, h, hK => ⟨h.1, hK g w fr H a hs (ExtM.refl g w) h.2⟩
  | fuel + 1, listed, g, w, fr, H, a, hs, h, hK => by
    refine ⟨fun h0 => hK g w fr H a hs (ExtM.refl g w) (h.1 h0), fun i hi => ?_⟩
    have h1 := h.2 i hi
    unfold qA at h1
    unfold wpOpIn
    rw [List.getElem?_map] at h1
    rcases compileOps_get hc i with ⟨h2, h3⟩ | ⟨o, ao, h2, h3, h4⟩
    · rw [h3] at h1
      rw [show ops[i]? = none by simpa using h2]
      exact anyB2_sound hc fuel _ hs h1 hK
    · rw [h3] at h1
      obtain ⟨v, H1, hy, h5⟩ := h1
      rw [show ops[i]? = some o by simpa using h2]
      exact yld_soundB hs h4 hy fun g' w' a' hs' he => anyB2_sound hc fuel _ hs' h5 fun g'' w'' fr'' H'' a'' hs'' he' hk => hK g'' w'' fr'' H'' a'' hs'' (he.trans he') hk
/-- The same, with a call that writes one box. -/
theorem ex_region_wr {id : Nat} {fr : Fr} {hint : Nat → Bool} {Q : Exit → Fr → Heap → Prop} (hm : X.P.follows .mixedOrders = true) (hc : compileOps X.P N hint ops ops.toList = some al) (hB : lexA ops (al.map (wrB hint)) = true) (h : vcOpsQ X (Q .normal) H (al.map (wrB hint)) fr) :
    Ex X N (.region id ops true) fr H Q := fun g w a hs => by
  have hlen : (al.map (wrB hint)).length = ops.size := by
    have : ∀ {l : List Oper} {al : List AOper}, compileOps X.P N hint ops l = some al → al.length = l.length := by
      intro l
      induction l with
      | nil => intro al h; simp [compileOps] at h; subst h; rfl
      | cons o l ih =>
        intro al h
        simp only [compileOps] at h
        split at h
        · rename_i ao al' h1 h2
          cases h
          simp [ih h2]
        · cases h
    rw [List.length_map, this hc]; simp
  refine wpIn_region_any hm ?_
  have h1 := anyA_lex (X := X) (ops := ops) (al := al.map (wrB hint)) (md := .any) (al.map (wrB hint)) 0 (Array.replicate ops.size false) fr H (fun j => by rw [Nat.zero_add]) (by rw [hlen]; exact hB) h
  rw [hlen] at h1
  exact anyB2_sound hc _ _ hs.drew h1 fun g' w' fr' H' a' hs' he hk => ⟨g', fr', H', hs', ExtM.trans ⟨Ext.drew, fun _ _ h => ⟨h, rfl⟩, fun _ _ h => h, fun _ n h => ⟨n, h, .inl ⟨rfl, rfl⟩⟩⟩ he, hk⟩

end

end Go.Avm

/-
  Regions that draw their order, and make a block at any time that their last operation fills.
-/
namespace Go.Avm
open Go

/-- The last operation but one makes a block, the last one fills it, behind all others. -/
def boxAt (ops : Array Oper) (al : List AOper) : Option (Nat × Nat × AX) :=
  match al[al.length - 2]?, al[al.length - 1]?, ops[al.length - 1]? with
  | some ⟨some d, .alloc cs, none⟩, some ⟨none, .st n (.t d') v, none⟩, some oq =>
    if (d == d' && cs.length == n && decide (2 ≤ al.length) && !v.looks.contains d && (al.take (al.length - 2)).all (fun o => o.dst != some d) && oq.after.any (fun e => Region.binds .any e && e.on == al.length - 2)) = true then some (d, n, v) else none
  | _, _, _ => none

def boxed (al : List AOper) (d n : Nat) (v : AX) : List AOper := al.take (al.length - 2) ++ [⟨some d, .mov (.c .undef), none⟩, ⟨some d, .boxS n v, none⟩]

def boxL (ops : Array Oper) (al : List AOper) : Option (List AOper) := match boxAt ops al with
  | some (d, n, v) => some (boxed al d n v)
  | none => none

section
variable {X : Cx} {N : Nat} {H : Heap} {ops : Array Oper} {al : List AOper} {md : Region.Mode}

/-- A block that is made, and that nobody knows yet. -/
def Pend (d n z : Nat) (g : Gh) (w : World) (a : Act) : Prop :=
  ∃ (b : Nat) (vs : Array Value) (e : TypeId), z ≤ b ∧ a.tmps.getD d Go.undef = .pointer (some ⟨b, 0, none⟩) ∧ w.heap[b]? = some (Obj.cells vs e (0, 0)) ∧ vs.size = n ∧ (∀ o, ¬ g.owns b o) ∧ ∀ o, ¬ g.S b o

theorem Pend.step {d n z : Nat} {g g' : Gh} {w w' : World} {a a' : Act} (h : Pend d n z g w a) (he : Ext g w g' w') (ha : a'.tmps.getD d Go.undef = a.tmps.getD d Go.undef) : Pend d n z g' w' a' := by
  obtain ⟨b, vs, e, h0, h1, h2, h3, h4, h5⟩ := h
  have hlt : b < w.heap.size := (Array.getElem?_eq_some_iff.1 h2).1
  refine ⟨b, vs, e, h0, ha.trans h1, (he.obj b hlt h4).trans h2, h3, fun o ho => ?_, fun o hS => ?_⟩
  · rcases he.own b o ho with h | h
    · omega
    · exact h4 o h
  · rcases he.S' b o hS with h | h | h
    · exact h5 o h
    · omega
    · exact h4 o h

theorem put_other {a : Act} {d : Option Nat} {u : Value} {t : Nat} (h : d ≠ some t) : (a.put d u).tmps.getD t Go.undef = a.tmps.getD t Go.undef := by
  cases d with
  | none => rfl
  | some d =>
    have hdt : d ≠ t := fun e => h (by rw [e])
    simp [Act.put, Array.getElem?_setIfInBounds_ne hdt]

theorem inv_alloc {b : Bool} {op : Op} {cs : List AV} (h : compileOp X.P b op = some (.alloc cs)) : ∃ t, op = .alloc t ∧ zeroCells X.P t = some cs := by
  cases op <;> simp only [compileOp] at h
  case alloc t =>
    split at h
    · cases h
    · simp only [Option.map_eq_some_iff, AOp.alloc.injEq] at h
      obtain ⟨z, h1, rfl⟩ := h
      exact ⟨t, rfl, h1⟩
  case call c =>
    exfalso
    obtain ⟨cal, as, ts⟩ := c
    unfold compileCall at h
    split at h
    · (repeat' split at h) <;> simp at h
    · unfold compileBuiltin at h
      split at h
      · unfold compileLen at h; split at h <;> simp at h
      · unfold compileApp at h; (repeat' split at h) <;> simp at h
      · unfold compileCpy at h; (repeat' split at h) <;> simp at h
      all_goals ((repeat' split at h) <;> simp at h)
    · (repeat' split at h) <;> simp at h
    · simp only [Option.map_eq_some_iff] at h; obtain ⟨_, _, h⟩ := h; cases h
    · cases h
  all_goals (exfalso; (repeat' split at h) <;> first | (cases h; done) | (simp only [Option.map_eq_some_iff] at h; obtain ⟨_, _, h⟩ := h; cases h))

/-- The block is made. -/
theorem pend_alloc {g : Gh} {w : World} {fr : Fr} {a : Act} (hs : StR X N g w fr H a) {o : Oper} {t : TypeId} {z : List AV} {d : Nat} (hd : d < N) (ho : o.op = .alloc t) (hz : zeroCells X.P t = some z) :
    ∃ u w', (execOp a.eval o).run X.P w = .ok (.value u) w' ∧ StR X N g w' (fr.updo (some d) .undef) H (a.put (some d) u) ∧ ExtM g w g w' ∧ Pend d z.length w.heap.size g w' (a.put (some d) u) := by
  obtain ⟨i, zv, hi, hzv, hr⟩ := zeroCells_spec hz
  have hm : Mono g w g (w.alloc (.cells zv.cells t)) := mono_alloc hs.wf rfl (fun _ _ h => h) (fun _ _ h => h) (fun i n hn => ⟨n, hn, .inl ⟨rfl, rfl⟩⟩)
  have hg : Good X g w H g (w.alloc (.cells zv.cells t)) H := good_alloc hs.wf rfl hm (fun b o h => .inl h) (fun i b hb => .inl hb) (fun i b lo hi h => .inl h)
    (fun i j h1 h2 => absurd (hs.wf.lt_bx h1) (Nat.lt_irrefl _)) (fun i j lo hi lo' hi' h1 h2 => absurd (hs.wf.lt_tk h1) (Nat.lt_irrefl _)) (fun i j lo hi h1 h2 => absurd (hs.wf.lt_bx h1) (Nat.lt_irrefl _))
    ⟨fun i x hx => (hs.hr.blk i x hx).mono hm (fun b hb => heap_alloc_old (hs.wf.lt_bx hb)) (fun n h => h) (fun b lo hi h => ⟨h, heap_alloc_old (hs.wf.lt_tk h)⟩), hs.hr.far⟩
  refine ⟨.pointer (some ⟨w.heap.size, 0, none⟩), _, ?_, hs.put hg (fun t ht => by cases ht; exact hd) (by simp [Rel]), hg.xm, w.heap.size, zv.cells, t, Nat.le_refl _, ?_, heap_alloc_new, ?_, fun o ho => ?_, fun o hS => ?_⟩
  · simp [execOp, ho, Instr.alloc, zeroValue, typeInfo, hi, hzv, newVar, newRow]
  · have hlt : d < a.tmps.size := Nat.lt_of_lt_of_le hd hs.size
    simp [Act.put, Array.getD, hlt]
  · have := (hr g w).length
    simpa using this
  · exact absurd (hs.wf.lt_owns ho) (Nat.lt_irrefl _)
  · exact absurd (hs.wf.lt_S hS) (Nat.lt_irrefl _)

/-- The block is known. -/
theorem pend_adopt {g0 g : Gh} {w0 w : World} {fr : Fr} {a : Act} (hs : StR X N g w fr H a) (he0 : ExtM g0 w0 g w) {d n z : Nat} (hz : w0.heap.size ≤ z) (hp : Pend d n z g w a) :
    ∃ g', StR X N g' w (fr.updo (some d) (.ptr H.length 0)) (H ++ [.box (List.replicate n .undef)]) a ∧ ExtM g0 w0 g' w := by
  obtain ⟨b, vs, e, h0, h1, h2, h3, h4, h5⟩ := hp
  have hfar := hs.hr.far
  have hlt : b < w.heap.size := (Array.getElem?_eq_some_iff.1 h2).1
  have nbx : ∀ i, g.bx i ≠ some b := fun i hi => h4 0 (.inl ⟨i, hi⟩)
  have ntk : ∀ i lo hi, g.tk i ≠ some (b, lo, hi) := fun i lo hi h => h4 lo (.inr ⟨i, lo, hi, h, Nat.le_refl _⟩)
  refine ⟨{ g with bx := fun i => if i = H.length then some b else g.bx i }, ?_⟩
  have hm : Mono g w { g with bx := fun i => if i = H.length then some b else g.bx i } w := by
    refine ⟨fun b o h => ⟨h, rfl⟩, fun i c hc => ?_, fun i n h => ⟨n, h, .inl ⟨rfl, rfl⟩⟩⟩
    show (if i = H.length then some b else g.bx i) = some c
    rw [if_neg (fun hi => by rw [(hfar i (by omega)).1] at hc; cases hc)]
    exact hc
  have hown : ∀ c o, Gh.owns { g with bx := fun i => if i = H.length then some b else g.bx i } c o → c = b ∨ g.owns c o := by
    rintro c o (⟨i, hi⟩ | ⟨i, lo, hi, h, hle⟩)
    · change (if i = H.length then some b else g.bx i) = some c at hi
      split at hi
      · cases hi; exact .inl rfl
      · exact .inr (.inl ⟨i, hi⟩)
    · exact .inr (.inr ⟨i, lo, hi, h, hle⟩)
  have hwf : Wf X.G { g with bx := fun i => if i = H.length then some b else g.bx i } w := by
    refine ⟨fun c o hS => ⟨(hs.wf.S c o hS).1, fun ho => ?_⟩, fun i j c hi hj => ?_, hs.wf.tinj, fun i j c lo hi hb => ?_, fun i c hb => ?_, hs.wf.tk, fun x cs hx => Rel.mono _ hm (hs.wf.laid x cs hx), hs.wf.ex⟩
    · rcases hown c o ho with rfl | h
      · exact h5 o hS
      · exact (hs.wf.S c o hS).2 h
    · change (if i = H.length then some b else g.bx i) = some c at hi
      change (if j = H.length then some b else g.bx j) = some c at hj
      split at hi
      · split at hj
        · omega
        · cases hi; exact absurd hj (nbx j)
      · split at hj
        · cases hj; exact absurd hi (nbx i)
        · exact hs.wf.inj i j c hi hj
    · change (if i = H.length then some b else g.bx i) = some c at hb
      split at hb
      · cases hb; exact ntk j lo hi
      · exact hs.wf.apart i j c lo hi hb
    · change (if i = H.length then some b else g.bx i) = some c at hb
      split at hb
      · cases hb
        refine ⟨hlt, fun vs' e' lo hi hh o ho => ?_⟩
        rw [h2] at hh
        cases hh
        omega
      · exact hs.wf.bx i c hb
  have hhr : HR { g with bx := fun i => if i = H.length then some b else g.bx i } w (H ++ [.box (List.replicate n .undef)]) := by
    refine ⟨fun i x hx => ?_, fun i hi => ?_⟩
    · rw [List.getElem?_append] at hx
      split at hx
      · exact (hs.hr.blk i x hx).mono hm (fun _ _ => rfl) (fun _ h => h) (fun _ _ _ h => ⟨h, rfl⟩)
      · have hi' : i = H.length := by
          rcases Nat.lt_or_ge (i - H.length) 1 with h' | h'
          · omega
          · rw [List.getElem?_eq_none (by simpa using h')] at hx; cases hx
        subst hi'
        simp at hx
        subst hx
        refine ⟨b, vs, e, (0, 0), if_pos rfl, h2, RelL.of_get (by simp [h3]) fun i x v hx _ => ?_⟩
        have := List.mem_of_getElem? hx
        rw [List.mem_replicate] at this
        rw [this.2]
        simp [Rel]
    · simp at hi
      obtain ⟨k1, k2, k3⟩ := hfar i (by omega)
      exact ⟨by show (if i = H.length then some b else g.bx i) = none; rw [if_neg (by omega)]; exact k1, k2, k3⟩
  have he : Ext g0 w0 { g with bx := fun i => if i = H.length then some b else g.bx i } w := by
    refine ⟨he0.ext.size, he0.ext.S, he0.ext.S', he0.ext.cell, he0.ext.obj, he0.ext.shape, fun c o ho => ?_, he0.ext.io⟩
    rcases hown c o ho with rfl | h
    · exact .inl (Nat.le_trans hz h0)
    · exact he0.ext.own c o h
  obtain ⟨Ds, e1, e2, e3⟩ := hs.defers
  refine ⟨⟨hwf, hhr, fun t => ?_, hs.size, ⟨Ds, e1, e2, fun D hD => ?_⟩, hs.n0⟩, he, he0.mono.trans hm⟩
  · simp only [Fr.updo, Fr.upd]
    split
    · rename_i ht
      subst ht
      simp only [Rel]
      exact ⟨b, h1, by simp⟩
    · exact Rel.mono _ hm (hs.fr t)
  · obtain ⟨k1, k2, k3⟩ := e3 D hD
    refine ⟨k1, k2, fun o ho => ?_⟩
    rcases hown D o ho with rfl | h
    · rw [h2] at k2; cases k2
    · exact k3 o h

/-- The block is known, and no other. -/
theorem pend_adopt2 {g0 g : Gh} {w0 w : World} {fr : Fr} {a : Act} (hs : StR X N g w fr H a) (he0 : ExtM g0 w0 g w) {d n z : Nat} (hz : w0.heap.size ≤ z) {b0 : Nat} (hb0 : a.tmps.getD d Go.undef = .pointer (some ⟨b0, 0, none⟩)) (hp : Pend d n z g w a) :
    ∃ g', (∀ c o, g'.owns c o → c = b0 ∨ g.owns c o) ∧ (∀ c o, g'.S c o → g.S c o) ∧ StR X N g' w (fr.updo (some d) (.ptr H.length 0)) (H ++ [.box (List.replicate n .undef)]) a ∧ ExtM g0 w0 g' w := by
  obtain ⟨b, vs, e, h0, h1, h2, h3, h4, h5⟩ := hp
  have hfar := hs.hr.far
  have hlt : b < w.heap.size := (Array.getElem?_eq_some_iff.1 h2).1
  have nbx : ∀ i, g.bx i ≠ some b := fun i hi => h4 0 (.inl ⟨i, hi⟩)
  have ntk : ∀ i lo hi, g.tk i ≠ some (b, lo, hi) := fun i lo hi h => h4 lo (.inr ⟨i, lo, hi, h, Nat.le_refl _⟩)
  have hbb : b = b0 := by
    rw [h1] at hb0
    cases hb0
    rfl
  refine ⟨{ g with bx := fun i => if i = H.length then some b else g.bx i }, ?_⟩
  have hm : Mono g w { g with bx := fun i => if i = H.length then some b else g.bx i } w := by
    refine ⟨fun b o h => ⟨h, rfl⟩, fun i c hc => ?_, fun i n h => ⟨n, h, .inl ⟨rfl, rfl⟩⟩⟩
    show (if i = H.length then some b else g.bx i) = some c
    rw [if_neg (fun hi => by rw [(hfar i (by omega)).1] at hc; cases hc)]
    exact hc
  have hown : ∀ c o, Gh.owns { g with bx := fun i => if i = H.length then some b else g.bx i } c o → c = b ∨ g.owns c o := by
    rintro c o (⟨i, hi⟩ | ⟨i, lo, hi, h, hle⟩)
    · change (if i = H.length then some b else g.bx i) = some c at hi
      split at hi
      · cases hi; exact .inl rfl
      · exact .inr (.inl ⟨i, hi⟩)
    · exact .inr (.inr ⟨i, lo, hi, h, hle⟩)
  have hwf : Wf X.G { g with bx := fun i => if i = H.length then some b else g.bx i } w := by
    refine ⟨fun c o hS => ⟨(hs.wf.S c o hS).1, fun ho => ?_⟩, fun i j c hi hj => ?_, hs.wf.tinj, fun i j c lo hi hb => ?_, fun i c hb => ?_, hs.wf.tk, fun x cs hx => Rel.mono _ hm (hs.wf.laid x cs hx), hs.wf.ex⟩
    · rcases hown c o ho with rfl | h
      · exact h5 o hS
      · exact (hs.wf.S c o hS).2 h
    · change (if i = H.length then some b else g.bx i) = some c at hi
      change (if j = H.length then some b else g.bx j) = some c at hj
      split at hi
      · split at hj
        · omega
        · cases hi; exact absurd hj (nbx j)
      · split at hj
        · cases hj; exact absurd hi (nbx i)
        · exact hs.wf.inj i j c hi hj
    · change (if i = H.length then some b else g.bx i) = some c at hb
      split at hb
      · cases hb; exact ntk j lo hi
      · exact hs.wf.apart i j c lo hi hb
    · change (if i = H.length then some b else g.bx i) = some c at hb
      split at hb
      · cases hb
        refine ⟨hlt, fun vs' e' lo hi hh o ho => ?_⟩
        rw [h2] at hh
        cases hh
        omega
      · exact hs.wf.bx i c hb
  have hhr : HR { g with bx := fun i => if i = H.length then some b else g.bx i } w (H ++ [.box (List.replicate n .undef)]) := by
    refine ⟨fun i x hx => ?_, fun i hi => ?_⟩
    · rw [List.getElem?_append] at hx
      split at hx
      · exact (hs.hr.blk i x hx).mono hm (fun _ _ => rfl) (fun _ h => h) (fun _ _ _ h => ⟨h, rfl⟩)
      · have hi' : i = H.length := by
          rcases Nat.lt_or_ge (i - H.length) 1 with h' | h'
          · omega
          · rw [List.getElem?_eq_none (by simpa using h')] at hx; cases hx
        subst hi'
        simp at hx
        subst hx
        refine ⟨b, vs, e, (0, 0), if_pos rfl, h2, RelL.of_get (by simp [h3]) fun i x v hx _ => ?_⟩
        have := List.mem_of_getElem? hx
        rw [List.mem_replicate] at this
        rw [this.2]
        simp [Rel]
    · simp at hi
      obtain ⟨k1, k2, k3⟩ := hfar i (by omega)
      exact ⟨by show (if i = H.length then some b else g.bx i) = none; rw [if_neg (by omega)]; exact k1, k2, k3⟩
  have he : Ext g0 w0 { g with bx := fun i => if i = H.length then some b else g.bx i } w := by
    refine ⟨he0.ext.size, he0.ext.S, he0.ext.S', he0.ext.cell, he0.ext.obj, he0.ext.shape, fun c o ho => ?_, he0.ext.io⟩
    rcases hown c o ho with rfl | h
    · exact .inl (Nat.le_trans hz h0)
    · exact he0.ext.own c o h
  obtain ⟨Ds, e1, e2, e3⟩ := hs.defers
  refine ⟨fun c o h => (hown c o h).imp (fun e => e.trans hbb) id, fun _ _ h => h, ⟨hwf, hhr, fun t => ?_, hs.size, ⟨Ds, e1, e2, fun D hD => ?_⟩, hs.n0⟩, he, he0.mono.trans hm⟩
  · simp only [Fr.updo, Fr.upd]
    split
    · rename_i ht
      subst ht
      simp only [Rel]
      exact ⟨b, h1, by simp⟩
    · exact Rel.mono _ hm (hs.fr t)
  · obtain ⟨k1, k2, k3⟩ := e3 D hD
    refine ⟨k1, k2, fun o ho => ?_⟩
    rcases hown D o ho with rfl | h
    · rw [h2] at k2; cases k2
    · exact k3 o h

theorem setCells_all : ∀ (vs cs pre : List AV), cs.length = vs.length → setCells (pre ++ cs) pre.length vs = pre ++ vs
  | [], cs, pre, h => by
    have : cs = [] := List.length_eq_zero_iff.1 h
    subst this; rfl
  | v :: vs, [], pre, h => by simp at h
  | v :: vs, c :: cs, pre, h => by
    simp only [setCells, List.set_append_right _ _ (Nat.le_refl _), Nat.sub_self, List.set_cons_zero]
    have := setCells_all vs cs (pre ++ [v]) (by simpa using h)
    simpa using this

/-- yld_sound, and other slots stay. -/
theorem yld_sound2 {g : Gh} {w : World} {fr : Fr} {a : Act} (hs : StR X N g w fr H a) {hint : Nat → Bool} {o : Oper} {ao : AOper} (hc : compileOper X.P N hint ops o = some ao) {v : AV} {H1 : Heap} (h : Yld X ao fr H v H1)
    {Kc : Act → World → Prop} {Q : Exit → Act → World → Prop} (hK : ∀ g' w' a', StR X N g' w' (fr.updo ao.dst v) H1 a' → ExtM g w g' w' → (∀ t, ao.dst ≠ some t → a'.tmps.getD t Go.undef = a.tmps.getD t Go.undef) → Kc a' w') :
    if Region.wanted o (yielded ops a.tmps) then o.wpIn (Fd X.rd) 0 X.P a w Kc Q else (∀ f, o.about X.P w a.eval = some f → (Fd X.rd).fn f) ∧ Kc (a.put o.dst Go.undef) w := by
  obtain ⟨⟨b, hop⟩, hdst, hd, hg⟩ := compileOper_spec hc
  have key : ∀ v0, DoV X ao.op fr H v0 H1 → (∀ g' w' a', StR X N g' w' (fr.updo ao.dst v0) H1 a' → ExtM g w g' w' → (∀ t, ao.dst ≠ some t → a'.tmps.getD t Go.undef = a.tmps.getD t Go.undef) → Kc a' w') → o.wpIn (Fd X.rd) 0 X.P a w Kc Q := fun v0 hdo hK => by
    have hs0 := hs
    unfold DoV at hdo
    rw [compileOp_cs hop] at hdo
    rw [hdst] at hK
    simp only at hdo
    rw [compileOp_cb hop] at hdo
    simp only at hdo
    split at hdo
    · rename_i f args hcal
      obtain ⟨hdo, rfl⟩ := hdo
      obtain ⟨vs, hvs, hrun⟩ := run_call hs0 hop hcal hdo.1
      refine wpIn_run hop hrun (upon_enter ?_)
      refine (hdo.2 g w vs hs.wf hs.hr hvs).mono fun e w' ⟨v, g', h1, h2, h3⟩ => ?_
      subst h1
      exact hK g' w' _ (hs.put h3 hd h2) h3.xm fun t ht => put_other ht
    · have hdo : ∃ h', aop X.G fr H ao.op = some (true, v0, h') ∧ h'.getD H = H1 := by
        rcases hdo with ⟨h1, h2⟩ | ⟨_, _, h1⟩
        · exact ⟨none, h1, h2.symm⟩
        · exact ⟨some H1, h1, rfl⟩
      obtain ⟨h', hdo, hH⟩ := hdo
      obtain ⟨u, w', g', hrun, hgd, hr⟩ := aop_sound hs0 hop hdo
      rw [hH] at hgd
      rcases hrun with hrun | ⟨hrun, rfl⟩
      · refine wpIn_run hop hrun ?_; exact hK g' w' _ (hs.put hgd hd hr) hgd.xm fun t ht => put_other ht
      · refine wpIn_run hop hrun ?_; exact hK g' w' _ (hs.put hgd hd hr) hgd.xm fun t ht => put_other ht
  unfold Yld at h
  rcases hg with ⟨hg1, hg2⟩ | ⟨j, want, t, hg1, ht, hg2⟩
  · rw [hg2] at h
    rw [if_pos (by simp [Region.wanted, hg1])]
    exact (key v h hK)
  · rw [hg2] at h
    obtain ⟨c, hfb, h1, h2⟩ := h
    have hw := gval_wanted hs hfb hg1 ht
    rw [hw]
    cases c with
    | true =>
      rw [if_pos rfl]
      exact (key v (h1 rfl) hK)
    | false =>
      rw [if_neg (by decide)]
      rw [hdst] at hK
      obtain ⟨h2, h3⟩ := h2 rfl
      subst h2
      subst h3
      exact ⟨fun _ _ => trivial, hK g w _ (hs.putU hd (by simp [noV, Rel])) (ExtM.refl g w) fun t ht => put_other ht⟩

theorem anyB_sound {hint : Nat → Bool} (hc : compileOps X.P N hint ops ops.toList = some al) {p d n : Nat} {cs : List AV} {v : AX} (hp : al[p]? = some ⟨some d, .alloc cs, none⟩) (hq : al[p + 1]? = some ⟨none, .st n (.t d) v, none⟩) (hcs : cs.length = n) (hlen : al.length = p + 2)
    (hv : d ∉ v.looks) (hd : ∀ (i : Nat) o, i < p → al[i]? = some o → o.dst ≠ some d) (hdep : ∀ oq, ops[p + 1]? = some oq → ∃ e ∈ oq.after, Region.binds md e = true ∧ e.on = p) {Kf : Fr → Heap → Prop} {Q : Exit → Act → World → Prop} {g0 : Gh} {w0 : World} :
    ∀ (fuel : Nat) (listed : Array Bool) {g : Gh} {w : World} {fr : Fr} {H : Heap} {a : Act}, StR X N g w fr H a → ExtM g0 w0 g w → (listed.getD p false = true → listed.getD (p + 1) true = false → ∃ z, w0.heap.size ≤ z ∧ Pend d n z g w a) → AnyA X md ops (boxed al d n v) Kf fuel listed fr H →
    (∀ g' w' fr' H' a', StR X N g' w' fr' H' a' → ExtM g0 w0 g' w' → Kf fr' H' → Q .normal a' w') → wpAnyIn (Fd X.rd) 0 X.P md ops Q fuel listed a w
  | 0, listed, g, w, fr, H, a, hs, he0, hP, h, hK => ⟨h.1, hK g w fr H a hs he0 h.2⟩
  | fuel + 1, listed, g, w, fr, H, a, hs, he0, hP, h, hK => by
    refine ⟨fun h0 => hK g w fr H a hs he0 (h.1 h0), fun i hi => ?_⟩
    obtain ⟨hun, oi, hoi, hall⟩ := mem_ready.1 hi
    have h1 := h.2 i hi
    unfold qA at h1
    unfold wpOpIn
    have bp : (boxed al d n v)[p]? = some ⟨some d, .mov (.c .undef), none⟩ := by
      unfold boxed
      rw [hlen, List.getElem?_append_right (by simp [hlen])]
      simp [hlen]
    have bq : (boxed al d n v)[p + 1]? = some ⟨some d, .boxS n v, none⟩ := by
      unfold boxed
      rw [hlen, List.getElem?_append_right (by simp [hlen])]
      simp [hlen]
    have bo : ∀ i, i < p → (boxed al d n v)[i]? = al[i]? := fun i hi => by
      unfold boxed
      rw [hlen, List.getElem?_append_left (by simp [hlen]; omega), List.getElem?_take, if_pos (by omega)]
    rcases compileOps_get hc i with ⟨h2, h3⟩ | ⟨o, ao, h2, h3, h4⟩
    · rw [show ops[i]? = none by simpa using h2] at hoi
      cases hoi
    · rw [show ops[i]? = some o by simpa using h2]
      have hil : i < p + 2 := by
        rcases Nat.lt_or_ge i (p + 2) with h' | h'
        · exact h'
        · rw [List.getElem?_eq_none (by omega)] at h3; cases h3
      have hne : ∀ j, j ≠ i → ∀ b, (listed.setIfInBounds i true).getD j b = listed.getD j b := fun j hj b => by
        simp [Array.getD_eq_getD_getElem?, Array.getElem?_setIfInBounds_ne (Ne.symm hj)]
      by_cases hip : i = p
      · subst hip
        rw [hp] at h3
        cases h3
        rw [bp] at h1
        obtain ⟨v1, H1, hy, h5⟩ := h1
        have hy : v1 = .undef ∧ H1 = H := by
          unfold Yld DoV at hy
          simp only [callee, aop, AX.eval] at hy
          rcases hy with ⟨hy, rfl⟩ | ⟨hy, _⟩
          · simp only [Option.some.injEq, Prod.mk.injEq] at hy
            exact ⟨hy.2.1.symm, rfl⟩
          · exact absurd hy (by simp [isW, isSt, isApp])
        obtain ⟨rfl, rfl⟩ := hy
        obtain ⟨⟨b, hop⟩, hdst, hdN, hg⟩ := compileOper_spec h4
        rcases hg with ⟨hg1, _⟩ | ⟨_, _, _, _, _, hg2⟩
        · dsimp only
          rw [if_pos (by simp [Region.wanted, hg1])]
          obtain ⟨t, ho, hz⟩ := inv_alloc hop
          obtain ⟨u, w', hrun, hs', he, hpn⟩ := pend_alloc hs (hdN d hdst.symm) ho hz
          refine wpIn_run hop hrun ?_
          refine (show wpAnyIn (Fd X.rd) 0 X.P md ops Q fuel (listed.setIfInBounds i true) (a.put o.dst u) w' from ?_)
          rw [← hdst]
          refine anyB_sound hc hp hq hcs hlen hv hd hdep fuel _ hs' (he0.trans he) (fun _ _ => ⟨w.heap.size, he0.ext.size, ?_⟩) h5 hK
          rw [← hcs]
          exact hpn
        · cases hg2
      · by_cases hiq : i = p + 1
        · subst hiq
          rw [hq] at h3
          cases h3
          rw [bq] at h1
          obtain ⟨v1, H1, hy, h5⟩ := h1
          obtain ⟨e, he1, he2, he3⟩ := hdep o (by simpa using h2)
          rw [show ops[p + 1]? = some o by simpa using h2] at hoi
          cases hoi
          have hlp : listed.getD p false = true := by rw [← he3]; exact hall e he1 he2
          obtain ⟨z, hz, hpn⟩ := hP hlp hun
          obtain ⟨g1, hs1, he1'⟩ := pend_adopt hs he0 hz hpn
          have hy : v1 = .ptr H.length 0 ∧ H1 = H ++ [.box (v.eval X.G fr).cells] ∧ (v.eval X.G fr).cells.length = n ∧ (v.eval X.G fr).cells.all scalarB = true := by
            unfold Yld DoV at hy
            simp only [callee, aop] at hy
            rcases hy with ⟨hy, _⟩ | ⟨_, _, hy⟩
            · simp at hy
            · simp only [Option.some.injEq, Prod.mk.injEq, Bool.and_eq_true, decide_eq_true_eq] at hy
              exact ⟨hy.2.1.symm, hy.2.2.symm, hy.1.1, hy.1.2⟩
          obtain ⟨rfl, rfl, hy1, hy2⟩ := hy
          have hev : v.eval X.G (fr.updo (some d) (.ptr H.length 0)) = v.eval X.G fr := AX.eval_congr fun t ht => by
            simp only [Fr.updo, Fr.upd]
            rw [if_neg (fun e : t = d => hv (e ▸ ht))]
          have hy' : Yld X ⟨none, .st n (.t d) v, none⟩ (fr.updo (some d) (.ptr H.length 0)) (H ++ [.box (List.replicate n .undef)]) .undef (H ++ [.box (v.eval X.G fr).cells]) := by
            unfold Yld DoV
            simp only [callee, aop]
            refine .inr ⟨rfl, rfl, ?_⟩
            have e1 : AX.eval X.G (fr.updo (some d) (.ptr H.length 0)) (.t d) = .ptr H.length 0 := by simp [AX.eval, Fr.updo, Fr.upd]
            rw [e1, hev]
            simp only [List.getElem?_append_right (Nat.le_refl _), Nat.sub_self, List.getElem?_cons_zero, Option.some.injEq, Prod.mk.injEq, Bool.and_eq_true, decide_eq_true_eq, true_and]
            refine ⟨⟨⟨hy1, by simp⟩, hy2⟩, ?_⟩
            have := setCells_all (v.eval X.G fr).cells (List.replicate n .undef) [] (by simp [hy1])
            simp only [List.nil_append, List.length_nil] at this
            rw [this, List.set_append_right _ _ (Nat.le_refl _)]
            simp
          refine yld_sound2 hs1 h4 hy' fun g' w' a' hs' he ha => anyB_sound hc hp hq hcs hlen hv hd hdep fuel _ (fr := fr.updo (some d) (.ptr H.length 0)) hs' (he1'.trans he) (fun _ hx => ?_) h5 hK
          have hlt : p + 1 < listed.size := by
            rcases Nat.lt_or_ge (p + 1) listed.size with h' | h'
            · exact h'
            · rw [Array.getD_eq_getD_getElem?, Array.getElem?_eq_none h'] at hun; cases hun
          rw [Array.getD_eq_getD_getElem?, Array.getElem?_setIfInBounds_self_of_lt hlt] at hx
          cases hx
        · rw [bo i (by omega), h3] at h1
          obtain ⟨v1, H1, hy, h5⟩ := h1
          refine yld_sound2 hs h4 hy fun g' w' a' hs' he ha => anyB_sound hc hp hq hcs hlen hv hd hdep fuel _ hs' (he0.trans he) (fun k1 k2 => ?_) h5 hK
          rw [hne p (fun e => hip e.symm)] at k1
          rw [hne (p + 1) (fun e => hiq e.symm)] at k2
          obtain ⟨z, hz, hpn⟩ := hP k1 k2
          exact ⟨z, hz, hpn.step he.ext (ha d (hd i ao (by omega) h3))⟩

/-- A region that draws its order, and makes a block at any time that its last operation fills. -/
theorem ex_region_box {id : Nat} {fr : Fr} {hint : Nat → Bool} {al' : List AOper} {Q : Exit → Fr → Heap → Prop} (hm : X.P.follows .mixedOrders = true) (hc : compileOps X.P N hint ops ops.toList = some al) (hb : boxL ops al = some al') (hB : lexA ops al' = true) (h : vcOpsQ X (Q .normal) H al' fr) :
    Ex X N (.region id ops true) fr H Q := fun g w a hs => by
  have hlen : al.length = ops.size := by
    have : ∀ {l : List Oper} {al : List AOper}, compileOps X.P N hint ops l = some al → al.length = l.length := by
      intro l
      induction l with
      | nil => intro al h; simp [compileOps] at h; subst h; rfl
      | cons o l ih =>
        intro al h
        simp only [compileOps] at h
        split at h
        · rename_i ao al' h1 h2
          cases h
          simp [ih h2]
        · cases h
    rw [this hc]; simp
  unfold boxL at hb
  split at hb
  · rename_i d n v hat
    cases hb
    unfold boxAt at hat
    split at hat
    · rename_i d1 cs n1 d2 v1 oq e1 e2 e3
      split at hat
      · rename_i hcond
        cases hat
        simp only [Bool.and_eq_true, beq_iff_eq, decide_eq_true_eq, Bool.not_eq_true', List.all_eq_true, bne_iff_ne, ne_eq, List.any_eq_true, Array.any_eq_true] at hcond
        obtain ⟨⟨⟨⟨⟨hdd, hcs⟩, h2⟩, hv⟩, hall⟩, hdep⟩ := hcond
        subst hdd
        have hp1 : al.length - 1 = (al.length - 2) + 1 := by omega
        rw [hp1] at e2 e3
        have hlen' : (boxed al d n v).length = ops.size := by
          simp only [boxed, List.length_append, List.length_take, List.length_cons, List.length_nil]
          omega
        refine wpIn_region_any hm ?_
        have h1 := anyA_lex (X := X) (ops := ops) (al := boxed al d n v) (md := .any) (boxed al d n v) 0 (Array.replicate ops.size false) fr H (fun j => by rw [Nat.zero_add]) (by rw [hlen']; exact hB) h
        rw [hlen'] at h1
        refine anyB_sound hc (p := al.length - 2) e1 e2 hcs (by omega) (by simpa using hv) (fun i o hi ho => ?_) (fun oq' ho => ?_) _ _ hs.drew (g0 := g) (w0 := w) ⟨Ext.drew, fun _ _ h => ⟨h, rfl⟩, fun _ _ h => h, fun _ n h => ⟨n, h, .inl ⟨rfl, rfl⟩⟩⟩ (fun k1 _ => ?_) h1 fun g' w' fr' H' a' hs' he hk => ⟨g', fr', H', hs', he, hk⟩
        · refine hall o (List.mem_of_getElem? (i := i) ?_)
          rw [List.getElem?_take, if_pos hi]
          exact ho
        · rw [e3] at ho
          cases ho
          obtain ⟨i, hi, hb1, hb2⟩ := hdep
          exact ⟨_, Array.getElem_mem hi, hb1, hb2⟩
        · rw [Array.getD_eq_getD_getElem?, Array.getElem?_replicate] at k1
          split at k1 <;> cases k1
      · cases hat
    · cases hat
  · cases hb
end
end Go.Avm

/-
  Regions that draw their order, and make blocks at any time that later operations fill; loads are from what stays.
-/
namespace Go.Avm
open Go

/-- Where a block is made, where it is filled, the slot, and how many cells. -/
structure BP where
  p : Nat
  q : Nat
  d : Nat
  n : Nat
  deriving DecidableEq

def pairAt (ops : Array Oper) (al : List AOper) (q : Nat) : Option BP :=
  match al[q]? with
  | some ⟨none, .st n (.t d) _, none⟩ => ((List.range al.length).find? fun p => match (al[p]? : Option AOper) with
    | some ⟨some d', .alloc _, none⟩ => d' == d
    | _ => false).map fun p => ⟨p, q, d, n⟩
  | _ => none

def pairsL (ops : Array Oper) (al : List AOper) : List BP := (List.range al.length).filterMap (pairAt ops al)

def trA (L : List BP) (i : Nat) (o : AOper) : AOper :=
  match L.find? (·.p == i) with
  | some x => ⟨some x.d, .mov (.c .undef), none⟩
  | none => match L.find? (·.q == i) with
    | some x => match o.op with
      | .st n _ v => ⟨some x.d, .boxS n v, none⟩
      | _ => o
    | none => stab o

def boxedL (L : List BP) (al : List AOper) : List AOper := al.mapIdx (trA L)

def okP (ops : Array Oper) (al : List AOper) (x : BP) : Bool :=
  match al[x.p]?, al[x.q]?, ops[x.q]? with
  | some ⟨some d, .alloc cs, none⟩, some ⟨none, .st n (.t d') v, none⟩, some oq =>
    d == x.d && d' == x.d && n == x.n && cs.length == x.n && !v.looks.contains x.d && oq.after.any (fun e => Region.binds .any e && e.on == x.p)
  | _, _, _ => false

def okL (L : List BP) (ops : Array Oper) (al : List AOper) : Bool :=
  L.all (okP ops al) && (List.range al.length).all (fun i => L.all fun x => i == x.p || (match al[i]? with | some o => o.dst != some x.d | none => true)) &&
  L.all (fun x => x.p != x.q && L.all fun y => x == y || (x.p != y.p && x.p != y.q && x.q != y.p && x.q != y.q && x.d != y.d))

section
variable {X : Cx} {N : Nat} {H : Heap} {ops : Array Oper} {al : List AOper} {md : Region.Mode} {L : List BP}

/-- What okL says. -/
structure OkL (L : List BP) (ops : Array Oper) (al : List AOper) : Prop where
  at' : ∀ x ∈ L, ∃ cs v oq, al[x.p]? = some ⟨some x.d, .alloc cs, none⟩ ∧ al[x.q]? = some ⟨none, .st x.n (.t x.d) v, none⟩ ∧ ops[x.q]? = some oq ∧ cs.length = x.n ∧ x.d ∉ v.looks ∧ ∃ e ∈ oq.after, Region.binds .any e = true ∧ e.on = x.p
  dst : ∀ x ∈ L, ∀ (i : Nat) o, i ≠ x.p → al[i]? = some o → o.dst ≠ some x.d
  ne : ∀ x ∈ L, x.p ≠ x.q
  two : ∀ x ∈ L, ∀ y ∈ L, x ≠ y → x.p ≠ y.p ∧ x.p ≠ y.q ∧ x.q ≠ y.p ∧ x.q ≠ y.q ∧ x.d ≠ y.d

theorem okL_spec (h : okL L ops al = true) : OkL L ops al := by
  unfold okL at h
  simp only [Bool.and_eq_true, List.all_eq_true] at h
  obtain ⟨⟨h1, h2⟩, h3⟩ := h
  refine ⟨fun x hx => ?_, fun x hx i o hi ho he => ?_, fun x hx => ?_, fun x hx y hy hxy => ?_⟩
  · have := h1 x hx
    unfold okP at this
    split at this
    · rename_i d cs n d' v oq e1 e2 e3
      simp only [Bool.and_eq_true, beq_iff_eq, Bool.not_eq_true', Array.any_eq_true] at this
      obtain ⟨⟨⟨⟨⟨a1, a2⟩, a3⟩, a4⟩, a5⟩, i, hi, b1, b2⟩ := this
      subst a1 a2 a3
      exact ⟨cs, v, oq, e1, e2, e3, a4, by simpa using a5, _, Array.getElem_mem hi, b1, b2⟩
    · cases this
  · have hlt : i < al.length := by
      rcases Nat.lt_or_ge i al.length with h | h
      · exact h
      · rw [List.getElem?_eq_none h] at ho; cases ho
    have := h2 i (List.mem_range.2 hlt) x hx
    rw [ho] at this
    simp only [Bool.or_eq_true, beq_iff_eq, bne_iff_ne, ne_eq] at this
    rcases this with h | h
    · exact hi h
    · exact h he
  · have := (h3 x hx).1
    simpa using this
  · have := (h3 x hx).2 y hy
    simp only [Bool.or_eq_true, beq_iff_eq, Bool.and_eq_true, bne_iff_ne, ne_eq] at this
    rcases this with h | ⟨⟨⟨⟨a, b⟩, c⟩, d⟩, e⟩
    · exact absurd h hxy
    · exact ⟨a, b, c, d, e⟩

theorem OkL.find_p (h : OkL L ops al) {x : BP} (hx : x ∈ L) : L.find? (·.p == x.p) = some x := by
  cases hf : L.find? (·.p == x.p) with
  | none =>
    have := List.find?_eq_none.1 hf x hx
    simp at this
  | some y =>
    have h1 := List.find?_some hf
    simp only [beq_iff_eq] at h1
    by_cases e : y = x
    · rw [e]
    · exact absurd h1 (h.two y (List.mem_of_find?_eq_some hf) x hx e).1
theorem OkL.find_q (h : OkL L ops al) {x : BP} (hx : x ∈ L) : L.find? (·.p == x.q) = none ∧ L.find? (·.q == x.q) = some x := by
  refine ⟨List.find?_eq_none.2 fun y hy => ?_, ?_⟩
  · simp only [beq_iff_eq]
    by_cases e : y = x
    · rw [e]; exact h.ne x hx
    · exact (h.two y hy x hx e).2.1
  · cases hf : L.find? (·.q == x.q) with
    | none =>
      have := List.find?_eq_none.1 hf x hx
      simp at this
    | some y =>
      have h1 := List.find?_some hf
      simp only [beq_iff_eq] at h1
      by_cases e : y = x
      · rw [e]
      · exact absurd h1 (h.two y (List.mem_of_find?_eq_some hf) x hx e).2.2.2.1

/-- The blocks that are made, and that nobody knows yet. -/
def PendL (L : List BP) (listed : Array Bool) (z : Nat) (g : Gh) (w : World) (a : Act) : Prop :=
  ∃ B : Nat → Nat, (∀ x ∈ L, listed.getD x.p false = true → listed.getD x.q true = false → a.tmps.getD x.d Go.undef = .pointer (some ⟨B x.d, 0, none⟩) ∧ Pend x.d x.n z g w a) ∧
    ∀ x ∈ L, ∀ y ∈ L, (listed.getD x.p false = true ∧ listed.getD x.q true = false) → (listed.getD y.p false = true ∧ listed.getD y.q true = false) → x ≠ y → B x.d ≠ B y.d

theorem Pend.ge {d n z z' : Nat} {g : Gh} {w : World} {a : Act} (h : Pend d n z g w a) (hz : z' ≤ z) : Pend d n z' g w a := by
  obtain ⟨b, vs, e, h0, r⟩ := h
  exact ⟨b, vs, e, Nat.le_trans hz h0, r⟩

theorem anyC_sound {hint : Nat → Bool} (hc : compileOps X.P N hint ops ops.toList = some al) (ok : OkL L ops al) {Kf : Fr → Heap → Prop} {Q : Exit → Act → World → Prop} {g0 : Gh} {w0 : World} :
    ∀ (fuel : Nat) (listed : Array Bool) {g : Gh} {w : World} {fr : Fr} {H : Heap} {a : Act}, StR X N g w fr H a → ExtM g0 w0 g w → PendL L listed w0.heap.size g w a → AnyA X .any ops (boxedL L al) Kf fuel listed fr H →
    (∀ g' w' fr' H' a', StR X N g' w' fr' H' a' → ExtM g0 w0 g' w' → Kf fr' H' → Q .normal a' w') → wpAnyIn (Fd X.rd) 0 X.P .any ops Q fuel listed a w
  | 0, listed, g, w, fr, H, a, hs, he0, hP, h, hK => ⟨h.1, hK g w fr H a hs he0 h.2⟩
  | fuel + 1, listed, g, w, fr, H, a, hs, he0, hP, h, hK => by
    refine ⟨fun h0 => hK g w fr H a hs he0 (h.1 h0), fun i hi => ?_⟩
    obtain ⟨hun, oi, hoi, hall⟩ := mem_ready.1 hi
    have h1 := h.2 i hi
    unfold qA at h1
    unfold wpOpIn
    have bg : (boxedL L al)[i]? = (al[i]?).map (trA L i) := by simp [boxedL]
    rw [bg] at h1
    rcases compileOps_get hc i with ⟨h2, h3⟩ | ⟨o, ao, h2, h3, h4⟩
    · rw [show ops[i]? = none by simpa using h2] at hoi
      cases hoi
    · rw [show ops[i]? = some o by simpa using h2]
      rw [h3] at h1
      simp only [Option.map_some] at h1
      have hls : i < listed.size := by
        rcases Nat.lt_or_ge i listed.size with h' | h'
        · exact h'
        · rw [Array.getD_eq_getD_getElem?, Array.getElem?_eq_none h'] at hun; cases hun
      have hne : ∀ j, j ≠ i → ∀ b, (listed.setIfInBounds i true).getD j b = listed.getD j b := fun j hj b => by
        simp [Array.getD_eq_getD_getElem?, Array.getElem?_setIfInBounds_ne (Ne.symm hj)]
      have hself : ∀ b, (listed.setIfInBounds i true).getD i b = true := fun b => by
        rw [Array.getD_eq_getD_getElem?, Array.getElem?_setIfInBounds_self_of_lt hls]; rfl
      have hunf : listed.getD i false = false := by
        rw [Array.getD_eq_getD_getElem?] at hun ⊢
        rw [Array.getElem?_eq_getElem hls] at hun ⊢
        simpa using hun
      obtain ⟨B, hP1, hP2⟩ := hP
      by_cases hip : ∃ x ∈ L, x.p = i
      · obtain ⟨x, hx, rfl⟩ := hip
        obtain ⟨cs, v, oq, e1, e2, e3, e4, e5, e6⟩ := ok.at' x hx
        rw [e1] at h3
        cases h3
        have et : trA L x.p ⟨some x.d, .alloc cs, none⟩ = ⟨some x.d, .mov (.c .undef), none⟩ := by
          unfold trA
          rw [ok.find_p hx]
        rw [et] at h1
        obtain ⟨v1, H1, hy, h5⟩ := h1
        have hy : v1 = .undef ∧ H1 = H := by
          unfold Yld DoV at hy
          simp only [callee, aop, AX.eval] at hy
          rcases hy with ⟨hy, rfl⟩ | ⟨hy, _⟩
          · simp only [Option.some.injEq, Prod.mk.injEq] at hy
            exact ⟨hy.2.1.symm, rfl⟩
          · exact absurd hy (by simp [isW, isSt, isApp])
        obtain ⟨rfl, rfl⟩ := hy
        obtain ⟨⟨b, hop⟩, hdst, hdN, hg⟩ := compileOper_spec h4
        rcases hg with ⟨hg1, _⟩ | ⟨_, _, _, _, _, hg2⟩
        · dsimp only
          rw [if_pos (by simp [Region.wanted, hg1])]
          obtain ⟨t, ho, hz⟩ := inv_alloc hop
          obtain ⟨u, w', hrun, hs', he, hpn⟩ := pend_alloc hs (hdN x.d hdst.symm) ho hz
          refine wpIn_run hop hrun ?_
          refine (show wpAnyIn (Fd X.rd) 0 X.P .any ops Q fuel (listed.setIfInBounds x.p true) (a.put o.dst u) w' from ?_)
          rw [← hdst]
          have hb' := hpn
          obtain ⟨b1, vs1, ee1, k0, k1, k2, k3, k4, k5⟩ := hb'
          have hold : ∀ y ∈ L, y ≠ x → (listed.setIfInBounds x.p true).getD y.p false = true → (listed.setIfInBounds x.p true).getD y.q true = false → listed.getD y.p false = true ∧ listed.getD y.q true = false := fun y hy hyx m1 m2 => by
            have t2 := ok.two y hy x hx hyx
            rw [hne y.p t2.1] at m1
            rw [hne y.q t2.2.2.1] at m2
            exact ⟨m1, m2⟩
          have hBlt : ∀ y ∈ L, listed.getD y.p false = true → listed.getD y.q true = false → B y.d < w.heap.size := fun y hy m1 m2 => by
            obtain ⟨q1, b2, vs2, ee2, _, r1, r2, _⟩ := hP1 y hy m1 m2
            rw [q1] at r1
            cases r1
            exact (Array.getElem?_eq_some_iff.1 r2).1
          refine anyC_sound hc ok fuel _ hs' (he0.trans he) ⟨fun d => if d = x.d then b1 else B d, fun y hyL m1 m2 => ?_, fun y hyL y' hyL' m m' hyy => ?_⟩ h5 hK
          · by_cases hyx : y = x
            · subst hyx
              dsimp only
              rw [if_pos rfl, ← e4]
              exact ⟨k1, hpn.ge he0.ext.size⟩
            · have t2 := ok.two y hyL x hx hyx
              obtain ⟨n1, n2⟩ := hold y hyL hyx m1 m2
              obtain ⟨q1, q2⟩ := hP1 y hyL n1 n2
              dsimp only
              rw [if_neg t2.2.2.2.2]
              have hpo : (a.put (some x.d) u).tmps.getD y.d Go.undef = a.tmps.getD y.d Go.undef := put_other (fun e => t2.2.2.2.2 (Option.some.inj e).symm)
              exact ⟨hpo.trans q1, q2.step he.ext hpo⟩
          · by_cases hyx : y = x
            · subst hyx
              have hy'x : y' ≠ y := fun e => hyy e.symm
              have t2 := ok.two y' hyL' y hx hy'x
              dsimp only
              rw [if_pos rfl, if_neg t2.2.2.2.2]
              obtain ⟨n1, n2⟩ := hold y' hyL' hy'x m'.1 m'.2
              have := hBlt y' hyL' n1 n2
              omega
            · have t2 := ok.two y hyL x hx hyx
              dsimp only
              rw [if_neg t2.2.2.2.2]
              obtain ⟨n1, n2⟩ := hold y hyL hyx m.1 m.2
              by_cases hyx' : y' = x
              · subst hyx'
                rw [if_pos rfl]
                have := hBlt y hyL n1 n2
                omega
              · have t2' := ok.two y' hyL' x hx hyx'
                rw [if_neg t2'.2.2.2.2]
                exact hP2 y hyL y' hyL' ⟨n1, n2⟩ (hold y' hyL' hyx' m'.1 m'.2) hyy
        · cases hg2
      · by_cases hiq : ∃ x ∈ L, x.q = i
        · obtain ⟨x, hx, rfl⟩ := hiq
          obtain ⟨cs, v, oq, e1, e2, e3, e4, e5, e, he1, he2, he3⟩ := ok.at' x hx
          rw [e2] at h3
          cases h3
          have et : trA L x.q ⟨none, .st x.n (.t x.d) v, none⟩ = ⟨some x.d, .boxS x.n v, none⟩ := by
            unfold trA
            rw [(ok.find_q hx).1, (ok.find_q hx).2]
          rw [et] at h1
          obtain ⟨v1, H1, hy, h5⟩ := h1
          rw [show ops[x.q]? = some o by simpa using h2] at hoi e3
          cases hoi
          cases e3
          have hlp : listed.getD x.p false = true := by rw [← he3]; exact hall e he1 he2
          obtain ⟨hb0, hpn⟩ := hP1 x hx hlp hun
          obtain ⟨g1, ho1, hS1, hs1, he1'⟩ := pend_adopt2 hs he0 (Nat.le_refl _) hb0 hpn
          have hy : v1 = .ptr H.length 0 ∧ H1 = H ++ [.box (v.eval X.G fr).cells] ∧ (v.eval X.G fr).cells.length = x.n ∧ (v.eval X.G fr).cells.all scalarB = true := by
            unfold Yld DoV at hy
            simp only [callee, aop] at hy
            rcases hy with ⟨hy, _⟩ | ⟨_, _, hy⟩
            · simp at hy
            · simp only [Option.some.injEq, Prod.mk.injEq, Bool.and_eq_true, decide_eq_true_eq] at hy
              exact ⟨hy.2.1.symm, hy.2.2.symm, hy.1.1, hy.1.2⟩
          obtain ⟨rfl, rfl, hy1, hy2⟩ := hy
          have hev : v.eval X.G (fr.updo (some x.d) (.ptr H.length 0)) = v.eval X.G fr := AX.eval_congr fun t ht => by
            simp only [Fr.updo, Fr.upd]
            rw [if_neg (fun e : t = x.d => e5 (e ▸ ht))]
          have hy' : Yld X ⟨none, .st x.n (.t x.d) v, none⟩ (fr.updo (some x.d) (.ptr H.length 0)) (H ++ [.box (List.replicate x.n .undef)]) .undef (H ++ [.box (v.eval X.G fr).cells]) := by
            unfold Yld DoV
            simp only [callee, aop]
            refine .inr ⟨rfl, rfl, ?_⟩
            have e1 : AX.eval X.G (fr.updo (some x.d) (.ptr H.length 0)) (.t x.d) = .ptr H.length 0 := by simp [AX.eval, Fr.updo, Fr.upd]
            rw [e1, hev]
            simp only [List.getElem?_append_right (Nat.le_refl _), Nat.sub_self, List.getElem?_cons_zero, Option.some.injEq, Prod.mk.injEq, Bool.and_eq_true, decide_eq_true_eq, true_and]
            refine ⟨⟨⟨hy1, by simp⟩, hy2⟩, ?_⟩
            have := setCells_all (v.eval X.G fr).cells (List.replicate x.n .undef) [] (by simp [hy1])
            simp only [List.nil_append, List.length_nil] at this
            rw [this, List.set_append_right _ _ (Nat.le_refl _)]
            simp
          have hold : ∀ y ∈ L, (listed.setIfInBounds x.q true).getD y.p false = true → (listed.setIfInBounds x.q true).getD y.q true = false → y ≠ x ∧ listed.getD y.p false = true ∧ listed.getD y.q true = false := fun y hy m1 m2 => by
            have hyx : y ≠ x := fun e => by subst e; rw [hself] at m2; cases m2
            have t2 := ok.two y hy x hx hyx
            rw [hne y.p t2.2.1] at m1
            rw [hne y.q t2.2.2.2.1] at m2
            exact ⟨hyx, m1, m2⟩
          refine yld_sound2 hs1 h4 hy' fun g' w' a' hs' he ha => anyC_sound hc ok fuel _ (fr := fr.updo (some x.d) (.ptr H.length 0)) hs' (he1'.trans he) ⟨B, fun y hy m1 m2 => ?_, fun y hy y' hy' m m' hyy => ?_⟩ h5 hK
          · obtain ⟨hyx, n1, n2⟩ := hold y hy m1 m2
            obtain ⟨q1, b2, vs2, ee2, r0, r1, r2, r3, r4, r5⟩ := hP1 y hy n1 n2
            have hbb : b2 ≠ B x.d := fun e => by
              rw [q1] at r1
              cases r1
              exact hP2 y hy x hx ⟨n1, n2⟩ ⟨hlp, hun⟩ hyx e
            have hp1 : Pend y.d y.n w0.heap.size g1 w a := ⟨b2, vs2, ee2, r0, r1, r2, r3, fun p hp => (ho1 b2 p hp).elim hbb (r4 p), fun p hp => r5 p (hS1 b2 p hp)⟩
            have hat : a'.tmps.getD y.d Go.undef = a.tmps.getD y.d Go.undef := ha y.d (by simp)
            exact ⟨hat.trans q1, hp1.step he.ext hat⟩
          · obtain ⟨_, n1, n2⟩ := hold y hy m.1 m.2
            obtain ⟨_, n1', n2'⟩ := hold y' hy' m'.1 m'.2
            exact hP2 y hy y' hy' ⟨n1, n2⟩ ⟨n1', n2'⟩ hyy
        · have et : trA L i ao = stab ao := by
            unfold trA
            have f1 : L.find? (·.p == i) = none := List.find?_eq_none.2 fun y hy => by
              simp only [beq_iff_eq]
              exact fun e => hip ⟨y, hy, e⟩
            have f2 : L.find? (·.q == i) = none := List.find?_eq_none.2 fun y hy => by
              simp only [beq_iff_eq]
              exact fun e => hiq ⟨y, hy, e⟩
            rw [f1, f2]
          rw [et] at h1
          obtain ⟨v1, H1, hy, h5⟩ := h1
          have hold : ∀ y ∈ L, (listed.setIfInBounds i true).getD y.p false = true → (listed.setIfInBounds i true).getD y.q true = false → listed.getD y.p false = true ∧ listed.getD y.q true = false := fun y hy m1 m2 => by
            rw [hne y.p (fun e => hip ⟨y, hy, e⟩)] at m1
            rw [hne y.q (fun e => hiq ⟨y, hy, e⟩)] at m2
            exact ⟨m1, m2⟩
          refine yld_sound2 hs h4 (yld_unstab hy) fun g' w' a' hs' he ha => anyC_sound hc ok fuel _ hs' (he0.trans he) ⟨B, fun y hy m1 m2 => ?_, fun y hy y' hy' m m' hyy => ?_⟩ h5 hK
          · obtain ⟨n1, n2⟩ := hold y hy m1 m2
            obtain ⟨q1, q2⟩ := hP1 y hy n1 n2
            have hat := ha y.d (ok.dst y hy i ao (fun e => hip ⟨y, hy, e.symm⟩) h3)
            exact ⟨hat.trans q1, q2.step he.ext hat⟩
          · exact hP2 y hy y' hy' (hold y hy m.1 m.2) (hold y' hy' m'.1 m'.2) hyy

/-- A region that draws its order, and makes blocks at any time that later operations fill. -/
theorem ex_region_boxes {id : Nat} {fr : Fr} {hint : Nat → Bool} {Q : Exit → Fr → Heap → Prop} (hm : X.P.follows .mixedOrders = true) (hc : compileOps X.P N hint ops ops.toList = some al) (hok : okL L ops al = true) (hB : lexA ops (boxedL L al) = true) (h : vcOpsQ X (Q .normal) H (boxedL L al) fr) :
    Ex X N (.region id ops true) fr H Q := fun g w a hs => by
  have hlen : (boxedL L al).length = ops.size := by
    have : ∀ {l : List Oper} {al : List AOper}, compileOps X.P N hint ops l = some al → al.length = l.length := by
      intro l
      induction l with
      | nil => intro al h; simp [compileOps] at h; subst h; rfl
      | cons o l ih =>
        intro al h
        simp only [compileOps] at h
        split at h
        · rename_i ao al' h1 h2
          cases h
          simp [ih h2]
        · cases h
    rw [boxedL, List.length_mapIdx, this hc]; simp
  refine wpIn_region_any hm ?_
  have h1 := anyA_lex (X := X) (ops := ops) (al := boxedL L al) (md := .any) (boxedL L al) 0 (Array.replicate ops.size false) fr H (fun j => by rw [Nat.zero_add]) (by rw [hlen]; exact hB) h
  rw [hlen] at h1
  refine anyC_sound hc (okL_spec hok) _ _ hs.drew (g0 := g) (w0 := w) ⟨Ext.drew, fun _ _ h => ⟨h, rfl⟩, fun _ _ h => h, fun _ n h => ⟨n, h, .inl ⟨rfl, rfl⟩⟩⟩ ⟨fun _ => 0, fun x hx k1 _ => ?_, fun x hx y hy k1 => ?_⟩ h1 fun g' w' fr' H' a' hs' he hk => ⟨g', fr', H', hs', he, hk⟩
  · rw [Array.getD_eq_getD_getElem?, Array.getElem?_replicate] at k1
    split at k1 <;> cases k1
  · have k1 := k1.1
    rw [Array.getD_eq_getD_getElem?, Array.getElem?_replicate] at k1
    split at k1 <;> cases k1
end
def hasGo : ACode → Bool
  | .goto _ => true
  | .seq a b | .cond _ a b | .rangeF _ _ a b => hasGo a || hasGo b
  | .block _ c | .loop c | .scope c | .scopeJ c => hasGo c
  | _ => false
def compile (P : Program) (N : Nat) (hint : Nat → Bool) : Code → Option ACode
  | .skip => some .skip
  | .region _ ops draw => match compileOps P N hint ops ops.toList with
    | some al => if draw && hasStr P al && lexA ops (al.map (strB P)) then some (.region draw (al.map (strB P))) else if draw && hasB hint al && lexA ops (al.map (wrB hint)) then some (.region draw (al.map (wrB hint))) else if !draw || lexA ops al then some (.region draw al) else if lexA ops (al.map (mark (hint 100000))) then some (.region draw (al.map (mark (hint 100000)))) else if lexA ops (al.map stab) then some (.region draw (al.map stab)) else
      match boxL ops al with
      | some al' => if lexA ops al' then some (.region draw al') else some .bad
      | none => if okL (pairsL ops al) ops al && lexA ops (boxedL (pairsL ops al) al) then some (.region draw (boxedL (pairsL ops al) al)) else some .bad
    | none => some .bad
  | .seq a b => match compile P N hint a, compile P N hint b with
    | some a, some b => some (.seq a b)
    | _, _ => none
  | .cond c a b => match cx c, compile P N hint a, compile P N hint b with
    | some c, some a, some b => some (.cond c a b)
    | _, _, _ => none
  | .block id c => (compile P N hint c).map (.block id)
  | .loop c => (compile P N hint c).map .loop
  | .exit id => some (.exit id)
  | .ret => some .ret
  | .rangeFunc g ps a b => match cx g, compile P N hint a, compile P N hint b with
    | some g, some a, some b => if ps.toList.all fun t => decide (t < N) then some (.rangeF g ps.toList a b) else none
    | _, _, _ => none
  | .scope c => match compile P N hint c with
    | some a => if hasGo a then some (.scopeJ a) else some (.scope a)
    | none => none
  | .label l => some (.label l)
  | .goto l => some (.goto l)
  | .refuse _ => some .bad

end Go.Avm
