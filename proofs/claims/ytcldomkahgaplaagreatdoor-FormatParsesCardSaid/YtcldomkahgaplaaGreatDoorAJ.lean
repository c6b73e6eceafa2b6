/- Texts of arrays and arrays of texts, plain. -/
import Derived.Test.YtcldomkahgaplaaGreatDoorAI
import Derived.Test.YtcldomkahgaplaaGreatDoorAF7
import Derived.Test.YtcldomkahgaplaaGreatDoorM1
import Derived.Test.YtcldomkahgaplaaGreatDoorM2
set_option linter.all false
namespace Go.Avm
open Go Go.Fm Go.Rn Go.Lx
set_option maxRecDepth 10000
theorem zFg {l:List Int}(h:∀r∈l,valid r=true)(hl:l.length<=20):lnC (qt (byB l))=l:=by
 have hb:=zsE l h hl
 have hok:=zqU l
 have hle:=zkW l
 have hql:=zzP (byB l)
 have ht:=zrR hok []
 rw[List.append_nil]at ht
 obtain ⟨w,hw⟩:∃w,qt (byB l)=34::w:=⟨_,rfl⟩
 have hL:Lx 0 (qt (byB l)) [(⟨3,0,byB l⟩,0,0+(qt (byB l)).length)]:=by
  rw[hw]at ht⊢
  refine .tok (by decide) ht ?_
  rw[List.drop_length]
  exact .nil _
 have e:=zty (by omega) hL
 unfold lnC
 rw[e,if_pos ⟨rfl,rfl⟩]
 show rnsL (byB l)=l
 have hst:stop (byB l)=(byB l).length:=of_decide_eq_true hok
 have hck:ckE (byB l)=0:=by
  unfold ckE zwk
  rw[if_neg (by omega),if_neg (by omega)]
 unfold rnsL
 rw[if_pos hck,hb]
 exact znE l h
theorem ztz {l:List Int}(h:∀r∈l,valid r=true)(hl:l.length<=20):cellC (qt (byB l)) l.length=(l,true):=by
 unfold cellC
 rw[zFg h hl]
 simp
end Go.Avm
