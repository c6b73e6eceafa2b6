/- The context in which readers and runes are proved. -/
import Derived.Test.YtcldomkahgaplaaGreatDoorAP
import Derived.Test.YtcldomkahgaplaaGreatDoorAI
set_option linter.all false
namespace Go.Avm
open Go Go.ChangeShapes Go.WideShapes Go.ChangeAt Go.WideElems Go.RowKit Go.Lib
theorem zBi {P:Program}{W:World}{n:String}{g t:Nat}{k:IntKind}{fs:Array Field}{zs:List Int}(h:VarReads P W n (.agg (zs.map fun z=>.lit (.int k z))))(hg:P.globalNamed n=some g)(hy:(P.globals[g]?).map (·.type)=some t)(ht:P.underlying t=some (.struct fs))
  (hf:∀(i:Nat) (f:Field),fs[i]?=some f->P.underlying f.type=some (.int k)/\f.offset=i/\P.cellsOf f.type=1) (hct:P.cellsOf t=fs.size):zeV W g (zs.map (AV.int k)):=by
 obtain ⟨g',t',cs,fuel,p,hg',hty,hvar,hd⟩:=h
 obtain rfl:=Option.some.inj (hg.symm.trans hg')
 obtain rfl:=Option.some.inj (hy.symm.trans hty)
 have hcs:=ints_of_struct ht hf hct hd
 exact zox hg hvar (by rw[hcs];exact zhR k zs)
end Go.Avm
namespace Go.Proofs.YtcldomkahgaplaaGreatDoor
open Go Go.Avm Go.ChangeShapes Go.WideShapes Go.ChangeAt Go.WideMaps Go.WideElems Go.RowKit Go.Lib
def zt9:List Int:=(List.range 256).map fun i:Nat=>(Lib.firstT i:Int)
theorem zyD:(Rows.laid_unicode_utf8_first:DataW Unit)=tabData .u8 zt9:=by kernel_rfl
def accR:List (List Int):=(List.range 16).map fun i=>[(Lib.accLo i:Int),(Lib.accHi i:Int)]
theorem zFS:(Rows.laid_unicode_utf8_acceptRanges:DataW Unit)=.agg (accR.map fun zs=>.agg (zs.map fun z=>.lit (.int .u8 z))):=by kernel_rfl
theorem zAx:(Rows.laid_invigilator_lexer_none:DataW Unit)=.agg (([0,0]:List Int).map fun z=>.lit (.int .i64 z)):=by kernel_rfl
theorem zHN:(Rows.laid_math_bits_deBruijn64tab:DataW Unit)=tabData .u8 db64:=by kernel_rfl
theorem zBF:zt9.map (AV.int .u8)=tab0:=by
 simp only[tab0,zt9,List.map_map];rfl
theorem zAz:accR.flatten.map (AV.int .u8)=tab1:=by kernel_rfl
theorem zG3:Tryz.prog.globalNamed "invigilator/lexer.none" = some 2:=by kernel_rfl
theorem zHT:(Tryz.prog.globals[2]?).map (·.type)=some 159:=by kernel_rfl
theorem zEh:Tryz.prog.globalNamed "unicode/utf8.first" = some 0:=by kernel_rfl
theorem zEu:(Tryz.prog.globals[0]?).map (·.type)=some 184:=by kernel_rfl
theorem gAcc:Tryz.prog.globalNamed "unicode/utf8.acceptRanges" = some 1:=by kernel_rfl
theorem yAcc:(Tryz.prog.globals[1]?).map (·.type)=some 187:=by kernel_rfl
theorem gSyn:Tryz.prog.globalNamed "strconv.ErrSyntax" = some 5:=by kernel_rfl
theorem ySyn:(Tryz.prog.globals[5]?).map (·.type)=some 63:=by kernel_rfl
theorem gDb:Tryz.prog.globalNamed "math/bits.deBruijn64tab" = some 8:=by kernel_rfl
theorem yDb:(Tryz.prog.globals[8]?).map (·.type)=some 244:=by kernel_rfl
theorem zF7 {W:World}(h:laidMet Tryz.prog zvs W):∃X:Cx,X.P=Tryz.prog/\Std X/\CEnv X/\∀x cs,X.G x=some cs->zeV W x cs:=by
 have v1:VarReads Tryz.prog W "math/bits.deBruijn64tab" (tabData .u8 db64):=zHN▸laidMet.reads h (.tail _ (.head _))
 have v2:VarReads Tryz.prog W "internal/strconv.uint64pow10" (tabData .u64 Lib.pow10Tab):=zEt▸laidMet.reads h (.tail _ (.tail _ (.head _)))
 have v3:VarReads Tryz.prog W "unicode/utf8.acceptRanges" (.agg (accR.map fun zs=>.agg (zs.map fun z=>.lit (.int .u8 z)))):=zFS▸laidMet.reads h (.tail _ (.tail _ (.tail _ (.head _))))
 have v4:VarReads Tryz.prog W "strconv.ErrRange" Rows.laid_strconv_ErrRange:=laidMet.reads h (.tail _ (.tail _ (.tail _ (.tail _ (.head _)))))
 have v5:VarReads Tryz.prog W "strconv.ErrSyntax" Rows.laid_strconv_ErrSyntax:=laidMet.reads h (.tail _ (.tail _ (.tail _ (.tail _ (.tail _ (.head _))))))
 have v6:VarReads Tryz.prog W "invigilator/lexer.none" (.agg (([0,0]:List Int).map fun z=>.lit (.int .i64 z))):=zAx▸laidMet.reads h (.tail _ (.tail _ (.tail _ (.tail _ (.tail _ (.tail _ (.head _)))))))
 have v7:VarReads Tryz.prog W "unicode/utf8.first" (tabData .u8 zt9):=zyD▸laidMet.reads h (.tail _ (.tail _ (.tail _ (.tail _ (.tail _ (.tail _ (.tail _ (.head _))))))))
 have h2:zeV W 2 [.int .i64 0,.int .i64 0]:=zBi (zs:=[0,0]) v6 zG3 zHT Tryz.underlying159 (fun j f hj=>by
  match j,hj with
  | 0,hj=>simp at hj;subst hj;exact ⟨Tryz.underlying3,rfl,by kernel_rfl⟩
  | 1,hj=>simp at hj;subst hj;exact ⟨Tryz.underlying33,rfl,by kernel_rfl⟩
  | j+2,hj=>simp at hj) (by kernel_rfl)
 have h0:zeV W 0 tab0:=zBF▸zpC v7 zEh zEu Tryz.underlying184 Tryz.underlying5 (by kernel_rfl) (by kernel_rfl)
 have h1:zeV W 1 tab1:=zAz▸zvA (rows:=accR) v3 gAcc yAcc Tryz.underlying187 Tryz.underlying186 (fun j f hj=>by
  match j,hj with
  | 0,hj=>simp at hj;subst hj;exact ⟨Tryz.underlying5,rfl,by kernel_rfl⟩
  | 1,hj=>simp at hj;subst hj;exact ⟨Tryz.underlying5,rfl,by kernel_rfl⟩
  | j+2,hj=>simp at hj) (by kernel_rfl) (by kernel_rfl) rfl
 have h4:zeV W 4 tabQ:=zpC v2 gPow yPow Tryz.underlying217 Tryz.underlying146 (by kernel_rfl) (by kernel_rfl)
 obtain ⟨te,h5⟩:=zne v5 gSyn ySyn Tryz.underlying63
 obtain ⟨te',h6⟩:=zne v4 gRng yRng Tryz.underlying63
 have h8:zeV W 8 tabB:=zpC v1 gDb yDb Tryz.underlying244 Tryz.underlying5 (by kernel_rfl) (by kernel_rfl)
 obtain ⟨X,hX,hs,hG,hl⟩:=zH2 Tryz.prog (by kernel_rfl) [(0,tab0),(1,tab1),(2,[.int .i64 0,.int .i64 0]),(4,tabQ),(5,[.ifc te .undef]),(6,[.ifc te' .undef]),(8,tabB)] (by
  intro p hp
  simp only[List.mem_cons,List.not_mem_nil,or_false]at hp
  rcases hp with rfl|rfl|rfl|rfl|rfl|rfl|rfl
  ·exact h0
  ·exact h1
  ·exact h2
  ·exact h4
  ·exact h5
  ·exact h6
  ·exact h8)
 exact ⟨X,hX,hs,⟨by rw[hG];rfl,by rw[hG];rfl,by rw[hG];rfl,by rw[hG];rfl,⟨te,by rw[hG];rfl⟩,⟨te',by rw[hG];rfl⟩,by rw[hG];rfl⟩,hl⟩
end Go.Proofs.YtcldomkahgaplaaGreatDoor
