/- A library function that hands out a new row of strings. -/
import Derived.Test.YtcldomkahgaplaaGreatDoorA8
import Derived.Laws.AppendOwn
import Derived.Shelf.Lays
set_option linter.all false
namespace Go.Avm
open Go Go.Shelf Go.RowKit
theorem zlQ {g:Gh}{w:World}(xs:List ByteArray):RelL (xs.map fun s=>AV.str s.data.toList) g w (xs.map Value.string):=by
 induction xs with
 | nil=>simp [RelL]
 | cons x r ih =>
  simp only[List.map_cons,RelL,Rel]
  exact ⟨_,_,rfl,⟨x,rfl,rfl⟩,ih⟩
section
variable {X:Cx}
theorem zFi {f:FuncId}{args:List AV}{xs:List ByteArray}(hb:zb7 X f)(hl:xs.length<=9223372036854775807)
  (h:∀g w vs,Wf X.G g w->RelL args g w vs->Calls X.P f vs.toArray w fun e w'=>∃A T,e=.returned (.slice (some ⟨A,0,none⟩) xs.length xs.length)/\w.heap.size<=A /\
   w'.ownsRow w.heap.size T 1 (.slice (some ⟨A,0,none⟩) xs.length xs.length) xs.length (xs.map Value.string)/\RowKit.Below w.heap.size w w') :
  Ev X f args (lst AV.str .ro (xs.map fun s=>s.data.toList)):=
 ⟨hb, fun g w vs h1 h2 h3=>(h g w vs h1 h3).mono fun e w' ⟨A,T,k1,k2,k3,k4⟩=>by
  obtain ⟨hw,hx⟩:=zti h1 k4
  obtain ⟨_,k3⟩:=k3
  rcases k3 with ⟨k3,_⟩|⟨g0,cap,cur,k3,_,k5,_,_,k6,k7⟩
  ·cases k3
  ·cases k3
   have hcur:cur.toList=xs.map Value.string:=by
    rw[<-k7,List.take_of_length_le (by simp [k6])]
   have hsz:cur.size=xs.length:=by rw[k6,Nat.mul_one]
   let g2:Gh:={ g with S:=fun b o=>g.S b o∨(b=A/\o<cur.size) }
   have hm:Mono g w' g2 w':=⟨fun b o h=>⟨.inl h,rfl⟩,fun _ _ h=>h,fun i n h=>⟨n,h,.inl ⟨rfl,rfl⟩⟩⟩
   have hno:∀o,¬g.owns A o:=fun o ho=>by
    rcases ho with ⟨i,hi⟩|⟨i,lo,hi,h4,_⟩
    ·have:=(h1.bx i A hi).1
     omega
    ·obtain ⟨vs,e,fl,fh,h5,_⟩:=h1.tk i A lo hi h4
     have:=(Array.getElem?_eq_some_iff.1 h5).1
     omega
   have hwf2:Wf X.G g2 w':=by
    refine ⟨fun b o h=>?_,hw.inj,hw.tinj,hw.apart,hw.bx,hw.tk,fun x cs hx=>Rel.mono _ hm (hw.laid x cs hx),hw.ex⟩
    rcases h with h|⟨rfl,h⟩
    ·exact hw.S b o h
    ·exact ⟨⟨cur,T,(0,0),k5,h⟩,hno o⟩
   refine ⟨_,lst AV.str .ro (xs.map fun s=>s.data.toList),g2,[],k1,?_,hwf2,⟨fun i x hx=>by simp at hx,h2.far⟩,?_,rfl,rfl⟩
   ·simp only[lst,Rel,List.length_map]
    refine ⟨_,_,xs.map Value.string,1,rfl,Nat.le_refl _,?_,.inr ⟨A,0,rfl,fun i x hx=>?_⟩,?_⟩
    ·rw[List.map_map];exact zlQ xs
    ·have hxs:∃s,x=Value.string s:=by
      rw[List.getElem?_map]at hx
      cases e:xs[i]? with
      | none=>rw[e]at hx;cases hx
      | some s=>rw[e]at hx;cases hx;exact ⟨s,rfl⟩
     obtain ⟨s,rfl⟩:=hxs
     have hi:i<cur.size:=by
      have:=(List.getElem?_eq_some_iff.1 hx).1
      rw[List.length_map]at this
      omega
     refine ⟨rfl,fun j c hc=>?_⟩
     have hj:j=0/\c=Value.string s:=by
      cases j with
      | zero=>simp [Value.cells]at hc;exact ⟨rfl,hc.symm⟩
      | succ j=>simp [Value.cells]at hc
     obtain ⟨rfl,rfl⟩:=hj
     refine ⟨.inr ⟨rfl,by omega⟩,?_⟩
     have:cur[i]?=some (Value.string s):=by rw[<-Array.getElem?_toList,hcur];exact hx
     simp [World.cell?,k5,this]
    ·trivial
   ·refine ⟨hx.ext.size,fun b o h=>.inl h,fun b o h=>?_,hx.ext.cell,hx.ext.obj,hx.ext.shape,hx.ext.own,hx.ext.io⟩
    rcases h with h|⟨rfl,_⟩
    ·exact .inl h
    ·exact .inr (.inl k2)⟩
end
end Go.Avm
