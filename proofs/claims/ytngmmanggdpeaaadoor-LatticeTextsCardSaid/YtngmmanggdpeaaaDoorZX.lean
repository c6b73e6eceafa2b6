/- The builder's methods of the library, at this seat's numbers. -/
import Derived.Test.YtngmmanggdpeaaaDoorProg
import Derived.Shelf.Strings.Builder1
set_option linter.unusedSectionVars false
set_option linter.unusedSimpArgs false
set_option linter.unusedVariables false

/- The builder's methods of the library, at this seat's numbers. -/
namespace Go.Avm
open Go Go.Proofs Go.Shelf
def bRen : Ren where
  f := fun x => match x with | 166 => 62 | 167 => 63 | 169 => 64 | 240 => 73 | 276 => 83 | n => n
  t := fun x => match x with | 70 => 81 | 72 => 83 | 37 => 23 | 127 => 98 | 164 => 104 | 75 => 85 | 80 => 89 | n => n
  g := fun x => x
theorem bLays240 : Lays.n240 Go.Proofs.Tryd.prog bRen := by
  constructor <;> first | kernel_rfl | (intro w; kernel_rfl)
theorem bLays166 : Lays.n166 Go.Proofs.Tryd.prog bRen := by
  constructor <;> first | kernel_rfl | (intro w; kernel_rfl)
theorem bLays167 : Lays.n167 Go.Proofs.Tryd.prog bRen := by
  constructor <;> first | kernel_rfl | (intro w; kernel_rfl)
theorem bLays169 : Lays.n169 Go.Proofs.Tryd.prog bRen := by
  constructor <;> first | kernel_rfl | (intro w; kernel_rfl)
theorem bExtra : Builder.Extra Go.Proofs.Tryd.prog bRen where
  sizeBuilder := by kernel_rfl
  liesBuilder := by kernel_rfl
  t5 := by kernel_rfl
  a5 := by intro w; kernel_rfl
  z5 := by intro w; kernel_rfl
  v5 := by intro w; kernel_rfl
  infoByte := by kernel_rfl
  cellsByte := by kernel_rfl
  sizeByte := by kernel_rfl
  neB5 := by decide
end Go.Avm
