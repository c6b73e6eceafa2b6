/- The functions as they have been read. -/
import Derived.Test.YtebnoigmepfdcaaDoorAG1
import Derived.Test.YtebnoigmepfdcaaDoorProg
set_option linter.unusedSectionVars false
set_option linter.unusedSimpArgs false
set_option linter.unusedVariables false

/- The functions as they have been read. -/
namespace Go.Avm
open Go
/- labels_Show -/
def A_labels_ShowL0 : ACode :=
  .seq (.region false [⟨(some 26), .bin .lss (.t 25) (.t 24), none⟩])
  (.seq (.cond (.t 26)
   (.skip)
   (.exit 0))
  (.seq (.block 1 (.seq (.region false [⟨(some 27), .idxA 1 (.t 23) (.t 25), none⟩,
    ⟨(some 28), .ld none (.t 27), none⟩,
    ⟨(some 10), .mov (.t 28), none⟩])
  (.region false [⟨(some 29), .mov (.t 8), none⟩,
    ⟨(some 30), .fldA 0 (.t 2), none⟩,
    ⟨(some 31), .ld none (.t 30), none⟩,
    ⟨(some 32), .mov (.t 10), none⟩,
    ⟨(some 33), .idxA 1 (.t 31) (.t 32), none⟩,
    ⟨(some 34), .ld none (.t 33), none⟩,
    ⟨(some 35), .bsl 1 (.str []) 1 [(0, (.t 34))], none⟩,
    ⟨(some 36), .app 1 16 (.t 29) (.t 35), none⟩,
    ⟨(some 8), .mov (.t 36), none⟩])))
  (.region false [⟨(some 37), .bin .add (.t 25) (.c (.int .i64 1)), none⟩,
    ⟨(some 25), .mov (.t 37), none⟩])))
def A_labels_Show : AFun := ⟨40,
  .seq (.region false [⟨(some 2), .box (.t 0), none⟩,
    ⟨(some 4), .mov (.c (.str [])), none⟩,
    ⟨(some 5), .mov (.c (.int .i64 0)), none⟩])
  (.seq (.seq (.region false [⟨(some 12), .ld (some 2) (.t 2), none⟩,
    ⟨(some 13), .mov (.t 1), none⟩,
    ⟨(some 14), .call F_labels_Check [(.t 12), (.t 13)], none⟩,
    ⟨(some 11), .mov (.t 14), none⟩,
    ⟨(some 15), .extr (.t 11) 0, none⟩,
    ⟨(some 16), .extr (.t 11) 1, none⟩,
    ⟨(some 6), .mov (.t 15), none⟩,
    ⟨(some 7), .mov (.t 16), none⟩])
  (.seq (.region false [⟨(some 17), .mov (.t 7), none⟩,
    ⟨(some 18), .bin .neq (.t 17) (.c (.int .i64 0)), none⟩])
  (.cond (.t 18)
   (.seq (.region false [⟨(some 19), .mov (.t 7), none⟩,
     ⟨(some 4), .mov (.c (.str [])), none⟩,
     ⟨(some 5), .mov (.t 19), none⟩])
   (.ret))
   (.skip))))
  (.seq (.seq (.region false [⟨(some 20), .mov (.t 1), none⟩,
    ⟨(some 21), .len (.t 20), none⟩,
    ⟨(some 22), .bin .eql (.t 21) (.c (.int .i64 0)), none⟩])
  (.cond (.t 22)
   (.seq (.region false [⟨(some 4), .mov (.c (.str [45])), none⟩,
     ⟨(some 5), .mov (.c (.int .i64 0)), none⟩])
   (.ret))
   (.skip)))
  (.seq (.region false [⟨(some 8), .mov (.c (.sl .ex [])), none⟩])
  (.seq (.seq (.region false [⟨(some 23), .mov (.t 1), none⟩,
    ⟨(some 24), .len (.t 23), none⟩,
    ⟨(some 25), .mov (.c (.int .i64 0)), none⟩])
  (.block 0 (.loop A_labels_ShowL0)))
  (.seq (.region false [⟨(some 38), .mov (.t 8), none⟩,
    ⟨(some 39), .call F_strings_Join [(.t 38), (.c (.str [44]))], none⟩,
    ⟨(some 4), .mov (.t 39), none⟩,
    ⟨(some 5), .mov (.c (.int .i64 0)), none⟩])
  (.ret)))))),
  [.tmp 4, .tmp 5]⟩

/- labels_Check -/
def A_labels_CheckL0 : ACode :=
  .seq (.region false [⟨(some 24), .bin .lss (.t 23) (.t 22), none⟩])
  (.seq (.cond (.t 24)
   (.skip)
   (.exit 0))
  (.seq (.block 1 (.seq (.region false [⟨(some 25), .mov (.t 23), none⟩,
    ⟨(some 26), .idxA 1 (.t 21) (.t 23), none⟩,
    ⟨(some 27), .ld none (.t 26), none⟩,
    ⟨(some 8), .mov (.t 25), none⟩,
    ⟨(some 9), .mov (.t 27), none⟩])
  (.seq (.region false [⟨(some 28), .mov (.t 9), none⟩,
    ⟨(some 29), .bin .lss (.t 28) (.c (.int .i64 0)), none⟩,
    ⟨(some 30), .mov (.t 29), none⟩,
    ⟨(some 31), .mov (.t 9), some (30, false)⟩,
    ⟨(some 32), .fldA 0 (.t 2), some (30, false)⟩,
    ⟨(some 33), .ld none (.t 32), some (30, false)⟩,
    ⟨(some 34), .len (.t 33), some (30, false)⟩,
    ⟨(some 35), .bin .geq (.t 31) (.t 34), some (30, false)⟩,
    ⟨(some 36), .pick (.t 30) (.c (.bool true)) (.t 35), none⟩])
  (.cond (.t 36)
   (.seq (.region false [⟨(some 37), .mov (.t 8), none⟩,
     ⟨(some 4), .mov (.t 37), none⟩,
     ⟨(some 5), .mov (.c (.int .i64 7)), none⟩])
   (.ret))
   (.skip)))))
  (.region false [⟨(some 38), .bin .add (.t 23) (.c (.int .i64 1)), none⟩,
    ⟨(some 23), .mov (.t 38), none⟩])))
def A_labels_Check : AFun := ⟨39,
  .seq (.region false [⟨(some 2), .box (.t 0), none⟩,
    ⟨(some 4), .mov (.c (.int .i64 0)), none⟩,
    ⟨(some 5), .mov (.c (.int .i64 0)), none⟩])
  (.seq (.seq (.region false [⟨(some 11), .ld (some 2) (.t 2), none⟩,
    ⟨(some 12), .call F_lattice_Check [(.t 11)], none⟩,
    ⟨(some 10), .mov (.t 12), none⟩,
    ⟨(some 13), .extr (.t 10) 0, none⟩,
    ⟨(some 14), .extr (.t 10) 1, none⟩,
    ⟨(some 6), .mov (.t 13), none⟩,
    ⟨(some 7), .mov (.t 14), none⟩])
  (.seq (.region false [⟨(some 15), .mov (.t 7), none⟩,
    ⟨(some 16), .bin .neq (.t 15) (.c (.int .i64 0)), none⟩])
  (.cond (.t 16)
   (.seq (.region false [⟨(some 17), .mov (.t 7), none⟩,
     ⟨(some 4), .mov (.c (.int .i64 (-1))), none⟩,
     ⟨(some 5), .mov (.t 17), none⟩])
   (.ret))
   (.skip))))
  (.seq (.seq (.region false [⟨(some 18), .mov (.t 1), none⟩,
    ⟨(some 19), .len (.t 18), none⟩,
    ⟨(some 20), .bin .gtr (.t 19) (.c (.int .i64 64)), none⟩])
  (.cond (.t 20)
   (.seq (.region false [⟨(some 4), .mov (.c (.int .i64 (-1))), none⟩,
     ⟨(some 5), .mov (.c (.int .i64 3)), none⟩])
   (.ret))
   (.skip)))
  (.seq (.seq (.region false [⟨(some 21), .mov (.t 1), none⟩,
    ⟨(some 22), .len (.t 21), none⟩,
    ⟨(some 23), .mov (.c (.int .i64 0)), none⟩])
  (.block 0 (.loop A_labels_CheckL0)))
  (.seq (.region false [⟨(some 4), .mov (.c (.int .i64 0)), none⟩,
    ⟨(some 5), .mov (.c (.int .i64 0)), none⟩])
  (.ret))))),
  [.tmp 4, .tmp 5]⟩

/- labels_sorted -/
def A_labels_sortedL1 : ACode :=
  .seq (.region false [⟨(some 29), .bin .lss (.t 28) (.t 27), none⟩])
  (.seq (.cond (.t 29)
   (.skip)
   (.exit 2))
  (.seq (.block 3 (.seq (.region false [⟨(some 30), .mov (.t 28), none⟩,
    ⟨(some 7), .mov (.t 30), none⟩])
  (.seq (.region false [⟨(some 31), .mov (.t 0), none⟩,
    ⟨(some 32), .mov (.t 7), none⟩,
    ⟨(some 33), .mov (.t 6), none⟩,
    ⟨(some 34), .call F_labels_order_below [(.t 31), (.t 32), (.t 33)], none⟩])
  (.cond (.t 34)
   (.region false [⟨(some 35), .ld none (.t 5), none⟩,
     ⟨(some 36), .mov (.t 6), none⟩,
     ⟨(some 37), .idxA 1 (.t 35) (.t 36), none⟩,
     ⟨(some 38), .ld none (.t 37), none⟩,
     ⟨(some 39), .bin .add (.t 38) (.c (.int .i64 1)), none⟩,
     ⟨(some 40), .idxA 1 (.t 35) (.t 36), none⟩,
     ⟨none, .st 1 (.t 40) (.t 39), none⟩])
   (.skip)))))
  (.region false [⟨(some 41), .bin .add (.t 28) (.c (.int .i64 1)), none⟩,
    ⟨(some 28), .mov (.t 41), none⟩])))
def A_labels_sortedL0 : ACode :=
  .seq (.region false [⟨(some 21), .bin .lss (.t 20) (.t 19), none⟩])
  (.seq (.cond (.t 21)
   (.skip)
   (.exit 0))
  (.seq (.block 1 (.seq (.region false [⟨(some 22), .mov (.t 20), none⟩,
    ⟨(some 6), .mov (.t 22), none⟩])
  (.seq (.region false [⟨(some 23), .mov (.t 0), none⟩,
    ⟨(some 24), .nck (.t 23), none⟩,
    ⟨(some 25), .fldA 0 (.t 24), none⟩,
    ⟨(some 26), .ld none (.t 25), none⟩,
    ⟨(some 27), .len (.t 26), none⟩,
    ⟨(some 28), .mov (.c (.int .i64 0)), none⟩])
  (.block 2 (.loop A_labels_sortedL1)))))
  (.region false [⟨(some 42), .bin .add (.t 20) (.c (.int .i64 1)), none⟩,
    ⟨(some 20), .mov (.t 42), none⟩])))
def A_labels_sorted : AFun := ⟨50,
  .seq (.region false [⟨(some 4), .mov (.c (.sl .ex [])), none⟩])
  (.seq (.region false [⟨(some 9), .mov (.t 0), none⟩,
    ⟨(some 10), .nck (.t 9), none⟩,
    ⟨(some 11), .fldA 0 (.t 10), none⟩,
    ⟨(some 12), .ld none (.t 11), none⟩,
    ⟨(some 13), .len (.t 12), none⟩,
    ⟨(some 14), .mkR 1 8 [.int .i64 0] (.t 13) (.t 13), none⟩,
    ⟨(some 5), .alloc [.sl .ex []], none⟩,
    ⟨none, .st 1 (.t 5) (.t 14), none⟩])
  (.seq (.seq (.region false [⟨(some 15), .mov (.t 0), none⟩,
    ⟨(some 16), .nck (.t 15), none⟩,
    ⟨(some 17), .fldA 0 (.t 16), none⟩,
    ⟨(some 18), .ld none (.t 17), none⟩,
    ⟨(some 19), .len (.t 18), none⟩,
    ⟨(some 20), .mov (.c (.int .i64 0)), none⟩])
  (.block 0 (.loop A_labels_sortedL0)))
  (.seq (.region false [⟨(some 43), .mov (.t 1), none⟩,
    ⟨(some 44), .call F_slices_Clone_int_int [(.t 43)], none⟩,
    ⟨(some 8), .mov (.t 44), none⟩])
  (.seq (.region false [⟨(some 45), .mov (.t 8), none⟩,
    ⟨(some 46), .mkf F_labels_sorted_1 [] [(.t 5)], none⟩,
    ⟨(some 47), .call F_slices_SortFunc_int_int [(.t 45), (.t 46)], none⟩])
  (.seq (.region false [⟨(some 48), .mov (.t 8), none⟩,
    ⟨(some 49), .call F_slices_Compact_int_int [(.t 48)], none⟩,
    ⟨(some 4), .mov (.t 49), none⟩])
  (.ret)))))),
  [.tmp 4]⟩

/- labels_order_below -/
def A_labels_order_below : AFun := ⟨18,
  .seq (.region false [⟨(some 6), .mov (.c (.bool false)), none⟩])
  (.seq (.region false [⟨(some 7), .mov (.t 0), none⟩,
    ⟨(some 8), .nck (.t 7), none⟩,
    ⟨(some 9), .fldA 1 (.t 8), none⟩,
    ⟨(some 10), .ld none (.t 9), none⟩,
    ⟨(some 11), .mov (.t 1), none⟩,
    ⟨(some 12), .idxA 1 (.t 10) (.t 11), none⟩,
    ⟨(some 13), .ld none (.t 12), none⟩,
    ⟨(some 14), .mov (.t 2), none⟩,
    ⟨(some 15), .bin .shr (.t 13) (.t 14), none⟩,
    ⟨(some 16), .bin .and (.t 15) (.c (.int .u8 1)), none⟩,
    ⟨(some 17), .bin .eql (.t 16) (.c (.int .u8 1)), none⟩,
    ⟨(some 6), .mov (.t 17), none⟩])
  (.ret)),
  [.tmp 6]⟩

/- slices_ContainsFunc_int_int -/
def A_slices_ContainsFunc_int_int : AFun := ⟨9,
  .seq (.region false [⟨(some 4), .mov (.c (.bool false)), none⟩])
  (.seq (.region false [⟨(some 5), .mov (.t 0), none⟩,
    ⟨(some 6), .mov (.t 1), none⟩,
    ⟨(some 7), .call F_slices_IndexFunc_int_int [(.t 5), (.t 6)], none⟩,
    ⟨(some 8), .bin .geq (.t 7) (.c (.int .i64 0)), none⟩,
    ⟨(some 4), .mov (.t 8), none⟩])
  (.ret)),
  [.tmp 4]⟩

/- labels_Least_1 -/
def A_labels_Least_1 : AFun := ⟨8,
  .seq (.region false [⟨(some 4), .mov (.c (.bool false)), none⟩])
  (.seq (.region false [⟨(some 5), .mov (.t 0), none⟩,
    ⟨(some 6), .ld none (.t 2), none⟩,
    ⟨(some 7), .call F_labels_order_below [(.t 1), (.t 5), (.t 6)], none⟩,
    ⟨(some 4), .mov (.t 7), none⟩])
  (.ret)),
  [.tmp 4]⟩

/- labels_beyond -/
def A_labels_beyondL0 : ACode :=
  .seq (.region false [⟨(some 28), .bin .lss (.t 27) (.t 26), none⟩])
  (.seq (.cond (.t 28)
   (.skip)
   (.exit 0))
  (.seq (.block 1 (.seq (.region false [⟨(some 29), .mov (.t 27), none⟩,
    ⟨(some 12), .mov (.t 29), none⟩])
  (.seq (.region false [⟨(some 30), .mov (.t 2), none⟩,
    ⟨(some 31), .mov (.t 12), none⟩,
    ⟨(some 32), .callv (.t 30) [(.t 10), (.t 31)], none⟩])
  (.cond (.t 32)
   (.region false [⟨(some 33), .mov (.t 11), none⟩,
     ⟨(some 34), .mov (.t 12), none⟩,
     ⟨(some 35), .bsl 1 (.int .i64 0) 1 [(0, (.t 34))], none⟩,
     ⟨(some 36), .app 1 8 (.t 33) (.t 35), none⟩,
     ⟨(some 11), .mov (.t 36), none⟩])
   (.skip)))))
  (.region false [⟨(some 37), .bin .add (.t 27) (.c (.int .i64 1)), none⟩,
    ⟨(some 27), .mov (.t 37), none⟩])))
def A_labels_beyond : AFun := ⟨40,
  .seq (.region false [⟨(some 3), .box (.t 0), none⟩,
    ⟨(some 6), .mov (.c (.sl .ex [])), none⟩,
    ⟨(some 7), .mov (.c (.int .i64 0)), none⟩])
  (.seq (.seq (.region false [⟨(some 14), .ld (some 2) (.t 3), none⟩,
    ⟨(some 15), .mov (.t 1), none⟩,
    ⟨(some 16), .bsl 1 (.int .i64 0) 1 [(0, (.t 15))], none⟩,
    ⟨(some 17), .call F_labels_Check [(.t 14), (.t 16)], none⟩,
    ⟨(some 13), .mov (.t 17), none⟩,
    ⟨(some 18), .extr (.t 13) 0, none⟩,
    ⟨(some 19), .extr (.t 13) 1, none⟩,
    ⟨(some 8), .mov (.t 18), none⟩,
    ⟨(some 9), .mov (.t 19), none⟩])
  (.seq (.region false [⟨(some 20), .mov (.t 9), none⟩,
    ⟨(some 21), .bin .neq (.t 20) (.c (.int .i64 0)), none⟩])
  (.cond (.t 21)
   (.seq (.region false [⟨(some 22), .mov (.t 9), none⟩,
     ⟨(some 6), .mov (.c (.sl .ex [])), none⟩,
     ⟨(some 7), .mov (.t 22), none⟩])
   (.ret))
   (.skip))))
  (.seq (.region false [⟨(some 23), .ld (some 2) (.t 3), none⟩,
    ⟨(some 10), .alloc [.sl .ex [], .sl .ex []], none⟩,
    ⟨none, .st 2 (.t 10) (.t 23), none⟩])
  (.seq (.region false [⟨(some 11), .mov (.c (.sl .ex [])), none⟩])
  (.seq (.seq (.region false [⟨(some 24), .fldA 0 (.t 3), none⟩,
    ⟨(some 25), .ld none (.t 24), none⟩,
    ⟨(some 26), .len (.t 25), none⟩,
    ⟨(some 27), .mov (.c (.int .i64 0)), none⟩])
  (.block 0 (.loop A_labels_beyondL0)))
  (.seq (.region false [⟨(some 38), .mov (.t 11), none⟩,
    ⟨(some 39), .call F_labels_sorted [(.t 10), (.t 38)], none⟩,
    ⟨(some 6), .mov (.t 39), none⟩,
    ⟨(some 7), .mov (.c (.int .i64 0)), none⟩])
  (.ret)))))),
  [.tmp 6, .tmp 7]⟩

/- labels_Down_1 -/
def A_labels_Down_1 : AFun := ⟨10,
  .seq (.region false [⟨(some 5), .mov (.c (.bool false)), none⟩])
  (.seq (.region false [⟨(some 6), .mov (.t 0), none⟩,
    ⟨(some 7), .mov (.t 1), none⟩,
    ⟨(some 8), .ld none (.t 2), none⟩,
    ⟨(some 9), .call F_labels_order_below [(.t 6), (.t 7), (.t 8)], none⟩,
    ⟨(some 5), .mov (.t 9), none⟩])
  (.ret)),
  [.tmp 5]⟩

/- labels_Up_1 -/
def A_labels_Up_1 : AFun := ⟨10,
  .seq (.region false [⟨(some 5), .mov (.c (.bool false)), none⟩])
  (.seq (.region false [⟨(some 6), .mov (.t 0), none⟩,
    ⟨(some 7), .ld none (.t 2), none⟩,
    ⟨(some 8), .mov (.t 1), none⟩,
    ⟨(some 9), .call F_labels_order_below [(.t 6), (.t 7), (.t 8)], none⟩,
    ⟨(some 5), .mov (.t 9), none⟩])
  (.ret)),
  [.tmp 5]⟩

/- lattice_Bottom -/
def A_lattice_Bottom : AFun := ⟨16,
  .seq (.region false [⟨(some 1), .box (.t 0), none⟩,
    ⟨(some 2), .mov (.c (.int .i64 0)), none⟩,
    ⟨(some 3), .mov (.c (.int .i64 0)), none⟩])
  (.seq (.seq (.region false [⟨(some 6), .call F_lattice_asked [(.t 1), (.c (.sl .ex []))], none⟩,
    ⟨(some 4), .mov (.t 6), none⟩])
  (.seq (.region false [⟨(some 7), .mov (.t 4), none⟩,
    ⟨(some 8), .bin .neq (.t 7) (.c (.int .i64 0)), none⟩])
  (.cond (.t 8)
   (.seq (.region false [⟨(some 9), .mov (.t 4), none⟩,
     ⟨(some 2), .mov (.c (.int .i64 0)), none⟩,
     ⟨(some 3), .mov (.t 9), none⟩])
   (.ret))
   (.skip))))
  (.seq (.region false [⟨(some 10), .call F_lattice_of [(.t 1)], none⟩,
    ⟨(some 5), .alloc [.int .i64 0, .int .u8 0, .int .u8 0, .int .u8 0, .int .u8 0, .int .u8 0, .int .u8 0, .int .u8 0, .int .u8 0, .int .u8 0, .int .u8 0, .int .u8 0, .int .u8 0, .int .u8 0, .int .u8 0, .int .u8 0, .int .u8 0], none⟩,
    ⟨none, .st 17 (.t 5) (.t 10), none⟩])
  (.seq (.region false [⟨(some 11), .fldA 1 (.t 5), none⟩,
    ⟨(some 12), .ld (some 8) (.t 11), none⟩,
    ⟨(some 13), .fldA 0 (.t 5), none⟩,
    ⟨(some 14), .ld none (.t 13), none⟩,
    ⟨(some 15), .call F_lattice_end_lattice_ups [(.t 12), (.t 14)], none⟩,
    ⟨(some 2), .mov (.t 15), none⟩,
    ⟨(some 3), .mov (.c (.int .i64 0)), none⟩])
  (.ret)))),
  [.tmp 2, .tmp 3]⟩

/- labels_fold -/
def A_labels_foldL0 : ACode :=
  .seq (.region false [⟨(some 12), .bin .lss (.t 11) (.t 10), none⟩])
  (.seq (.cond (.t 12)
   (.skip)
   (.exit 0))
  (.seq (.block 1 (.seq (.region false [⟨(some 13), .idxA 1 (.t 9) (.t 11), none⟩,
    ⟨(some 14), .ld none (.t 13), none⟩,
    ⟨(some 8), .mov (.t 14), none⟩])
  (.region false [⟨(some 15), .mov (.t 2), none⟩,
    ⟨(some 16), .mov (.t 1), none⟩,
    ⟨(some 17), .mov (.t 8), none⟩,
    ⟨(some 18), .callv (.t 15) [(.t 16), (.t 17)], none⟩,
    ⟨(some 1), .mov (.t 18), none⟩])))
  (.region false [⟨(some 19), .bin .add (.t 11) (.c (.int .i64 1)), none⟩,
    ⟨(some 11), .mov (.t 19), none⟩])))
def A_labels_fold : AFun := ⟨21,
  .seq (.region false [⟨(some 6), .mov (.c (.int .i64 0)), none⟩])
  (.seq (.seq (.region false [⟨(some 9), .mov (.t 0), none⟩,
    ⟨(some 10), .len (.t 9), none⟩,
    ⟨(some 11), .mov (.c (.int .i64 0)), none⟩])
  (.block 0 (.loop A_labels_foldL0)))
  (.seq (.region false [⟨(some 20), .mov (.t 1), none⟩,
    ⟨(some 6), .mov (.t 20), none⟩])
  (.ret))),
  [.tmp 6]⟩

/- labels_order_join -/
def A_labels_order_join : AFun := ⟨19,
  .seq (.region false [⟨(some 6), .mov (.c (.int .i64 0)), none⟩])
  (.seq (.region false [⟨(some 10), .mov (.t 0), none⟩,
    ⟨(some 11), .nck (.t 10), none⟩,
    ⟨(some 12), .ld (some 2) (.t 11), none⟩,
    ⟨(some 13), .mov (.t 1), none⟩,
    ⟨(some 14), .mov (.t 2), none⟩,
    ⟨(some 15), .call F_lattice_Join [(.t 12), (.t 13), (.t 14)], none⟩,
    ⟨(some 9), .mov (.t 15), none⟩,
    ⟨(some 16), .extr (.t 9) 0, none⟩,
    ⟨(some 17), .extr (.t 9) 1, none⟩,
    ⟨(some 7), .mov (.t 16), none⟩,
    ⟨(some 8), .mov (.t 17), none⟩])
  (.seq (.region false [⟨(some 18), .mov (.t 7), none⟩,
    ⟨(some 6), .mov (.t 18), none⟩])
  (.ret))),
  [.tmp 6]⟩

/- slices_IndexFunc_int_int -/
def A_slices_IndexFunc_int_intL0 : ACode :=
  .seq (.region false [⟨(some 9), .bin .lss (.t 8) (.t 7), none⟩])
  (.seq (.cond (.t 9)
   (.skip)
   (.exit 0))
  (.seq (.block 1 (.seq (.region false [⟨(some 10), .mov (.t 8), none⟩,
    ⟨(some 5), .mov (.t 10), none⟩])
  (.seq (.region false [⟨(some 11), .mov (.t 1), none⟩,
    ⟨(some 12), .mov (.t 0), none⟩,
    ⟨(some 13), .mov (.t 5), none⟩,
    ⟨(some 14), .idxA 1 (.t 12) (.t 13), none⟩,
    ⟨(some 15), .ld none (.t 14), none⟩,
    ⟨(some 16), .callv (.t 11) [(.t 15)], none⟩])
  (.cond (.t 16)
   (.seq (.region false [⟨(some 17), .mov (.t 5), none⟩,
     ⟨(some 4), .mov (.t 17), none⟩])
   (.ret))
   (.skip)))))
  (.region false [⟨(some 18), .bin .add (.t 8) (.c (.int .i64 1)), none⟩,
    ⟨(some 8), .mov (.t 18), none⟩])))
def A_slices_IndexFunc_int_int : AFun := ⟨19,
  .seq (.region false [⟨(some 4), .mov (.c (.int .i64 0)), none⟩])
  (.seq (.seq (.region false [⟨(some 6), .mov (.t 0), none⟩,
    ⟨(some 7), .len (.t 6), none⟩,
    ⟨(some 8), .mov (.c (.int .i64 0)), none⟩])
  (.block 0 (.loop A_slices_IndexFunc_int_intL0)))
  (.seq (.region false [⟨(some 4), .mov (.c (.int .i64 (-1))), none⟩])
  (.ret))),
  [.tmp 4]⟩

/- labels_Flows_1 -/
def A_labels_Flows_1 : AFun := ⟨9,
  .seq (.region false [⟨(some 4), .mov (.c (.bool false)), none⟩])
  (.seq (.region false [⟨(some 5), .mov (.t 0), none⟩,
    ⟨(some 6), .ld none (.t 2), none⟩,
    ⟨(some 7), .call F_labels_order_below [(.t 1), (.t 5), (.t 6)], none⟩,
    ⟨(some 8), .not (.t 7), none⟩,
    ⟨(some 4), .mov (.t 8), none⟩])
  (.ret)),
  [.tmp 4]⟩

/- lattice_Check -/
def A_lattice_CheckL1 : ACode :=
  .seq (.region false [⟨(some 60), .bin .lss (.t 59) (.t 58), none⟩])
  (.seq (.cond (.t 60)
   (.skip)
   (.exit 2))
  (.seq (.block 3 (.seq (.region false [⟨(some 61), .mov (.t 59), none⟩,
    ⟨(some 62), .idxA 1 (.t 57) (.t 59), none⟩,
    ⟨(some 63), .ld none (.t 62), none⟩,
    ⟨(some 10), .mov (.t 61), none⟩,
    ⟨(some 11), .mov (.t 63), none⟩])
  (.seq (.block 4 (.seq (.region false [⟨(some 65), .mov (.t 9), none⟩,
    ⟨(some 66), .mov (.t 10), none⟩,
    ⟨(some 67), .bin .shr (.t 65) (.t 66), none⟩,
    ⟨(some 68), .bin .and (.t 67) (.c (.int .u8 1)), none⟩,
    ⟨(some 69), .bin .eql (.t 68) (.c (.int .u8 0)), none⟩,
    ⟨(some 64), .mov (.t 69), none⟩])
  (.cond (.t 64)
   (.skip)
   (.seq (.seq (.region false [⟨(some 71), .mov (.t 10), none⟩,
     ⟨(some 72), .mov (.t 8), none⟩,
     ⟨(some 73), .bin .neq (.t 71) (.t 72), none⟩,
     ⟨(some 74), .mov (.t 73), none⟩,
     ⟨(some 75), .mov (.t 11), some (74, true)⟩,
     ⟨(some 76), .mov (.t 8), some (74, true)⟩,
     ⟨(some 77), .bin .shr (.t 75) (.t 76), some (74, true)⟩,
     ⟨(some 78), .bin .and (.t 77) (.c (.int .u8 1)), some (74, true)⟩,
     ⟨(some 79), .bin .eql (.t 78) (.c (.int .u8 1)), some (74, true)⟩,
     ⟨(some 80), .pick (.t 74) (.t 79) (.c (.bool false)), none⟩,
     ⟨(some 70), .mov (.t 80), none⟩])
   (.cond (.t 70)
    (.skip)
    (.region false [⟨(some 81), .mov (.t 11), none⟩,
      ⟨(some 82), .mov (.t 7), none⟩,
      ⟨(some 83), .bin .and (.t 81) (.t 82), none⟩,
      ⟨(some 84), .mov (.t 9), none⟩,
      ⟨(some 85), .bin .andNot (.t 83) (.t 84), none⟩,
      ⟨(some 86), .bin .neq (.t 85) (.c (.int .u8 0)), none⟩,
      ⟨(some 70), .mov (.t 86), none⟩])))
   (.cond (.t 70)
    (.seq (.region false [⟨(some 87), .mov (.t 8), none⟩,
      ⟨(some 2), .mov (.t 87), none⟩,
      ⟨(some 3), .mov (.c (.int .i64 6)), none⟩])
    (.ret))
    (.skip))))))
  (.seq (.region false [⟨(some 88), .mov (.t 10), none⟩,
    ⟨(some 89), .mov (.t 6), none⟩,
    ⟨(some 90), .bin .sub (.t 89) (.c (.int .i64 1)), none⟩,
    ⟨(some 91), .bin .eql (.t 88) (.t 90), none⟩])
  (.cond (.t 91)
   (.exit 1)
   (.skip))))))
  (.region false [⟨(some 92), .bin .add (.t 59) (.c (.int .i64 1)), none⟩,
    ⟨(some 59), .mov (.t 92), none⟩])))
def A_lattice_CheckL0 : ACode :=
  .seq (.region false [⟨(some 40), .bin .lss (.t 39) (.t 38), none⟩])
  (.seq (.cond (.t 40)
   (.skip)
   (.exit 0))
  (.seq (.block 1 (.seq (.region false [⟨(some 41), .mov (.t 39), none⟩,
    ⟨(some 42), .idxA 1 (.t 37) (.t 39), none⟩,
    ⟨(some 43), .ld none (.t 42), none⟩,
    ⟨(some 8), .mov (.t 41), none⟩,
    ⟨(some 9), .mov (.t 43), none⟩])
  (.seq (.seq (.region false [⟨(some 44), .mov (.t 9), none⟩,
    ⟨(some 45), .call F_bits_Len8 [(.t 44)], none⟩,
    ⟨(some 46), .mov (.t 6), none⟩,
    ⟨(some 47), .bin .gtr (.t 45) (.t 46), none⟩,
    ⟨(some 48), .mov (.t 47), none⟩,
    ⟨(some 49), .mov (.t 9), some (48, false)⟩,
    ⟨(some 50), .mov (.t 8), some (48, false)⟩,
    ⟨(some 51), .bin .shr (.t 49) (.t 50), some (48, false)⟩,
    ⟨(some 52), .bin .and (.t 51) (.c (.int .u8 1)), some (48, false)⟩,
    ⟨(some 53), .bin .eql (.t 52) (.c (.int .u8 0)), some (48, false)⟩,
    ⟨(some 54), .pick (.t 48) (.c (.bool true)) (.t 53), none⟩])
  (.cond (.t 54)
   (.seq (.region false [⟨(some 55), .mov (.t 8), none⟩,
     ⟨(some 2), .mov (.t 55), none⟩,
     ⟨(some 3), .mov (.c (.int .i64 6)), none⟩])
   (.ret))
   (.skip)))
  (.seq (.region false [⟨(some 56), .fldA 1 (.t 1), none⟩,
    ⟨(some 57), .ld none (.t 56), none⟩,
    ⟨(some 58), .len (.t 57), none⟩,
    ⟨(some 59), .mov (.c (.int .i64 0)), none⟩])
  (.block 2 (.loop A_lattice_CheckL1))))))
  (.region false [⟨(some 93), .bin .add (.t 39) (.c (.int .i64 1)), none⟩,
    ⟨(some 39), .mov (.t 93), none⟩])))
def A_lattice_CheckL3 : ACode :=
  .seq (.region false [⟨(some 101), .bin .lss (.t 100) (.t 99), none⟩])
  (.seq (.cond (.t 101)
   (.skip)
   (.exit 7))
  (.seq (.block 8 (.seq (.region false [⟨(some 102), .mov (.t 100), none⟩,
    ⟨(some 14), .mov (.t 102), none⟩])
  (.seq (.region false [⟨(some 103), .fldA 1 (.t 12), none⟩,
    ⟨(some 104), .ld (some 8) (.t 103), none⟩,
    ⟨(some 105), .mov (.t 6), none⟩,
    ⟨(some 106), .mov (.t 13), none⟩,
    ⟨(some 107), .mov (.t 14), none⟩,
    ⟨(some 108), .call F_lattice_bound_lattice_ups [(.t 104), (.t 105), (.t 106), (.t 107)], none⟩,
    ⟨(some 109), .bin .lss (.t 108) (.c (.int .i64 0)), none⟩,
    ⟨(some 110), .mov (.t 109), none⟩,
    ⟨(some 111), .fldA 9 (.t 12), some (110, false)⟩,
    ⟨(some 112), .ld (some 8) (.t 111), some (110, false)⟩,
    ⟨(some 113), .mov (.t 6), some (110, false)⟩,
    ⟨(some 114), .mov (.t 13), some (110, false)⟩,
    ⟨(some 115), .mov (.t 14), some (110, false)⟩,
    ⟨(some 116), .call F_lattice_bound_lattice_downs [(.t 112), (.t 113), (.t 114), (.t 115)], some (110, false)⟩,
    ⟨(some 117), .bin .lss (.t 116) (.c (.int .i64 0)), some (110, false)⟩,
    ⟨(some 118), .pick (.t 110) (.c (.bool true)) (.t 117), none⟩])
  (.cond (.t 118)
   (.seq (.region false [⟨(some 119), .mov (.t 13), none⟩,
     ⟨(some 2), .mov (.t 119), none⟩,
     ⟨(some 3), .mov (.c (.int .i64 4)), none⟩])
   (.ret))
   (.skip)))))
  (.region false [⟨(some 120), .bin .add (.t 100) (.c (.int .i64 1)), none⟩,
    ⟨(some 100), .mov (.t 120), none⟩])))
def A_lattice_CheckL2 : ACode :=
  .seq (.region false [⟨(some 97), .bin .lss (.t 96) (.t 95), none⟩])
  (.seq (.cond (.t 97)
   (.skip)
   (.exit 5))
  (.seq (.block 6 (.seq (.region false [⟨(some 98), .mov (.t 96), none⟩,
    ⟨(some 13), .mov (.t 98), none⟩])
  (.seq (.region false [⟨(some 99), .mov (.t 6), none⟩,
    ⟨(some 100), .mov (.c (.int .i64 0)), none⟩])
  (.block 7 (.loop A_lattice_CheckL3)))))
  (.region false [⟨(some 121), .bin .add (.t 96) (.c (.int .i64 1)), none⟩,
    ⟨(some 96), .mov (.t 121), none⟩])))
def A_lattice_Check : AFun := ⟨122,
  .seq (.region false [⟨(some 1), .box (.t 0), none⟩,
    ⟨(some 2), .mov (.c (.int .i64 0)), none⟩,
    ⟨(some 3), .mov (.c (.int .i64 0)), none⟩])
  (.scope (.seq (.seq (.region false [⟨(some 16), .fldA 0 (.t 1), none⟩,
     ⟨(some 17), .ld none (.t 16), none⟩,
     ⟨(some 18), .call F_lattice_named [(.t 17)], none⟩,
     ⟨(some 15), .mov (.t 18), none⟩,
     ⟨(some 19), .extr (.t 15) 0, none⟩,
     ⟨(some 20), .extr (.t 15) 1, none⟩,
     ⟨(some 4), .mov (.t 19), none⟩,
     ⟨(some 5), .mov (.t 20), none⟩])
   (.seq (.region false [⟨(some 21), .mov (.t 5), none⟩,
     ⟨(some 22), .bin .neq (.t 21) (.c (.int .i64 0)), none⟩])
   (.cond (.t 22)
    (.seq (.region false [⟨(some 23), .mov (.t 4), none⟩,
      ⟨(some 24), .mov (.t 5), none⟩,
      ⟨(some 2), .mov (.t 23), none⟩,
      ⟨(some 3), .mov (.t 24), none⟩])
    (.ret))
    (.skip))))
   (.seq (.region false [⟨(some 25), .fldA 0 (.t 1), none⟩,
     ⟨(some 26), .ld none (.t 25), none⟩,
     ⟨(some 27), .len (.t 26), none⟩,
     ⟨(some 6), .mov (.t 27), none⟩])
   (.seq (.seq (.region false [⟨(some 28), .fldA 1 (.t 1), none⟩,
     ⟨(some 29), .ld none (.t 28), none⟩,
     ⟨(some 30), .len (.t 29), none⟩,
     ⟨(some 31), .mov (.t 6), none⟩,
     ⟨(some 32), .bin .neq (.t 30) (.t 31), none⟩])
   (.cond (.t 32)
    (.seq (.region false [⟨(some 2), .mov (.c (.int .i64 (-1))), none⟩,
      ⟨(some 3), .mov (.c (.int .i64 6)), none⟩])
    (.ret))
    (.skip)))
   (.seq (.region false [⟨(some 33), .mov (.t 6), none⟩,
     ⟨(some 34), .bin .shl (.c (.int .u8 1)) (.t 33), none⟩,
     ⟨(some 35), .bin .sub (.t 34) (.c (.int .u8 1)), none⟩,
     ⟨(some 7), .mov (.t 35), none⟩])
   (.seq (.label 0)
   (.seq (.seq (.region false [⟨(some 36), .fldA 1 (.t 1), none⟩,
     ⟨(some 37), .ld none (.t 36), none⟩,
     ⟨(some 38), .len (.t 37), none⟩,
     ⟨(some 39), .mov (.c (.int .i64 0)), none⟩])
   (.block 0 (.loop A_lattice_CheckL0)))
   (.seq (.region false [⟨(some 94), .call F_lattice_of [(.t 1)], none⟩,
     ⟨(some 12), .alloc [.int .i64 0, .int .u8 0, .int .u8 0, .int .u8 0, .int .u8 0, .int .u8 0, .int .u8 0, .int .u8 0, .int .u8 0, .int .u8 0, .int .u8 0, .int .u8 0, .int .u8 0, .int .u8 0, .int .u8 0, .int .u8 0, .int .u8 0], none⟩,
     ⟨none, .st 17 (.t 12) (.t 94), none⟩])
   (.seq (.seq (.region false [⟨(some 95), .mov (.t 6), none⟩,
     ⟨(some 96), .mov (.c (.int .i64 0)), none⟩])
   (.block 5 (.loop A_lattice_CheckL2)))
   (.seq (.region false [⟨(some 2), .mov (.c (.int .i64 0)), none⟩,
     ⟨(some 3), .mov (.c (.int .i64 0)), none⟩])
   (.ret))))))))))),
  [.tmp 2, .tmp 3]⟩

/- slices_Clone_int_int -/
def A_slices_Clone_int_int : AFun := ⟨8,
  .seq (.region false [⟨(some 2), .mov (.c (.sl .ex [])), none⟩])
  (.seq (.seq (.region false [⟨(some 3), .mov (.t 0), none⟩,
    ⟨(some 4), .isn false (.t 3), none⟩])
  (.cond (.t 4)
   (.seq (.region false [⟨(some 2), .mov (.c (.sl .ex [])), none⟩])
   (.ret))
   (.skip)))
  (.seq (.region false [⟨(some 5), .bsl 1 (.int .i64 0) 0 [], none⟩,
    ⟨(some 6), .mov (.t 0), none⟩,
    ⟨(some 7), .app 1 8 (.t 5) (.t 6), none⟩,
    ⟨(some 2), .mov (.t 7), none⟩])
  (.ret))),
  [.tmp 2]⟩

/- labels_sorted_1 -/
def A_labels_sorted_1 : AFun := ⟨11,
  .seq (.region false [⟨(some 5), .mov (.c (.int .i64 0)), none⟩])
  (.seq (.region false [⟨(some 6), .ld none (.t 2), none⟩,
    ⟨(some 7), .mki 60 (.t 6), none⟩,
    ⟨(some 8), .mov (.t 0), none⟩,
    ⟨(some 9), .mov (.t 1), none⟩,
    ⟨(some 10), .call F_labels_compare [(.t 7), (.t 8), (.t 9)], none⟩,
    ⟨(some 5), .mov (.t 10), none⟩])
  (.ret)),
  [.tmp 5]⟩

/- labels_compare -/
def A_labels_compare : AFun := ⟨17,
  .seq (.region false [⟨(some 6), .mov (.c (.int .i64 0)), none⟩])
  (.seq (.block 0 (.seq (.region false [⟨(some 8), .mov (.t 0), none⟩,
    ⟨(some 9), .mov (.t 1), none⟩,
    ⟨(some 10), .mov (.t 2), none⟩,
    ⟨(some 11), .inv [(60, F_labels_levels_less)] (.t 8) [(.t 9), (.t 10)], none⟩,
    ⟨(some 7), .mov (.t 11), none⟩])
  (.cond (.t 7)
   (.seq (.region false [⟨(some 6), .mov (.c (.int .i64 (-1))), none⟩])
   (.ret))
   (.seq (.region false [⟨(some 13), .mov (.t 0), none⟩,
     ⟨(some 14), .mov (.t 2), none⟩,
     ⟨(some 15), .mov (.t 1), none⟩,
     ⟨(some 16), .inv [(60, F_labels_levels_less)] (.t 13) [(.t 14), (.t 15)], none⟩,
     ⟨(some 12), .mov (.t 16), none⟩])
   (.cond (.t 12)
    (.seq (.region false [⟨(some 6), .mov (.c (.int .i64 1)), none⟩])
    (.ret))
    (.skip))))))
  (.seq (.region false [⟨(some 6), .mov (.c (.int .i64 0)), none⟩])
  (.ret))),
  [.tmp 6]⟩

/- lattice_asked -/
def A_lattice_askedL0 : ACode :=
  .seq (.region false [⟨(some 22), .bin .lss (.t 21) (.t 20), none⟩])
  (.seq (.cond (.t 22)
   (.skip)
   (.exit 0))
  (.seq (.block 1 (.seq (.region false [⟨(some 23), .idxA 1 (.t 19) (.t 21), none⟩,
    ⟨(some 24), .ld none (.t 23), none⟩,
    ⟨(some 8), .mov (.t 24), none⟩])
  (.seq (.region false [⟨(some 25), .mov (.t 8), none⟩,
    ⟨(some 26), .bin .lss (.t 25) (.c (.int .i64 0)), none⟩,
    ⟨(some 27), .mov (.t 26), none⟩,
    ⟨(some 28), .mov (.t 8), some (27, false)⟩,
    ⟨(some 29), .mov (.t 0), some (27, false)⟩,
    ⟨(some 30), .nck (.t 29), some (27, false)⟩,
    ⟨(some 31), .fldA 0 (.t 30), some (27, false)⟩,
    ⟨(some 32), .ld none (.t 31), some (27, false)⟩,
    ⟨(some 33), .len (.t 32), some (27, false)⟩,
    ⟨(some 34), .bin .geq (.t 28) (.t 33), some (27, false)⟩,
    ⟨(some 35), .pick (.t 27) (.c (.bool true)) (.t 34), none⟩])
  (.cond (.t 35)
   (.seq (.region false [⟨(some 4), .mov (.c (.int .i64 7)), none⟩])
   (.ret))
   (.skip)))))
  (.region false [⟨(some 36), .bin .add (.t 21) (.c (.int .i64 1)), none⟩,
    ⟨(some 21), .mov (.t 36), none⟩])))
def A_lattice_asked : AFun := ⟨37,
  .seq (.region false [⟨(some 4), .mov (.c (.int .i64 0)), none⟩])
  (.seq (.seq (.region false [⟨(some 10), .mov (.t 0), none⟩,
    ⟨(some 11), .nck (.t 10), none⟩,
    ⟨(some 12), .ld (some 2) (.t 11), none⟩,
    ⟨(some 13), .call F_lattice_Check [(.t 12)], none⟩,
    ⟨(some 9), .mov (.t 13), none⟩,
    ⟨(some 14), .extr (.t 9) 0, none⟩,
    ⟨(some 15), .extr (.t 9) 1, none⟩,
    ⟨(some 5), .mov (.t 14), none⟩,
    ⟨(some 6), .mov (.t 15), none⟩])
  (.seq (.region false [⟨(some 16), .mov (.t 6), none⟩,
    ⟨(some 17), .bin .neq (.t 16) (.c (.int .i64 0)), none⟩])
  (.cond (.t 17)
   (.seq (.region false [⟨(some 18), .mov (.t 6), none⟩,
     ⟨(some 4), .mov (.t 18), none⟩])
   (.ret))
   (.skip))))
  (.seq (.seq (.region false [⟨(some 19), .mov (.t 1), none⟩,
    ⟨(some 20), .len (.t 19), none⟩,
    ⟨(some 21), .mov (.c (.int .i64 0)), none⟩])
  (.block 0 (.loop A_lattice_askedL0)))
  (.seq (.region false [⟨(some 4), .mov (.c (.int .i64 0)), none⟩])
  (.ret)))),
  [.tmp 4]⟩

/- lattice_of -/
def A_lattice_ofL1 : ACode :=
  .seq (.region false [⟨(some 30), .bin .lss (.t 29) (.t 28), none⟩])
  (.seq (.cond (.t 30)
   (.skip)
   (.exit 2))
  (.seq (.block 3 (.seq (.region false [⟨(some 31), .mov (.t 29), none⟩,
    ⟨(some 6), .mov (.t 31), none⟩])
  (.region true [⟨(some 32), .mov (.t 6), none⟩,
    ⟨(some 33), .fldA 9 (.t 3), none⟩,
    ⟨(some 34), .idxP 8 1 (.t 33) (.t 32), none⟩,
    ⟨(some 35), .ld none (.t 34), none⟩,
    ⟨(some 36), .mov (.t 5), none⟩,
    ⟨(some 37), .mov (.t 6), none⟩,
    ⟨(some 38), .bin .shr (.t 36) (.t 37), none⟩,
    ⟨(some 39), .bin .and (.t 38) (.c (.int .u8 1)), none⟩,
    ⟨(some 40), .mov (.t 4), none⟩,
    ⟨(some 41), .bin .shl (.t 39) (.t 40), none⟩,
    ⟨(some 42), .bin .or (.t 35) (.t 41), none⟩,
    ⟨(some 43), .fldA 9 (.t 3), none⟩,
    ⟨(some 44), .idxP 8 1 (.t 43) (.t 32), none⟩,
    ⟨none, .st 1 (.t 44) (.t 42), none⟩])))
  (.region false [⟨(some 45), .bin .add (.t 29) (.c (.int .i64 1)), none⟩,
    ⟨(some 29), .mov (.t 45), none⟩])))
def A_lattice_ofL0 : ACode :=
  .seq (.region false [⟨(some 19), .bin .lss (.t 18) (.t 17), none⟩])
  (.seq (.cond (.t 19)
   (.skip)
   (.exit 0))
  (.seq (.block 1 (.seq (.region false [⟨(some 20), .mov (.t 18), none⟩,
    ⟨(some 21), .idxA 1 (.t 16) (.t 18), none⟩,
    ⟨(some 22), .ld none (.t 21), none⟩,
    ⟨(some 4), .mov (.t 20), none⟩,
    ⟨(some 5), .mov (.t 22), none⟩])
  (.seq (.region false [⟨(some 23), .mov (.t 4), none⟩,
    ⟨(some 24), .mov (.t 5), none⟩,
    ⟨(some 25), .fldA 1 (.t 3), none⟩,
    ⟨(some 26), .idxP 8 1 (.t 25) (.t 23), none⟩,
    ⟨none, .st 1 (.t 26) (.t 24), none⟩])
  (.seq (.region false [⟨(some 27), .fldA 0 (.t 3), none⟩,
    ⟨(some 28), .ld none (.t 27), none⟩,
    ⟨(some 29), .mov (.c (.int .i64 0)), none⟩])
  (.block 2 (.loop A_lattice_ofL1))))))
  (.region false [⟨(some 46), .bin .add (.t 18) (.c (.int .i64 1)), none⟩,
    ⟨(some 18), .mov (.t 46), none⟩])))
def A_lattice_of : AFun := ⟨48,
  .seq (.region false [⟨(some 2), .alloc [.int .i64 0, .int .u8 0, .int .u8 0, .int .u8 0, .int .u8 0, .int .u8 0, .int .u8 0, .int .u8 0, .int .u8 0, .int .u8 0, .int .u8 0, .int .u8 0, .int .u8 0, .int .u8 0, .int .u8 0, .int .u8 0, .int .u8 0], none⟩])
  (.seq (.region false [⟨(some 7), .mov (.t 0), none⟩,
    ⟨(some 8), .nck (.t 7), none⟩,
    ⟨(some 9), .fldA 0 (.t 8), none⟩,
    ⟨(some 10), .ld none (.t 9), none⟩,
    ⟨(some 11), .len (.t 10), none⟩,
    ⟨(some 12), .build [.int .i64 0, .int .u8 0, .int .u8 0, .int .u8 0, .int .u8 0, .int .u8 0, .int .u8 0, .int .u8 0, .int .u8 0, .int .u8 0, .int .u8 0, .int .u8 0, .int .u8 0, .int .u8 0, .int .u8 0, .int .u8 0, .int .u8 0] [(0, 1, (.t 11))], none⟩,
    ⟨(some 3), .alloc [.int .i64 0, .int .u8 0, .int .u8 0, .int .u8 0, .int .u8 0, .int .u8 0, .int .u8 0, .int .u8 0, .int .u8 0, .int .u8 0, .int .u8 0, .int .u8 0, .int .u8 0, .int .u8 0, .int .u8 0, .int .u8 0, .int .u8 0], none⟩,
    ⟨none, .st 17 (.t 3) (.t 12), none⟩])
  (.seq (.seq (.region false [⟨(some 13), .mov (.t 0), none⟩,
    ⟨(some 14), .nck (.t 13), none⟩,
    ⟨(some 15), .fldA 1 (.t 14), none⟩,
    ⟨(some 16), .ld none (.t 15), none⟩,
    ⟨(some 17), .len (.t 16), none⟩,
    ⟨(some 18), .mov (.c (.int .i64 0)), none⟩])
  (.block 0 (.loop A_lattice_ofL0)))
  (.seq (.region false [⟨(some 47), .ld (some 17) (.t 3), none⟩,
    ⟨none, .st 17 (.t 2) (.t 47), none⟩])
  (.ret)))),
  [.cell (some 17) 2]⟩

/- lattice_end_lattice_ups -/
def A_lattice_end_lattice_upsL0 : ACode :=
  .seq (.seq (.region false [⟨(some 6), .mov (.t 5), none⟩,
    ⟨(some 7), .mov (.t 1), none⟩,
    ⟨(some 8), .bin .sub (.t 7) (.c (.int .i64 1)), none⟩,
    ⟨(some 9), .bin .lss (.t 6) (.t 8), none⟩,
    ⟨(some 10), .mov (.t 9), none⟩,
    ⟨(some 11), .mov (.t 5), some (10, true)⟩,
    ⟨(some 12), .idxP 8 1 (.t 2) (.t 11), some (10, true)⟩,
    ⟨(some 13), .ld none (.t 12), some (10, true)⟩,
    ⟨(some 14), .call F_bits_OnesCount8 [(.t 13)], some (10, true)⟩,
    ⟨(some 15), .mov (.t 1), some (10, true)⟩,
    ⟨(some 16), .bin .lss (.t 14) (.t 15), some (10, true)⟩,
    ⟨(some 17), .pick (.t 10) (.t 16) (.c (.bool false)), none⟩])
  (.cond (.t 17)
   (.skip)
   (.exit 0)))
  (.block 1 (.region false [⟨(some 18), .mov (.t 5), none⟩,
    ⟨(some 19), .bin .add (.t 18) (.c (.int .i64 1)), none⟩,
    ⟨(some 5), .mov (.t 19), none⟩]))
def A_lattice_end_lattice_ups : AFun := ⟨21,
  .seq (.region false [⟨(some 2), .box (.t 0), none⟩,
    ⟨(some 4), .mov (.c (.int .i64 0)), none⟩])
  (.seq (.region false [⟨(some 5), .mov (.c (.int .i64 0)), none⟩])
  (.seq (.block 0 (.loop A_lattice_end_lattice_upsL0))
  (.seq (.region false [⟨(some 20), .mov (.t 5), none⟩,
    ⟨(some 4), .mov (.t 20), none⟩])
  (.ret)))),
  [.tmp 4]⟩

/- lattice_Join -/
def A_lattice_Join : AFun := ⟨25,
  .seq (.region false [⟨(some 3), .box (.t 0), none⟩,
    ⟨(some 6), .mov (.c (.int .i64 0)), none⟩,
    ⟨(some 7), .mov (.c (.int .i64 0)), none⟩])
  (.seq (.seq (.region false [⟨(some 10), .mov (.t 1), none⟩,
    ⟨(some 11), .mov (.t 2), none⟩,
    ⟨(some 12), .bsl 1 (.int .i64 0) 2 [(0, (.t 10)), (1, (.t 11))], none⟩,
    ⟨(some 13), .call F_lattice_asked [(.t 3), (.t 12)], none⟩,
    ⟨(some 8), .mov (.t 13), none⟩])
  (.seq (.region false [⟨(some 14), .mov (.t 8), none⟩,
    ⟨(some 15), .bin .neq (.t 14) (.c (.int .i64 0)), none⟩])
  (.cond (.t 15)
   (.seq (.region false [⟨(some 16), .mov (.t 8), none⟩,
     ⟨(some 6), .mov (.c (.int .i64 0)), none⟩,
     ⟨(some 7), .mov (.t 16), none⟩])
   (.ret))
   (.skip))))
  (.seq (.region false [⟨(some 17), .call F_lattice_of [(.t 3)], none⟩,
    ⟨(some 9), .alloc [.int .i64 0, .int .u8 0, .int .u8 0, .int .u8 0, .int .u8 0, .int .u8 0, .int .u8 0, .int .u8 0, .int .u8 0, .int .u8 0, .int .u8 0, .int .u8 0, .int .u8 0, .int .u8 0, .int .u8 0, .int .u8 0, .int .u8 0], none⟩,
    ⟨none, .st 17 (.t 9) (.t 17), none⟩])
  (.seq (.region false [⟨(some 18), .fldA 1 (.t 9), none⟩,
    ⟨(some 19), .ld (some 8) (.t 18), none⟩,
    ⟨(some 20), .fldA 0 (.t 9), none⟩,
    ⟨(some 21), .ld none (.t 20), none⟩,
    ⟨(some 22), .mov (.t 1), none⟩,
    ⟨(some 23), .mov (.t 2), none⟩,
    ⟨(some 24), .call F_lattice_bound_lattice_ups [(.t 19), (.t 21), (.t 22), (.t 23)], none⟩,
    ⟨(some 6), .mov (.t 24), none⟩,
    ⟨(some 7), .mov (.c (.int .i64 0)), none⟩])
  (.ret)))),
  [.tmp 6, .tmp 7]⟩

/- lattice_named -/
def A_lattice_namedL0 : ACode :=
  .seq (.region false [⟨(some 17), .bin .lss (.t 16) (.t 15), none⟩])
  (.seq (.cond (.t 17)
   (.skip)
   (.exit 0))
  (.seq (.block 1 (.seq (.region false [⟨(some 18), .mov (.t 16), none⟩,
    ⟨(some 19), .idxA 1 (.t 14) (.t 16), none⟩,
    ⟨(some 20), .ld none (.t 19), none⟩,
    ⟨(some 4), .mov (.t 18), none⟩,
    ⟨(some 5), .mov (.t 20), none⟩])
  (.block 2 (.seq (.region false [⟨(some 22), .mov (.t 5), none⟩,
    ⟨(some 23), .call F_words_Name [(.t 22)], none⟩,
    ⟨(some 24), .not (.t 23), none⟩,
    ⟨(some 21), .mov (.t 24), none⟩])
  (.cond (.t 21)
   (.seq (.region false [⟨(some 25), .mov (.t 4), none⟩,
     ⟨(some 2), .mov (.t 25), none⟩,
     ⟨(some 3), .mov (.c (.int .i64 6)), none⟩])
   (.ret))
   (.seq (.region false [⟨(some 27), .mov (.t 0), none⟩,
     ⟨(some 28), .mov (.t 4), none⟩,
     ⟨(some 29), .sls 1 (.t 27) none (some (.t 28)) none, none⟩,
     ⟨(some 30), .mov (.t 5), none⟩,
     ⟨(some 31), .call F_slices_Contains_string_string [(.t 29), (.t 30)], none⟩,
     ⟨(some 26), .mov (.t 31), none⟩])
   (.cond (.t 26)
    (.seq (.region false [⟨(some 32), .mov (.t 4), none⟩,
      ⟨(some 2), .mov (.t 32), none⟩,
      ⟨(some 3), .mov (.c (.int .i64 8)), none⟩])
    (.ret))
    (.skip))))))))
  (.region false [⟨(some 33), .bin .add (.t 16) (.c (.int .i64 1)), none⟩,
    ⟨(some 16), .mov (.t 33), none⟩])))
def A_lattice_named : AFun := ⟨34,
  .seq (.region false [⟨(some 2), .mov (.c (.int .i64 0)), none⟩,
    ⟨(some 3), .mov (.c (.int .i64 0)), none⟩])
  (.seq (.seq (.region false [⟨(some 6), .mov (.t 0), none⟩,
    ⟨(some 7), .len (.t 6), none⟩,
    ⟨(some 8), .bin .lss (.t 7) (.c (.int .i64 1)), none⟩,
    ⟨(some 9), .mov (.t 8), none⟩,
    ⟨(some 10), .mov (.t 0), some (9, false)⟩,
    ⟨(some 11), .len (.t 10), some (9, false)⟩,
    ⟨(some 12), .bin .gtr (.t 11) (.c (.int .i64 8)), some (9, false)⟩,
    ⟨(some 13), .pick (.t 9) (.c (.bool true)) (.t 12), none⟩])
  (.cond (.t 13)
   (.seq (.region false [⟨(some 2), .mov (.c (.int .i64 (-1))), none⟩,
     ⟨(some 3), .mov (.c (.int .i64 3)), none⟩])
   (.ret))
   (.skip)))
  (.seq (.seq (.region false [⟨(some 14), .mov (.t 0), none⟩,
    ⟨(some 15), .len (.t 14), none⟩,
    ⟨(some 16), .mov (.c (.int .i64 0)), none⟩])
  (.block 0 (.loop A_lattice_namedL0)))
  (.seq (.region false [⟨(some 2), .mov (.c (.int .i64 0)), none⟩,
    ⟨(some 3), .mov (.c (.int .i64 0)), none⟩])
  (.ret)))),
  [.tmp 2, .tmp 3]⟩

/- bits_Len8 -/
def S_bits_Len8 : List UInt8 := [0, 1, 2, 2, 3, 3, 3, 3, 4, 4, 4, 4, 4, 4, 4, 4, 5, 5, 5, 5, 5, 5, 5, 5, 5, 5, 5, 5, 5, 5, 5, 5, 6, 6, 6, 6, 6, 6, 6, 6, 6, 6, 6, 6, 6, 6, 6, 6, 6, 6, 6, 6, 6, 6, 6, 6, 6, 6, 6, 6, 6, 6, 6, 6, 7, 7, 7, 7, 7, 7, 7, 7, 7, 7, 7, 7, 7, 7, 7, 7, 7, 7, 7, 7, 7, 7, 7, 7, 7, 7, 7, 7, 7, 7, 7, 7, 7, 7, 7, 7, 7, 7, 7, 7, 7, 7, 7, 7, 7, 7, 7, 7, 7, 7, 7, 7, 7, 7, 7, 7, 7, 7, 7, 7, 7, 7, 7, 7, 8, 8, 8, 8, 8, 8, 8, 8, 8, 8, 8, 8, 8, 8, 8, 8, 8, 8, 8, 8, 8, 8, 8, 8, 8, 8, 8, 8, 8, 8, 8, 8, 8, 8, 8, 8, 8, 8, 8, 8, 8, 8, 8, 8, 8, 8, 8, 8, 8, 8, 8, 8, 8, 8, 8, 8, 8, 8, 8, 8, 8, 8, 8, 8, 8, 8, 8, 8, 8, 8, 8, 8, 8, 8, 8, 8, 8, 8, 8, 8, 8, 8, 8, 8, 8, 8, 8, 8, 8, 8, 8, 8, 8, 8, 8, 8, 8, 8, 8, 8, 8, 8, 8, 8, 8, 8, 8, 8, 8, 8, 8, 8, 8, 8, 8, 8, 8, 8, 8, 8, 8, 8, 8, 8, 8, 8, 8, 8]
def A_bits_Len8 : AFun := ⟨6,
  .seq (.region false [⟨(some 2), .mov (.c (.int .i64 0)), none⟩])
  (.seq (.region false [⟨(some 3), .mov (.t 0), none⟩,
    ⟨(some 4), .idxS (.c (.str S_bits_Len8)) (.t 3), none⟩,
    ⟨(some 5), .conv .i64 (.t 4), none⟩,
    ⟨(some 2), .mov (.t 5), none⟩])
  (.ret)),
  [.tmp 2]⟩

/- lattice_bound_lattice_ups -/
def A_lattice_bound_lattice_upsL0 : ACode :=
  .seq (.region false [⟨(some 20), .bin .lss (.t 19) (.t 18), none⟩])
  (.seq (.cond (.t 20)
   (.skip)
   (.exit 0))
  (.seq (.block 1 (.seq (.region false [⟨(some 21), .mov (.t 19), none⟩,
    ⟨(some 10), .mov (.t 21), none⟩])
  (.seq (.region false [⟨(some 22), .mov (.t 9), none⟩,
    ⟨(some 23), .mov (.t 10), none⟩,
    ⟨(some 24), .bin .shr (.t 22) (.t 23), none⟩,
    ⟨(some 25), .bin .and (.t 24) (.c (.int .u8 1)), none⟩,
    ⟨(some 26), .bin .eql (.t 25) (.c (.int .u8 1)), none⟩,
    ⟨(some 27), .mov (.t 26), none⟩,
    ⟨(some 28), .mov (.t 10), some (27, true)⟩,
    ⟨(some 29), .idxP 8 1 (.t 4) (.t 28), some (27, true)⟩,
    ⟨(some 30), .ld none (.t 29), some (27, true)⟩,
    ⟨(some 31), .mov (.t 9), some (27, true)⟩,
    ⟨(some 32), .bin .eql (.t 30) (.t 31), some (27, true)⟩,
    ⟨(some 33), .pick (.t 27) (.t 32) (.c (.bool false)), none⟩])
  (.cond (.t 33)
   (.seq (.region false [⟨(some 34), .mov (.t 10), none⟩,
     ⟨(some 8), .mov (.t 34), none⟩])
   (.ret))
   (.skip)))))
  (.region false [⟨(some 35), .bin .add (.t 19) (.c (.int .i64 1)), none⟩,
    ⟨(some 19), .mov (.t 35), none⟩])))
def A_lattice_bound_lattice_ups : AFun := ⟨36,
  .seq (.region false [⟨(some 4), .box (.t 0), none⟩,
    ⟨(some 8), .mov (.c (.int .i64 0)), none⟩])
  (.seq (.region true [⟨(some 11), .mov (.t 2), none⟩,
    ⟨(some 12), .idxP 8 1 (.t 4) (.t 11), none⟩,
    ⟨(some 13), .ld none (.t 12), none⟩,
    ⟨(some 14), .mov (.t 3), none⟩,
    ⟨(some 15), .idxP 8 1 (.t 4) (.t 14), none⟩,
    ⟨(some 16), .ld none (.t 15), none⟩,
    ⟨(some 17), .bin .and (.t 13) (.t 16), none⟩,
    ⟨(some 9), .mov (.t 17), none⟩])
  (.seq (.seq (.region false [⟨(some 18), .mov (.t 1), none⟩,
    ⟨(some 19), .mov (.c (.int .i64 0)), none⟩])
  (.block 0 (.loop A_lattice_bound_lattice_upsL0)))
  (.seq (.region false [⟨(some 8), .mov (.c (.int .i64 (-1))), none⟩])
  (.ret)))),
  [.tmp 8]⟩

/- lattice_bound_lattice_downs -/
def A_lattice_bound_lattice_downsL0 : ACode :=
  .seq (.region false [⟨(some 20), .bin .lss (.t 19) (.t 18), none⟩])
  (.seq (.cond (.t 20)
   (.skip)
   (.exit 0))
  (.seq (.block 1 (.seq (.region false [⟨(some 21), .mov (.t 19), none⟩,
    ⟨(some 10), .mov (.t 21), none⟩])
  (.seq (.region false [⟨(some 22), .mov (.t 9), none⟩,
    ⟨(some 23), .mov (.t 10), none⟩,
    ⟨(some 24), .bin .shr (.t 22) (.t 23), none⟩,
    ⟨(some 25), .bin .and (.t 24) (.c (.int .u8 1)), none⟩,
    ⟨(some 26), .bin .eql (.t 25) (.c (.int .u8 1)), none⟩,
    ⟨(some 27), .mov (.t 26), none⟩,
    ⟨(some 28), .mov (.t 10), some (27, true)⟩,
    ⟨(some 29), .idxP 8 1 (.t 4) (.t 28), some (27, true)⟩,
    ⟨(some 30), .ld none (.t 29), some (27, true)⟩,
    ⟨(some 31), .mov (.t 9), some (27, true)⟩,
    ⟨(some 32), .bin .eql (.t 30) (.t 31), some (27, true)⟩,
    ⟨(some 33), .pick (.t 27) (.t 32) (.c (.bool false)), none⟩])
  (.cond (.t 33)
   (.seq (.region false [⟨(some 34), .mov (.t 10), none⟩,
     ⟨(some 8), .mov (.t 34), none⟩])
   (.ret))
   (.skip)))))
  (.region false [⟨(some 35), .bin .add (.t 19) (.c (.int .i64 1)), none⟩,
    ⟨(some 19), .mov (.t 35), none⟩])))
def A_lattice_bound_lattice_downs : AFun := ⟨36,
  .seq (.region false [⟨(some 4), .box (.t 0), none⟩,
    ⟨(some 8), .mov (.c (.int .i64 0)), none⟩])
  (.seq (.region true [⟨(some 11), .mov (.t 2), none⟩,
    ⟨(some 12), .idxP 8 1 (.t 4) (.t 11), none⟩,
    ⟨(some 13), .ld none (.t 12), none⟩,
    ⟨(some 14), .mov (.t 3), none⟩,
    ⟨(some 15), .idxP 8 1 (.t 4) (.t 14), none⟩,
    ⟨(some 16), .ld none (.t 15), none⟩,
    ⟨(some 17), .bin .and (.t 13) (.t 16), none⟩,
    ⟨(some 9), .mov (.t 17), none⟩])
  (.seq (.seq (.region false [⟨(some 18), .mov (.t 1), none⟩,
    ⟨(some 19), .mov (.c (.int .i64 0)), none⟩])
  (.block 0 (.loop A_lattice_bound_lattice_downsL0)))
  (.seq (.region false [⟨(some 8), .mov (.c (.int .i64 (-1))), none⟩])
  (.ret)))),
  [.tmp 8]⟩

section
variable {X : Cx} (hX : X.P = Go.Proofs.Tryd.prog)
include hX
theorem A_labels_Show_ok : compileFun X.P F_labels_Show (fun _ => false) = some A_labels_Show := by rw [hX]; kernel_rfl
theorem A_labels_Check_ok : compileFun X.P F_labels_Check (fun _ => false) = some A_labels_Check := by rw [hX]; kernel_rfl
theorem A_labels_sorted_ok : compileFun X.P F_labels_sorted (fun _ => false) = some A_labels_sorted := by rw [hX]; kernel_rfl
theorem A_labels_order_below_ok : compileFun X.P F_labels_order_below (fun _ => false) = some A_labels_order_below := by rw [hX]; kernel_rfl
theorem A_slices_ContainsFunc_int_int_ok : compileFun X.P F_slices_ContainsFunc_int_int (fun _ => false) = some A_slices_ContainsFunc_int_int := by rw [hX]; kernel_rfl
theorem A_labels_Least_1_ok : compileFun X.P F_labels_Least_1 (fun _ => false) = some A_labels_Least_1 := by rw [hX]; kernel_rfl
theorem A_labels_beyond_ok : compileFun X.P F_labels_beyond (fun _ => false) = some A_labels_beyond := by rw [hX]; kernel_rfl
theorem A_labels_Down_1_ok : compileFun X.P F_labels_Down_1 (fun _ => false) = some A_labels_Down_1 := by rw [hX]; kernel_rfl
theorem A_labels_Up_1_ok : compileFun X.P F_labels_Up_1 (fun _ => false) = some A_labels_Up_1 := by rw [hX]; kernel_rfl
theorem A_lattice_Bottom_ok : compileFun X.P F_lattice_Bottom (fun _ => false) = some A_lattice_Bottom := by rw [hX]; kernel_rfl
theorem A_labels_fold_ok : compileFun X.P F_labels_fold (fun _ => false) = some A_labels_fold := by rw [hX]; kernel_rfl
theorem A_labels_order_join_ok : compileFun X.P F_labels_order_join (fun _ => false) = some A_labels_order_join := by rw [hX]; kernel_rfl
theorem A_slices_IndexFunc_int_int_ok : compileFun X.P F_slices_IndexFunc_int_int (fun _ => false) = some A_slices_IndexFunc_int_int := by rw [hX]; kernel_rfl
theorem A_labels_Flows_1_ok : compileFun X.P F_labels_Flows_1 (fun _ => false) = some A_labels_Flows_1 := by rw [hX]; kernel_rfl
theorem A_lattice_Check_ok : compileFun X.P F_lattice_Check (fun _ => false) = some A_lattice_Check := by rw [hX]; kernel_rfl
theorem A_slices_Clone_int_int_ok : compileFun X.P F_slices_Clone_int_int (fun _ => false) = some A_slices_Clone_int_int := by rw [hX]; kernel_rfl
theorem A_labels_sorted_1_ok : compileFun X.P F_labels_sorted_1 (fun _ => false) = some A_labels_sorted_1 := by rw [hX]; kernel_rfl
theorem A_labels_compare_ok : compileFun X.P F_labels_compare (fun _ => false) = some A_labels_compare := by rw [hX]; kernel_rfl
theorem A_lattice_asked_ok : compileFun X.P F_lattice_asked (fun _ => false) = some A_lattice_asked := by rw [hX]; kernel_rfl
theorem A_lattice_of_ok : compileFun X.P F_lattice_of (fun _ => false) = some A_lattice_of := by rw [hX]; kernel_rfl
theorem A_lattice_end_lattice_ups_ok : compileFun X.P F_lattice_end_lattice_ups (fun _ => false) = some A_lattice_end_lattice_ups := by rw [hX]; kernel_rfl
theorem A_lattice_Join_ok : compileFun X.P F_lattice_Join (fun _ => false) = some A_lattice_Join := by rw [hX]; kernel_rfl
theorem A_lattice_named_ok : compileFun X.P F_lattice_named (fun _ => false) = some A_lattice_named := by rw [hX]; kernel_rfl
theorem A_bits_Len8_ok : compileFun X.P F_bits_Len8 (fun _ => false) = some A_bits_Len8 := by rw [hX]; kernel_rfl
theorem A_lattice_bound_lattice_ups_ok : compileFun X.P F_lattice_bound_lattice_ups (fun _ => false) = some A_lattice_bound_lattice_ups := by rw [hX]; kernel_rfl
theorem A_lattice_bound_lattice_downs_ok : compileFun X.P F_lattice_bound_lattice_downs (fun _ => false) = some A_lattice_bound_lattice_downs := by rw [hX]; kernel_rfl
end
end Go.Avm
