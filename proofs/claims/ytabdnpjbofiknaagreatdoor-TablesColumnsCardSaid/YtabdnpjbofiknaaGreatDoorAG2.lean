/- The functions as they have been read. -/
import Derived.Test.YtabdnpjbofiknaaGreatDoorAG1
import Derived.Test.YtabdnpjbofiknaaGreatDoorProg
set_option linter.all false
/- The functions as they have been read. -/
namespace Go.Avm
open Go
/- tables_ranked_1 -/
def A_tables_ranked_1 : AFun := ⟨16,
  .seq (.region false [⟨(some 5), .mov (.c (.int .i64 0)), none⟩])
  (.seq (.block 0 (.seq (.region false [⟨(some 7), .ld none (.t 2), none⟩,
    ⟨(some 8), .mov (.t 0), none⟩,
    ⟨(some 9), .mov (.t 1), none⟩,
    ⟨(some 10), .inv [(65, F_tables_byCells_before)] (.t 7) [(.t 8), (.t 9)], none⟩,
    ⟨(some 6), .mov (.t 10), none⟩])
  (.cond (.t 6)
   (.seq (.region false [⟨(some 5), .mov (.c (.int .i64 (-1))), none⟩])
   (.ret))
   (.seq (.region false [⟨(some 12), .ld none (.t 2), none⟩,
     ⟨(some 13), .mov (.t 1), none⟩,
     ⟨(some 14), .mov (.t 0), none⟩,
     ⟨(some 15), .inv [(65, F_tables_byCells_before)] (.t 12) [(.t 13), (.t 14)], none⟩,
     ⟨(some 11), .mov (.t 15), none⟩])
   (.cond (.t 11)
    (.seq (.region false [⟨(some 5), .mov (.c (.int .i64 1)), none⟩])
    (.ret))
    (.skip))))))
  (.seq (.region false [⟨(some 5), .mov (.c (.int .i64 0)), none⟩])
  (.ret))),
  [.tmp 5]⟩

/- shapes_Cells -/
def A_shapes_Cells : AFun := ⟨16,
  .seq (.region false [⟨(some 3), .box (.t 1), none⟩,
    ⟨(some 4), .mov (.c (.int .i64 0)), none⟩,
    ⟨(some 5), .mov (.c (.int .i64 0)), none⟩])
  (.seq (.seq (.region false [⟨(some 7), .mov (.t 0), none⟩,
    ⟨(some 8), .ld (some 2) (.t 3), none⟩,
    ⟨(some 9), .call F_shapes_Check [(.t 7), (.t 8)], none⟩,
    ⟨(some 6), .mov (.t 9), none⟩])
  (.seq (.region false [⟨(some 10), .mov (.t 6), none⟩,
    ⟨(some 11), .bin .neq (.t 10) (.c (.int .i64 0)), none⟩])
  (.cond (.t 11)
   (.seq (.region false [⟨(some 12), .mov (.t 6), none⟩,
     ⟨(some 4), .mov (.c (.int .i64 0)), none⟩,
     ⟨(some 5), .mov (.t 12), none⟩])
   (.ret))
   (.skip))))
  (.seq (.region false [⟨(some 13), .mov (.t 0), none⟩,
    ⟨(some 14), .ld (some 2) (.t 3), none⟩,
    ⟨(some 15), .call F_shapes_product [(.t 13), (.t 14)], none⟩,
    ⟨(some 4), .mov (.t 15), none⟩,
    ⟨(some 5), .mov (.c (.int .i64 0)), none⟩])
  (.ret))),
  [.tmp 4, .tmp 5]⟩

/- slices_ContainsFunc_int64_int64 -/
def A_slices_ContainsFunc_int64_int64 : AFun := ⟨9,
  .seq (.region false [⟨(some 4), .mov (.c (.bool false)), none⟩])
  (.seq (.region false [⟨(some 5), .mov (.t 0), none⟩,
    ⟨(some 6), .mov (.t 1), none⟩,
    ⟨(some 7), .call F_slices_IndexFunc_int64_int64 [(.t 5), (.t 6)], none⟩,
    ⟨(some 8), .bin .geq (.t 7) (.c (.int .i64 0)), none⟩,
    ⟨(some 4), .mov (.t 8), none⟩])
  (.ret)),
  [.tmp 4]⟩

/- arrays_Check_1 -/
def A_arrays_Check_1 : AFun := ⟨9,
  .seq (.region false [⟨(some 3), .mov (.c (.bool false)), none⟩])
  (.seq (.region false [⟨(some 4), .fldA 0 (.t 1), none⟩,
    ⟨(some 5), .ld none (.t 4), none⟩,
    ⟨(some 6), .mov (.t 0), none⟩,
    ⟨(some 7), .call F_arrays_right [(.t 5), (.t 6)], none⟩,
    ⟨(some 8), .not (.t 7), none⟩,
    ⟨(some 3), .mov (.t 8), none⟩])
  (.ret)),
  [.tmp 3]⟩

/- arrays_right -/
def A_arrays_right : AFun := ⟨20,
  .seq (.region false [⟨(some 4), .mov (.c (.bool false)), none⟩])
  (.seq (.region false [⟨(some 5), .mov (.t 0), none⟩,
    ⟨(some 6), .bin .eql (.t 5) (.c (.int .i64 1)), none⟩,
    ⟨(some 7), .mov (.t 6), none⟩,
    ⟨(some 8), .mov (.t 1), some (7, false)⟩,
    ⟨(some 9), .bin .geq (.t 8) (.c (.int .i64 0)), some (7, false)⟩,
    ⟨(some 10), .mov (.t 9), some (7, false)⟩,
    ⟨(some 11), .mov (.t 1), some (10, true)⟩,
    ⟨(some 12), .bin .leq (.t 11) (.c (.int .i64 1114111)), some (10, true)⟩,
    ⟨(some 13), .pick (.t 10) (.t 12) (.c (.bool false)), some (7, false)⟩,
    ⟨(some 14), .mov (.t 13), some (7, false)⟩,
    ⟨(some 15), .mov (.t 1), some (14, true)⟩,
    ⟨(some 16), .conv .i32 (.t 15), some (14, true)⟩,
    ⟨(some 17), .call F_utf8_ValidRune [(.t 16)], some (14, true)⟩,
    ⟨(some 18), .pick (.t 14) (.t 17) (.c (.bool false)), some (7, false)⟩,
    ⟨(some 19), .pick (.t 7) (.c (.bool true)) (.t 18), none⟩,
    ⟨(some 4), .mov (.t 19), none⟩])
  (.ret)),
  [.tmp 4]⟩

/- strings_Trim -/
def A_strings_Trim : AFun := ⟨43,
  .seq (.region false [⟨(some 4), .mov (.c (.str [])), none⟩])
  (.seq (.seq (.region false [⟨(some 7), .mov (.t 0), none⟩,
    ⟨(some 8), .bin .eql (.t 7) (.c (.str [])), none⟩,
    ⟨(some 9), .mov (.t 8), none⟩,
    ⟨(some 10), .mov (.t 1), some (9, false)⟩,
    ⟨(some 11), .bin .eql (.t 10) (.c (.str [])), some (9, false)⟩,
    ⟨(some 12), .pick (.t 9) (.c (.bool true)) (.t 11), none⟩])
  (.cond (.t 12)
   (.seq (.region false [⟨(some 13), .mov (.t 0), none⟩,
     ⟨(some 4), .mov (.t 13), none⟩])
   (.ret))
   (.skip)))
  (.seq (.seq (.region false [⟨(some 14), .mov (.t 1), none⟩,
    ⟨(some 15), .lenS (.t 14), none⟩,
    ⟨(some 16), .bin .eql (.t 15) (.c (.int .i64 1)), none⟩,
    ⟨(some 17), .mov (.t 16), none⟩,
    ⟨(some 18), .mov (.t 1), some (17, true)⟩,
    ⟨(some 19), .idxS (.t 18) (.c (.int .i64 0)), some (17, true)⟩,
    ⟨(some 20), .bin .lss (.t 19) (.c (.int .u8 128)), some (17, true)⟩,
    ⟨(some 21), .pick (.t 17) (.t 20) (.c (.bool false)), none⟩])
  (.cond (.t 21)
   (.seq (.region true [⟨(some 22), .mov (.t 0), none⟩,
     ⟨(some 23), .mov (.t 1), none⟩,
     ⟨(some 24), .idxS (.t 23) (.c (.int .i64 0)), none⟩,
     ⟨(some 25), .call F_strings_trimRightByte [(.t 22), (.t 24)], none⟩,
     ⟨(some 26), .mov (.t 1), none⟩,
     ⟨(some 27), .idxS (.t 26) (.c (.int .i64 0)), none⟩,
     ⟨(some 28), .call F_strings_trimLeftByte [(.t 25), (.t 27)], none⟩,
     ⟨(some 4), .mov (.t 28), none⟩])
   (.ret))
   (.skip)))
  (.seq (.seq (.region false [⟨(some 30), .mov (.t 1), none⟩,
    ⟨(some 31), .call F_strings_makeASCIISet [(.t 30)], none⟩,
    ⟨(some 29), .mov (.t 31), none⟩,
    ⟨(some 32), .extr (.t 29) 0, none⟩,
    ⟨(some 33), .extr (.t 29) 1, none⟩,
    ⟨(some 5), .alloc (List.replicate 256 (.bool false)), none⟩,
    ⟨none, .st 256 (.t 5) (.t 32), none⟩,
    ⟨(some 6), .mov (.t 33), none⟩])
  (.seq (.region false [⟨(some 34), .mov (.t 6), none⟩])
  (.cond (.t 34)
   (.seq (.region false [⟨(some 35), .mov (.t 0), none⟩,
     ⟨(some 36), .call F_strings_trimRightASCII [(.t 35), (.t 5)], none⟩,
     ⟨(some 37), .call F_strings_trimLeftASCII [(.t 36), (.t 5)], none⟩,
     ⟨(some 4), .mov (.t 37), none⟩])
   (.ret))
   (.skip))))
  (.seq (.region false [⟨(some 38), .mov (.t 0), none⟩,
    ⟨(some 39), .mov (.t 1), none⟩,
    ⟨(some 40), .call F_strings_trimRightUnicode [(.t 38), (.t 39)], none⟩,
    ⟨(some 41), .mov (.t 1), none⟩,
    ⟨(some 42), .call F_strings_trimLeftUnicode [(.t 40), (.t 41)], none⟩,
    ⟨(some 4), .mov (.t 42), none⟩])
  (.ret))))),
  [.tmp 4]⟩

/- ref01_lower -/
def A_ref01_lower : AFun := ⟨9,
  .seq (.region false [⟨(some 2), .mov (.c (.bool false)), none⟩])
  (.seq (.region false [⟨(some 3), .mov (.t 0), none⟩,
    ⟨(some 4), .bin .geq (.t 3) (.c (.int .u8 97)), none⟩,
    ⟨(some 5), .mov (.t 4), none⟩,
    ⟨(some 6), .mov (.t 0), some (5, true)⟩,
    ⟨(some 7), .bin .leq (.t 6) (.c (.int .u8 122)), some (5, true)⟩,
    ⟨(some 8), .pick (.t 5) (.t 7) (.c (.bool false)), none⟩,
    ⟨(some 2), .mov (.t 8), none⟩])
  (.ret)),
  [.tmp 2]⟩

/- ref01_digit -/
def A_ref01_digit : AFun := ⟨9,
  .seq (.region false [⟨(some 2), .mov (.c (.bool false)), none⟩])
  (.seq (.region false [⟨(some 3), .mov (.t 0), none⟩,
    ⟨(some 4), .bin .geq (.t 3) (.c (.int .u8 48)), none⟩,
    ⟨(some 5), .mov (.t 4), none⟩,
    ⟨(some 6), .mov (.t 0), some (5, true)⟩,
    ⟨(some 7), .bin .leq (.t 6) (.c (.int .u8 57)), some (5, true)⟩,
    ⟨(some 8), .pick (.t 5) (.t 7) (.c (.bool false)), none⟩,
    ⟨(some 2), .mov (.t 8), none⟩])
  (.ret)),
  [.tmp 2]⟩

/- ref05_Cells -/
def A_ref05_Cells : AFun := ⟨16,
  .seq (.region false [⟨(some 3), .box (.t 1), none⟩,
    ⟨(some 4), .mov (.c (.int .i64 0)), none⟩,
    ⟨(some 5), .mov (.c (.int .i64 0)), none⟩])
  (.seq (.region false [⟨(some 7), .mov (.t 0), none⟩,
    ⟨(some 8), .ld (some 2) (.t 3), none⟩,
    ⟨(some 9), .call F_ref05_Check [(.t 7), (.t 8)], none⟩,
    ⟨(some 6), .mov (.t 9), none⟩])
  (.seq (.seq (.region false [⟨(some 10), .mov (.t 6), none⟩,
    ⟨(some 11), .bin .neq (.t 10) (.c (.int .i64 0)), none⟩])
  (.cond (.t 11)
   (.seq (.region false [⟨(some 12), .mov (.t 6), none⟩,
     ⟨(some 4), .mov (.c (.int .i64 0)), none⟩,
     ⟨(some 5), .mov (.t 12), none⟩])
   (.ret))
   (.skip)))
  (.seq (.region false [⟨(some 13), .mov (.t 0), none⟩,
    ⟨(some 14), .ld (some 2) (.t 3), none⟩,
    ⟨(some 15), .call F_ref05_Many [(.t 13), (.t 14)], none⟩,
    ⟨(some 4), .mov (.t 15), none⟩,
    ⟨(some 5), .mov (.c (.int .i64 0)), none⟩])
  (.ret)))),
  [.tmp 4, .tmp 5]⟩

/- ref06_rune64 -/
def A_ref06_rune64 : AFun := ⟨17,
  .seq (.region false [⟨(some 2), .mov (.c (.bool false)), none⟩])
  (.seq (.region false [⟨(some 3), .mov (.t 0), none⟩,
    ⟨(some 4), .bin .geq (.t 3) (.c (.int .i64 0)), none⟩,
    ⟨(some 5), .mov (.t 4), none⟩,
    ⟨(some 6), .mov (.t 0), some (5, true)⟩,
    ⟨(some 7), .bin .leq (.t 6) (.c (.int .i64 1114111)), some (5, true)⟩,
    ⟨(some 8), .pick (.t 5) (.t 7) (.c (.bool false)), none⟩,
    ⟨(some 9), .mov (.t 8), none⟩,
    ⟨(some 10), .mov (.t 0), some (9, true)⟩,
    ⟨(some 11), .bin .lss (.t 10) (.c (.int .i64 55296)), some (9, true)⟩,
    ⟨(some 12), .mov (.t 11), some (9, true)⟩,
    ⟨(some 13), .mov (.t 0), some (12, false)⟩,
    ⟨(some 14), .bin .gtr (.t 13) (.c (.int .i64 57343)), some (12, false)⟩,
    ⟨(some 15), .pick (.t 12) (.c (.bool true)) (.t 14), some (9, true)⟩,
    ⟨(some 16), .pick (.t 9) (.t 15) (.c (.bool false)), none⟩,
    ⟨(some 2), .mov (.t 16), none⟩])
  (.ret)),
  [.tmp 2]⟩

/- slices_Clone_int64_int64 -/
def A_slices_Clone_int64_int64 : AFun := ⟨8,
  .seq (.region false [⟨(some 2), .mov (.c (.sl .ex [])), none⟩])
  (.seq (.seq (.region false [⟨(some 3), .mov (.t 0), none⟩,
    ⟨(some 4), .isn false (.t 3), none⟩])
  (.cond (.t 4)
   (.seq (.region false [⟨(some 2), .mov (.c (.sl .ex [])), none⟩])
   (.ret))
   (.skip)))
  (.seq (.region false [⟨(some 5), .bsl 1 (.int .i64 0) 0 [], none⟩,
    ⟨(some 6), .mov (.t 0), none⟩,
    ⟨(some 7), .app 1 8 (.t 5) (.t 6), none⟩,
    ⟨(some 2), .mov (.t 7), none⟩])
  (.ret))),
  [.tmp 2]⟩

/- slices_Clone_string_string -/
def A_slices_Clone_string_string : AFun := ⟨8,
  .seq (.region false [⟨(some 2), .mov (.c (.sl .ex [])), none⟩])
  (.seq (.seq (.region false [⟨(some 3), .mov (.t 0), none⟩,
    ⟨(some 4), .isn false (.t 3), none⟩])
  (.cond (.t 4)
   (.seq (.region false [⟨(some 2), .mov (.c (.sl .ex [])), none⟩])
   (.ret))
   (.skip)))
  (.seq (.region false [⟨(some 5), .bsl 1 (.str []) 0 [], none⟩,
    ⟨(some 6), .mov (.t 0), none⟩,
    ⟨(some 7), .app 1 16 (.t 5) (.t 6), none⟩,
    ⟨(some 2), .mov (.t 7), none⟩])
  (.ret))),
  [.tmp 2]⟩

/- strconv_FormatInt -/
/- slices_stableCmpFunc_int -/
def A_slices_stableCmpFunc_intL0 : ACode :=
  .seq (.seq (.region false [⟨(some 11), .mov (.t 8), none⟩,
    ⟨(some 12), .mov (.t 1), none⟩,
    ⟨(some 13), .bin .leq (.t 11) (.t 12), none⟩])
  (.cond (.t 13)
   (.skip)
   (.exit 0)))
  (.block 1 (.seq (.region false [⟨(some 14), .mov (.t 0), none⟩,
    ⟨(some 15), .mov (.t 7), none⟩,
    ⟨(some 16), .mov (.t 8), none⟩,
    ⟨(some 17), .mov (.t 2), none⟩,
    ⟨(some 18), .call F_slices_insertionSortCmpFunc_int [(.t 14), (.t 15), (.t 16), (.t 17)], none⟩])
  (.seq (.region false [⟨(some 19), .mov (.t 8), none⟩,
    ⟨(some 7), .mov (.t 19), none⟩])
  (.region false [⟨(some 20), .mov (.t 8), none⟩,
    ⟨(some 21), .mov (.t 6), none⟩,
    ⟨(some 22), .bin .add (.t 20) (.t 21), none⟩,
    ⟨(some 8), .mov (.t 22), none⟩]))))
def A_slices_stableCmpFunc_intL2 : ACode :=
  .seq (.seq (.region false [⟨(some 33), .mov (.t 8), none⟩,
    ⟨(some 34), .mov (.t 1), none⟩,
    ⟨(some 35), .bin .leq (.t 33) (.t 34), none⟩])
  (.cond (.t 35)
   (.skip)
   (.exit 4)))
  (.block 5 (.seq (.region false [⟨(some 36), .mov (.t 0), none⟩,
    ⟨(some 37), .mov (.t 7), none⟩,
    ⟨(some 38), .mov (.t 7), none⟩,
    ⟨(some 39), .mov (.t 6), none⟩,
    ⟨(some 40), .bin .add (.t 38) (.t 39), none⟩,
    ⟨(some 41), .mov (.t 8), none⟩,
    ⟨(some 42), .mov (.t 2), none⟩,
    ⟨(some 43), .call F_slices_symMergeCmpFunc_int [(.t 36), (.t 37), (.t 40), (.t 41), (.t 42)], none⟩])
  (.seq (.region false [⟨(some 44), .mov (.t 8), none⟩,
    ⟨(some 7), .mov (.t 44), none⟩])
  (.region false [⟨(some 45), .mov (.t 8), none⟩,
    ⟨(some 46), .mov (.t 6), none⟩,
    ⟨(some 47), .bin .mul (.c (.int .i64 2)) (.t 46), none⟩,
    ⟨(some 48), .bin .add (.t 45) (.t 47), none⟩,
    ⟨(some 8), .mov (.t 48), none⟩]))))
def A_slices_stableCmpFunc_intL1 : ACode :=
  .seq (.seq (.region false [⟨(some 28), .mov (.t 6), none⟩,
    ⟨(some 29), .mov (.t 1), none⟩,
    ⟨(some 30), .bin .lss (.t 28) (.t 29), none⟩])
  (.cond (.t 30)
   (.skip)
   (.exit 2)))
  (.block 3 (.seq (.region false [⟨(some 31), .mov (.t 6), none⟩,
    ⟨(some 32), .bin .mul (.c (.int .i64 2)) (.t 31), none⟩,
    ⟨(some 7), .mov (.c (.int .i64 0)), none⟩,
    ⟨(some 8), .mov (.t 32), none⟩])
  (.seq (.block 4 (.loop A_slices_stableCmpFunc_intL2))
  (.seq (.seq (.region false [⟨(some 49), .mov (.t 7), none⟩,
    ⟨(some 50), .mov (.t 6), none⟩,
    ⟨(some 51), .bin .add (.t 49) (.t 50), none⟩,
    ⟨(some 9), .mov (.t 51), none⟩])
  (.seq (.region false [⟨(some 52), .mov (.t 9), none⟩,
    ⟨(some 53), .mov (.t 1), none⟩,
    ⟨(some 54), .bin .lss (.t 52) (.t 53), none⟩])
  (.cond (.t 54)
   (.region false [⟨(some 55), .mov (.t 0), none⟩,
     ⟨(some 56), .mov (.t 7), none⟩,
     ⟨(some 57), .mov (.t 9), none⟩,
     ⟨(some 58), .mov (.t 1), none⟩,
     ⟨(some 59), .mov (.t 2), none⟩,
     ⟨(some 60), .call F_slices_symMergeCmpFunc_int [(.t 55), (.t 56), (.t 57), (.t 58), (.t 59)], none⟩])
   (.skip))))
  (.region false [⟨(some 61), .mov (.t 6), none⟩,
    ⟨(some 62), .bin .mul (.t 61) (.c (.int .i64 2)), none⟩,
    ⟨(some 6), .mov (.t 62), none⟩])))))
def A_slices_stableCmpFunc_int : AFun := ⟨63,
  .seq (.region false [⟨(some 6), .mov (.c (.int .i64 20)), none⟩])
  (.seq (.region false [⟨(some 10), .mov (.t 6), none⟩,
    ⟨(some 7), .mov (.c (.int .i64 0)), none⟩,
    ⟨(some 8), .mov (.t 10), none⟩])
  (.seq (.block 0 (.loop A_slices_stableCmpFunc_intL0))
  (.seq (.region false [⟨(some 23), .mov (.t 0), none⟩,
    ⟨(some 24), .mov (.t 7), none⟩,
    ⟨(some 25), .mov (.t 1), none⟩,
    ⟨(some 26), .mov (.t 2), none⟩,
    ⟨(some 27), .call F_slices_insertionSortCmpFunc_int [(.t 23), (.t 24), (.t 25), (.t 26)], none⟩])
  (.block 2 (.loop A_slices_stableCmpFunc_intL1))))),
  []⟩

/- shapes_Check -/
def A_shapes_Check : AFun := ⟨30,
  .seq (.region false [⟨(some 3), .box (.t 1), none⟩,
    ⟨(some 4), .mov (.c (.int .i64 0)), none⟩])
  (.seq (.seq (.region false [⟨(some 7), .mov (.t 0), none⟩,
    ⟨(some 8), .bin .lss (.t 7) (.c (.int .i64 0)), none⟩,
    ⟨(some 9), .mov (.t 8), none⟩,
    ⟨(some 10), .mov (.t 0), some (9, false)⟩,
    ⟨(some 11), .bin .gtr (.t 10) (.c (.int .i64 2)), some (9, false)⟩,
    ⟨(some 12), .pick (.t 9) (.c (.bool true)) (.t 11), none⟩])
  (.cond (.t 12)
   (.seq (.region false [⟨(some 4), .mov (.c (.int .i64 7)), none⟩])
   (.ret))
   (.skip)))
  (.seq (.region true [⟨(some 13), .mov (.t 0), none⟩,
    ⟨(some 14), .slA 2 1 (.t 3) none (some (.t 13)) none, none⟩,
    ⟨(some 15), .mov (.t 0), none⟩,
    ⟨(some 16), .slA 2 1 (.t 3) (some (.t 15)) none none, none⟩,
    ⟨(some 5), .mov (.t 14), none⟩,
    ⟨(some 6), .mov (.t 16), none⟩])
  (.seq (.block 0 (.seq (.region false [⟨(some 18), .mov (.t 5), none⟩,
    ⟨(some 19), .call F_slices_ContainsFunc_int_int [(.t 18), (.c (.clo F_shapes_Check_1 [] []))], none⟩,
    ⟨(some 17), .mov (.t 19), none⟩])
  (.cond (.t 17)
   (.seq (.region false [⟨(some 4), .mov (.c (.int .i64 7)), none⟩])
   (.ret))
   (.seq (.region false [⟨(some 21), .mov (.t 6), none⟩,
     ⟨(some 22), .call F_slices_ContainsFunc_int_int [(.t 21), (.c (.clo F_shapes_Check_2 [] []))], none⟩,
     ⟨(some 20), .mov (.t 22), none⟩])
   (.cond (.t 20)
    (.seq (.region false [⟨(some 4), .mov (.c (.int .i64 6)), none⟩])
    (.ret))
    (.seq (.seq (.region false [⟨(some 24), .mov (.t 5), none⟩,
      ⟨(some 25), .call F_slices_ContainsFunc_int_int [(.t 24), (.c (.clo F_shapes_Check_3 [] []))], none⟩,
      ⟨(some 23), .mov (.t 25), none⟩])
    (.cond (.t 23)
     (.skip)
     (.region false [⟨(some 26), .mov (.t 0), none⟩,
       ⟨(some 27), .ld (some 2) (.t 3), none⟩,
       ⟨(some 28), .call F_shapes_product [(.t 26), (.t 27)], none⟩,
       ⟨(some 29), .bin .gtr (.t 28) (.c (.int .i64 400)), none⟩,
       ⟨(some 23), .mov (.t 29), none⟩])))
    (.cond (.t 23)
     (.seq (.region false [⟨(some 4), .mov (.c (.int .i64 15)), none⟩])
     (.ret))
     (.skip))))))))
  (.seq (.region false [⟨(some 4), .mov (.c (.int .i64 0)), none⟩])
  (.ret))))),
  [.tmp 4]⟩

/- shapes_product -/
def A_shapes_product : AFun := ⟨20,
  .seq (.region false [⟨(some 3), .box (.t 1), none⟩,
    ⟨(some 4), .mov (.c (.int .i64 0)), none⟩])
  (.seq (.region false [⟨(some 5), .mov (.c (.int .i64 1)), none⟩])
  (.seq (.seq (.region false [⟨(some 6), .mov (.t 0), none⟩])
  (.block 0 (.seq (.block 2 (.seq (.block 1 (.seq (.seq (.seq (.region false [⟨(some 8), .bin .eql (.t 6) (.c (.int .i64 2)), none⟩,
    ⟨(some 7), .mov (.t 8), none⟩])
  (.cond (.t 7)
   (.exit 1)
   (.skip)))
  (.seq (.region false [⟨(some 10), .bin .eql (.t 6) (.c (.int .i64 1)), none⟩,
    ⟨(some 9), .mov (.t 10), none⟩])
  (.cond (.t 9)
   (.exit 2)
   (.skip))))
  (.exit 0)))
  (.region false [⟨(some 11), .mov (.t 5), none⟩,
    ⟨(some 12), .idxP 2 1 (.t 3) (.c (.int .i64 1)), none⟩,
    ⟨(some 13), .ld none (.t 12), none⟩,
    ⟨(some 14), .bin .mul (.t 11) (.t 13), none⟩,
    ⟨(some 5), .mov (.t 14), none⟩])))
  (.seq (.region false [⟨(some 15), .mov (.t 5), none⟩,
    ⟨(some 16), .idxP 2 1 (.t 3) (.c (.int .i64 0)), none⟩,
    ⟨(some 17), .ld none (.t 16), none⟩,
    ⟨(some 18), .bin .mul (.t 15) (.t 17), none⟩,
    ⟨(some 5), .mov (.t 18), none⟩])
  (.exit 0)))))
  (.seq (.region false [⟨(some 19), .mov (.t 5), none⟩,
    ⟨(some 4), .mov (.t 19), none⟩])
  (.ret)))),
  [.tmp 4]⟩

/- slices_IndexFunc_int64_int64 -/
def A_slices_IndexFunc_int64_int64L0 : ACode :=
  .seq (.region false [⟨(some 9), .bin .lss (.t 8) (.t 7), none⟩])
  (.seq (.cond (.t 9)
   (.skip)
   (.exit 0))
  (.seq (.block 1 (.seq (.region false [⟨(some 10), .mov (.t 8), none⟩,
    ⟨(some 5), .mov (.t 10), none⟩])
  (.seq (.region false [⟨(some 11), .mov (.t 1), none⟩,
    ⟨(some 12), .mov (.t 0), none⟩,
    ⟨(some 13), .mov (.t 5), none⟩,
    ⟨(some 14), .idxA 1 (.t 12) (.t 13), none⟩,
    ⟨(some 15), .ld none (.t 14), none⟩,
    ⟨(some 16), .callv (.t 11) [(.t 15)], none⟩])
  (.cond (.t 16)
   (.seq (.region false [⟨(some 17), .mov (.t 5), none⟩,
     ⟨(some 4), .mov (.t 17), none⟩])
   (.ret))
   (.skip)))))
  (.region false [⟨(some 18), .bin .add (.t 8) (.c (.int .i64 1)), none⟩,
    ⟨(some 8), .mov (.t 18), none⟩])))
def A_slices_IndexFunc_int64_int64 : AFun := ⟨19,
  .seq (.region false [⟨(some 4), .mov (.c (.int .i64 0)), none⟩])
  (.seq (.seq (.region false [⟨(some 6), .mov (.t 0), none⟩,
    ⟨(some 7), .len (.t 6), none⟩,
    ⟨(some 8), .mov (.c (.int .i64 0)), none⟩])
  (.block 0 (.loop A_slices_IndexFunc_int64_int64L0)))
  (.seq (.region false [⟨(some 4), .mov (.c (.int .i64 (-1))), none⟩])
  (.ret))),
  [.tmp 4]⟩

/- utf8_ValidRune -/
def A_utf8_ValidRune : AFun := ⟨17,
  .seq (.region false [⟨(some 2), .mov (.c (.bool false)), none⟩])
  (.seq (.block 0 (.seq (.region false [⟨(some 4), .mov (.t 0), none⟩,
    ⟨(some 5), .bin .leq (.c (.int .i32 0)) (.t 4), none⟩,
    ⟨(some 6), .mov (.t 5), none⟩,
    ⟨(some 7), .mov (.t 0), some (6, true)⟩,
    ⟨(some 8), .bin .lss (.t 7) (.c (.int .i32 55296)), some (6, true)⟩,
    ⟨(some 9), .pick (.t 6) (.t 8) (.c (.bool false)), none⟩,
    ⟨(some 3), .mov (.t 9), none⟩])
  (.cond (.t 3)
   (.seq (.region false [⟨(some 2), .mov (.c (.bool true)), none⟩])
   (.ret))
   (.seq (.region false [⟨(some 11), .mov (.t 0), none⟩,
     ⟨(some 12), .bin .lss (.c (.int .i32 57343)) (.t 11), none⟩,
     ⟨(some 13), .mov (.t 12), none⟩,
     ⟨(some 14), .mov (.t 0), some (13, true)⟩,
     ⟨(some 15), .bin .leq (.t 14) (.c (.int .i32 1114111)), some (13, true)⟩,
     ⟨(some 16), .pick (.t 13) (.t 15) (.c (.bool false)), none⟩,
     ⟨(some 10), .mov (.t 16), none⟩])
   (.cond (.t 10)
    (.seq (.region false [⟨(some 2), .mov (.c (.bool true)), none⟩])
    (.ret))
    (.skip))))))
  (.seq (.region false [⟨(some 2), .mov (.c (.bool false)), none⟩])
  (.ret))),
  [.tmp 2]⟩

/- strings_trimLeftByte -/
/- strings_trimRightByte -/
/- strings_makeASCIISet -/
def A_strings_makeASCIISetL0 : ACode :=
  .seq (.seq (.region false [⟨(some 6), .mov (.t 4), none⟩,
    ⟨(some 7), .mov (.t 0), none⟩,
    ⟨(some 8), .lenS (.t 7), none⟩,
    ⟨(some 9), .bin .lss (.t 6) (.t 8), none⟩])
  (.cond (.t 9)
   (.skip)
   (.exit 0)))
  (.seq (.block 1 (.seq (.region false [⟨(some 12), .mov (.t 0), none⟩,
    ⟨(some 13), .mov (.t 4), none⟩,
    ⟨(some 14), .idxS (.t 12) (.t 13), none⟩,
    ⟨(some 5), .mov (.t 14), none⟩])
  (.seq (.seq (.region false [⟨(some 15), .mov (.t 5), none⟩,
    ⟨(some 16), .bin .geq (.t 15) (.c (.int .u8 128)), none⟩])
  (.cond (.t 16)
   (.seq (.region false [⟨(some 17), .ld (some 256) (.t 2), none⟩,
     ⟨none, .st 256 (.t 2) (.t 17), none⟩,
     ⟨(some 3), .mov (.c (.bool false)), none⟩])
   (.ret))
   (.skip)))
  (.region false [⟨(some 18), .mov (.t 5), none⟩,
    ⟨(some 19), .idxP 256 1 (.t 2) (.t 18), none⟩,
    ⟨none, .st 1 (.t 19) (.c (.bool true)), none⟩]))))
  (.region false [⟨(some 10), .mov (.t 4), none⟩,
    ⟨(some 11), .bin .add (.t 10) (.c (.int .i64 1)), none⟩,
    ⟨(some 4), .mov (.t 11), none⟩]))
def A_strings_makeASCIISet : AFun := ⟨21,
  .seq (.region false [⟨(some 2), .alloc (List.replicate 256 (.bool false)), none⟩,
    ⟨(some 3), .mov (.c (.bool false)), none⟩])
  (.seq (.seq (.region false [⟨(some 4), .mov (.c (.int .i64 0)), none⟩])
  (.block 0 (.loop A_strings_makeASCIISetL0)))
  (.seq (.region false [⟨(some 20), .ld (some 256) (.t 2), none⟩,
    ⟨none, .st 256 (.t 2) (.t 20), none⟩,
    ⟨(some 3), .mov (.c (.bool true)), none⟩])
  (.ret))),
  [.cell (some 256) 2, .tmp 3]⟩

/- strings_trimLeftASCII -/
def A_strings_trimLeftASCIIL0 : ACode :=
  .seq (.seq (.region false [⟨(some 5), .mov (.t 0), none⟩,
    ⟨(some 6), .lenS (.t 5), none⟩,
    ⟨(some 7), .bin .gtr (.t 6) (.c (.int .i64 0)), none⟩])
  (.cond (.t 7)
   (.skip)
   (.exit 0)))
  (.block 1 (.seq (.seq (.region false [⟨(some 8), .mov (.t 1), none⟩,
    ⟨(some 9), .mov (.t 0), none⟩,
    ⟨(some 10), .idxS (.t 9) (.c (.int .i64 0)), none⟩,
    ⟨(some 11), .call F_strings_asciiSet_contains [(.t 8), (.t 10)], none⟩,
    ⟨(some 12), .not (.t 11), none⟩])
  (.cond (.t 12)
   (.exit 0)
   (.skip)))
  (.region false [⟨(some 13), .mov (.t 0), none⟩,
    ⟨(some 14), .ssl (.t 13) (some (.c (.int .i64 1))) none, none⟩,
    ⟨(some 0), .mov (.t 14), none⟩])))
def A_strings_trimLeftASCII : AFun := ⟨16,
  .seq (.region false [⟨(some 4), .mov (.c (.str [])), none⟩])
  (.seq (.block 0 (.loop A_strings_trimLeftASCIIL0))
  (.seq (.region false [⟨(some 15), .mov (.t 0), none⟩,
    ⟨(some 4), .mov (.t 15), none⟩])
  (.ret))),
  [.tmp 4]⟩

/- strings_trimRightASCII -/
def A_strings_trimRightASCIIL0 : ACode :=
  .seq (.seq (.region false [⟨(some 5), .mov (.t 0), none⟩,
    ⟨(some 6), .lenS (.t 5), none⟩,
    ⟨(some 7), .bin .gtr (.t 6) (.c (.int .i64 0)), none⟩])
  (.cond (.t 7)
   (.skip)
   (.exit 0)))
  (.block 1 (.seq (.seq (.region false [⟨(some 8), .mov (.t 1), none⟩,
    ⟨(some 9), .mov (.t 0), none⟩,
    ⟨(some 10), .mov (.t 0), none⟩,
    ⟨(some 11), .lenS (.t 10), none⟩,
    ⟨(some 12), .bin .sub (.t 11) (.c (.int .i64 1)), none⟩,
    ⟨(some 13), .idxS (.t 9) (.t 12), none⟩,
    ⟨(some 14), .call F_strings_asciiSet_contains [(.t 8), (.t 13)], none⟩,
    ⟨(some 15), .not (.t 14), none⟩])
  (.cond (.t 15)
   (.exit 0)
   (.skip)))
  (.region false [⟨(some 16), .mov (.t 0), none⟩,
    ⟨(some 17), .mov (.t 0), none⟩,
    ⟨(some 18), .lenS (.t 17), none⟩,
    ⟨(some 19), .bin .sub (.t 18) (.c (.int .i64 1)), none⟩,
    ⟨(some 20), .ssl (.t 16) none (some (.t 19)), none⟩,
    ⟨(some 0), .mov (.t 20), none⟩])))
def A_strings_trimRightASCII : AFun := ⟨22,
  .seq (.region false [⟨(some 4), .mov (.c (.str [])), none⟩])
  (.seq (.block 0 (.loop A_strings_trimRightASCIIL0))
  (.seq (.region false [⟨(some 21), .mov (.t 0), none⟩,
    ⟨(some 4), .mov (.t 21), none⟩])
  (.ret))),
  [.tmp 4]⟩

/- strings_trimLeftUnicode -/
/- strings_trimRightUnicode -/
/- ref05_Check -/
def A_ref05_CheckL0 : ACode :=
  .seq (.seq (.region false [⟨(some 13), .mov (.t 5), none⟩,
    ⟨(some 14), .mov (.t 0), none⟩,
    ⟨(some 15), .bin .lss (.t 13) (.t 14), none⟩])
  (.cond (.t 15)
   (.skip)
   (.exit 0)))
  (.seq (.block 1 (.seq (.region false [⟨(some 18), .mov (.t 5), none⟩,
    ⟨(some 19), .idxP 2 1 (.t 3) (.t 18), none⟩,
    ⟨(some 20), .ld none (.t 19), none⟩,
    ⟨(some 21), .bin .lss (.t 20) (.c (.int .i64 0)), none⟩])
  (.cond (.t 21)
   (.seq (.region false [⟨(some 4), .mov (.c (.int .i64 7)), none⟩])
   (.ret))
   (.skip))))
  (.region false [⟨(some 16), .mov (.t 5), none⟩,
    ⟨(some 17), .bin .add (.t 16) (.c (.int .i64 1)), none⟩,
    ⟨(some 5), .mov (.t 17), none⟩]))
def A_ref05_CheckL1 : ACode :=
  .seq (.seq (.region false [⟨(some 23), .mov (.t 6), none⟩,
    ⟨(some 24), .bin .lss (.t 23) (.c (.int .i64 2)), none⟩])
  (.cond (.t 24)
   (.skip)
   (.exit 2)))
  (.seq (.block 3 (.seq (.region false [⟨(some 27), .mov (.t 6), none⟩,
    ⟨(some 28), .idxP 2 1 (.t 3) (.t 27), none⟩,
    ⟨(some 29), .ld none (.t 28), none⟩,
    ⟨(some 30), .bin .neq (.t 29) (.c (.int .i64 0)), none⟩])
  (.cond (.t 30)
   (.seq (.region false [⟨(some 4), .mov (.c (.int .i64 6)), none⟩])
   (.ret))
   (.skip))))
  (.region false [⟨(some 25), .mov (.t 6), none⟩,
    ⟨(some 26), .bin .add (.t 25) (.c (.int .i64 1)), none⟩,
    ⟨(some 6), .mov (.t 26), none⟩]))
def A_ref05_Check : AFun := ⟨45,
  .seq (.region false [⟨(some 3), .box (.t 1), none⟩,
    ⟨(some 4), .mov (.c (.int .i64 0)), none⟩])
  (.seq (.seq (.region false [⟨(some 7), .mov (.t 0), none⟩,
    ⟨(some 8), .bin .lss (.t 7) (.c (.int .i64 0)), none⟩,
    ⟨(some 9), .mov (.t 8), none⟩,
    ⟨(some 10), .mov (.t 0), some (9, false)⟩,
    ⟨(some 11), .bin .gtr (.t 10) (.c (.int .i64 2)), some (9, false)⟩,
    ⟨(some 12), .pick (.t 9) (.c (.bool true)) (.t 11), none⟩])
  (.cond (.t 12)
   (.seq (.region false [⟨(some 4), .mov (.c (.int .i64 7)), none⟩])
   (.ret))
   (.skip)))
  (.seq (.seq (.region false [⟨(some 5), .mov (.c (.int .i64 0)), none⟩])
  (.block 0 (.loop A_ref05_CheckL0)))
  (.seq (.seq (.region false [⟨(some 22), .mov (.t 0), none⟩,
    ⟨(some 6), .mov (.t 22), none⟩])
  (.block 2 (.loop A_ref05_CheckL1)))
  (.seq (.seq (.region false [⟨(some 31), .idxP 2 1 (.t 3) (.c (.int .i64 0)), none⟩,
    ⟨(some 32), .ld none (.t 31), none⟩,
    ⟨(some 33), .bin .gtr (.t 32) (.c (.int .i64 400)), none⟩,
    ⟨(some 34), .mov (.t 33), none⟩,
    ⟨(some 35), .idxP 2 1 (.t 3) (.c (.int .i64 1)), some (34, false)⟩,
    ⟨(some 36), .ld none (.t 35), some (34, false)⟩,
    ⟨(some 37), .bin .gtr (.t 36) (.c (.int .i64 400)), some (34, false)⟩,
    ⟨(some 38), .pick (.t 34) (.c (.bool true)) (.t 37), none⟩,
    ⟨(some 39), .mov (.t 38), none⟩,
    ⟨(some 40), .mov (.t 0), some (39, false)⟩,
    ⟨(some 41), .ld (some 2) (.t 3), some (39, false)⟩,
    ⟨(some 42), .call F_ref05_Many [(.t 40), (.t 41)], some (39, false)⟩,
    ⟨(some 43), .bin .gtr (.t 42) (.c (.int .i64 400)), some (39, false)⟩,
    ⟨(some 44), .pick (.t 39) (.c (.bool true)) (.t 43), none⟩])
  (.cond (.t 44)
   (.seq (.region false [⟨(some 4), .mov (.c (.int .i64 15)), none⟩])
   (.ret))
   (.skip)))
  (.seq (.region false [⟨(some 4), .mov (.c (.int .i64 0)), none⟩])
  (.ret)))))),
  [.tmp 4]⟩

/- ref05_Many -/
def A_ref05_ManyL0 : ACode :=
  .seq (.seq (.region false [⟨(some 7), .mov (.t 6), none⟩,
    ⟨(some 8), .mov (.t 0), none⟩,
    ⟨(some 9), .bin .lss (.t 7) (.t 8), none⟩])
  (.cond (.t 9)
   (.skip)
   (.exit 0)))
  (.seq (.block 1 (.region false [⟨(some 12), .mov (.t 5), none⟩,
    ⟨(some 13), .mov (.t 6), none⟩,
    ⟨(some 14), .idxP 2 1 (.t 3) (.t 13), none⟩,
    ⟨(some 15), .ld none (.t 14), none⟩,
    ⟨(some 16), .bin .mul (.t 12) (.t 15), none⟩,
    ⟨(some 5), .mov (.t 16), none⟩]))
  (.region false [⟨(some 10), .mov (.t 6), none⟩,
    ⟨(some 11), .bin .add (.t 10) (.c (.int .i64 1)), none⟩,
    ⟨(some 6), .mov (.t 11), none⟩]))
def A_ref05_Many : AFun := ⟨18,
  .seq (.region false [⟨(some 3), .box (.t 1), none⟩,
    ⟨(some 4), .mov (.c (.int .i64 0)), none⟩])
  (.seq (.region false [⟨(some 5), .mov (.c (.int .i64 1)), none⟩])
  (.seq (.seq (.region false [⟨(some 6), .mov (.c (.int .i64 0)), none⟩])
  (.block 0 (.loop A_ref05_ManyL0)))
  (.seq (.region false [⟨(some 17), .mov (.t 5), none⟩,
    ⟨(some 4), .mov (.t 17), none⟩])
  (.ret)))),
  [.tmp 4]⟩

/- strconv_FormatInt_87 -/
/- slices_insertionSortCmpFunc_int -/
def A_slices_insertionSortCmpFunc_intL1 : ACode :=
  .seq (.seq (.region true [⟨(some 18), .mov (.t 9), none⟩,
    ⟨(some 19), .mov (.t 1), none⟩,
    ⟨(some 20), .bin .gtr (.t 18) (.t 19), none⟩,
    ⟨(some 21), .mov (.t 20), none⟩,
    ⟨(some 22), .mov (.t 3), some (21, true)⟩,
    ⟨(some 23), .mov (.t 0), some (21, true)⟩,
    ⟨(some 24), .mov (.t 9), some (21, true)⟩,
    ⟨(some 25), .idxA 1 (.t 23) (.t 24), some (21, true)⟩,
    ⟨(some 26), .ld none (.t 25), some (21, true)⟩,
    ⟨(some 27), .mov (.t 0), some (21, true)⟩,
    ⟨(some 28), .mov (.t 9), some (21, true)⟩,
    ⟨(some 29), .bin .sub (.t 28) (.c (.int .i64 1)), some (21, true)⟩,
    ⟨(some 30), .idxA 1 (.t 27) (.t 29), some (21, true)⟩,
    ⟨(some 31), .ld none (.t 30), some (21, true)⟩,
    ⟨(some 32), .callv (.t 22) [(.t 26), (.t 31)], some (21, true)⟩,
    ⟨(some 33), .bin .lss (.t 32) (.c (.int .i64 0)), some (21, true)⟩,
    ⟨(some 34), .pick (.t 21) (.t 33) (.c (.bool false)), none⟩])
  (.cond (.t 34)
   (.skip)
   (.exit 2)))
  (.seq (.block 3 (.region true [⟨(some 37), .mov (.t 0), none⟩,
    ⟨(some 38), .mov (.t 9), none⟩,
    ⟨(some 39), .mov (.t 0), none⟩,
    ⟨(some 40), .mov (.t 9), none⟩,
    ⟨(some 41), .bin .sub (.t 40) (.c (.int .i64 1)), none⟩,
    ⟨(some 42), .mov (.t 0), none⟩,
    ⟨(some 43), .mov (.t 9), none⟩,
    ⟨(some 44), .bin .sub (.t 43) (.c (.int .i64 1)), none⟩,
    ⟨(some 45), .idxA 1 (.t 42) (.t 44), none⟩,
    ⟨(some 46), .ld none (.t 45), none⟩,
    ⟨(some 47), .mov (.t 0), none⟩,
    ⟨(some 48), .mov (.t 9), none⟩,
    ⟨(some 49), .idxA 1 (.t 47) (.t 48), none⟩,
    ⟨(some 50), .ld none (.t 49), none⟩,
    ⟨(some 51), .idxA 1 (.t 37) (.t 38), none⟩,
    ⟨none, .st 1 (.t 51) (.t 46), none⟩,
    ⟨(some 52), .idxA 1 (.t 39) (.t 41), none⟩,
    ⟨none, .st 1 (.t 52) (.t 50), none⟩]))
  (.region false [⟨(some 35), .mov (.t 9), none⟩,
    ⟨(some 36), .bin .sub (.t 35) (.c (.int .i64 1)), none⟩,
    ⟨(some 9), .mov (.t 36), none⟩]))
def A_slices_insertionSortCmpFunc_intL0 : ACode :=
  .seq (.seq (.region false [⟨(some 12), .mov (.t 8), none⟩,
    ⟨(some 13), .mov (.t 2), none⟩,
    ⟨(some 14), .bin .lss (.t 12) (.t 13), none⟩])
  (.cond (.t 14)
   (.skip)
   (.exit 0)))
  (.seq (.block 1 (.seq (.region false [⟨(some 17), .mov (.t 8), none⟩,
    ⟨(some 9), .mov (.t 17), none⟩])
  (.block 2 (.loop A_slices_insertionSortCmpFunc_intL1))))
  (.region false [⟨(some 15), .mov (.t 8), none⟩,
    ⟨(some 16), .bin .add (.t 15) (.c (.int .i64 1)), none⟩,
    ⟨(some 8), .mov (.t 16), none⟩]))
def A_slices_insertionSortCmpFunc_int : AFun := ⟨53,
  .seq (.region false [⟨(some 10), .mov (.t 1), none⟩,
    ⟨(some 11), .bin .add (.t 10) (.c (.int .i64 1)), none⟩,
    ⟨(some 8), .mov (.t 11), none⟩])
  (.block 0 (.loop A_slices_insertionSortCmpFunc_intL0)),
  []⟩

/- slices_symMergeCmpFunc_int -/
def A_slices_symMergeCmpFunc_intL0 : ACode :=
  .seq (.seq (.region false [⟨(some 31), .mov (.t 10), none⟩,
    ⟨(some 32), .mov (.t 11), none⟩,
    ⟨(some 33), .bin .lss (.t 31) (.t 32), none⟩])
  (.cond (.t 33)
   (.skip)
   (.exit 0)))
  (.block 1 (.seq (.region false [⟨(some 34), .mov (.t 10), none⟩,
    ⟨(some 35), .mov (.t 11), none⟩,
    ⟨(some 36), .bin .add (.t 34) (.t 35), none⟩,
    ⟨(some 37), .conv .u64 (.t 36), none⟩,
    ⟨(some 38), .bin .shr (.t 37) (.c (.int .u64 1)), none⟩,
    ⟨(some 39), .conv .i64 (.t 38), none⟩,
    ⟨(some 12), .mov (.t 39), none⟩])
  (.seq (.region true [⟨(some 40), .mov (.t 4), none⟩,
    ⟨(some 41), .mov (.t 0), none⟩,
    ⟨(some 42), .mov (.t 12), none⟩,
    ⟨(some 43), .idxA 1 (.t 41) (.t 42), none⟩,
    ⟨(some 44), .ld none (.t 43), none⟩,
    ⟨(some 45), .mov (.t 0), none⟩,
    ⟨(some 46), .mov (.t 1), none⟩,
    ⟨(some 47), .idxA 1 (.t 45) (.t 46), none⟩,
    ⟨(some 48), .ld none (.t 47), none⟩,
    ⟨(some 49), .callv (.t 40) [(.t 44), (.t 48)], none⟩,
    ⟨(some 50), .bin .lss (.t 49) (.c (.int .i64 0)), none⟩])
  (.cond (.t 50)
   (.region false [⟨(some 51), .mov (.t 12), none⟩,
     ⟨(some 52), .bin .add (.t 51) (.c (.int .i64 1)), none⟩,
     ⟨(some 10), .mov (.t 52), none⟩])
   (.region false [⟨(some 53), .mov (.t 12), none⟩,
     ⟨(some 11), .mov (.t 53), none⟩])))))
def A_slices_symMergeCmpFunc_intL1 : ACode :=
  .seq (.seq (.region false [⟨(some 55), .mov (.t 13), none⟩,
    ⟨(some 56), .mov (.t 10), none⟩,
    ⟨(some 57), .bin .sub (.t 56) (.c (.int .i64 1)), none⟩,
    ⟨(some 58), .bin .lss (.t 55) (.t 57), none⟩])
  (.cond (.t 58)
   (.skip)
   (.exit 2)))
  (.seq (.block 3 (.region true [⟨(some 61), .mov (.t 0), none⟩,
    ⟨(some 62), .mov (.t 13), none⟩,
    ⟨(some 63), .mov (.t 0), none⟩,
    ⟨(some 64), .mov (.t 13), none⟩,
    ⟨(some 65), .bin .add (.t 64) (.c (.int .i64 1)), none⟩,
    ⟨(some 66), .mov (.t 0), none⟩,
    ⟨(some 67), .mov (.t 13), none⟩,
    ⟨(some 68), .bin .add (.t 67) (.c (.int .i64 1)), none⟩,
    ⟨(some 69), .idxA 1 (.t 66) (.t 68), none⟩,
    ⟨(some 70), .ld none (.t 69), none⟩,
    ⟨(some 71), .mov (.t 0), none⟩,
    ⟨(some 72), .mov (.t 13), none⟩,
    ⟨(some 73), .idxA 1 (.t 71) (.t 72), none⟩,
    ⟨(some 74), .ld none (.t 73), none⟩,
    ⟨(some 75), .idxA 1 (.t 61) (.t 62), none⟩,
    ⟨none, .st 1 (.t 75) (.t 70), none⟩,
    ⟨(some 76), .idxA 1 (.t 63) (.t 65), none⟩,
    ⟨none, .st 1 (.t 76) (.t 74), none⟩]))
  (.region false [⟨(some 59), .mov (.t 13), none⟩,
    ⟨(some 60), .bin .add (.t 59) (.c (.int .i64 1)), none⟩,
    ⟨(some 13), .mov (.t 60), none⟩]))
def A_slices_symMergeCmpFunc_intL2 : ACode :=
  .seq (.seq (.region false [⟨(some 83), .mov (.t 14), none⟩,
    ⟨(some 84), .mov (.t 15), none⟩,
    ⟨(some 85), .bin .lss (.t 83) (.t 84), none⟩])
  (.cond (.t 85)
   (.skip)
   (.exit 4)))
  (.block 5 (.seq (.region false [⟨(some 86), .mov (.t 14), none⟩,
    ⟨(some 87), .mov (.t 15), none⟩,
    ⟨(some 88), .bin .add (.t 86) (.t 87), none⟩,
    ⟨(some 89), .conv .u64 (.t 88), none⟩,
    ⟨(some 90), .bin .shr (.t 89) (.c (.int .u64 1)), none⟩,
    ⟨(some 91), .conv .i64 (.t 90), none⟩,
    ⟨(some 16), .mov (.t 91), none⟩])
  (.seq (.region true [⟨(some 92), .mov (.t 4), none⟩,
    ⟨(some 93), .mov (.t 0), none⟩,
    ⟨(some 94), .mov (.t 2), none⟩,
    ⟨(some 95), .idxA 1 (.t 93) (.t 94), none⟩,
    ⟨(some 96), .ld none (.t 95), none⟩,
    ⟨(some 97), .mov (.t 0), none⟩,
    ⟨(some 98), .mov (.t 16), none⟩,
    ⟨(some 99), .idxA 1 (.t 97) (.t 98), none⟩,
    ⟨(some 100), .ld none (.t 99), none⟩,
    ⟨(some 101), .callv (.t 92) [(.t 96), (.t 100)], none⟩,
    ⟨(some 102), .bin .lss (.t 101) (.c (.int .i64 0)), none⟩,
    ⟨(some 103), .not (.t 102), none⟩])
  (.cond (.t 103)
   (.region false [⟨(some 104), .mov (.t 16), none⟩,
     ⟨(some 105), .bin .add (.t 104) (.c (.int .i64 1)), none⟩,
     ⟨(some 14), .mov (.t 105), none⟩])
   (.region false [⟨(some 106), .mov (.t 16), none⟩,
     ⟨(some 15), .mov (.t 106), none⟩])))))
def A_slices_symMergeCmpFunc_intL3 : ACode :=
  .seq (.seq (.region false [⟨(some 108), .mov (.t 17), none⟩,
    ⟨(some 109), .mov (.t 14), none⟩,
    ⟨(some 110), .bin .gtr (.t 108) (.t 109), none⟩])
  (.cond (.t 110)
   (.skip)
   (.exit 6)))
  (.seq (.block 7 (.region true [⟨(some 113), .mov (.t 0), none⟩,
    ⟨(some 114), .mov (.t 17), none⟩,
    ⟨(some 115), .mov (.t 0), none⟩,
    ⟨(some 116), .mov (.t 17), none⟩,
    ⟨(some 117), .bin .sub (.t 116) (.c (.int .i64 1)), none⟩,
    ⟨(some 118), .mov (.t 0), none⟩,
    ⟨(some 119), .mov (.t 17), none⟩,
    ⟨(some 120), .bin .sub (.t 119) (.c (.int .i64 1)), none⟩,
    ⟨(some 121), .idxA 1 (.t 118) (.t 120), none⟩,
    ⟨(some 122), .ld none (.t 121), none⟩,
    ⟨(some 123), .mov (.t 0), none⟩,
    ⟨(some 124), .mov (.t 17), none⟩,
    ⟨(some 125), .idxA 1 (.t 123) (.t 124), none⟩,
    ⟨(some 126), .ld none (.t 125), none⟩,
    ⟨(some 127), .idxA 1 (.t 113) (.t 114), none⟩,
    ⟨none, .st 1 (.t 127) (.t 122), none⟩,
    ⟨(some 128), .idxA 1 (.t 115) (.t 117), none⟩,
    ⟨none, .st 1 (.t 128) (.t 126), none⟩]))
  (.region false [⟨(some 111), .mov (.t 17), none⟩,
    ⟨(some 112), .bin .sub (.t 111) (.c (.int .i64 1)), none⟩,
    ⟨(some 17), .mov (.t 112), none⟩]))
def A_slices_symMergeCmpFunc_intL4 : ACode :=
  .seq (.seq (.region false [⟨(some 149), .mov (.t 20), none⟩,
    ⟨(some 150), .mov (.t 21), none⟩,
    ⟨(some 151), .bin .lss (.t 149) (.t 150), none⟩])
  (.cond (.t 151)
   (.skip)
   (.exit 8)))
  (.block 9 (.seq (.region false [⟨(some 152), .mov (.t 20), none⟩,
    ⟨(some 153), .mov (.t 21), none⟩,
    ⟨(some 154), .bin .add (.t 152) (.t 153), none⟩,
    ⟨(some 155), .conv .u64 (.t 154), none⟩,
    ⟨(some 156), .bin .shr (.t 155) (.c (.int .u64 1)), none⟩,
    ⟨(some 157), .conv .i64 (.t 156), none⟩,
    ⟨(some 23), .mov (.t 157), none⟩])
  (.seq (.region true [⟨(some 158), .mov (.t 4), none⟩,
    ⟨(some 159), .mov (.t 0), none⟩,
    ⟨(some 160), .mov (.t 22), none⟩,
    ⟨(some 161), .mov (.t 23), none⟩,
    ⟨(some 162), .bin .sub (.t 160) (.t 161), none⟩,
    ⟨(some 163), .idxA 1 (.t 159) (.t 162), none⟩,
    ⟨(some 164), .ld none (.t 163), none⟩,
    ⟨(some 165), .mov (.t 0), none⟩,
    ⟨(some 166), .mov (.t 23), none⟩,
    ⟨(some 167), .idxA 1 (.t 165) (.t 166), none⟩,
    ⟨(some 168), .ld none (.t 167), none⟩,
    ⟨(some 169), .callv (.t 158) [(.t 164), (.t 168)], none⟩,
    ⟨(some 170), .bin .lss (.t 169) (.c (.int .i64 0)), none⟩,
    ⟨(some 171), .not (.t 170), none⟩])
  (.cond (.t 171)
   (.region false [⟨(some 172), .mov (.t 23), none⟩,
     ⟨(some 173), .bin .add (.t 172) (.c (.int .i64 1)), none⟩,
     ⟨(some 20), .mov (.t 173), none⟩])
   (.region false [⟨(some 174), .mov (.t 23), none⟩,
     ⟨(some 21), .mov (.t 174), none⟩])))))
def A_slices_symMergeCmpFunc_int : AFun := ⟨220,
  .seq (.seq (.region false [⟨(some 25), .mov (.t 2), none⟩,
    ⟨(some 26), .mov (.t 1), none⟩,
    ⟨(some 27), .bin .sub (.t 25) (.t 26), none⟩,
    ⟨(some 28), .bin .eql (.t 27) (.c (.int .i64 1)), none⟩])
  (.cond (.t 28)
   (.seq (.region false [⟨(some 29), .mov (.t 2), none⟩,
     ⟨(some 10), .mov (.t 29), none⟩])
   (.seq (.region false [⟨(some 30), .mov (.t 3), none⟩,
     ⟨(some 11), .mov (.t 30), none⟩])
   (.seq (.block 0 (.loop A_slices_symMergeCmpFunc_intL0))
   (.seq (.seq (.region false [⟨(some 54), .mov (.t 1), none⟩,
     ⟨(some 13), .mov (.t 54), none⟩])
   (.block 2 (.loop A_slices_symMergeCmpFunc_intL1)))
   (.ret)))))
   (.skip)))
  (.seq (.seq (.region false [⟨(some 77), .mov (.t 3), none⟩,
    ⟨(some 78), .mov (.t 2), none⟩,
    ⟨(some 79), .bin .sub (.t 77) (.t 78), none⟩,
    ⟨(some 80), .bin .eql (.t 79) (.c (.int .i64 1)), none⟩])
  (.cond (.t 80)
   (.seq (.region false [⟨(some 81), .mov (.t 1), none⟩,
     ⟨(some 14), .mov (.t 81), none⟩])
   (.seq (.region false [⟨(some 82), .mov (.t 2), none⟩,
     ⟨(some 15), .mov (.t 82), none⟩])
   (.seq (.block 4 (.loop A_slices_symMergeCmpFunc_intL2))
   (.seq (.seq (.region false [⟨(some 107), .mov (.t 2), none⟩,
     ⟨(some 17), .mov (.t 107), none⟩])
   (.block 6 (.loop A_slices_symMergeCmpFunc_intL3)))
   (.ret)))))
   (.skip)))
  (.seq (.region false [⟨(some 129), .mov (.t 1), none⟩,
    ⟨(some 130), .mov (.t 3), none⟩,
    ⟨(some 131), .bin .add (.t 129) (.t 130), none⟩,
    ⟨(some 132), .conv .u64 (.t 131), none⟩,
    ⟨(some 133), .bin .shr (.t 132) (.c (.int .u64 1)), none⟩,
    ⟨(some 134), .conv .i64 (.t 133), none⟩,
    ⟨(some 18), .mov (.t 134), none⟩])
  (.seq (.region false [⟨(some 135), .mov (.t 18), none⟩,
    ⟨(some 136), .mov (.t 2), none⟩,
    ⟨(some 137), .bin .add (.t 135) (.t 136), none⟩,
    ⟨(some 19), .mov (.t 137), none⟩])
  (.seq (.region false [⟨(some 20), .mov (.c (.int .i64 0)), none⟩,
    ⟨(some 21), .mov (.c (.int .i64 0)), none⟩])
  (.seq (.seq (.region false [⟨(some 138), .mov (.t 2), none⟩,
    ⟨(some 139), .mov (.t 18), none⟩,
    ⟨(some 140), .bin .gtr (.t 138) (.t 139), none⟩])
  (.cond (.t 140)
   (.seq (.region false [⟨(some 141), .mov (.t 19), none⟩,
     ⟨(some 142), .mov (.t 3), none⟩,
     ⟨(some 143), .bin .sub (.t 141) (.t 142), none⟩,
     ⟨(some 20), .mov (.t 143), none⟩])
   (.region false [⟨(some 144), .mov (.t 18), none⟩,
     ⟨(some 21), .mov (.t 144), none⟩]))
   (.seq (.region false [⟨(some 145), .mov (.t 1), none⟩,
     ⟨(some 20), .mov (.t 145), none⟩])
   (.region false [⟨(some 146), .mov (.t 2), none⟩,
     ⟨(some 21), .mov (.t 146), none⟩]))))
  (.seq (.region false [⟨(some 147), .mov (.t 19), none⟩,
    ⟨(some 148), .bin .sub (.t 147) (.c (.int .i64 1)), none⟩,
    ⟨(some 22), .mov (.t 148), none⟩])
  (.seq (.block 8 (.loop A_slices_symMergeCmpFunc_intL4))
  (.seq (.region false [⟨(some 175), .mov (.t 19), none⟩,
    ⟨(some 176), .mov (.t 20), none⟩,
    ⟨(some 177), .bin .sub (.t 175) (.t 176), none⟩,
    ⟨(some 24), .mov (.t 177), none⟩])
  (.seq (.seq (.region false [⟨(some 178), .mov (.t 20), none⟩,
    ⟨(some 179), .mov (.t 2), none⟩,
    ⟨(some 180), .bin .lss (.t 178) (.t 179), none⟩,
    ⟨(some 181), .mov (.t 180), none⟩,
    ⟨(some 182), .mov (.t 2), some (181, true)⟩,
    ⟨(some 183), .mov (.t 24), some (181, true)⟩,
    ⟨(some 184), .bin .lss (.t 182) (.t 183), some (181, true)⟩,
    ⟨(some 185), .pick (.t 181) (.t 184) (.c (.bool false)), none⟩])
  (.cond (.t 185)
   (.region false [⟨(some 186), .mov (.t 0), none⟩,
     ⟨(some 187), .mov (.t 20), none⟩,
     ⟨(some 188), .mov (.t 2), none⟩,
     ⟨(some 189), .mov (.t 24), none⟩,
     ⟨(some 190), .mov (.t 4), none⟩,
     ⟨(some 191), .call F_slices_rotateCmpFunc_int [(.t 186), (.t 187), (.t 188), (.t 189), (.t 190)], none⟩])
   (.skip)))
  (.seq (.seq (.region false [⟨(some 192), .mov (.t 1), none⟩,
    ⟨(some 193), .mov (.t 20), none⟩,
    ⟨(some 194), .bin .lss (.t 192) (.t 193), none⟩,
    ⟨(some 195), .mov (.t 194), none⟩,
    ⟨(some 196), .mov (.t 20), some (195, true)⟩,
    ⟨(some 197), .mov (.t 18), some (195, true)⟩,
    ⟨(some 198), .bin .lss (.t 196) (.t 197), some (195, true)⟩,
    ⟨(some 199), .pick (.t 195) (.t 198) (.c (.bool false)), none⟩])
  (.cond (.t 199)
   (.region false [⟨(some 200), .mov (.t 0), none⟩,
     ⟨(some 201), .mov (.t 1), none⟩,
     ⟨(some 202), .mov (.t 20), none⟩,
     ⟨(some 203), .mov (.t 18), none⟩,
     ⟨(some 204), .mov (.t 4), none⟩,
     ⟨(some 205), .call F_slices_symMergeCmpFunc_int [(.t 200), (.t 201), (.t 202), (.t 203), (.t 204)], none⟩])
   (.skip)))
  (.seq (.region false [⟨(some 206), .mov (.t 18), none⟩,
    ⟨(some 207), .mov (.t 24), none⟩,
    ⟨(some 208), .bin .lss (.t 206) (.t 207), none⟩,
    ⟨(some 209), .mov (.t 208), none⟩,
    ⟨(some 210), .mov (.t 24), some (209, true)⟩,
    ⟨(some 211), .mov (.t 3), some (209, true)⟩,
    ⟨(some 212), .bin .lss (.t 210) (.t 211), some (209, true)⟩,
    ⟨(some 213), .pick (.t 209) (.t 212) (.c (.bool false)), none⟩])
  (.cond (.t 213)
   (.region false [⟨(some 214), .mov (.t 0), none⟩,
     ⟨(some 215), .mov (.t 18), none⟩,
     ⟨(some 216), .mov (.t 24), none⟩,
     ⟨(some 217), .mov (.t 3), none⟩,
     ⟨(some 218), .mov (.t 4), none⟩,
     ⟨(some 219), .call F_slices_symMergeCmpFunc_int [(.t 214), (.t 215), (.t 216), (.t 217), (.t 218)], none⟩])
   (.skip))))))))))))),
  []⟩

/- slices_ContainsFunc_int_int -/
def A_slices_ContainsFunc_int_int : AFun := ⟨9,
  .seq (.region false [⟨(some 4), .mov (.c (.bool false)), none⟩])
  (.seq (.region false [⟨(some 5), .mov (.t 0), none⟩,
    ⟨(some 6), .mov (.t 1), none⟩,
    ⟨(some 7), .call F_slices_IndexFunc_int_int [(.t 5), (.t 6)], none⟩,
    ⟨(some 8), .bin .geq (.t 7) (.c (.int .i64 0)), none⟩,
    ⟨(some 4), .mov (.t 8), none⟩])
  (.ret)),
  [.tmp 4]⟩

/- shapes_Check_1 -/
def A_shapes_Check_1 : AFun := ⟨5,
  .seq (.region false [⟨(some 2), .mov (.c (.bool false)), none⟩])
  (.seq (.region false [⟨(some 3), .mov (.t 0), none⟩,
    ⟨(some 4), .bin .lss (.t 3) (.c (.int .i64 0)), none⟩,
    ⟨(some 2), .mov (.t 4), none⟩])
  (.ret)),
  [.tmp 2]⟩

/- shapes_Check_2 -/
def A_shapes_Check_2 : AFun := ⟨5,
  .seq (.region false [⟨(some 2), .mov (.c (.bool false)), none⟩])
  (.seq (.region false [⟨(some 3), .mov (.t 0), none⟩,
    ⟨(some 4), .bin .neq (.t 3) (.c (.int .i64 0)), none⟩,
    ⟨(some 2), .mov (.t 4), none⟩])
  (.ret)),
  [.tmp 2]⟩

/- shapes_Check_3 -/
def A_shapes_Check_3 : AFun := ⟨5,
  .seq (.region false [⟨(some 2), .mov (.c (.bool false)), none⟩])
  (.seq (.region false [⟨(some 3), .mov (.t 0), none⟩,
    ⟨(some 4), .bin .gtr (.t 3) (.c (.int .i64 400)), none⟩,
    ⟨(some 2), .mov (.t 4), none⟩])
  (.ret)),
  [.tmp 2]⟩

/- strings_asciiSet_contains -/
def A_strings_asciiSet_contains : AFun := ⟨10,
  .seq (.region false [⟨(some 4), .mov (.c (.bool false)), none⟩])
  (.seq (.region false [⟨(some 5), .mov (.t 0), none⟩,
    ⟨(some 6), .mov (.t 1), none⟩,
    ⟨(some 7), .nck (.t 5), none⟩,
    ⟨(some 8), .idxP 256 1 (.t 7) (.t 6), none⟩,
    ⟨(some 9), .ld none (.t 8), none⟩,
    ⟨(some 4), .mov (.t 9), none⟩])
  (.ret)),
  [.tmp 4]⟩

/- utf8_DecodeRuneInString -/
/- strings_ContainsRune -/
/- utf8_DecodeLastRuneInString -/
/- strconv_small -/
/- strconv_numDigits -/
/- strconv_formatBase10 -/
/- strconv_formatBits -/
/- slices_rotateCmpFunc_int -/
def A_slices_rotateCmpFunc_intL0 : ACode :=
  .seq (.seq (.region false [⟨(some 18), .mov (.t 10), none⟩,
    ⟨(some 19), .mov (.t 11), none⟩,
    ⟨(some 20), .bin .neq (.t 18) (.t 19), none⟩])
  (.cond (.t 20)
   (.skip)
   (.exit 0)))
  (.block 1 (.seq (.region false [⟨(some 21), .mov (.t 10), none⟩,
    ⟨(some 22), .mov (.t 11), none⟩,
    ⟨(some 23), .bin .gtr (.t 21) (.t 22), none⟩])
  (.cond (.t 23)
   (.seq (.region false [⟨(some 24), .mov (.t 0), none⟩,
     ⟨(some 25), .mov (.t 2), none⟩,
     ⟨(some 26), .mov (.t 10), none⟩,
     ⟨(some 27), .bin .sub (.t 25) (.t 26), none⟩,
     ⟨(some 28), .mov (.t 2), none⟩,
     ⟨(some 29), .mov (.t 11), none⟩,
     ⟨(some 30), .mov (.t 4), none⟩,
     ⟨(some 31), .call F_slices_swapRangeCmpFunc_int [(.t 24), (.t 27), (.t 28), (.t 29), (.t 30)], none⟩])
   (.region false [⟨(some 32), .mov (.t 10), none⟩,
     ⟨(some 33), .mov (.t 11), none⟩,
     ⟨(some 34), .bin .sub (.t 32) (.t 33), none⟩,
     ⟨(some 10), .mov (.t 34), none⟩]))
   (.seq (.region false [⟨(some 35), .mov (.t 0), none⟩,
     ⟨(some 36), .mov (.t 2), none⟩,
     ⟨(some 37), .mov (.t 10), none⟩,
     ⟨(some 38), .bin .sub (.t 36) (.t 37), none⟩,
     ⟨(some 39), .mov (.t 2), none⟩,
     ⟨(some 40), .mov (.t 11), none⟩,
     ⟨(some 41), .bin .add (.t 39) (.t 40), none⟩,
     ⟨(some 42), .mov (.t 10), none⟩,
     ⟨(some 43), .bin .sub (.t 41) (.t 42), none⟩,
     ⟨(some 44), .mov (.t 10), none⟩,
     ⟨(some 45), .mov (.t 4), none⟩,
     ⟨(some 46), .call F_slices_swapRangeCmpFunc_int [(.t 35), (.t 38), (.t 43), (.t 44), (.t 45)], none⟩])
   (.region false [⟨(some 47), .mov (.t 11), none⟩,
     ⟨(some 48), .mov (.t 10), none⟩,
     ⟨(some 49), .bin .sub (.t 47) (.t 48), none⟩,
     ⟨(some 11), .mov (.t 49), none⟩])))))
def A_slices_rotateCmpFunc_int : AFun := ⟨58,
  .seq (.region false [⟨(some 12), .mov (.t 2), none⟩,
    ⟨(some 13), .mov (.t 1), none⟩,
    ⟨(some 14), .bin .sub (.t 12) (.t 13), none⟩,
    ⟨(some 10), .mov (.t 14), none⟩])
  (.seq (.region false [⟨(some 15), .mov (.t 3), none⟩,
    ⟨(some 16), .mov (.t 2), none⟩,
    ⟨(some 17), .bin .sub (.t 15) (.t 16), none⟩,
    ⟨(some 11), .mov (.t 17), none⟩])
  (.seq (.block 0 (.loop A_slices_rotateCmpFunc_intL0))
  (.region false [⟨(some 50), .mov (.t 0), none⟩,
    ⟨(some 51), .mov (.t 2), none⟩,
    ⟨(some 52), .mov (.t 10), none⟩,
    ⟨(some 53), .bin .sub (.t 51) (.t 52), none⟩,
    ⟨(some 54), .mov (.t 2), none⟩,
    ⟨(some 55), .mov (.t 10), none⟩,
    ⟨(some 56), .mov (.t 4), none⟩,
    ⟨(some 57), .call F_slices_swapRangeCmpFunc_int [(.t 50), (.t 53), (.t 54), (.t 55), (.t 56)], none⟩]))),
  []⟩

/- utf8_decodeRuneInStringSlow -/
/- strings_IndexRune -/
/- utf8_RuneStart -/
/- strconv_log10Pow2 -/
/- bits_Len64 -/
/- strconv_bool2_int -/
/- strconv_isPowerOfTwo -/
/- bits_TrailingZeros -/
/- slices_swapRangeCmpFunc_int -/
def A_slices_swapRangeCmpFunc_intL0 : ACode :=
  .seq (.seq (.region false [⟨(some 11), .mov (.t 10), none⟩,
    ⟨(some 12), .mov (.t 3), none⟩,
    ⟨(some 13), .bin .lss (.t 11) (.t 12), none⟩])
  (.cond (.t 13)
   (.skip)
   (.exit 0)))
  (.seq (.block 1 (.region true [⟨(some 16), .mov (.t 0), none⟩,
    ⟨(some 17), .mov (.t 1), none⟩,
    ⟨(some 18), .mov (.t 10), none⟩,
    ⟨(some 19), .bin .add (.t 17) (.t 18), none⟩,
    ⟨(some 20), .mov (.t 0), none⟩,
    ⟨(some 21), .mov (.t 2), none⟩,
    ⟨(some 22), .mov (.t 10), none⟩,
    ⟨(some 23), .bin .add (.t 21) (.t 22), none⟩,
    ⟨(some 24), .mov (.t 0), none⟩,
    ⟨(some 25), .mov (.t 2), none⟩,
    ⟨(some 26), .mov (.t 10), none⟩,
    ⟨(some 27), .bin .add (.t 25) (.t 26), none⟩,
    ⟨(some 28), .idxA 1 (.t 24) (.t 27), none⟩,
    ⟨(some 29), .ld none (.t 28), none⟩,
    ⟨(some 30), .mov (.t 0), none⟩,
    ⟨(some 31), .mov (.t 1), none⟩,
    ⟨(some 32), .mov (.t 10), none⟩,
    ⟨(some 33), .bin .add (.t 31) (.t 32), none⟩,
    ⟨(some 34), .idxA 1 (.t 30) (.t 33), none⟩,
    ⟨(some 35), .ld none (.t 34), none⟩,
    ⟨(some 36), .idxA 1 (.t 16) (.t 19), none⟩,
    ⟨none, .st 1 (.t 36) (.t 29), none⟩,
    ⟨(some 37), .idxA 1 (.t 20) (.t 23), none⟩,
    ⟨none, .st 1 (.t 37) (.t 35), none⟩]))
  (.region false [⟨(some 14), .mov (.t 10), none⟩,
    ⟨(some 15), .bin .add (.t 14) (.c (.int .i64 1)), none⟩,
    ⟨(some 10), .mov (.t 15), none⟩]))
def A_slices_swapRangeCmpFunc_int : AFun := ⟨38,
  .seq (.region false [⟨(some 10), .mov (.c (.int .i64 0)), none⟩])
  (.block 0 (.loop A_slices_swapRangeCmpFunc_intL0)),
  []⟩

/- strings_IndexByte -/
/- bytealg_Cutover -/
/- bits_TrailingZeros32 -/
/- bits_TrailingZeros64 -/
/- stringslite_IndexByte -/
/- tables_byCells_before -/
def A_tables_byCells_before : AFun := ⟨16,
  .seq (.region false [⟨(some 6), .mov (.c (.bool false)), none⟩])
  (.seq (.region true [⟨(some 7), .mov (.t 0), none⟩,
    ⟨(some 8), .mov (.t 1), none⟩,
    ⟨(some 9), .idxA 1 (.t 7) (.t 8), none⟩,
    ⟨(some 10), .ld none (.t 9), none⟩,
    ⟨(some 11), .mov (.t 0), none⟩,
    ⟨(some 12), .mov (.t 2), none⟩,
    ⟨(some 13), .idxA 1 (.t 11) (.t 12), none⟩,
    ⟨(some 14), .ld none (.t 13), none⟩,
    ⟨(some 15), .bin .lss (.t 10) (.t 14), none⟩,
    ⟨(some 6), .mov (.t 15), none⟩])
  (.ret)),
  [.tmp 6]⟩

section
variable {X : Cx} (hX : X.P = Go.Proofs.Tryz.prog)
include hX
theorem A_tables_ranked_1_ok : compileFun X.P F_tables_ranked_1 (fun _ => false) = some A_tables_ranked_1 := by rw [hX]; kernel_rfl
theorem A_shapes_Cells_ok : compileFun X.P F_shapes_Cells (fun _ => false) = some A_shapes_Cells := by rw [hX]; kernel_rfl
theorem A_slices_ContainsFunc_int64_int64_ok : compileFun X.P F_slices_ContainsFunc_int64_int64 (fun _ => false) = some A_slices_ContainsFunc_int64_int64 := by rw [hX]; kernel_rfl
theorem A_arrays_Check_1_ok : compileFun X.P F_arrays_Check_1 (fun _ => false) = some A_arrays_Check_1 := by rw [hX]; kernel_rfl
theorem A_arrays_right_ok : compileFun X.P F_arrays_right (fun _ => false) = some A_arrays_right := by rw [hX]; kernel_rfl
theorem A_strings_Trim_ok : compileFun X.P F_strings_Trim (fun _ => false) = some A_strings_Trim := by rw [hX]; kernel_rfl
theorem A_ref01_lower_ok : compileFun X.P F_ref01_lower (fun _ => false) = some A_ref01_lower := by rw [hX]; kernel_rfl
theorem A_ref01_digit_ok : compileFun X.P F_ref01_digit (fun _ => false) = some A_ref01_digit := by rw [hX]; kernel_rfl
theorem A_ref05_Cells_ok : compileFun X.P F_ref05_Cells (fun _ => false) = some A_ref05_Cells := by rw [hX]; kernel_rfl
theorem A_ref06_rune64_ok : compileFun X.P F_ref06_rune64 (fun _ => false) = some A_ref06_rune64 := by rw [hX]; kernel_rfl
theorem A_slices_Clone_int64_int64_ok : compileFun X.P F_slices_Clone_int64_int64 (fun _ => false) = some A_slices_Clone_int64_int64 := by rw [hX]; kernel_rfl
theorem A_slices_Clone_string_string_ok : compileFun X.P F_slices_Clone_string_string (fun _ => false) = some A_slices_Clone_string_string := by rw [hX]; kernel_rfl
theorem A_slices_stableCmpFunc_int_ok : compileFun X.P F_slices_stableCmpFunc_int (fun _ => false) = some A_slices_stableCmpFunc_int := by rw [hX]; kernel_rfl
theorem A_shapes_Check_ok : compileFun X.P F_shapes_Check (fun _ => false) = some A_shapes_Check := by rw [hX]; kernel_rfl
theorem A_shapes_product_ok : compileFun X.P F_shapes_product (fun _ => false) = some A_shapes_product := by rw [hX]; kernel_rfl
theorem A_slices_IndexFunc_int64_int64_ok : compileFun X.P F_slices_IndexFunc_int64_int64 (fun _ => false) = some A_slices_IndexFunc_int64_int64 := by rw [hX]; kernel_rfl
theorem A_utf8_ValidRune_ok : compileFun X.P F_utf8_ValidRune (fun _ => false) = some A_utf8_ValidRune := by rw [hX]; kernel_rfl
theorem A_strings_makeASCIISet_ok : compileFun X.P F_strings_makeASCIISet (fun _ => false) = some A_strings_makeASCIISet := by rw [hX]; kernel_rfl
theorem A_strings_trimLeftASCII_ok : compileFun X.P F_strings_trimLeftASCII (fun _ => false) = some A_strings_trimLeftASCII := by rw [hX]; kernel_rfl
theorem A_strings_trimRightASCII_ok : compileFun X.P F_strings_trimRightASCII (fun _ => false) = some A_strings_trimRightASCII := by rw [hX]; kernel_rfl
theorem A_ref05_Check_ok : compileFun X.P F_ref05_Check (fun _ => false) = some A_ref05_Check := by rw [hX]; kernel_rfl
theorem A_ref05_Many_ok : compileFun X.P F_ref05_Many (fun _ => false) = some A_ref05_Many := by rw [hX]; kernel_rfl
theorem A_slices_insertionSortCmpFunc_int_ok : compileFun X.P F_slices_insertionSortCmpFunc_int (fun _ => false) = some A_slices_insertionSortCmpFunc_int := by rw [hX]; kernel_rfl
theorem A_slices_symMergeCmpFunc_int_ok : compileFun X.P F_slices_symMergeCmpFunc_int (fun _ => false) = some A_slices_symMergeCmpFunc_int := by rw [hX]; kernel_rfl
theorem A_slices_ContainsFunc_int_int_ok : compileFun X.P F_slices_ContainsFunc_int_int (fun _ => false) = some A_slices_ContainsFunc_int_int := by rw [hX]; kernel_rfl
theorem A_shapes_Check_1_ok : compileFun X.P F_shapes_Check_1 (fun _ => false) = some A_shapes_Check_1 := by rw [hX]; kernel_rfl
theorem A_shapes_Check_2_ok : compileFun X.P F_shapes_Check_2 (fun _ => false) = some A_shapes_Check_2 := by rw [hX]; kernel_rfl
theorem A_shapes_Check_3_ok : compileFun X.P F_shapes_Check_3 (fun _ => false) = some A_shapes_Check_3 := by rw [hX]; kernel_rfl
theorem A_strings_asciiSet_contains_ok : compileFun X.P F_strings_asciiSet_contains (fun _ => false) = some A_strings_asciiSet_contains := by rw [hX]; kernel_rfl
theorem A_slices_rotateCmpFunc_int_ok : compileFun X.P F_slices_rotateCmpFunc_int (fun _ => false) = some A_slices_rotateCmpFunc_int := by rw [hX]; kernel_rfl
theorem A_slices_swapRangeCmpFunc_int_ok : compileFun X.P F_slices_swapRangeCmpFunc_int (fun _ => false) = some A_slices_swapRangeCmpFunc_int := by rw [hX]; kernel_rfl
theorem A_tables_byCells_before_ok : compileFun X.P F_tables_byCells_before (fun _ => false) = some A_tables_byCells_before := by rw [hX]; kernel_rfl
end
end Go.Avm
